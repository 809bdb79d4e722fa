import Derived.Test.YtnkepmfgmfeabaaGreatDoorR3
import Derived.BigQuiet
import Derived.Maps.Own
import Derived.Maps.OwnOps
import Derived.Maps.OwnSet
import Derived.Maps.Views
import Derived.StringKeys
import Derived.WalkLawsBesides
import Derived.Test.YtnkepmfgmfeabaaGreatDoorR2
import Derived.Lib.QuietBelow
set_option linter.unusedVariables false
namespace Go.Proofs.YtnkepmfgmfeabaaGreatDoor
open Go Go.RowKit

theorem all_at {α : Type} {l : List α} {p : α → Bool} {d : α} {i : Nat} (h : i < l.length) (hn : p (l.getD i d) = false) : l.all p = false := by
 cases hq : l.all p with
 | false => rfl
 | true =>
  have := List.all_eq_true.1 hq (l.getD i d) (by simp [List.getD, h])
  rw [hn] at this; cases this
theorem strc_lt2 {w : World} {v : Value} {l : List ByteArray} (h : IsStrC w v l) (i : Nat) (hi : i < l.length) : ∃ b o cap, v = .slice (some ⟨b, o, none⟩) l.length cap ∧ b < w.heap.size ∧ w.cell? ⟨b, o + i, none⟩ = some (.string (l.getD i ByteArray.empty)) := by
 obtain ⟨ao, cap, e, _, _, hc⟩ := h
 obtain ⟨b, o, rfl, hlt, hcl⟩ := hc i hi
 exact ⟨b, o, cap, e, hlt, hcl⟩
theorem all_of {α : Type} {l : List α} {p : α → Bool} {d : α} (h : ∀ j, j < l.length → p (l.getD j d) = true) : l.all p = true := by
 rw [List.all_eq_true]
 intro s hs
 obtain ⟨j, hj, rfl⟩ := List.mem_iff_getElem.1 hs
 have := h j hj
 rwa [show l.getD j d = l[j] by simp [List.getD, hj]] at this
set_option maxRecDepth 100000 in
set_option maxHeartbeats 4000000 in
theorem short29_calls (s : Stm) (vu vi vs vp : Value) (w : World) (hS : StmAt w s vu vi vs vp) (hZ : s.Sized 9223372036854775807) :
  Calls Tryz.prog 6 #[.agg (stmCells s vu vi vs vp)] w fun e w' => e = .returned (.bool (shortS s)) ∧ Below w.heap.size w w' := by
 have HS := Lib.hid hS
 have HZ := Lib.hid hZ
 have zid := hZ.id
 have zprod := hZ.prod
 have zhold := hZ.holder
 obtain ⟨aou, cu, rfl⟩ := strc_form hS.uses
 obtain ⟨aoi, ci, rfl⟩ := hS.inputs.form
 obtain ⟨aos, cs, rfl⟩ := strc_form hS.sig
 obtain ⟨aop, cp, rfl⟩ := strc_form hS.path
 have zlu := strc_len hS.uses
 have zli := hS.inputs.len
 clear hS hZ
 unfold stmCells
 obtain ⟨lu, hlu⟩ : ∃ lu, lu = s.uses.length := ⟨_, rfl⟩
 obtain ⟨li, hli⟩ : ∃ li, li = s.inputs.length := ⟨_, rfl⟩
 obtain ⟨ls, hls⟩ : ∃ ls, ls = s.sig.length := ⟨_, rfl⟩
 obtain ⟨lp, hlp⟩ : ∃ lp, lp = s.path.length := ⟨_, rfl⟩
 rw [← hlu, ← hli, ← hls, ← hlp] at HS
 rw [← hlu] at zlu
 rw [← hli] at zli
 rw [← hlu, ← hli, ← hls, ← hlp]
 have HLU := Lib.hid hlu
 have HLI := Lib.hid hli
 clear hlu hli hls hlp
 obtain ⟨hbx, hB1, hz⟩ := box_one w #[.string s.id, .string s.prod, .int .i64 s.q, .string s.holder, .slice aou lu cu, .slice aoi li ci, .int .i64 s.idx, .slice aos ls cs, .slice aop lp cp] 27
 have HR1 := Lib.hid hbx
 have HB1 := Lib.hid hB1
 have HS1 := Lib.hid (HS.out.on hB1)
 have hz1 : w.heap.size < (w.alloc (.cells #[.string s.id, .string s.prod, .int .i64 s.q, .string s.holder, .slice aou lu cu, .slice aoi li ci, .int .i64 s.idx, .slice aos ls cs, .slice aop lp cp] 27)).heap.size := by omega
 clear hbx hB1 hz HS
 by_cases h0 : s.id.size ≤ 60
 rotate_left
 ·have hd0 : decide ((60 : Int) < (s.id.size : Int)) = true := decide_eq_true (by omega)
  have HF : Hid (shortS s = false) := Lib.hid (by unfold shortS; rw [decide_eq_false h0]; simp)
  have c0 : (w.alloc (.cells #[.string s.id, .string s.prod, .int .i64 s.q, .string s.holder, .slice aou lu cu, .slice aoi li ci, .int .i64 s.idx, .slice aos ls cs, .slice aop lp cp] 27)).cell? ⟨w.heap.size, 0, none⟩ = some (.string s.id) := by rw [cell_of_row _ _ 0 _ _ _ HR1.out]; rfl
  have c1 : (w.alloc (.cells #[.string s.id, .string s.prod, .int .i64 s.q, .string s.holder, .slice aou lu cu, .slice aoi li ci, .int .i64 s.idx, .slice aos ls cs, .slice aop lp cp] 27)).cell? ⟨w.heap.size, 1, none⟩ = some (.string s.prod) := by rw [cell_of_row _ _ 1 _ _ _ HR1.out]; rfl
  have c2 : (w.alloc (.cells #[.string s.id, .string s.prod, .int .i64 s.q, .string s.holder, .slice aou lu cu, .slice aoi li ci, .int .i64 s.idx, .slice aos ls cs, .slice aop lp cp] 27)).cell? ⟨w.heap.size, 2, none⟩ = some (.int .i64 s.q) := by rw [cell_of_row _ _ 2 _ _ _ HR1.out]; rfl
  have c3 : (w.alloc (.cells #[.string s.id, .string s.prod, .int .i64 s.q, .string s.holder, .slice aou lu cu, .slice aoi li ci, .int .i64 s.idx, .slice aos ls cs, .slice aop lp cp] 27)).cell? ⟨w.heap.size, 3, none⟩ = some (.string s.holder) := by rw [cell_of_row _ _ 3 _ _ _ HR1.out]; rfl
  have c4 : (w.alloc (.cells #[.string s.id, .string s.prod, .int .i64 s.q, .string s.holder, .slice aou lu cu, .slice aoi li ci, .int .i64 s.idx, .slice aos ls cs, .slice aop lp cp] 27)).cell? ⟨w.heap.size, 4, none⟩ = some (.slice aou lu cu) := by rw [cell_of_row _ _ 4 _ _ _ HR1.out]; rfl
  have c5 : (w.alloc (.cells #[.string s.id, .string s.prod, .int .i64 s.q, .string s.holder, .slice aou lu cu, .slice aoi li ci, .int .i64 s.idx, .slice aos ls cs, .slice aop lp cp] 27)).cell? ⟨w.heap.size, 5, none⟩ = some (.slice aoi li ci) := by rw [cell_of_row _ _ 5 _ _ _ HR1.out]; rfl
  have c6 : (w.alloc (.cells #[.string s.id, .string s.prod, .int .i64 s.q, .string s.holder, .slice aou lu cu, .slice aoi li ci, .int .i64 s.idx, .slice aos ls cs, .slice aop lp cp] 27)).cell? ⟨w.heap.size, 6, none⟩ = some (.int .i64 s.idx) := by rw [cell_of_row _ _ 6 _ _ _ HR1.out]; rfl
  have c7 : (w.alloc (.cells #[.string s.id, .string s.prod, .int .i64 s.q, .string s.holder, .slice aou lu cu, .slice aoi li ci, .int .i64 s.idx, .slice aos ls cs, .slice aop lp cp] 27)).cell? ⟨w.heap.size, 7, none⟩ = some (.slice aos ls cs) := by rw [cell_of_row _ _ 7 _ _ _ HR1.out]; rfl
  have c8 : (w.alloc (.cells #[.string s.id, .string s.prod, .int .i64 s.q, .string s.holder, .slice aou lu cu, .slice aoi li ci, .int .i64 s.idx, .slice aos ls cs, .slice aop lp cp] 27)).cell? ⟨w.heap.size, 8, none⟩ = some (.slice aop lp cp) := by rw [cell_of_row _ _ 8 _ _ _ HR1.out]; rfl
  go_enter Tryz.func6, Tryz.ntmps6
  go_wp2
  go_ret
  exact ⟨congrArg (fun b => Ending.returned (Value.bool b)) HF.out.symm, HB1.out⟩
 have hd0 : decide ((60 : Int) < (s.id.size : Int)) = false := decide_eq_false (by omega)
 by_cases h1 : s.prod.size ≤ 60
 rotate_left
 ·have hd1 : decide ((60 : Int) < (s.prod.size : Int)) = true := decide_eq_true (by omega)
  have HF : Hid (shortS s = false) := Lib.hid (by unfold shortS; rw [decide_eq_false h1]; simp)
  have c0 : (w.alloc (.cells #[.string s.id, .string s.prod, .int .i64 s.q, .string s.holder, .slice aou lu cu, .slice aoi li ci, .int .i64 s.idx, .slice aos ls cs, .slice aop lp cp] 27)).cell? ⟨w.heap.size, 0, none⟩ = some (.string s.id) := by rw [cell_of_row _ _ 0 _ _ _ HR1.out]; rfl
  have c1 : (w.alloc (.cells #[.string s.id, .string s.prod, .int .i64 s.q, .string s.holder, .slice aou lu cu, .slice aoi li ci, .int .i64 s.idx, .slice aos ls cs, .slice aop lp cp] 27)).cell? ⟨w.heap.size, 1, none⟩ = some (.string s.prod) := by rw [cell_of_row _ _ 1 _ _ _ HR1.out]; rfl
  have c2 : (w.alloc (.cells #[.string s.id, .string s.prod, .int .i64 s.q, .string s.holder, .slice aou lu cu, .slice aoi li ci, .int .i64 s.idx, .slice aos ls cs, .slice aop lp cp] 27)).cell? ⟨w.heap.size, 2, none⟩ = some (.int .i64 s.q) := by rw [cell_of_row _ _ 2 _ _ _ HR1.out]; rfl
  have c3 : (w.alloc (.cells #[.string s.id, .string s.prod, .int .i64 s.q, .string s.holder, .slice aou lu cu, .slice aoi li ci, .int .i64 s.idx, .slice aos ls cs, .slice aop lp cp] 27)).cell? ⟨w.heap.size, 3, none⟩ = some (.string s.holder) := by rw [cell_of_row _ _ 3 _ _ _ HR1.out]; rfl
  have c4 : (w.alloc (.cells #[.string s.id, .string s.prod, .int .i64 s.q, .string s.holder, .slice aou lu cu, .slice aoi li ci, .int .i64 s.idx, .slice aos ls cs, .slice aop lp cp] 27)).cell? ⟨w.heap.size, 4, none⟩ = some (.slice aou lu cu) := by rw [cell_of_row _ _ 4 _ _ _ HR1.out]; rfl
  have c5 : (w.alloc (.cells #[.string s.id, .string s.prod, .int .i64 s.q, .string s.holder, .slice aou lu cu, .slice aoi li ci, .int .i64 s.idx, .slice aos ls cs, .slice aop lp cp] 27)).cell? ⟨w.heap.size, 5, none⟩ = some (.slice aoi li ci) := by rw [cell_of_row _ _ 5 _ _ _ HR1.out]; rfl
  have c6 : (w.alloc (.cells #[.string s.id, .string s.prod, .int .i64 s.q, .string s.holder, .slice aou lu cu, .slice aoi li ci, .int .i64 s.idx, .slice aos ls cs, .slice aop lp cp] 27)).cell? ⟨w.heap.size, 6, none⟩ = some (.int .i64 s.idx) := by rw [cell_of_row _ _ 6 _ _ _ HR1.out]; rfl
  have c7 : (w.alloc (.cells #[.string s.id, .string s.prod, .int .i64 s.q, .string s.holder, .slice aou lu cu, .slice aoi li ci, .int .i64 s.idx, .slice aos ls cs, .slice aop lp cp] 27)).cell? ⟨w.heap.size, 7, none⟩ = some (.slice aos ls cs) := by rw [cell_of_row _ _ 7 _ _ _ HR1.out]; rfl
  have c8 : (w.alloc (.cells #[.string s.id, .string s.prod, .int .i64 s.q, .string s.holder, .slice aou lu cu, .slice aoi li ci, .int .i64 s.idx, .slice aos ls cs, .slice aop lp cp] 27)).cell? ⟨w.heap.size, 8, none⟩ = some (.slice aop lp cp) := by rw [cell_of_row _ _ 8 _ _ _ HR1.out]; rfl
  go_enter Tryz.func6, Tryz.ntmps6
  go_wp2
  go_ret
  exact ⟨congrArg (fun b => Ending.returned (Value.bool b)) HF.out.symm, HB1.out⟩
 have hd1 : decide ((60 : Int) < (s.prod.size : Int)) = false := decide_eq_false (by omega)
 by_cases h2 : s.holder.size ≤ 60
 rotate_left
 ·have hd2 : decide ((60 : Int) < (s.holder.size : Int)) = true := decide_eq_true (by omega)
  have HF : Hid (shortS s = false) := Lib.hid (by unfold shortS; rw [decide_eq_false h2]; simp)
  have c0 : (w.alloc (.cells #[.string s.id, .string s.prod, .int .i64 s.q, .string s.holder, .slice aou lu cu, .slice aoi li ci, .int .i64 s.idx, .slice aos ls cs, .slice aop lp cp] 27)).cell? ⟨w.heap.size, 0, none⟩ = some (.string s.id) := by rw [cell_of_row _ _ 0 _ _ _ HR1.out]; rfl
  have c1 : (w.alloc (.cells #[.string s.id, .string s.prod, .int .i64 s.q, .string s.holder, .slice aou lu cu, .slice aoi li ci, .int .i64 s.idx, .slice aos ls cs, .slice aop lp cp] 27)).cell? ⟨w.heap.size, 1, none⟩ = some (.string s.prod) := by rw [cell_of_row _ _ 1 _ _ _ HR1.out]; rfl
  have c2 : (w.alloc (.cells #[.string s.id, .string s.prod, .int .i64 s.q, .string s.holder, .slice aou lu cu, .slice aoi li ci, .int .i64 s.idx, .slice aos ls cs, .slice aop lp cp] 27)).cell? ⟨w.heap.size, 2, none⟩ = some (.int .i64 s.q) := by rw [cell_of_row _ _ 2 _ _ _ HR1.out]; rfl
  have c3 : (w.alloc (.cells #[.string s.id, .string s.prod, .int .i64 s.q, .string s.holder, .slice aou lu cu, .slice aoi li ci, .int .i64 s.idx, .slice aos ls cs, .slice aop lp cp] 27)).cell? ⟨w.heap.size, 3, none⟩ = some (.string s.holder) := by rw [cell_of_row _ _ 3 _ _ _ HR1.out]; rfl
  have c4 : (w.alloc (.cells #[.string s.id, .string s.prod, .int .i64 s.q, .string s.holder, .slice aou lu cu, .slice aoi li ci, .int .i64 s.idx, .slice aos ls cs, .slice aop lp cp] 27)).cell? ⟨w.heap.size, 4, none⟩ = some (.slice aou lu cu) := by rw [cell_of_row _ _ 4 _ _ _ HR1.out]; rfl
  have c5 : (w.alloc (.cells #[.string s.id, .string s.prod, .int .i64 s.q, .string s.holder, .slice aou lu cu, .slice aoi li ci, .int .i64 s.idx, .slice aos ls cs, .slice aop lp cp] 27)).cell? ⟨w.heap.size, 5, none⟩ = some (.slice aoi li ci) := by rw [cell_of_row _ _ 5 _ _ _ HR1.out]; rfl
  have c6 : (w.alloc (.cells #[.string s.id, .string s.prod, .int .i64 s.q, .string s.holder, .slice aou lu cu, .slice aoi li ci, .int .i64 s.idx, .slice aos ls cs, .slice aop lp cp] 27)).cell? ⟨w.heap.size, 6, none⟩ = some (.int .i64 s.idx) := by rw [cell_of_row _ _ 6 _ _ _ HR1.out]; rfl
  have c7 : (w.alloc (.cells #[.string s.id, .string s.prod, .int .i64 s.q, .string s.holder, .slice aou lu cu, .slice aoi li ci, .int .i64 s.idx, .slice aos ls cs, .slice aop lp cp] 27)).cell? ⟨w.heap.size, 7, none⟩ = some (.slice aos ls cs) := by rw [cell_of_row _ _ 7 _ _ _ HR1.out]; rfl
  have c8 : (w.alloc (.cells #[.string s.id, .string s.prod, .int .i64 s.q, .string s.holder, .slice aou lu cu, .slice aoi li ci, .int .i64 s.idx, .slice aos ls cs, .slice aop lp cp] 27)).cell? ⟨w.heap.size, 8, none⟩ = some (.slice aop lp cp) := by rw [cell_of_row _ _ 8 _ _ _ HR1.out]; rfl
  go_enter Tryz.func6, Tryz.ntmps6
  go_wp2
  go_ret
  exact ⟨congrArg (fun b => Ending.returned (Value.bool b)) HF.out.symm, HB1.out⟩
 have hd2 : decide ((60 : Int) < (s.holder.size : Int)) = false := decide_eq_false (by omega)
 by_cases h3 : lu ≤ 14
 rotate_left
 ·have hd3 : decide ((14 : Int) < (lu : Int)) = true := decide_eq_true (by omega)
  have HF : Hid (shortS s = false) := Lib.hid (by unfold shortS; rw [← HLU.out]; rw [decide_eq_false h3]; simp)
  have c0 : (w.alloc (.cells #[.string s.id, .string s.prod, .int .i64 s.q, .string s.holder, .slice aou lu cu, .slice aoi li ci, .int .i64 s.idx, .slice aos ls cs, .slice aop lp cp] 27)).cell? ⟨w.heap.size, 0, none⟩ = some (.string s.id) := by rw [cell_of_row _ _ 0 _ _ _ HR1.out]; rfl
  have c1 : (w.alloc (.cells #[.string s.id, .string s.prod, .int .i64 s.q, .string s.holder, .slice aou lu cu, .slice aoi li ci, .int .i64 s.idx, .slice aos ls cs, .slice aop lp cp] 27)).cell? ⟨w.heap.size, 1, none⟩ = some (.string s.prod) := by rw [cell_of_row _ _ 1 _ _ _ HR1.out]; rfl
  have c2 : (w.alloc (.cells #[.string s.id, .string s.prod, .int .i64 s.q, .string s.holder, .slice aou lu cu, .slice aoi li ci, .int .i64 s.idx, .slice aos ls cs, .slice aop lp cp] 27)).cell? ⟨w.heap.size, 2, none⟩ = some (.int .i64 s.q) := by rw [cell_of_row _ _ 2 _ _ _ HR1.out]; rfl
  have c3 : (w.alloc (.cells #[.string s.id, .string s.prod, .int .i64 s.q, .string s.holder, .slice aou lu cu, .slice aoi li ci, .int .i64 s.idx, .slice aos ls cs, .slice aop lp cp] 27)).cell? ⟨w.heap.size, 3, none⟩ = some (.string s.holder) := by rw [cell_of_row _ _ 3 _ _ _ HR1.out]; rfl
  have c4 : (w.alloc (.cells #[.string s.id, .string s.prod, .int .i64 s.q, .string s.holder, .slice aou lu cu, .slice aoi li ci, .int .i64 s.idx, .slice aos ls cs, .slice aop lp cp] 27)).cell? ⟨w.heap.size, 4, none⟩ = some (.slice aou lu cu) := by rw [cell_of_row _ _ 4 _ _ _ HR1.out]; rfl
  have c5 : (w.alloc (.cells #[.string s.id, .string s.prod, .int .i64 s.q, .string s.holder, .slice aou lu cu, .slice aoi li ci, .int .i64 s.idx, .slice aos ls cs, .slice aop lp cp] 27)).cell? ⟨w.heap.size, 5, none⟩ = some (.slice aoi li ci) := by rw [cell_of_row _ _ 5 _ _ _ HR1.out]; rfl
  have c6 : (w.alloc (.cells #[.string s.id, .string s.prod, .int .i64 s.q, .string s.holder, .slice aou lu cu, .slice aoi li ci, .int .i64 s.idx, .slice aos ls cs, .slice aop lp cp] 27)).cell? ⟨w.heap.size, 6, none⟩ = some (.int .i64 s.idx) := by rw [cell_of_row _ _ 6 _ _ _ HR1.out]; rfl
  have c7 : (w.alloc (.cells #[.string s.id, .string s.prod, .int .i64 s.q, .string s.holder, .slice aou lu cu, .slice aoi li ci, .int .i64 s.idx, .slice aos ls cs, .slice aop lp cp] 27)).cell? ⟨w.heap.size, 7, none⟩ = some (.slice aos ls cs) := by rw [cell_of_row _ _ 7 _ _ _ HR1.out]; rfl
  have c8 : (w.alloc (.cells #[.string s.id, .string s.prod, .int .i64 s.q, .string s.holder, .slice aou lu cu, .slice aoi li ci, .int .i64 s.idx, .slice aos ls cs, .slice aop lp cp] 27)).cell? ⟨w.heap.size, 8, none⟩ = some (.slice aop lp cp) := by rw [cell_of_row _ _ 8 _ _ _ HR1.out]; rfl
  go_enter Tryz.func6, Tryz.ntmps6
  go_wp2
  go_ret
  exact ⟨congrArg (fun b => Ending.returned (Value.bool b)) HF.out.symm, HB1.out⟩
 have hd3 : decide ((14 : Int) < (lu : Int)) = false := decide_eq_false (by omega)
 by_cases h4 : li ≤ 14
 rotate_left
 ·have hd4 : decide ((14 : Int) < (li : Int)) = true := decide_eq_true (by omega)
  have HF : Hid (shortS s = false) := Lib.hid (by unfold shortS; rw [← HLI.out]; rw [decide_eq_false h4]; simp)
  have c0 : (w.alloc (.cells #[.string s.id, .string s.prod, .int .i64 s.q, .string s.holder, .slice aou lu cu, .slice aoi li ci, .int .i64 s.idx, .slice aos ls cs, .slice aop lp cp] 27)).cell? ⟨w.heap.size, 0, none⟩ = some (.string s.id) := by rw [cell_of_row _ _ 0 _ _ _ HR1.out]; rfl
  have c1 : (w.alloc (.cells #[.string s.id, .string s.prod, .int .i64 s.q, .string s.holder, .slice aou lu cu, .slice aoi li ci, .int .i64 s.idx, .slice aos ls cs, .slice aop lp cp] 27)).cell? ⟨w.heap.size, 1, none⟩ = some (.string s.prod) := by rw [cell_of_row _ _ 1 _ _ _ HR1.out]; rfl
  have c2 : (w.alloc (.cells #[.string s.id, .string s.prod, .int .i64 s.q, .string s.holder, .slice aou lu cu, .slice aoi li ci, .int .i64 s.idx, .slice aos ls cs, .slice aop lp cp] 27)).cell? ⟨w.heap.size, 2, none⟩ = some (.int .i64 s.q) := by rw [cell_of_row _ _ 2 _ _ _ HR1.out]; rfl
  have c3 : (w.alloc (.cells #[.string s.id, .string s.prod, .int .i64 s.q, .string s.holder, .slice aou lu cu, .slice aoi li ci, .int .i64 s.idx, .slice aos ls cs, .slice aop lp cp] 27)).cell? ⟨w.heap.size, 3, none⟩ = some (.string s.holder) := by rw [cell_of_row _ _ 3 _ _ _ HR1.out]; rfl
  have c4 : (w.alloc (.cells #[.string s.id, .string s.prod, .int .i64 s.q, .string s.holder, .slice aou lu cu, .slice aoi li ci, .int .i64 s.idx, .slice aos ls cs, .slice aop lp cp] 27)).cell? ⟨w.heap.size, 4, none⟩ = some (.slice aou lu cu) := by rw [cell_of_row _ _ 4 _ _ _ HR1.out]; rfl
  have c5 : (w.alloc (.cells #[.string s.id, .string s.prod, .int .i64 s.q, .string s.holder, .slice aou lu cu, .slice aoi li ci, .int .i64 s.idx, .slice aos ls cs, .slice aop lp cp] 27)).cell? ⟨w.heap.size, 5, none⟩ = some (.slice aoi li ci) := by rw [cell_of_row _ _ 5 _ _ _ HR1.out]; rfl
  have c6 : (w.alloc (.cells #[.string s.id, .string s.prod, .int .i64 s.q, .string s.holder, .slice aou lu cu, .slice aoi li ci, .int .i64 s.idx, .slice aos ls cs, .slice aop lp cp] 27)).cell? ⟨w.heap.size, 6, none⟩ = some (.int .i64 s.idx) := by rw [cell_of_row _ _ 6 _ _ _ HR1.out]; rfl
  have c7 : (w.alloc (.cells #[.string s.id, .string s.prod, .int .i64 s.q, .string s.holder, .slice aou lu cu, .slice aoi li ci, .int .i64 s.idx, .slice aos ls cs, .slice aop lp cp] 27)).cell? ⟨w.heap.size, 7, none⟩ = some (.slice aos ls cs) := by rw [cell_of_row _ _ 7 _ _ _ HR1.out]; rfl
  have c8 : (w.alloc (.cells #[.string s.id, .string s.prod, .int .i64 s.q, .string s.holder, .slice aou lu cu, .slice aoi li ci, .int .i64 s.idx, .slice aos ls cs, .slice aop lp cp] 27)).cell? ⟨w.heap.size, 8, none⟩ = some (.slice aop lp cp) := by rw [cell_of_row _ _ 8 _ _ _ HR1.out]; rfl
  go_enter Tryz.func6, Tryz.ntmps6
  go_wp2
  go_ret
  exact ⟨congrArg (fun b => Ending.returned (Value.bool b)) HF.out.symm, HB1.out⟩
 have hd4 : decide ((14 : Int) < (li : Int)) = false := decide_eq_false (by omega)
 have c0 : (w.alloc (.cells #[.string s.id, .string s.prod, .int .i64 s.q, .string s.holder, .slice aou lu cu, .slice aoi li ci, .int .i64 s.idx, .slice aos ls cs, .slice aop lp cp] 27)).cell? ⟨w.heap.size, 0, none⟩ = some (.string s.id) := by rw [cell_of_row _ _ 0 _ _ _ HR1.out]; rfl
 have c1 : (w.alloc (.cells #[.string s.id, .string s.prod, .int .i64 s.q, .string s.holder, .slice aou lu cu, .slice aoi li ci, .int .i64 s.idx, .slice aos ls cs, .slice aop lp cp] 27)).cell? ⟨w.heap.size, 1, none⟩ = some (.string s.prod) := by rw [cell_of_row _ _ 1 _ _ _ HR1.out]; rfl
 have c2 : (w.alloc (.cells #[.string s.id, .string s.prod, .int .i64 s.q, .string s.holder, .slice aou lu cu, .slice aoi li ci, .int .i64 s.idx, .slice aos ls cs, .slice aop lp cp] 27)).cell? ⟨w.heap.size, 2, none⟩ = some (.int .i64 s.q) := by rw [cell_of_row _ _ 2 _ _ _ HR1.out]; rfl
 have c3 : (w.alloc (.cells #[.string s.id, .string s.prod, .int .i64 s.q, .string s.holder, .slice aou lu cu, .slice aoi li ci, .int .i64 s.idx, .slice aos ls cs, .slice aop lp cp] 27)).cell? ⟨w.heap.size, 3, none⟩ = some (.string s.holder) := by rw [cell_of_row _ _ 3 _ _ _ HR1.out]; rfl
 have c4 : (w.alloc (.cells #[.string s.id, .string s.prod, .int .i64 s.q, .string s.holder, .slice aou lu cu, .slice aoi li ci, .int .i64 s.idx, .slice aos ls cs, .slice aop lp cp] 27)).cell? ⟨w.heap.size, 4, none⟩ = some (.slice aou lu cu) := by rw [cell_of_row _ _ 4 _ _ _ HR1.out]; rfl
 have c5 : (w.alloc (.cells #[.string s.id, .string s.prod, .int .i64 s.q, .string s.holder, .slice aou lu cu, .slice aoi li ci, .int .i64 s.idx, .slice aos ls cs, .slice aop lp cp] 27)).cell? ⟨w.heap.size, 5, none⟩ = some (.slice aoi li ci) := by rw [cell_of_row _ _ 5 _ _ _ HR1.out]; rfl
 have c6 : (w.alloc (.cells #[.string s.id, .string s.prod, .int .i64 s.q, .string s.holder, .slice aou lu cu, .slice aoi li ci, .int .i64 s.idx, .slice aos ls cs, .slice aop lp cp] 27)).cell? ⟨w.heap.size, 6, none⟩ = some (.int .i64 s.idx) := by rw [cell_of_row _ _ 6 _ _ _ HR1.out]; rfl
 have c7 : (w.alloc (.cells #[.string s.id, .string s.prod, .int .i64 s.q, .string s.holder, .slice aou lu cu, .slice aoi li ci, .int .i64 s.idx, .slice aos ls cs, .slice aop lp cp] 27)).cell? ⟨w.heap.size, 7, none⟩ = some (.slice aos ls cs) := by rw [cell_of_row _ _ 7 _ _ _ HR1.out]; rfl
 have c8 : (w.alloc (.cells #[.string s.id, .string s.prod, .int .i64 s.q, .string s.holder, .slice aou lu cu, .slice aoi li ci, .int .i64 s.idx, .slice aos ls cs, .slice aop lp cp] 27)).cell? ⟨w.heap.size, 8, none⟩ = some (.slice aop lp cp) := by rw [cell_of_row _ _ 8 _ _ _ HR1.out]; rfl
 go_enter Tryz.func6, Tryz.ntmps6
 go_wp2_with fail
 generalize hgw : w.alloc (.cells #[.string s.id, .string s.prod, .int .i64 s.q, .string s.holder, .slice aou lu cu, .slice aoi li ci, .int .i64 s.idx, .slice aos ls cs, .slice aop lp cp] 27) = w1 at *
 clear hgw c0 c1 c2 c3 c4 c5 c6 c7 c8
 refine (few03_calls s.idx _ _ s.sig s.path w1 HS1.out.sig HS1.out.path HZ.out.sig HZ.out.path).mono ?_
 rintro e w2 ⟨rfl, hB⟩
 have HR2 := Lib.hid ((hB.block w.heap.size hz1).trans HR1.out)
 have HB2 := Lib.hid (HB1.out.trans (hB.mono HB1.out.size))
 have HS2 := Lib.hid (HS1.out.on hB)
 clear hB HR1 HB1 HS1 hz1
 have c4 : w2.cell? ⟨w.heap.size, 4, none⟩ = some (.slice aou lu cu) := by rw [cell_of_row _ _ 4 _ _ _ HR2.out]; rfl
 have c5 : w2.cell? ⟨w.heap.size, 5, none⟩ = some (.slice aoi li ci) := by rw [cell_of_row _ _ 5 _ _ _ HR2.out]; rfl
 cases hf : fewS s.sig s.path with
 | false =>
  have HF : Hid (shortS s = false) := Lib.hid (by unfold shortS; rw [hf]; simp)
  clear hf
  go_wp2
  go_ret
  exact ⟨congrArg (fun b => Ending.returned (Value.bool b)) HF.out.symm, HB2.out⟩
 | true =>
  have HFW := Lib.hid hf
  clear hf
  go_wp2_with fail
  go_loop [3] (fun vi => ∃ i : Nat, vi = .int .i64 (i : Int) ∧ i ≤ lu ∧ Hid (∀ j, j < i → decide ((s.uses.getD j ByteArray.empty).size ≤ 60) = true)) (fun vi => lu - (RowKit.intOf vi).toNat)
  case atStart => exact ⟨0, rfl, by omega, Lib.hid fun j hj => by omega⟩
  case round =>
   obtain ⟨i, rfl, hi, HI⟩ := hrel
   by_cases hlt : i < lu
   ·obtain ⟨b, o, cx, he, hbl, hcl⟩ := strc_lt2 HS2.out.uses i (by rw [← HLU.out]; exact hlt)
    simp only [Value.slice.injEq] at he
    obtain ⟨rfl, _, _⟩ := he
    have hsz := getD_size HZ.out.uses i
    have hlt' : (i : Int) < (lu : Int) := by omega
    by_cases h60 : (s.uses.getD i ByteArray.empty).size ≤ 60
    ·have HN : Hid (∀ j, j < i + 1 → decide ((s.uses.getD j ByteArray.empty).size ≤ 60) = true) := Lib.hid (fun j hj => by
      rcases Nat.lt_succ_iff_lt_or_eq.1 hj with h | h
      ·exact HI.out j h
      ·subst h; exact decide_eq_true h60)
     clear HI
     generalize s.uses.getD i ByteArray.empty = t at *
     have hd : decide ((60 : Int) < (t.size : Int)) = false := decide_eq_false (by omega)
     go_wp2
     go_round
     case rel => exact ⟨i + 1, by go_num, by omega, HN⟩
     case measure => simp only [RowKit.intOf]; omega
    ·have HF : Hid (shortS s = false) := Lib.hid (by
      unfold shortS
      rw [all_at (d := ByteArray.empty) (p := fun t => decide (t.size ≤ 60)) (by rw [← HLU.out]; exact hlt) (decide_eq_false h60)]; simp)
     clear HI
     generalize s.uses.getD i ByteArray.empty = t at *
     have hd : decide ((60 : Int) < (t.size : Int)) = true := decide_eq_true (by omega)
     go_wp2
     go_ret
     exact ⟨congrArg (fun b => Ending.returned (Value.bool b)) HF.out.symm, HB2.out⟩
   ·have HAU : Hid (s.uses.all (fun t => decide (t.size ≤ 60)) = true) := Lib.hid (all_of (d := ByteArray.empty) (fun j hj => HI.out j (by have := HLU.out; omega)))
    clear HI
    go_wp2_with fail
    go_loop [4] (fun vi => ∃ i : Nat, vi = .int .i64 (i : Int) ∧ i ≤ li ∧ Hid (∀ j, j < i → decide ((s.inputs.getD j nilInp).1.size ≤ 60) = true)) (fun vi => li - (RowKit.intOf vi).toNat)
    case atStart => exact ⟨0, rfl, by omega, Lib.hid fun j hj => by omega⟩
    case round =>
     obtain ⟨k, rfl, hk, HI⟩ := hrel
     by_cases hlt2 : k < li
     ·obtain ⟨b, o, cx, he, hbl, hcl, hcl2⟩ := HS2.out.inputs.at k (by rw [← HLI.out]; exact hlt2)
      simp only [Value.slice.injEq] at he
      obtain ⟨rfl, _, _⟩ := he
      have hsz := inp_le HZ.out.inputs k
      have hlt' : (k : Int) < (li : Int) := by omega
      clear hcl2
      by_cases h60 : (s.inputs.getD k nilInp).1.size ≤ 60
      ·have HN : Hid (∀ j, j < k + 1 → decide ((s.inputs.getD j nilInp).1.size ≤ 60) = true) := Lib.hid (fun j hj => by
        rcases Nat.lt_succ_iff_lt_or_eq.1 hj with h | h
        ·exact HI.out j h
        ·subst h; exact decide_eq_true h60)
       clear HI
       generalize (s.inputs.getD k nilInp).1 = t at *
       have hd : decide ((60 : Int) < (t.size : Int)) = false := decide_eq_false (by omega)
       go_wp2
       go_round
       case rel => exact ⟨k + 1, by go_num, by omega, HN⟩
       case measure => simp only [RowKit.intOf]; omega
      ·have HF : Hid (shortS s = false) := Lib.hid (by
        unfold shortS
        rw [all_at (d := nilInp) (p := fun x => decide (x.1.size ≤ 60)) (by rw [← HLI.out]; exact hlt2) (decide_eq_false h60)]; simp)
       clear HI
       generalize (s.inputs.getD k nilInp).1 = t at *
       have hd : decide ((60 : Int) < (t.size : Int)) = true := decide_eq_true (by omega)
       go_wp2
       go_ret
       exact ⟨congrArg (fun b => Ending.returned (Value.bool b)) HF.out.symm, HB2.out⟩
     ·have HF : Hid (shortS s = true) := Lib.hid (by
       unfold shortS
       rw [decide_eq_true h0, decide_eq_true h1, decide_eq_true h2, ← HLU.out, decide_eq_true h3, ← HLI.out, decide_eq_true h4, HFW.out, HAU.out, all_of (d := nilInp) (p := fun x => decide (x.1.size ≤ 60)) (fun j hj => HI.out j (by have := HLI.out; omega))]; rfl)
      clear HI
      go_wp2
      go_ret
      exact ⟨congrArg (fun b => Ending.returned (Value.bool b)) HF.out.symm, HB2.out⟩
end Go.Proofs.YtnkepmfgmfeabaaGreatDoor
set_option linter.unusedVariables false
namespace Go.Proofs.YtnkepmfgmfeabaaGreatDoor
open Go Go.RowKit Go.Maps

theorem strKey : Keyed Tryz.prog 9 := string_keyed Tryz.underlying9
theorem zeroBool (w : World) : (zeroValue 4).run Tryz.prog w = .ok (.bool false) w := by kernel_rfl
theorem plainElem_bool_inv {P : Program} {e : TypeId} (he : P.underlying e = some .bool) {v : Value} {z : DataW Unit × List MemPlace} (h : plainElem P e v = some z) : ∃ x, v = .bool x ∧ z = (.lit (.bool x), []) := by
 unfold plainElem at h
 rw [he] at h
 cases v <;> simp at h
 rename_i x
 exact ⟨x, rfl, h.symm⟩
def keyS (t : ByteArray) : Lit := .string t.data.toList
theorem keyS_inj {a b : ByteArray} (h : keyS a = keyS b) : a = b := by
 unfold keyS at h
 simp only [Lit.string.injEq] at h
 exact ByteArray.ext (Array.toList_inj.1 h)
theorem keyS_of {t : ByteArray} (h : t.size ≤ maxLen) : keyOf Tryz.prog 9 (.string t) = some (keyS t) := Go.WideMaps.keyOf_string_mk Tryz.underlying9 h
theorem keyS_is (t : ByteArray) : WideAt.IsKeyLit (keyS t) := trivial
/-- the set of the first i inputs' names -/
structure SeenAt (mb i : Nat) (inputs : List (ByteArray × Int)) (w1 W : World) : Prop where
 map : ∃ D : DataW Unit, W.ownsMap Tryz.prog 9 (plainElem Tryz.prog 4) mb i D ∧ ∀ t, D.atKey (keyS t) (.lit (.bool false)) = .lit (.bool ((inputs.take i).any fun x => decide (x.1 = t)))
 below : Below w1.heap.size w1 W
theorem take_any {l : List (ByteArray × Int)} {i : Nat} (h : i < l.length) (t : ByteArray) : ((l.take (i + 1)).any fun x => decide (x.1 = t)) = ((l.take i).any (fun x => decide (x.1 = t)) || decide ((l.getD i nilInp).1 = t)) := by
 rw [List.take_succ_eq_append_getElem h, List.any_append]
 simp [List.getD, h]
theorem range_all {n : Nat} {p : Nat → Bool} (h : ∀ j, j < n → p j = true) : (List.range n).all p = true := by
 rw [List.all_eq_true]; exact fun j hj => h j (List.mem_range.1 hj)
theorem range_no {n j : Nat} {p : Nat → Bool} (h : j < n) (hp : p j = false) : (List.range n).all p = false := by
 cases hq : (List.range n).all p with
 | false => rfl
 | true => rw [List.all_eq_true.1 hq j (List.mem_range.2 h)] at hp; cases hp
theorem proper_no1 {s : Stm} (h : usesOk s.uses = false) : properB s = false := by unfold properB; rw [h]; rfl
theorem proper_no2 {s : Stm} (h : inpsOk s.inputs = false) : properB s = false := by unfold properB; rw [h, Bool.and_false]; rfl
set_option maxRecDepth 100000 in
set_option maxHeartbeats 8000000 in
theorem eproper_calls (s : Stm) (vu vi vs vp : Value) (w : World) (hS : StmAt w s vu vi vs vp) (hZ : s.Sized 4611686018427387904) :
  Calls Tryz.prog 42 #[.agg (stmCells s vu vi vs vp)] w fun e w' => e = .returned (.bool (properB s)) ∧ Below w.heap.size w w' := by
 have HS := Lib.hid hS
 have HZ := Lib.hid hZ
 have zid := hZ.id
 have zprod := hZ.prod
 have zhold := hZ.holder
 obtain ⟨aou, cu, rfl⟩ := strc_form hS.uses
 obtain ⟨aoi, ci, rfl⟩ := hS.inputs.form
 obtain ⟨aos, cs, rfl⟩ := strc_form hS.sig
 obtain ⟨aop, cp, rfl⟩ := strc_form hS.path
 have zlu := strc_len hS.uses
 have zli := hS.inputs.len
 clear hS hZ
 unfold stmCells
 obtain ⟨lu, hlu⟩ : ∃ lu, lu = s.uses.length := ⟨_, rfl⟩
 obtain ⟨li, hli⟩ : ∃ li, li = s.inputs.length := ⟨_, rfl⟩
 obtain ⟨ls, hls⟩ : ∃ ls, ls = s.sig.length := ⟨_, rfl⟩
 obtain ⟨lp, hlp⟩ : ∃ lp, lp = s.path.length := ⟨_, rfl⟩
 rw [← hlu, ← hli, ← hls, ← hlp] at HS
 rw [← hlu] at zlu
 rw [← hli] at zli
 rw [← hlu, ← hli, ← hls, ← hlp]
 have HLU := Lib.hid hlu
 have HLI := Lib.hid hli
 clear hlu hli hls hlp
 obtain ⟨hbx, hB1, hz⟩ := box_one w #[.string s.id, .string s.prod, .int .i64 s.q, .string s.holder, .slice aou lu cu, .slice aoi li ci, .int .i64 s.idx, .slice aos ls cs, .slice aop lp cp] 27
 have HR1 := Lib.hid hbx
 have HB1 := Lib.hid hB1
 have HS1 := Lib.hid (HS.out.on hB1)
 have hz1 : w.heap.size < (w.alloc (.cells #[.string s.id, .string s.prod, .int .i64 s.q, .string s.holder, .slice aou lu cu, .slice aoi li ci, .int .i64 s.idx, .slice aos ls cs, .slice aop lp cp] 27)).heap.size := by omega
 clear hbx hB1 hz HS
 have hmm := @run_makeMap Tryz.prog
 have c0 : (w.alloc (.cells #[.string s.id, .string s.prod, .int .i64 s.q, .string s.holder, .slice aou lu cu, .slice aoi li ci, .int .i64 s.idx, .slice aos ls cs, .slice aop lp cp] 27)).cell? ⟨w.heap.size, 0, none⟩ = some (.string s.id) := by rw [cell_of_row _ _ 0 _ _ _ HR1.out]; rfl
 have c1 : (w.alloc (.cells #[.string s.id, .string s.prod, .int .i64 s.q, .string s.holder, .slice aou lu cu, .slice aoi li ci, .int .i64 s.idx, .slice aos ls cs, .slice aop lp cp] 27)).cell? ⟨w.heap.size, 1, none⟩ = some (.string s.prod) := by rw [cell_of_row _ _ 1 _ _ _ HR1.out]; rfl
 have c2 : (w.alloc (.cells #[.string s.id, .string s.prod, .int .i64 s.q, .string s.holder, .slice aou lu cu, .slice aoi li ci, .int .i64 s.idx, .slice aos ls cs, .slice aop lp cp] 27)).cell? ⟨w.heap.size, 2, none⟩ = some (.int .i64 s.q) := by rw [cell_of_row _ _ 2 _ _ _ HR1.out]; rfl
 have c3 : (w.alloc (.cells #[.string s.id, .string s.prod, .int .i64 s.q, .string s.holder, .slice aou lu cu, .slice aoi li ci, .int .i64 s.idx, .slice aos ls cs, .slice aop lp cp] 27)).cell? ⟨w.heap.size, 3, none⟩ = some (.string s.holder) := by rw [cell_of_row _ _ 3 _ _ _ HR1.out]; rfl
 have c4 : (w.alloc (.cells #[.string s.id, .string s.prod, .int .i64 s.q, .string s.holder, .slice aou lu cu, .slice aoi li ci, .int .i64 s.idx, .slice aos ls cs, .slice aop lp cp] 27)).cell? ⟨w.heap.size, 4, none⟩ = some (.slice aou lu cu) := by rw [cell_of_row _ _ 4 _ _ _ HR1.out]; rfl
 have c5 : (w.alloc (.cells #[.string s.id, .string s.prod, .int .i64 s.q, .string s.holder, .slice aou lu cu, .slice aoi li ci, .int .i64 s.idx, .slice aos ls cs, .slice aop lp cp] 27)).cell? ⟨w.heap.size, 5, none⟩ = some (.slice aoi li ci) := by rw [cell_of_row _ _ 5 _ _ _ HR1.out]; rfl
 have c6 : (w.alloc (.cells #[.string s.id, .string s.prod, .int .i64 s.q, .string s.holder, .slice aou lu cu, .slice aoi li ci, .int .i64 s.idx, .slice aos ls cs, .slice aop lp cp] 27)).cell? ⟨w.heap.size, 6, none⟩ = some (.int .i64 s.idx) := by rw [cell_of_row _ _ 6 _ _ _ HR1.out]; rfl
 have c7 : (w.alloc (.cells #[.string s.id, .string s.prod, .int .i64 s.q, .string s.holder, .slice aou lu cu, .slice aoi li ci, .int .i64 s.idx, .slice aos ls cs, .slice aop lp cp] 27)).cell? ⟨w.heap.size, 7, none⟩ = some (.slice aos ls cs) := by rw [cell_of_row _ _ 7 _ _ _ HR1.out]; rfl
 have c8 : (w.alloc (.cells #[.string s.id, .string s.prod, .int .i64 s.q, .string s.holder, .slice aou lu cu, .slice aoi li ci, .int .i64 s.idx, .slice aos ls cs, .slice aop lp cp] 27)).cell? ⟨w.heap.size, 8, none⟩ = some (.slice aop lp cp) := by rw [cell_of_row _ _ 8 _ _ _ HR1.out]; rfl
 go_enter Tryz.func42, Tryz.ntmps42
 go_wp2_with fail
 generalize hgw : w.alloc (.cells #[.string s.id, .string s.prod, .int .i64 s.q, .string s.holder, .slice aou lu cu, .slice aoi li ci, .int .i64 s.idx, .slice aos ls cs, .slice aop lp cp] 27) = w1 at *
 clear hgw c0 c1 c2 c3 c6 c7 c8
 go_loop [11] (fun vi => ∃ i : Nat, vi = .int .i64 (i : Int) ∧ i ≤ lu ∧ Hid (∀ j, j < i → useOk s.uses j = true)) (fun vi => lu - (RowKit.intOf vi).toNat)
 case atStart => exact ⟨0, rfl, by omega, Lib.hid fun j hj => by omega⟩
 case round =>
  obtain ⟨i, rfl, hi, HI⟩ := hrel
  by_cases hlt : i < lu
  ·obtain ⟨b, o, cx, he, hbl, hcl⟩ := strc_lt2 HS1.out.uses i (by rw [← HLU.out]; exact hlt)
   simp only [Value.slice.injEq] at he
   obtain ⟨rfl, hx1, hx2⟩ := he
   clear hx1 hx2
   have hsz := getD_size HZ.out.uses i
   have hlt' : (i : Int) < (lu : Int) := by omega
   obtain ⟨t, htE⟩ : ∃ t, t = s.uses.getD i ByteArray.empty := ⟨_, rfl⟩
   rw [← htE] at hcl hsz
   have HT := Lib.hid htE
   clear htE
   cases hid : identB t with
   | false =>
    have HF : Hid (properB s = false) := Lib.hid (proper_no1 (range_no (by rw [← HLU.out]; exact hlt) (by unfold useOk; rw [← HT.out, hid]; rfl)))
    have HID := Lib.hid hid
    clear hid HI HT
    go_wp2_with fail
    refine (isname_calls t (by omega) w1).mono ?_
    rintro e w1 ⟨rfl, rfl⟩
    rw [HID.out]
    go_wp2
    go_ret
    exact ⟨congrArg (fun b => Ending.returned (Value.bool b)) HF.out.symm, HB1.out⟩
   | true =>
    have HID := Lib.hid hid
    clear hid
    by_cases hi0 : i = 0
    ·have hd0 : decide ((0 : Int) < (i : Int)) = false := decide_eq_false (by omega)
     have hdn : decide (0 < i) = false := decide_eq_false (by omega)
     have HN : Hid (∀ j, j < i + 1 → useOk s.uses j = true) := Lib.hid (fun j hj => by
      have : j = i := by omega
      rw [this]; unfold useOk; rw [← HT.out, HID.out, decide_eq_true hi0]; rfl)
     clear HI HT hi0
     go_wp2_with fail
     refine (isname_calls t (by omega) w1).mono ?_
     rintro e w1 ⟨rfl, rfl⟩
     rw [HID.out]
     go_wp2
     go_round
     case rel => exact ⟨i + 1, by go_num, by omega, HN⟩
     case measure => simp only [RowKit.intOf]; omega
    ·obtain ⟨j, rfl⟩ : ∃ j, i = j + 1 := ⟨i - 1, by omega⟩
     obtain ⟨b2, o2, cx2, he2, hbl2, hcl2⟩ := strc_lt2 HS1.out.uses j (by rw [← HLU.out]; omega)
     simp only [Value.slice.injEq, Option.some.injEq, Addr.mk.injEq] at he2
     obtain ⟨⟨rfl, rfl, _⟩, hx1, hx2⟩ := he2
     clear hx1 hx2
     obtain ⟨p, hpE⟩ : ∃ p, p = s.uses.getD j ByteArray.empty := ⟨_, rfl⟩
     rw [← hpE] at hcl2
     have HP := Lib.hid hpE
     clear hpE
     have hd0 : decide ((0 : Int) < ((j + 1 : Nat) : Int)) = true := decide_eq_true (by omega)
     have hjl : (j : Int) < (lu : Int) := by omega
     have hj0 : (0 : Int) ≤ (j : Int) := by omega
     have hjj : ((j + 1 : Nat) : Int) - 1 = (j : Int) := by omega
     cases hb1 : Op.bytesLess t.toList p.toList with
     | true =>
      have hle : leB t p = true := by unfold leB; rw [hb1]; rfl
      have HF : Hid (properB s = false) := Lib.hid (proper_no1 (range_no (by rw [← HLU.out]; exact hlt) (by unfold useOk; rw [← HT.out, Nat.add_sub_cancel, ← HP.out, hle]; simp)))
      clear HI HT HP hle
      go_wp2_with fail
      refine (isname_calls t (by omega) w1).mono ?_
      rintro e w1 ⟨rfl, rfl⟩
      rw [HID.out]
      go_wp2
      go_ret
      exact ⟨congrArg (fun b => Ending.returned (Value.bool b)) HF.out.symm, HB1.out⟩
     | false =>
      cases hb2 : (t.toList == p.toList) with
      | true =>
       have hle : leB t p = true := by unfold leB; rw [hb1, hb2]; rfl
       have HF : Hid (properB s = false) := Lib.hid (proper_no1 (range_no (by rw [← HLU.out]; exact hlt) (by unfold useOk; rw [← HT.out, Nat.add_sub_cancel, ← HP.out, hle]; simp)))
       clear HI HT HP hle
       go_wp2_with fail
       refine (isname_calls t (by omega) w1).mono ?_
       rintro e w1 ⟨rfl, rfl⟩
       rw [HID.out]
       go_wp2
       go_ret
       exact ⟨congrArg (fun b => Ending.returned (Value.bool b)) HF.out.symm, HB1.out⟩
      | false =>
       have hle : leB t p = false := by unfold leB; rw [hb1, hb2]; rfl
       have HN : Hid (∀ k, k < j + 1 + 1 → useOk s.uses k = true) := Lib.hid (fun k hk => by
        rcases Nat.lt_succ_iff_lt_or_eq.1 hk with h | h
        ·exact HI.out k h
        ·subst h; unfold useOk; rw [← HT.out, HID.out, Nat.add_sub_cancel, ← HP.out, hle]; simp)
       clear HI HT HP hle
       go_wp2_with fail
       refine (isname_calls t (by omega) w1).mono ?_
       rintro e w1 ⟨rfl, rfl⟩
       rw [HID.out]
       go_wp2
       go_round
       case rel => exact ⟨j + 1 + 1, by go_num, by omega, HN⟩
       case measure => simp only [RowKit.intOf]; omega
  ·have HAU : Hid (usesOk s.uses = true) := Lib.hid (range_all (fun j hj => HI.out j (by have := HLU.out; omega)))
   clear HI
   have c5a : ∀ ob : Obj, (w1.alloc ob).cell? ⟨w.heap.size, 5, none⟩ = some (.slice aoi li ci) := fun ob => by rw [((Below.refl w1.heap.size w1).alloc (Nat.le_refl _) ob).cell (p := ⟨w.heap.size, 5, none⟩) hz1]; exact c5
   go_wp2_with fail
   clear c5a c4 c5
   go_loopw [38] (fun vi W => ∃ i : Nat, vi = .int .i64 (i : Int) ∧ i ≤ li ∧ Hid (SeenAt w1.heap.size i s.inputs w1 W ∧ ∀ j, j < i → inpOk s.inputs j = true)) (fun vi _ => li - (RowKit.intOf vi).toNat)
   case atStart => exact ⟨0, rfl, by omega, Lib.hid ⟨⟨⟨_, World.ownsMap_made _ _ _ _, fun t => rfl⟩, (Below.refl _ _).alloc (Nat.le_refl _) _⟩, fun j hj => by omega⟩⟩
   case round =>
    obtain ⟨i, rfl, hi, HI⟩ := hrel
    have HBW : Hid (Below w.heap.size w wr) := Lib.hid (HB1.out.trans (HI.out.1.below.mono HB1.out.size))
    by_cases hlt : i < li
    ·obtain ⟨b, o, cx, he, hbl, hcl, hcl2⟩ := (HS1.out.inputs.on HI.out.1.below).at i (by rw [← HLI.out]; exact hlt)
     simp only [Value.slice.injEq] at he
     obtain ⟨rfl, hx1, hx2⟩ := he
     clear hx1 hx2
     have hsz := inp_le HZ.out.inputs i
     have hlt' : (i : Int) < (li : Int) := by omega
     obtain ⟨D, hown, hD⟩ := HI.out.1.map
     obtain ⟨t, htE⟩ : ∃ t, t = (s.inputs.getD i nilInp).1 := ⟨_, rfl⟩
     obtain ⟨q, hqE⟩ : ∃ q, q = (s.inputs.getD i nilInp).2 := ⟨_, rfl⟩
     rw [← htE] at hcl hsz
     rw [← hqE] at hcl2
     have HT := Lib.hid htE
     have HQ := Lib.hid hqE
     obtain ⟨v, ps, hrun, hv⟩ := (hown.alloc (.cells #[.string t, .int .i64 q] 52)).lookup strKey Tryz.underlying116 (zeroBool _) (zd := .lit (.bool false)) (zp := []) (plainElem_bool Tryz.underlying4 false) (keyS_of (t := t) (Nat.le_trans hsz (by decide)))
     rw [hD t] at hv
     obtain ⟨x, rfl, hx⟩ := plainElem_bool_inv Tryz.underlying4 hv
     simp only [Prod.mk.injEq, DataW.lit.injEq, Lit.bool.injEq] at hx
     have HX : Hid ((s.inputs.take i).any (fun y => decide (y.1 = t)) = x) := Lib.hid hx.1
     have HD := Lib.hid hD
     have HOWN := Lib.hid (hown.alloc (.cells #[.string t, .int .i64 q] 52))
     have HBX : Hid (Below w1.heap.size w1 (wr.alloc (.cells #[.string t, .int .i64 q] 52))) := Lib.hid (HI.out.1.below.alloc HI.out.1.below.size _)
     have HBY : Hid (Below w.heap.size w (wr.alloc (.cells #[.string t, .int .i64 q] 52))) := Lib.hid (HB1.out.trans (HBX.out.mono HB1.out.size))
     have HOK := Lib.hid HI.out.2
     clear htE hqE hv hx hD hown HI
     cases hid : identB t with
     | false =>
      have HF : Hid (properB s = false) := Lib.hid (proper_no2 (range_no (by rw [← HLI.out]; exact hlt) (by unfold inpOk; rw [← HT.out, hid]; rfl)))
      have HID := Lib.hid hid
      clear hid HT HQ HX HD HOWN HOK hrun
      go_wp2_with fail
      refine (isname_calls t (by omega) _).mono ?_
      rintro e w5 ⟨rfl, rfl⟩
      rw [HID.out]
      go_wp2
      go_ret
      exact ⟨congrArg (fun b => Ending.returned (Value.bool b)) HF.out.symm, HBY.out⟩
     | true =>
      have HID := Lib.hid hid
      clear hid
      cases hqu : quantB q with
      | false =>
       have HF : Hid (properB s = false) := Lib.hid (proper_no2 (range_no (by rw [← HLI.out]; exact hlt) (by unfold inpOk; rw [← HT.out, ← HQ.out, HID.out, hqu]; rfl)))
       have HQU := Lib.hid hqu
       clear hqu HT HQ HX HD HOWN HOK hrun
       go_wp2_with fail
       refine (isname_calls t (by omega) _).mono ?_
       rintro e w5 ⟨rfl, rfl⟩
       rw [HID.out]
       go_wp2_with fail
       refine (isq_calls q _).mono ?_
       rintro e w5 ⟨rfl, rfl⟩
       rw [HQU.out]
       go_wp2
       go_ret
       exact ⟨congrArg (fun b => Ending.returned (Value.bool b)) HF.out.symm, HBY.out⟩
      | true =>
       have HQU := Lib.hid hqu
       clear hqu
       cases x with
       | true =>
        have HF : Hid (properB s = false) := Lib.hid (proper_no2 (range_no (by rw [← HLI.out]; exact hlt) (by unfold inpOk; rw [← HT.out, HX.out]; simp)))
        clear HT HQ HX HD HOWN HOK
        go_wp2_with fail
        refine (isname_calls t (by omega) _).mono ?_
        rintro e w5 ⟨rfl, rfl⟩
        rw [HID.out]
        go_wp2_with fail
        refine (isq_calls q _).mono ?_
        rintro e w5 ⟨rfl, rfl⟩
        rw [HQU.out]
        go_wp2
        go_ret
        exact ⟨congrArg (fun b => Ending.returned (Value.bool b)) HF.out.symm, HBY.out⟩
       | false =>
        have HN : Hid (∀ j, j < i + 1 → inpOk s.inputs j = true) := Lib.hid (fun j hj => by
         rcases Nat.lt_succ_iff_lt_or_eq.1 hj with h | h
         ·exact HOK.out j h
         ·subst h; unfold inpOk; rw [← HT.out, ← HQ.out, HID.out, HQU.out, HX.out]; rfl)
        have HTA : Hid (∀ u, ((s.inputs.take (i + 1)).any fun y => decide (y.1 = u)) = ((s.inputs.take i).any (fun y => decide (y.1 = u)) || decide (t = u))) := Lib.hid (fun u => by rw [take_any (by rw [← HLI.out]; exact hlt) u, ← HT.out])
        clear HT HQ HX HOK
        go_wp2_with fail
        refine (isname_calls t (by omega) _).mono ?_
        rintro e w5 ⟨rfl, rfl⟩
        rw [HID.out]
        go_wp2_with fail
        refine (isq_calls q _).mono ?_
        rintro e w5 ⟨rfl, rfl⟩
        rw [HQU.out]
        go_wp2_with (at_mapUpdate; refine wpList_mapUpdate_own _ rfl _ _ _ 116 rfl 9 4 strKey Tryz.underlying116 _ w1.heap.size i D rfl HOWN.out (by show i < 9223372036854775807; omega) _ _ _ rfl rfl (keyS_of (t := t) (Nat.le_trans hsz (by decide))) _ [] (plainElem_bool Tryz.underlying4 true) ?_)
        intro w6 hown6 hg6
        have HS6 : Hid (SeenAt w1.heap.size (i + 1) s.inputs w1 w6) := Lib.hid ⟨⟨_, hown6, fun u => by
         rw [HTA.out u]
         by_cases hu : t = u
         ·subst hu
          rw [atKey_put_same (World.ownsMap.isMap HOWN.out) (keyS_is t), decide_eq_true rfl, Bool.or_true]
         ·rw [atKey_put_other (fun e => hu (keyS_inj e.symm)), HD.out u, decide_eq_false hu, Bool.or_false]⟩, HBX.out.grown hg6 HBX.out.size (fun k hk => by cases hk; exact Nat.le_refl _)⟩
        clear hown6 hg6 HOWN HD HTA hrun
        go_wp2
        go_round
        case rel => exact ⟨i + 1, by go_num, by omega, Lib.hid ⟨HS6.out, HN.out⟩⟩
        case measure => simp only [RowKit.intOf]; omega
    ·have HAI : Hid (inpsOk s.inputs = true) := Lib.hid (range_all (fun j hj => HI.out.2 j (by have := HLI.out; omega)))
     have HRW : Hid (wr.heap[w.heap.size]? = some (.cells #[.string s.id, .string s.prod, .int .i64 s.q, .string s.holder, .slice aou lu cu, .slice aoi li ci, .int .i64 s.idx, .slice aos ls cs, .slice aop lp cp] 27 (0, 0))) := Lib.hid ((HI.out.1.below.block _ hz1).trans HR1.out)
     have HPR : Hid (properB s = (identB s.id && identB s.prod && quantB s.q && isS s.holder && decide (1 ≤ lu) && decide (lu ≤ 12) && decide (li ≤ 12))) := Lib.hid (by unfold properB; rw [HAU.out, HAI.out, HLU.out, HLI.out]; rfl)
     clear HI
     have HZL : Hid (w.heap.size < wr.heap.size) := Lib.hid (Array.getElem?_eq_some_iff.1 HRW.out).1
     cases hv0 : identB s.id with
     | false =>
      have HF : Hid (properB s = false) := Lib.hid (by rw [HPR.out, hv0]; simp)
      have HV0 := Lib.hid hv0
      clear hv0
      have d0 : wr.cell? ⟨w.heap.size, 0, none⟩ = some (.string s.id) := by rw [cell_of_row _ _ 0 _ _ _ HRW.out]; rfl
      have d1 : wr.cell? ⟨w.heap.size, 1, none⟩ = some (.string s.prod) := by rw [cell_of_row _ _ 1 _ _ _ HRW.out]; rfl
      have d2 : wr.cell? ⟨w.heap.size, 2, none⟩ = some (.int .i64 s.q) := by rw [cell_of_row _ _ 2 _ _ _ HRW.out]; rfl
      have d3 : wr.cell? ⟨w.heap.size, 3, none⟩ = some (.string s.holder) := by rw [cell_of_row _ _ 3 _ _ _ HRW.out]; rfl
      have d4 : wr.cell? ⟨w.heap.size, 4, none⟩ = some (.slice aou lu cu) := by rw [cell_of_row _ _ 4 _ _ _ HRW.out]; rfl
      have d5 : wr.cell? ⟨w.heap.size, 5, none⟩ = some (.slice aoi li ci) := by rw [cell_of_row _ _ 5 _ _ _ HRW.out]; rfl
      go_wp2_with fail
      refine (isname_calls s.id (by omega) _).mono ?_
      rintro e wr ⟨rfl, rfl⟩
      rw [HV0.out]
      go_wp2
      go_ret
      exact ⟨congrArg (fun b => Ending.returned (Value.bool b)) HF.out.symm, HBW.out⟩
     | true =>
      have HV0 := Lib.hid hv0
      clear hv0
      cases hv1 : identB s.prod with
      | false =>
       have HF : Hid (properB s = false) := Lib.hid (by rw [HPR.out, HV0.out, hv1]; simp)
       have HV1 := Lib.hid hv1
       clear hv1
       have d0 : wr.cell? ⟨w.heap.size, 0, none⟩ = some (.string s.id) := by rw [cell_of_row _ _ 0 _ _ _ HRW.out]; rfl
       have d1 : wr.cell? ⟨w.heap.size, 1, none⟩ = some (.string s.prod) := by rw [cell_of_row _ _ 1 _ _ _ HRW.out]; rfl
       have d2 : wr.cell? ⟨w.heap.size, 2, none⟩ = some (.int .i64 s.q) := by rw [cell_of_row _ _ 2 _ _ _ HRW.out]; rfl
       have d3 : wr.cell? ⟨w.heap.size, 3, none⟩ = some (.string s.holder) := by rw [cell_of_row _ _ 3 _ _ _ HRW.out]; rfl
       have d4 : wr.cell? ⟨w.heap.size, 4, none⟩ = some (.slice aou lu cu) := by rw [cell_of_row _ _ 4 _ _ _ HRW.out]; rfl
       have d5 : wr.cell? ⟨w.heap.size, 5, none⟩ = some (.slice aoi li ci) := by rw [cell_of_row _ _ 5 _ _ _ HRW.out]; rfl
       go_wp2_with fail
       refine (isname_calls s.id (by omega) _).mono ?_
       rintro e wr ⟨rfl, rfl⟩
       rw [HV0.out]
       go_wp2_with fail
       refine (isname_calls s.prod (by omega) _).mono ?_
       rintro e wr ⟨rfl, rfl⟩
       rw [HV1.out]
       go_wp2
       go_ret
       exact ⟨congrArg (fun b => Ending.returned (Value.bool b)) HF.out.symm, HBW.out⟩
      | true =>
       have HV1 := Lib.hid hv1
       clear hv1
       cases hv2 : quantB s.q with
       | false =>
        have HF : Hid (properB s = false) := Lib.hid (by rw [HPR.out, HV0.out, HV1.out, hv2]; simp)
        have HV2 := Lib.hid hv2
        clear hv2
        have d0 : wr.cell? ⟨w.heap.size, 0, none⟩ = some (.string s.id) := by rw [cell_of_row _ _ 0 _ _ _ HRW.out]; rfl
        have d1 : wr.cell? ⟨w.heap.size, 1, none⟩ = some (.string s.prod) := by rw [cell_of_row _ _ 1 _ _ _ HRW.out]; rfl
        have d2 : wr.cell? ⟨w.heap.size, 2, none⟩ = some (.int .i64 s.q) := by rw [cell_of_row _ _ 2 _ _ _ HRW.out]; rfl
        have d3 : wr.cell? ⟨w.heap.size, 3, none⟩ = some (.string s.holder) := by rw [cell_of_row _ _ 3 _ _ _ HRW.out]; rfl
        have d4 : wr.cell? ⟨w.heap.size, 4, none⟩ = some (.slice aou lu cu) := by rw [cell_of_row _ _ 4 _ _ _ HRW.out]; rfl
        have d5 : wr.cell? ⟨w.heap.size, 5, none⟩ = some (.slice aoi li ci) := by rw [cell_of_row _ _ 5 _ _ _ HRW.out]; rfl
        go_wp2_with fail
        refine (isname_calls s.id (by omega) _).mono ?_
        rintro e wr ⟨rfl, rfl⟩
        rw [HV0.out]
        go_wp2_with fail
        refine (isname_calls s.prod (by omega) _).mono ?_
        rintro e wr ⟨rfl, rfl⟩
        rw [HV1.out]
        go_wp2_with fail
        refine (isq_calls s.q _).mono ?_
        rintro e wr ⟨rfl, rfl⟩
        rw [HV2.out]
        go_wp2
        go_ret
        exact ⟨congrArg (fun b => Ending.returned (Value.bool b)) HF.out.symm, HBW.out⟩
       | true =>
        have HV2 := Lib.hid hv2
        clear hv2
        cases hv3 : isS s.holder with
        | false =>
         have HF : Hid (properB s = false) := Lib.hid (by rw [HPR.out, HV0.out, HV1.out, HV2.out, hv3]; simp)
         have HV3 := Lib.hid hv3
         clear hv3
         have d0 : wr.cell? ⟨w.heap.size, 0, none⟩ = some (.string s.id) := by rw [cell_of_row _ _ 0 _ _ _ HRW.out]; rfl
         have d1 : wr.cell? ⟨w.heap.size, 1, none⟩ = some (.string s.prod) := by rw [cell_of_row _ _ 1 _ _ _ HRW.out]; rfl
         have d2 : wr.cell? ⟨w.heap.size, 2, none⟩ = some (.int .i64 s.q) := by rw [cell_of_row _ _ 2 _ _ _ HRW.out]; rfl
         have d3 : wr.cell? ⟨w.heap.size, 3, none⟩ = some (.string s.holder) := by rw [cell_of_row _ _ 3 _ _ _ HRW.out]; rfl
         have d4 : wr.cell? ⟨w.heap.size, 4, none⟩ = some (.slice aou lu cu) := by rw [cell_of_row _ _ 4 _ _ _ HRW.out]; rfl
         have d5 : wr.cell? ⟨w.heap.size, 5, none⟩ = some (.slice aoi li ci) := by rw [cell_of_row _ _ 5 _ _ _ HRW.out]; rfl
         go_wp2_with fail
         refine (isname_calls s.id (by omega) _).mono ?_
         rintro e wr ⟨rfl, rfl⟩
         rw [HV0.out]
         go_wp2_with fail
         refine (isname_calls s.prod (by omega) _).mono ?_
         rintro e wr ⟨rfl, rfl⟩
         rw [HV1.out]
         go_wp2_with fail
         refine (isq_calls s.q _).mono ?_
         rintro e wr ⟨rfl, rfl⟩
         rw [HV2.out]
         go_wp2_with fail
         refine (is_calls s.holder (by omega) _).mono ?_
         rintro e w7 ⟨rfl, hB7⟩
         rw [HV3.out]
         have HB7 : Hid (Below w.heap.size w w7) := Lib.hid (HBW.out.trans (hB7.mono HBW.out.size))
         have HRX := Lib.hid ((hB7.block _ HZL.out).trans HRW.out)
         clear d0 d1 d2 d3 d4 d5 hB7
         have d4 : w7.cell? ⟨w.heap.size, 4, none⟩ = some (.slice aou lu cu) := by rw [cell_of_row _ _ 4 _ _ _ HRX.out]; rfl
         have d5 : w7.cell? ⟨w.heap.size, 5, none⟩ = some (.slice aoi li ci) := by rw [cell_of_row _ _ 5 _ _ _ HRX.out]; rfl
         go_wp2
         go_ret
         exact ⟨congrArg (fun b => Ending.returned (Value.bool b)) HF.out.symm, HB7.out⟩
        | true =>
         have HV3 := Lib.hid hv3
         clear hv3
         by_cases ht0 : 1 ≤ lu
         rotate_left
         ·have hd0 : decide ((0 : Int) < (lu : Int)) = false := decide_eq_false (by omega)
          have hn0 : decide (0 < lu) = false := decide_eq_false (by omega)
          have HF : Hid (properB s = false) := Lib.hid (by rw [HPR.out, HV0.out, HV1.out, HV2.out, HV3.out, decide_eq_false ht0]; simp)
          have d0 : wr.cell? ⟨w.heap.size, 0, none⟩ = some (.string s.id) := by rw [cell_of_row _ _ 0 _ _ _ HRW.out]; rfl
          have d1 : wr.cell? ⟨w.heap.size, 1, none⟩ = some (.string s.prod) := by rw [cell_of_row _ _ 1 _ _ _ HRW.out]; rfl
          have d2 : wr.cell? ⟨w.heap.size, 2, none⟩ = some (.int .i64 s.q) := by rw [cell_of_row _ _ 2 _ _ _ HRW.out]; rfl
          have d3 : wr.cell? ⟨w.heap.size, 3, none⟩ = some (.string s.holder) := by rw [cell_of_row _ _ 3 _ _ _ HRW.out]; rfl
          have d4 : wr.cell? ⟨w.heap.size, 4, none⟩ = some (.slice aou lu cu) := by rw [cell_of_row _ _ 4 _ _ _ HRW.out]; rfl
          have d5 : wr.cell? ⟨w.heap.size, 5, none⟩ = some (.slice aoi li ci) := by rw [cell_of_row _ _ 5 _ _ _ HRW.out]; rfl
          go_wp2_with fail
          refine (isname_calls s.id (by omega) _).mono ?_
          rintro e wr ⟨rfl, rfl⟩
          rw [HV0.out]
          go_wp2_with fail
          refine (isname_calls s.prod (by omega) _).mono ?_
          rintro e wr ⟨rfl, rfl⟩
          rw [HV1.out]
          go_wp2_with fail
          refine (isq_calls s.q _).mono ?_
          rintro e wr ⟨rfl, rfl⟩
          rw [HV2.out]
          go_wp2_with fail
          refine (is_calls s.holder (by omega) _).mono ?_
          rintro e w7 ⟨rfl, hB7⟩
          rw [HV3.out]
          have HB7 : Hid (Below w.heap.size w w7) := Lib.hid (HBW.out.trans (hB7.mono HBW.out.size))
          have HRX := Lib.hid ((hB7.block _ HZL.out).trans HRW.out)
          clear d0 d1 d2 d3 d4 d5 hB7
          have d4 : w7.cell? ⟨w.heap.size, 4, none⟩ = some (.slice aou lu cu) := by rw [cell_of_row _ _ 4 _ _ _ HRX.out]; rfl
          have d5 : w7.cell? ⟨w.heap.size, 5, none⟩ = some (.slice aoi li ci) := by rw [cell_of_row _ _ 5 _ _ _ HRX.out]; rfl
          go_wp2
          go_ret
          exact ⟨congrArg (fun b => Ending.returned (Value.bool b)) HF.out.symm, HB7.out⟩
         have hd0 : decide ((0 : Int) < (lu : Int)) = true := decide_eq_true (by omega)
         have hn0 : decide (0 < lu) = true := decide_eq_true (by omega)
         by_cases ht1 : lu ≤ 12
         rotate_left
         ·have hd1 : decide ((lu : Int) ≤ 12) = false := decide_eq_false (by omega)
          have HF : Hid (properB s = false) := Lib.hid (by rw [HPR.out, HV0.out, HV1.out, HV2.out, HV3.out, decide_eq_true ht0, decide_eq_false ht1]; simp)
          have d0 : wr.cell? ⟨w.heap.size, 0, none⟩ = some (.string s.id) := by rw [cell_of_row _ _ 0 _ _ _ HRW.out]; rfl
          have d1 : wr.cell? ⟨w.heap.size, 1, none⟩ = some (.string s.prod) := by rw [cell_of_row _ _ 1 _ _ _ HRW.out]; rfl
          have d2 : wr.cell? ⟨w.heap.size, 2, none⟩ = some (.int .i64 s.q) := by rw [cell_of_row _ _ 2 _ _ _ HRW.out]; rfl
          have d3 : wr.cell? ⟨w.heap.size, 3, none⟩ = some (.string s.holder) := by rw [cell_of_row _ _ 3 _ _ _ HRW.out]; rfl
          have d4 : wr.cell? ⟨w.heap.size, 4, none⟩ = some (.slice aou lu cu) := by rw [cell_of_row _ _ 4 _ _ _ HRW.out]; rfl
          have d5 : wr.cell? ⟨w.heap.size, 5, none⟩ = some (.slice aoi li ci) := by rw [cell_of_row _ _ 5 _ _ _ HRW.out]; rfl
          go_wp2_with fail
          refine (isname_calls s.id (by omega) _).mono ?_
          rintro e wr ⟨rfl, rfl⟩
          rw [HV0.out]
          go_wp2_with fail
          refine (isname_calls s.prod (by omega) _).mono ?_
          rintro e wr ⟨rfl, rfl⟩
          rw [HV1.out]
          go_wp2_with fail
          refine (isq_calls s.q _).mono ?_
          rintro e wr ⟨rfl, rfl⟩
          rw [HV2.out]
          go_wp2_with fail
          refine (is_calls s.holder (by omega) _).mono ?_
          rintro e w7 ⟨rfl, hB7⟩
          rw [HV3.out]
          have HB7 : Hid (Below w.heap.size w w7) := Lib.hid (HBW.out.trans (hB7.mono HBW.out.size))
          have HRX := Lib.hid ((hB7.block _ HZL.out).trans HRW.out)
          clear d0 d1 d2 d3 d4 d5 hB7
          have d4 : w7.cell? ⟨w.heap.size, 4, none⟩ = some (.slice aou lu cu) := by rw [cell_of_row _ _ 4 _ _ _ HRX.out]; rfl
          have d5 : w7.cell? ⟨w.heap.size, 5, none⟩ = some (.slice aoi li ci) := by rw [cell_of_row _ _ 5 _ _ _ HRX.out]; rfl
          go_wp2
          go_ret
          exact ⟨congrArg (fun b => Ending.returned (Value.bool b)) HF.out.symm, HB7.out⟩
         have hd1 : decide ((lu : Int) ≤ 12) = true := decide_eq_true (by omega)
         by_cases ht2 : li ≤ 12
         rotate_left
         ·have hd2 : decide ((li : Int) ≤ 12) = false := decide_eq_false (by omega)
          have HF : Hid (properB s = false) := Lib.hid (by rw [HPR.out, HV0.out, HV1.out, HV2.out, HV3.out, decide_eq_true ht0, decide_eq_true ht1, decide_eq_false ht2]; simp)
          have d0 : wr.cell? ⟨w.heap.size, 0, none⟩ = some (.string s.id) := by rw [cell_of_row _ _ 0 _ _ _ HRW.out]; rfl
          have d1 : wr.cell? ⟨w.heap.size, 1, none⟩ = some (.string s.prod) := by rw [cell_of_row _ _ 1 _ _ _ HRW.out]; rfl
          have d2 : wr.cell? ⟨w.heap.size, 2, none⟩ = some (.int .i64 s.q) := by rw [cell_of_row _ _ 2 _ _ _ HRW.out]; rfl
          have d3 : wr.cell? ⟨w.heap.size, 3, none⟩ = some (.string s.holder) := by rw [cell_of_row _ _ 3 _ _ _ HRW.out]; rfl
          have d4 : wr.cell? ⟨w.heap.size, 4, none⟩ = some (.slice aou lu cu) := by rw [cell_of_row _ _ 4 _ _ _ HRW.out]; rfl
          have d5 : wr.cell? ⟨w.heap.size, 5, none⟩ = some (.slice aoi li ci) := by rw [cell_of_row _ _ 5 _ _ _ HRW.out]; rfl
          go_wp2_with fail
          refine (isname_calls s.id (by omega) _).mono ?_
          rintro e wr ⟨rfl, rfl⟩
          rw [HV0.out]
          go_wp2_with fail
          refine (isname_calls s.prod (by omega) _).mono ?_
          rintro e wr ⟨rfl, rfl⟩
          rw [HV1.out]
          go_wp2_with fail
          refine (isq_calls s.q _).mono ?_
          rintro e wr ⟨rfl, rfl⟩
          rw [HV2.out]
          go_wp2_with fail
          refine (is_calls s.holder (by omega) _).mono ?_
          rintro e w7 ⟨rfl, hB7⟩
          rw [HV3.out]
          have HB7 : Hid (Below w.heap.size w w7) := Lib.hid (HBW.out.trans (hB7.mono HBW.out.size))
          have HRX := Lib.hid ((hB7.block _ HZL.out).trans HRW.out)
          clear d0 d1 d2 d3 d4 d5 hB7
          have d4 : w7.cell? ⟨w.heap.size, 4, none⟩ = some (.slice aou lu cu) := by rw [cell_of_row _ _ 4 _ _ _ HRX.out]; rfl
          have d5 : w7.cell? ⟨w.heap.size, 5, none⟩ = some (.slice aoi li ci) := by rw [cell_of_row _ _ 5 _ _ _ HRX.out]; rfl
          go_wp2
          go_ret
          exact ⟨congrArg (fun b => Ending.returned (Value.bool b)) HF.out.symm, HB7.out⟩
         have hd2 : decide ((li : Int) ≤ 12) = true := decide_eq_true (by omega)
         have HF : Hid (properB s = true) := Lib.hid (by rw [HPR.out, HV0.out, HV1.out, HV2.out, HV3.out, decide_eq_true ht0, decide_eq_true ht1, decide_eq_true ht2]; rfl)
         have d0 : wr.cell? ⟨w.heap.size, 0, none⟩ = some (.string s.id) := by rw [cell_of_row _ _ 0 _ _ _ HRW.out]; rfl
         have d1 : wr.cell? ⟨w.heap.size, 1, none⟩ = some (.string s.prod) := by rw [cell_of_row _ _ 1 _ _ _ HRW.out]; rfl
         have d2 : wr.cell? ⟨w.heap.size, 2, none⟩ = some (.int .i64 s.q) := by rw [cell_of_row _ _ 2 _ _ _ HRW.out]; rfl
         have d3 : wr.cell? ⟨w.heap.size, 3, none⟩ = some (.string s.holder) := by rw [cell_of_row _ _ 3 _ _ _ HRW.out]; rfl
         have d4 : wr.cell? ⟨w.heap.size, 4, none⟩ = some (.slice aou lu cu) := by rw [cell_of_row _ _ 4 _ _ _ HRW.out]; rfl
         have d5 : wr.cell? ⟨w.heap.size, 5, none⟩ = some (.slice aoi li ci) := by rw [cell_of_row _ _ 5 _ _ _ HRW.out]; rfl
         go_wp2_with fail
         refine (isname_calls s.id (by omega) _).mono ?_
         rintro e wr ⟨rfl, rfl⟩
         rw [HV0.out]
         go_wp2_with fail
         refine (isname_calls s.prod (by omega) _).mono ?_
         rintro e wr ⟨rfl, rfl⟩
         rw [HV1.out]
         go_wp2_with fail
         refine (isq_calls s.q _).mono ?_
         rintro e wr ⟨rfl, rfl⟩
         rw [HV2.out]
         go_wp2_with fail
         refine (is_calls s.holder (by omega) _).mono ?_
         rintro e w7 ⟨rfl, hB7⟩
         rw [HV3.out]
         have HB7 : Hid (Below w.heap.size w w7) := Lib.hid (HBW.out.trans (hB7.mono HBW.out.size))
         have HRX := Lib.hid ((hB7.block _ HZL.out).trans HRW.out)
         clear d0 d1 d2 d3 d4 d5 hB7
         have d4 : w7.cell? ⟨w.heap.size, 4, none⟩ = some (.slice aou lu cu) := by rw [cell_of_row _ _ 4 _ _ _ HRX.out]; rfl
         have d5 : w7.cell? ⟨w.heap.size, 5, none⟩ = some (.slice aoi li ci) := by rw [cell_of_row _ _ 5 _ _ _ HRX.out]; rfl
         go_wp2
         go_ret
         exact ⟨congrArg (fun b => Ending.returned (Value.bool b)) HF.out.symm, HB7.out⟩
end Go.Proofs.YtnkepmfgmfeabaaGreatDoor
set_option linter.unusedVariables false
namespace Go.Proofs.YtnkepmfgmfeabaaGreatDoor
open Go Go.RowKit

end Go.Proofs.YtnkepmfgmfeabaaGreatDoor
set_option linter.unusedVariables false
namespace Go.Proofs.YtnkepmfgmfeabaaGreatDoor
open Go Go.RowKit Go.Maps Go.Sort

end Go.Proofs.YtnkepmfgmfeabaaGreatDoor
set_option linter.unusedVariables false
namespace Go.Proofs.YtnkepmfgmfeabaaGreatDoor
open Go Go.RowKit

end Go.Proofs.YtnkepmfgmfeabaaGreatDoor
set_option linter.unusedVariables false
set_option linter.unusedSimpArgs false
namespace Go.Proofs.YtnkepmfgmfeabaaGreatDoor
open Go Go.RowKit
namespace Av

/-! The elder contracts, in the engine's words. -/
theorem strs_c {w : World} {imm : Nat → Prop} (hi : ∀ b, imm b → b < w.heap.size) {l : List ByteArray} {v : Value} (h : PRep w imm (strsP l) v) : IsStrC w v l := by
 simp only [strsP, PRep, List.length_map] at h
 obtain ⟨ao, cap, h1, h2, h3, h4⟩ := h
 refine ⟨ao, cap, h1, h2, h3, fun i hlt => ?_⟩
 rcases h4 with h4 | ⟨b, o, rfl, h5, h6⟩
 ·simp at h4; subst h4; simp at hlt
 ·refine ⟨b, o, rfl, hi b h5, ?_⟩
  have := (h6.get (i := i) (by simpa using hlt)).2
  rw [show (l.map fun s => [PD.v (.string s)]).getD i [] = [.v (.string (l.getD i ByteArray.empty))] by simp [List.getD, hlt]] at this
  simp only [PCells, PRep, Nat.mul_one] at this
  obtain ⟨⟨_, c, h7, rfl, _⟩, _⟩ := this
  exact h7
theorem inps_c {w : World} {imm : Nat → Prop} (hi : ∀ b, imm b → b < w.heap.size) {l : List (ByteArray × Int)} {v : Value} (h : PRep w imm (inpsP l) v) : IsInp w v l := by
 simp only [inpsP, PRep, List.length_map] at h
 obtain ⟨ao, cap, h1, h2, h3, h4⟩ := h
 refine ⟨ao, cap, h1, h2, h3, fun i hlt => ?_⟩
 rcases h4 with h4 | ⟨b, o, rfl, h5, h6⟩
 ·simp at h4; subst h4; simp at hlt
 ·have := (h6.get (i := i) (by simpa using hlt)).2
  rw [show (l.map fun x => [PD.v (.string x.1), PD.v (.int .i64 x.2)]).getD i [] = [.v (.string (l.getD i nilInp).1), .v (.int .i64 (l.getD i nilInp).2)] by simp [List.getD, hlt]] at this
  simp only [PCells, PRep] at this
  obtain ⟨⟨_, c, h7, rfl, _⟩, ⟨_, c2, h8, rfl, _⟩, _⟩ := this
  exact ⟨b, o, rfl, hi b h5, h7, h8⟩
theorem imm_lt {s : St} {b : Nat} (h : s.imm b) : b < s.w.heap.size := h.1
theorem arr1 {vs : Array Value} {a : Value} (h : vs.toList = [a]) : vs = #[a] := Array.toList_inj.1 h
/-- the arguments, written out -/
theorem args_str {s : St} {r : List AV} {x : ByteArray} {vs : List Value} (h : RepL s (.d (.v (.string x)) :: r) vs) : ∃ t, vs = .string x :: t ∧ RepL s r t ∧ x.size ≤ 9223372036854775807 := by
 simp only [RepL, Rep, PRep] at h
 obtain ⟨_, t, rfl, ⟨rfl, h1⟩, h2⟩ := h
 exact ⟨t, rfl, h2, h1⟩
theorem args_int {s : St} {r : List AV} {k : IntKind} {n : Int} {vs : List Value} (h : RepL s (.d (.v (.int k n)) :: r) vs) : ∃ t, vs = .int k n :: t ∧ RepL s r t := by
 simp only [RepL, Rep, PRep] at h
 obtain ⟨_, t, rfl, ⟨rfl, h1⟩, h2⟩ := h
 exact ⟨t, rfl, h2⟩
theorem args_strs {s : St} {r : List AV} {l : List ByteArray} {vs : List Value} (h : RepL s (.d (strsP l) :: r) vs) : ∃ v t, vs = v :: t ∧ IsStrC s.w v l ∧ RepL s r t := by
 simp only [RepL, Rep] at h
 obtain ⟨v, t, rfl, h1, h2⟩ := h
 exact ⟨v, t, rfl, strs_c (fun b => imm_lt) h1, h2⟩
theorem args_nil {s : St} {vs : List Value} (h : RepL s [] vs) : vs = [] := by simpa only [RepL] using h
theorem args_stm {s : St} {r : List AV} {x : Stm} {vs : List Value} (h : RepL s (.agg ((stmC x).map .d) :: r) vs) : ∃ vu vi ws wp t, vs = .agg (stmCells x vu vi ws wp) :: t ∧ StmAt s.w x vu vi ws wp ∧ RepL s r t := by
 simp only [RepL] at h
 obtain ⟨v, t, rfl, h1, h2⟩ := h
 simp only [Rep, stmC, List.map_cons, List.map_nil] at h1
 obtain ⟨c, rfl, h1⟩ := h1
 obtain ⟨t1, e1, h1, _⟩ := args_str h1
 obtain ⟨t2, e2, h1, _⟩ := args_str h1
 obtain ⟨t3, e3, h1⟩ := args_int h1
 obtain ⟨t4, e4, h1, _⟩ := args_str h1
 obtain ⟨vu, t5, e5, hu, h1⟩ := args_strs h1
 simp only [RepL, Rep] at h1
 obtain ⟨vi, t6, e6, hi, h1⟩ := h1
 have h1 : RepL s [.d (.v (.int .i64 x.idx)), .d (strsP x.sig), .d (strsP x.path)] t6 := by simp only [RepL, Rep]; exact h1
 obtain ⟨t7, e7, h1⟩ := args_int h1
 obtain ⟨ws, t8, e8, hs, h1⟩ := args_strs h1
 obtain ⟨wp, t9, e9, hp, h1⟩ := args_strs h1
 have e10 := args_nil h1
 subst e10 e9 e8 e7 e6 e5 e4 e3 e2
 refine ⟨vu, vi, ws, wp, t, ?_, ⟨hu, inps_c (fun b => imm_lt) hi, hs, hp⟩, h2⟩
 congr 2
 exact Array.toList_inj.1 e1
theorem pure_scalar {P : Program} {base : World} {f : FuncId} {args : List AV} {x : Value} (hcall : ∀ (vs : Array Value) (w : World), (callFunc f vs).run P w = .ok (.enter f vs) w) (hx : small x)
  (h : ∀ (s : St) (vs : Array Value), Sim base s → RepL s args vs.toList → Calls P f vs s.w fun e w' => e = .returned x ∧ Below s.w.heap.size s.w w') : PureA P base f args (.d (.v x)) :=
 pure_of_calls hcall fun s vs hs ha => (h s vs hs ha).mono fun e w' ⟨h1, h2⟩ => ⟨x, h1, h2, by simp only [PRep]; exact ⟨trivial, hx⟩⟩
section
variable {base : World} (hT : Tabs base)
theorem tabs_s {s : St} (hs : Sim base s) (hT : Tabs base) : Tabs s.w := hT.on hs.below
include hT in
theorem list_a (l : List ByteArray) (hJ : (joinB l).length ≤ 140737488355328) : PureA Tryz.prog base 32 [.d (strsP l)] (.d (.v (.string (dg l)))) :=
 pure_scalar Tryz.call32 (by show (dg l).size ≤ _; have : (dg l).size = 16 := sumS_size _; omega) fun s vs hs ha => by
  obtain ⟨v, t, e, hv, ha⟩ := args_strs ha
  rw [args_nil ha] at e
  rw [arr1 e]
  exact list_calls v l s.w hv.strs hJ (tabs_s hs hT)
theorem is_a (base : World) (t : ByteArray) (ht : t.size ≤ 4611686018427387904) : PureA Tryz.prog base 38 [.d (.v (.string t))] (.d (.v (.bool (isS t)))) :=
 pure_scalar Tryz.call38 trivial fun s vs hs ha => by
  obtain ⟨_, e, ha, _⟩ := args_str ha
  rw [args_nil ha] at e
  rw [arr1 e]
  exact is_calls t ht s.w
theorem proper_a (base : World) (x : Stm) (hZ : x.Sized 4611686018427387904) : PureA Tryz.prog base 42 [.agg ((stmC x).map .d)] (.d (.v (.bool (properB x)))) :=
 pure_scalar Tryz.call42 trivial fun s vs hs ha => by
  obtain ⟨vu, vi, ws, wp, t, e, hS, ha⟩ := args_stm ha
  rw [args_nil ha] at e
  rw [arr1 e]
  exact eproper_calls x vu vi ws wp s.w hS hZ
theorem short_a (base : World) (x : Stm) (hZ : x.Sized 9223372036854775807) : PureA Tryz.prog base 6 [.agg ((stmC x).map .d)] (.d (.v (.bool (shortS x)))) :=
 pure_scalar Tryz.call6 trivial fun s vs hs ha => by
  obtain ⟨vu, vi, ws, wp, t, e, hS, ha⟩ := args_stm ha
  rw [args_nil ha] at e
  rw [arr1 e]
  exact short29_calls x vu vi ws wp s.w hS hZ
include hT in
theorem verify_a (pub m : ByteArray) (idx : Int) (sig path : List ByteArray) (hpub : pub.size ≤ 1099511627776) (hm : m.size ≤ 1099511627776) (hss : ∀ s ∈ sig, s.size ≤ 1099511627776) (hps : ∀ s ∈ path, s.size ≤ 1099511627776) :
  PureA Tryz.prog base 78 [.d (.v (.string pub)), .d (.v (.string m)), .agg [.d (.v (.int .i64 idx)), .d (strsP sig), .d (strsP path)]] (.d (.v (.bool (verT pub m idx sig path)))) :=
 pure_scalar Tryz.call78 trivial fun s vs hs ha => by
  obtain ⟨t1, e1, ha, _⟩ := args_str ha
  obtain ⟨t2, rfl, ha, _⟩ := args_str ha
  simp only [RepL] at ha
  obtain ⟨va, t3, rfl, h1, hz⟩ := ha
  simp only [Rep] at h1
  obtain ⟨c, rfl, h1⟩ := h1
  have h1 : RepL s [.d (.v (.int .i64 idx)), .d (strsP sig), .d (strsP path)] c.toList := h1
  obtain ⟨t4, e4, h1⟩ := args_int h1
  obtain ⟨ws, t5, rfl, hsg, h1⟩ := args_strs h1
  obtain ⟨wp, t6, rfl, hpt, h1⟩ := args_strs h1
  rw [args_nil h1] at e4
  rw [hz] at e1
  have e5 : vs = #[.string pub, .string m, .agg c] := Array.toList_inj.1 e1
  have e6 : c = #[.int .i64 idx, ws, wp] := Array.toList_inj.1 e4
  rw [e5, e6]
  exact verify_calls pub m idx ws wp sig path s.w hpub hm hsg hpt hss hps (tabs_s hs hT)
end
end Av
end Go.Proofs.YtnkepmfgmfeabaaGreatDoor
set_option linter.unusedVariables false
set_option linter.unusedSimpArgs false
namespace Go.Proofs.YtnkepmfgmfeabaaGreatDoor
open Go Go.RowKit
namespace Av

theorem pairs_succ {l : List (ByteArray × Int)} {k : Nat} (h : k < l.length) : pairsT (l.take (k + 1)) = pairsT (l.take k) ++ [l[k].1, decI l[k].2] := by
 rw [List.take_succ_eq_append_getElem h]
 unfold pairsT
 rw [List.flatMap_append]
 simp
theorem pairs_len (l : List (ByteArray × Int)) : (pairsT l).length = 2 * l.length := by
 induction l with
 | nil => rfl
 | cons x l ih => simp [pairsT] at *; omega
/-- a row of texts of one's own -/
def rowS (l : List ByteArray) : AObj := .row 9 1 0 (dI (l.map fun s => [.v (.string s)]))
end Av
end Go.Proofs.YtnkepmfgmfeabaaGreatDoor
set_option linter.unusedVariables false
set_option linter.unusedSimpArgs false
namespace Go.Proofs.YtnkepmfgmfeabaaGreatDoor
open Go Go.RowKit
namespace Av
section
variable {base : World} (hT : Tabs base)
include hT in
theorem itoa_a (n : Nat) (hn : n ≤ 9223372036854775807) : PureA Tryz.prog base 31 [.d (.v (.int .i64 (n : Int)))] (.d (.v (.string (decS n)))) :=
 pure_scalar Tryz.call31 (by have := decS_size n hn; show _ ≤ _; omega) fun s vs hs ha => by
  obtain ⟨t, e, ha⟩ := args_int ha
  rw [args_nil ha] at e
  rw [arr1 e]
  exact (itoa_calls n hn s.w (tabs_s hs hT)).mono fun e w' ⟨h1, h2⟩ => ⟨h1, h2⟩
include hT in
theorem message_a (x : Stm) (hq : 0 ≤ x.q) (hqi : ∀ y ∈ x.inputs, 0 ≤ y.2) (hlu : x.uses.length ≤ 1000000) (hli : x.inputs.length ≤ 1000000) (hJ : (joinB (fieldsT x)).length ≤ 140737488355328) :
  PureA Tryz.prog base 11 [.agg ((stmC x).map .d)] (.d (.v (.string (messT x)))) := by
 refine pure_enter ttOk Tryz.call11 Tryz.func11 rfl fun H hB hb hF => ?_
 rw [Tryz.results11, Tryz.ntmps11]
 simp only [arr_list, List.length_cons, List.length_nil, List.replicate, List.cons_append, List.nil_append, Nat.reduceAdd, Nat.reduceSub]
 simp only [stmC, List.map_cons, List.map_nil, fctL, fctA, fctP, inpsP, fctI_map, fctC, and_true] at hF
 obtain ⟨hF1, hF2, hF3, hF4, hF5, hF6, hF7, hF8, hF9⟩ := hF
 obtain ⟨n, hn⟩ := Int.eq_ofNat_of_zero_le hq
 rw [hn] at hF3
 have hn2 := (small_i64.1 hF3).2
 rw [show stmC x = [.v (.string x.id), .v (.string x.prod), .v (.int .i64 (n : Int)), .v (.string x.holder), strsP x.uses, inpsP x.inputs, .v (.int .i64 x.idx), strsP x.sig, strsP x.path] by unfold stmC; rw [hn]]
 repeat refine aw_seq ?_
 refine aw_run ttOk (by kernel_rfl) (by simp only [erun, eall, estep, avs, tts, Nat.reduceAdd, Nat.reduceMul, Nat.reduceSub, Nat.reduceEqDiff, Nat.reduceLT, Nat.reduceLeDiff, Int.reduceToNat, Int.reduceLE, Int.reduceLT, Int.toNat_natCast, reduceCtorEq, strsP, inpsP] <;> first | with_reducible rfl | rfl) ?_
 have b1 : 6 + x.uses.length ≤ 9223372036854775807 := by omega
 have b2 : (6 + x.uses.length) * 16 ≤ 140737488355328 := by omega
 repeat refine aw_seq ?_
 refine aw_draw 16 ttOk mixed (by kernel_rfl) (by kernel_rfl) (by kernel_rfl) ?_
 refine ahops_runT 6 (by simp only [hrun, hstep, avs, tts, Nat.reduceAdd, Nat.reduceMul, Nat.reduceSub, Nat.reduceEqDiff, Nat.reduceLT, Nat.reduceLeDiff, Int.reduceToNat, Int.reduceLE, Int.reduceLT, Int.toNat_natCast, reduceCtorEq] <;> first | with_reducible rfl | rfl) ?_
 refine ahops_pure rfl (by simp only [avs] <;> rfl) (itoa_a hT n (by omega)) trivial (by simp only [avs] <;> rfl) ?_
 refine ahops_runT 5 (by simp only [hrun, hstep, avs, tts, Nat.reduceAdd, Nat.reduceMul, Nat.reduceSub, Nat.reduceEqDiff, Nat.reduceLT, Nat.reduceLeDiff, Int.reduceToNat, Int.reduceLE, Int.reduceLT, Int.toNat_natCast, reduceCtorEq] <;> first | with_reducible rfl | rfl) ?_
 refine ahops_pure rfl (by simp only [avs] <;> rfl) (itoa_a hT x.uses.length (by omega)) trivial (by simp only [avs] <;> rfl) ?_
 refine ahops_runT 3 (by simp only [hrun, hstep, avs, tts, Nat.reduceAdd, Nat.reduceMul, Nat.reduceSub, Nat.reduceEqDiff, Nat.reduceLT, Nat.reduceLeDiff, Int.reduceToNat, Int.reduceLE, Int.reduceLT, Int.toNat_natCast, reduceCtorEq] <;> first | with_reducible rfl | rfl) ?_
 refine ahops_nil ?_
 refine aops_run 2 (by simp only [erun, eall, estep, avs, tts, Nat.reduceAdd, Nat.reduceMul, Nat.reduceSub, Nat.reduceEqDiff, Nat.reduceLT, Nat.reduceLeDiff, Int.reduceToNat, Int.reduceLE, Int.reduceLT, Int.toNat_natCast, reduceCtorEq, b1, b2] <;> first | with_reducible rfl | rfl) ?_
 refine aops_nil ?_
 repeat refine aw_seq ?_
 refine aw_run ttOk (by kernel_rfl) (by simp only [erun, eall, estep, avs, tts, Nat.reduceAdd, Nat.reduceMul, Nat.reduceSub, Nat.reduceEqDiff, Nat.reduceLT, Nat.reduceLeDiff, Int.reduceToNat, Int.reduceLE, Int.reduceLT, Int.toNat_natCast, reduceCtorEq] <;> first | with_reducible rfl | rfl) ?_
 have hfs : fieldsT x = [sStatement, x.id, x.prod, decS n, x.holder, decS x.uses.length] ++ x.uses ++ pairsT x.inputs := by unfold fieldsT decI; rw [hn]; rfl
 generalize hhd : [sStatement, x.id, x.prod, decS n, x.holder, decS x.uses.length] ++ x.uses = hd at hfs
 have hdl : hd.length = 6 + x.uses.length := by rw [← hhd]; simp; omega
 refine aw_block (aw_loop (fun m env H' => ∃ k, m = x.inputs.length - k ∧ k ≤ x.inputs.length ∧ H' = H ++ [.box 27 [.d (.v (.string x.id)), .d (.v (.string x.prod)), .d (.v (.int .i64 (n : Int))), .d (.v (.string x.holder)), .d (strsP x.uses), .d (inpsP x.inputs), .d (.v (.int .i64 x.idx)), .d (strsP x.sig), .d (strsP x.path)], rowS (hd ++ pairsT (x.inputs.take k))] ∧ env = .undef :: .ptr H.length 0 :: .undef :: .ms (H.length + 1) 0 (hd ++ pairsT (x.inputs.take k)).length :: List.replicate 20 .undef ++ [.d (inpsP x.inputs), .d (.v (.int .i64 (x.inputs.length : Int))), .d (.v (.int .i64 (k : Int)))] ++ List.replicate 14 .undef) ?_ ⟨0, rfl, Nat.zero_le _, rfl, rfl⟩ ?_)
 ·refine ⟨?_, .inl ?_⟩
  ·simp [EnvLe, pairsT, hdl, inpsP, List.replicate]
  ·rw [show x.inputs.take 0 = [] from rfl, show pairsT [] = [] from rfl, List.append_nil, ← hhd]
   rfl
 rintro m env H' ⟨k, rfl, hk, rfl, rfl⟩ hN
 unfold rowS
 simp only [List.replicate, List.cons_append, List.nil_append]
 repeat refine aw_seq ?_
 refine aw_run ttOk (by kernel_rfl) (by simp only [erun, eall, estep, avs, tts, Nat.reduceAdd, Nat.reduceMul, Nat.reduceSub, Nat.reduceEqDiff, Nat.reduceLT, Nat.reduceLeDiff, Int.reduceToNat, Int.reduceLE, Int.reduceLT, Int.toNat_natCast, reduceCtorEq, strsP, inpsP] <;> first | with_reducible rfl | rfl) ?_
 repeat refine aw_seq ?_
 refine aw_cond rfl rfl (fun hb => ?_) fun hb => ?_
 ·have hlt : k < x.inputs.length := by simpa using hb
  have hix : (0 : Int) ≤ (k : Int) := by omega
  obtain ⟨q, hq⟩ := Int.eq_ofNat_of_zero_le (hqi _ (List.getElem_mem hlt))
  have hq2 : q ≤ 9223372036854775807 := by
   have := (hF6.2 _ (List.getElem_mem hlt)).2
   rw [hq, small_i64] at this
   omega
  have hgd : (x.inputs.map fun x => [PD.v (.string x.1), PD.v (.int .i64 x.2)]).getD k [] = [.v (.string x.inputs[k].1), .v (.int .i64 (q : Int))] := by simp [hlt, hq]
  have hpl := pairs_len (x.inputs.take k)
  rw [List.length_take, Nat.min_eq_left hk] at hpl
  refine aw_skip ?_
  repeat refine aw_seq ?_
  refine aw_block ?_
  repeat refine aw_seq ?_
  refine aw_run ttOk (by kernel_rfl) (by simp only [erun, eall, estep, avs, tts, Nat.reduceAdd, Nat.reduceMul, Nat.reduceSub, Nat.reduceEqDiff, Nat.reduceLT, Nat.reduceLeDiff, Int.reduceToNat, Int.reduceLE, Int.reduceLT, Int.toNat_natCast, reduceCtorEq, hgd, hix, hlt] <;> first | with_reducible rfl | rfl) ?_
  repeat refine aw_seq ?_
  refine aw_draw 7 ttOk mixed (by kernel_rfl) (by kernel_rfl) (by kernel_rfl) ?_
  refine ahops_runT 5 (by simp only [hrun, hstep, avs, tts, Nat.reduceAdd, Nat.reduceMul, Nat.reduceSub, Nat.reduceEqDiff, Nat.reduceLT, Nat.reduceLeDiff, Int.reduceToNat, Int.reduceLE, Int.reduceLT, Int.toNat_natCast, reduceCtorEq] <;> first | with_reducible rfl | rfl) ?_
  refine ahops_pure rfl (by simp only [avs] <;> rfl) (itoa_a hT q hq2) trivial (by simp only [avs] <;> rfl) ?_
  refine ahops_runT 1 (by simp only [hrun, hstep, avs, tts, Nat.reduceAdd, Nat.reduceMul, Nat.reduceSub, Nat.reduceEqDiff, Nat.reduceLT, Nat.reduceLeDiff, Int.reduceToNat, Int.reduceLE, Int.reduceLT, Int.toNat_natCast, reduceCtorEq] <;> first | with_reducible rfl | rfl) ?_
  have b3 : 6 + x.uses.length + 2 * k + 2 ≤ 9223372036854775807 := by omega
  have b4 : (6 + x.uses.length + 2 * k + 2) * 16 ≤ 140737488355328 := by omega
  refine ahops_nil ?_
  refine aops_run 2 (by simp only [erun, eall, estep, avs, tts, Nat.reduceAdd, Nat.reduceMul, Nat.reduceSub, Nat.reduceEqDiff, Nat.reduceLT, Nat.reduceLeDiff, Int.reduceToNat, Int.reduceLE, Int.reduceLT, Int.toNat_natCast, reduceCtorEq, dI_len, hdl, hpl, b3, b4] <;> first | with_reducible rfl | rfl) ?_
  refine aops_nil ?_
  repeat refine aw_seq ?_
  refine aw_run ttOk (by kernel_rfl) (by simp only [erun, eall, estep, avs, tts, Nat.reduceAdd, Nat.reduceMul, Nat.reduceSub, Nat.reduceEqDiff, Nat.reduceLT, Nat.reduceLeDiff, Int.reduceToNat, Int.reduceLE, Int.reduceLT, Int.toNat_natCast, reduceCtorEq, wrap_succ hlt (by omega : x.inputs.length ≤ 9223372036854775807)] <;> first | with_reducible rfl | rfl) ?_
  have hps := pairs_succ hlt
  have hdq : decI x.inputs[k].2 = decS q := by unfold decI; rw [hq]; rfl
  rw [hdq] at hps
  have hl2 : (hd ++ pairsT (x.inputs.take (k + 1))).length = 6 + x.uses.length + 2 * k + 2 := by rw [hps, List.length_append, List.length_append, hdl, hpl]; simp; omega
  refine ⟨x.inputs.length - (k + 1), _, _, by omega, ⟨?_, .inr ⟨by simp, ?_, .more hB (.cons ?_ (.cons (bel_dI _) .nil)), ?_⟩⟩, k + 1, rfl, hlt, rfl, rfl⟩
  ·simp [EnvLe, hl2, List.replicate, inpsP]
  ·simp [belL, AV.bel, List.replicate]
  ·simp [AObj.bel, belL, AV.bel]
  ·refine ⟨[.box 52 [.d (.v (.string x.inputs[k].1)), .d (.v (.int .i64 (q : Int)))], .row 9 1 0 [[.d (.v (.string x.inputs[k].1))], [.d (.v (.string (decS q)))]]], ?_⟩
   rw [hps]
   simp only [← List.append_assoc, List.map_append, ← dI_app]
   simp only [List.append_assoc]
   rfl
 ·refine aw_exit ?_
  have hkl : k = x.inputs.length := by simp at hb; omega
  subst hkl
  have hpl := pairs_len x.inputs
  rw [List.take_length, ← hfs]
  have hlf : hd.length + (pairsT x.inputs).length = (fieldsT x).length := by rw [hfs, List.length_append]
  repeat refine aw_seq ?_
  refine aw_region ttOk (by kernel_rfl) ?_
  refine aops_run 1 (by simp only [erun, eall, estep, avs, tts, Nat.reduceAdd, Nat.reduceMul, Nat.reduceSub, Nat.reduceEqDiff, Nat.reduceLT, Nat.reduceLeDiff, Int.reduceToNat, Int.reduceLE, Int.reduceLT, Int.toNat_natCast, reduceCtorEq] <;> first | with_reducible rfl | rfl) ?_
  refine aops_view rfl (by simp only [avs] <;> rfl) (list_a hT (fieldsT x) hJ) (by simp only [avs, tts, Nat.reduceAdd, Nat.reduceMul, Nat.reduceSub, Nat.reduceEqDiff, Nat.reduceLT, Nat.reduceLeDiff, Int.reduceToNat, Int.reduceLE, Int.reduceLT, Int.toNat_natCast, reduceCtorEq, viewA.eq_def, viewL.eq_def, rowS, unI_dI, dI_len, hlf] <;> rfl) rfl (by simp only [avs] <;> rfl) ?_
  refine aops_run 1 (by simp only [erun, eall, estep, avs, tts, Nat.reduceAdd, Nat.reduceMul, Nat.reduceSub, Nat.reduceEqDiff, Nat.reduceLT, Nat.reduceLeDiff, Int.reduceToNat, Int.reduceLE, Int.reduceLT, Int.toNat_natCast, reduceCtorEq] <;> first | with_reducible rfl | rfl) ?_
  refine aops_nil ?_
  exact aw_ret ⟨_, rfl, _, rfl, rfl⟩
end
end Av
end Go.Proofs.YtnkepmfgmfeabaaGreatDoor
set_option linter.unusedVariables false
set_option linter.unusedSimpArgs false
namespace Go.Proofs.YtnkepmfgmfeabaaGreatDoor
open Go Go.RowKit
namespace Av

/-! Freezing: a row of one's own that is written no more becomes pure data. -/
def frzO (o : Option AObj) (l ver m : Nat) : AV := match o with
 | some (.row _ k ver' items) => if ver = ver' ∧ m = items.length then match unI items with
  | some L => .d (.sl k L)
  | none => .ms l ver m
  else .ms l ver m
 | _ => .ms l ver m
mutual
def frzA (o : Option AObj) (l : Nat) : AV → AV
 | .ms l' ver m => if l' = l then frzO o l ver m else .ms l' ver m
 | .agg c => .agg (frzL o l c)
 | .tup c => .tup (frzL o l c)
 | .d p => .d p
 | .undef => .undef
 | .ptr a b => .ptr a b
 | .ep a b c d e => .ep a b c d e
 | .rp c => .rp c
 | .mp a => .mp a
 | .fn f a c => .fn f (frzL o l a) (frzL o l c)
def frzL (o : Option AObj) (l : Nat) : List AV → List AV
 | [] => []
 | a :: r => frzA o l a :: frzL o l r
end
theorem Sim.kill {base : World} {s : St} (hs : Sim base s) (l : Nat) : Sim base ⟨s.μ, s.H.set l .dead, s.w⟩ ∧ ∀ N, Evo N s ⟨s.μ, s.H.set l .dead, s.w⟩ := by
 have hg : ∀ x o, (s.H.set l .dead)[x]? = some o → (x = l ∧ o = .dead) ∨ (x ≠ l ∧ s.H[x]? = some o) := by
  intro x o h
  by_cases e : x = l
  ·subst e
   have hl : x < s.H.length := by have := lt_of_get h; simpa using this
   rw [get_set_same hl] at h
   cases h
   exact .inl ⟨rfl, rfl⟩
  ·rw [get_set_ne e] at h
   exact .inr ⟨e, h⟩
 have hev : ∀ N, Evo N s ⟨s.μ, s.H.set l .dead, s.w⟩ := by
  intro N
  refine ⟨⟨Nat.le_refl _, fun b hb => ⟨hb.1, ?_⟩, fun b hb => rfl⟩, fun x hx => ?_⟩
  ·rintro ⟨x, o, h1, h2, h3⟩
   rcases hg x o h1 with ⟨rfl, rfl⟩ | ⟨_, h⟩
   ·cases h2
   ·exact hb.2 ⟨x, o, h, h2, h3⟩
  ·by_cases e : x = l
   ·subst e
    unfold RefEvo
    simp only
    split
    ·trivial
    ·trivial
    ·rename_i h; rw [get_set_same (lt_of_get h)]
    ·rename_i h; rw [get_set_same (lt_of_get h)]; exact .inl rfl
    ·rename_i h; rw [get_set_same (lt_of_get h)]; exact .inl rfl
    ·rename_i h; rw [get_set_same (lt_of_get h)]; exact .inl rfl
   ·exact .of_eq (get_set_ne e) rfl fun _ _ => rfl
 refine ⟨⟨hs.below, fun x o h => ?_, fun x y o o' b h1 h2 k1 k2 m1 m2 => ?_⟩, hev⟩
 ·rcases hg x o h with ⟨rfl, rfl⟩ | ⟨_, h'⟩
  ·trivial
  ·exact (hs.obj x o h').evo (hev _) (fun _ => rfl) fun _ _ _ => rfl
 ·rcases hg x o h1 with ⟨rfl, rfl⟩ | ⟨_, h1'⟩
  ·cases k1
  rcases hg y o' h2 with ⟨rfl, rfl⟩ | ⟨_, h2'⟩
  ·cases k2
  exact hs.inj x y o o' b h1' h2' k1 k2 m1 m2
theorem PRows_imm {w : World} {imm imm' : Nat → Prop} (hi : ∀ b, imm b → imm' b) : ∀ (L : List (List PD)) (b k o : Nat), PRows w imm L b k o → PRows w imm' L b k o
 | [], _, _, _, _ => by simp only [PRows]
 | it :: r, b, k, o, h => by
  simp only [PRows] at h ⊢
  have cells : ∀ (l : List PD) (o : Nat), PCells w imm l b o → PCells w imm' l b o := by
   intro l
   induction l with
   | nil => intro o _; simp only [PCells]
   | cons p l ih =>
    intro o h
    simp only [PCells] at h ⊢
    obtain ⟨⟨h0, c, h1, h2⟩, h3⟩ := h
    exact ⟨⟨h0, c, h1, PRep.on hi (fun _ _ => rfl) p c h2⟩, ih _ h3⟩
  exact ⟨h.1, cells it o h.2.1, PRows_imm hi r b k (o + k) h.2.2⟩
mutual
theorem Rep.frz {base : World} {s : St} (hs : Sim base s) (l : Nat) : ∀ (a : AV) (v : Value), Rep s a v → Rep ⟨s.μ, s.H.set l .dead, s.w⟩ (frzA s.H[l]? l a) v
 | .ms l' ver m, v, h => by
  have hold : Rep ⟨s.μ, s.H.set l .dead, s.w⟩ (.ms l' ver m) v := Rep.evo ((hs.kill l).2 _) _ _ h
  simp only [frzA]
  by_cases e : l' = l
  case neg => rw [if_neg e]; exact hold
  subst e
  rw [if_pos rfl]
  unfold frzO
  split
  case h_2 => exact hold
  rename_i ty k ver' items ho
  split
  case isFalse => exact hold
  rename_i c
  split
  case h_2 => exact hold
  rename_i L e1
  have hi := unI_eq e1
  simp only [Rep, MsRep, ho] at h
  obtain ⟨_, _, h⟩ := h
  simp only [Rep, PRep]
  have hLl : L.length = items.length := by rw [hi]; simp [dI]
  rcases h c.1 c.2 with ⟨m1, rfl, m3⟩ | ⟨b, cap, m1, rfl, m3, m4, m5⟩
  ·have : L = [] := List.eq_nil_of_length_eq_zero (by omega)
   subst this
   exact ⟨none, 0, rfl, Nat.le_refl _, by unfold maxLen; omega, .inl rfl⟩
  ·obtain ⟨h0, h9, hobj⟩ := hs.obj l' _ ho
   rcases hobj with ⟨q1, _⟩ | ⟨b', arr, f, rs, q1, q2, q3, q4, q5⟩
   ·rw [m1] at q1; cases q1
   ·rw [m1] at q1; cases q1
    refine ⟨some ⟨b, 0, none⟩, cap, by rw [hLl, c.2], by rw [hLl, ← c.2]; exact m3, m4, .inr ⟨b, 0, rfl, ⟨(Array.getElem?_eq_some_iff.1 q3).1, ?_⟩, ?_⟩⟩
    ·rintro ⟨x, o', k1, k2, k3⟩
     by_cases e : x = l'
     ·subst e
      simp only [get_set_same (lt_of_get ho), Option.some.injEq] at k1
      subst k1
      cases k2
     ·simp only [get_set_ne e] at k1
      exact e (hs.inj x l' _ _ b k1 ho k2 rfl k3 m1)
    ·subst hi
     have := seal_rows q3 L 0 f (fun j v hj => by
      have h1 : arr.toList[j]? = some v := by rw [q4, List.getElem?_append_left (List.getElem?_eq_some_iff.1 hj).1]; exact hj
      simpa using h1) h0 h9 q5
     exact PRows_imm ((hs.kill l').2 0).keeps.imm L b k 0 this
 | .d p, v, h => by simp only [frzA]; exact Rep.evo ((hs.kill l).2 _) _ _ h
 | .undef, v, h => by simp only [frzA, Rep]
 | .ptr x y, v, h => by simp only [frzA]; exact Rep.evo ((hs.kill l).2 _) _ _ h
 | .ep x y z u t, v, h => by simp only [frzA]; exact Rep.evo ((hs.kill l).2 _) _ _ h
 | .rp c, v, h => by simp only [frzA]; exact Rep.evo ((hs.kill l).2 _) _ _ h
 | .mp x, v, h => by simp only [frzA]; exact Rep.evo ((hs.kill l).2 _) _ _ h
 | .fn f a b, v, h => by
  simp only [frzA, Rep] at h ⊢
  obtain ⟨p, q, h1, h2, h3⟩ := h
  exact ⟨p, q, h1, RepL.frz hs l a _ h2, RepL.frz hs l b _ h3⟩
 | .agg c, v, h => by
  simp only [frzA, Rep] at h ⊢
  obtain ⟨p, h1, h2⟩ := h
  exact ⟨p, h1, RepL.frz hs l c _ h2⟩
 | .tup c, v, h => by
  simp only [frzA, Rep] at h ⊢
  obtain ⟨p, h1, h2⟩ := h
  exact ⟨p, h1, RepL.frz hs l c _ h2⟩
theorem RepL.frz {base : World} {s : St} (hs : Sim base s) (l : Nat) : ∀ (az : List AV) (vs : List Value), RepL s az vs → RepL ⟨s.μ, s.H.set l .dead, s.w⟩ (frzL s.H[l]? l az) vs
 | [], vs, h => by simp only [frzL, RepL] at h ⊢; exact h
 | a :: r, vs, h => by
  simp only [frzL, RepL] at h ⊢
  obtain ⟨x, t, h1, h2, h3⟩ := h
  exact ⟨x, t, h1, Rep.frz hs l a _ h2, RepL.frz hs l r _ h3⟩
end
theorem calls_frz (l : Nat) {P : Program} {base : World} {f : FuncId} {args args' : List AV} {H H' : AHeap} {R : AV → AHeap → Prop} (ha : frzL H[l]? l args = args') (hH : H.set l .dead = H') (h : CallsA P base f args' H' R) : CallsA P base f args H R := by
 subst ha hH
 refine ⟨h.enter, fun μ w vs hs hr => ?_⟩
 have hk := hs.kill l
 refine (h.run μ w vs hk.1 (RepL.frz hs l _ _ hr)).mono fun e w' ⟨v, r, H', μ', h1, h2, h3, h4, h5, h6⟩ => ⟨v, r, H', μ', h1, h2, by simpa using h3, h4, h5, ?_⟩
 have h6' : Evo H.length ⟨μ, H.set l .dead, w⟩ ⟨μ', H', w'⟩ := by simpa using h6
 exact (hk.2 _).trans h6'
theorem aw_frz (l : Nat) {X : Ctx} {Q : Exit → List AV → AHeap → Prop} {env env' : List AV} {H H' : AHeap} {c : Code} (ha : frzL H[l]? l env = env') (hH : H.set l .dead = H') (h : AW X c Q env' H') : AW X c Q env H := by
 subst ha hH
 intro s0 μ a w hN hs he hev
 exact h s0 μ a w (by simpa using hN) (hs.kill l).1 ⟨he.defers, RepL.frz hs l _ _ he.rep⟩ (hev.trans ((hs.kill l).2 _))
theorem read_enter {P : Program} {tt : TTab} (hT : TabOk P tt) {base : World} {f : FuncId} {fn : Func} {c : Code} {args : List AV} {H : AHeap} {r : AV} (hcall : ∀ (vs : Array Value) (w : World), (callFunc f vs).run P w = .ok (.enter f vs) w) (hf : P.funcs[f]? = some fn) (hb : fn.body = some c)
  (h : HBel H.length H → belL H.length args → fctL args → AW ⟨P, tt, base, H.length⟩ c (retA tt fn.results.toList fun r' H' => ∃ G, H' = H ++ G ∧ sealA H' H.length r' = some r) (args ++ List.replicate (fn.ntmps - args.length) .undef) H) : ReadA P base f args H r :=
 .sealUp (callsA_enter hT hcall hf hb fun hB hb hF => (h hB hb hF).mono fun x env H' hq => by
  cases x with
  | normal => obtain ⟨r0, h1, G, h2, h3⟩ := hq; exact ⟨r0, h1, r, H, ⟨Nat.le_refl _, hB, ⟨G, h2⟩, h3⟩, rfl, rfl⟩
  | ret => obtain ⟨r0, h1, G, h2, h3⟩ := hq; exact ⟨r0, h1, r, H, ⟨Nat.le_refl _, hB, ⟨G, h2⟩, h3⟩, rfl, rfl⟩
  | _ => exact hq)
theorem got {H : AHeap} {l : Nat} {o : AObj} (h : H[l]? = some o) (G : AHeap) : (H ++ G)[l]? = some o := by rw [List.getElem?_append_left (lt_of_get h)]; exact h
theorem RepL.nils {s : St} (k : Nat) : ∀ {l : List AV} {vs : List Value} (i : Nat), RepL s l vs → l[i]? = some (.d (.v (.slice none 0 0))) → RepL s (l.set i (.d (.sl k []))) vs
 | [], vs, i, h, e => by simp at e
 | a :: r, vs, 0, h, e => by
  simp only [List.getElem?_cons_zero, Option.some.injEq] at e
  subst e
  simp only [RepL, List.set_cons_zero, Rep, PRep] at h ⊢
  obtain ⟨x, t, h1, ⟨rfl, _⟩, h3⟩ := h
  exact ⟨_, t, h1, ⟨none, 0, rfl, Nat.le_refl _, by unfold maxLen; omega, .inl trivial⟩, h3⟩
 | a :: r, vs, i + 1, h, e => by
  simp only [RepL, List.set_cons_succ] at h ⊢
  obtain ⟨x, t, h1, h2, h3⟩ := h
  exact ⟨x, t, h1, h2, RepL.nils k i h3 (by simpa using e)⟩
theorem aw_nils (i k : Nat) {X : Ctx} {Q : Exit → List AV → AHeap → Prop} {env env' : List AV} {H : AHeap} {c : Code} (hi : env[i]? = some (.d (.v (.slice none 0 0)))) (he : env.set i (.d (.sl k [])) = env') (h : AW X c Q env' H) : AW X c Q env H := by
 subst he
 intro s0 μ a w hN hs he hev
 exact h s0 μ a w hN hs ⟨he.defers, RepL.nils k i he.rep hi⟩ hev
/-- ways that part come together again -/
theorem aw_mid {X : Ctx} {c y : Code} {Q Q2 : Exit → List AV → AHeap → Prop} {env env0 : List AV} {H H0 : AHeap} (h : AW X c (fun ex env H => ex = .normal ∧ Goes X env H env0 H0) env H) (k : AW X y Q2 env0 H0) : AW X c (thenA (fun env H => AW X y Q2 env H) Q) env H :=
 h.mono fun ex env H ⟨e, g⟩ => by subst e; exact aw_goes g k
theorem aops_nilcmp {P : Program} {tt : TTab} {base : World} {ops : Array Oper} {K : List AV → AHeap → Prop} {o : Oper} {rest : List Oper} {env : List AV} {H : AHeap} {l : List (List PD)} {e : Bool} (hg : o.guard = none) (hc : acall env o.op = none) (hs : astep tt H env o.op = none) (hn : nilCmp tt env o.op = some (l, e)) (k : ∀ b : Bool, (b = true → l = []) → AOps P tt base ops rest (aput env o.dst (.d (.v (.bool (b == e))))) H K) : AOps P tt base ops (o :: rest) env H K := by
 simp only [AOps, AGuard, hg, AStep, hc, hs, hn]
 exact k
theorem aops_pureF (l : Nat) {P : Program} {tt : TTab} {base : World} {ops : Array Oper} {K : List AV → AHeap → Prop} {o : Oper} {rest : List Oper} {env env' : List AV} {H H' : AHeap} {f : FuncId} {args args' : List AV} {r : AV} (hg : o.guard = none) (hc : acall env o.op = some (f, args)) (ha : frzL H[l]? l args = args') (hH : H.set l .dead = H') (h : PureA P base f args' r) (he : aput env o.dst r = env') (k : AOps P tt base ops rest env' H' K) : AOps P tt base ops (o :: rest) env H K :=
 aops_call hg hc ⟨_, calls_frz l ha hH (h H'), fun r' H'' ⟨e1, e2⟩ _ => by rw [e1, e2, he]; exact k⟩
end Av
end Go.Proofs.YtnkepmfgmfeabaaGreatDoor
set_option linter.unusedVariables false
set_option linter.unusedSimpArgs false
namespace Go.Proofs.YtnkepmfgmfeabaaGreatDoor
open Go Go.RowKit
namespace Av

/-! The book: what it holds, and how it lies. -/
structure Ent where
 st : Stm
 left : Int
 sgn : ByteArray
 rev : Bool
 next : List Nat
structure Bk where
 issuer : ByteArray
 ents : List Ent
abbrev OR := Option (Nat × Nat)
structure ELay where
 b : Nat
 row : OR
structure Lay where
 bl : Nat
 ml : Nat
 ul : Nat
 od : OR
 L : List ELay
 n1 : Nat
 n2 : Nat
 n3 : Nat
def nilS : AV := .d (.v (.slice none 0 0))
def nilP : AV := .d (.v (.pointer none))
def slA : OR → Nat → AV
 | none, _ => nilS
 | some (l, v), n => .ms l v n
def RowAt (H : AHeap) (o : OR) (items : List (List AV)) : Prop := match o with
 | none => items = []
 | some (l, v) => H[l]? = some (.row 77 1 v items)
def entC (x : Ent) (nx : AV) : List AV := [.d (.v (.string x.st.id)), .d (.v (.string x.st.prod)), .d (.v (.int .i64 x.st.q)), .d (.v (.string x.st.holder)), .d (strsP x.st.uses), .d (inpsP x.st.inputs), .d (.v (.int .i64 x.st.idx)), .d (strsP x.st.sig), .d (strsP x.st.path), .d (.v (.int .i64 x.left)), .d (.v (.string x.sgn)), .d (.v (.bool x.rev)), nx]
def Lay.eb (Y : Lay) (j : Nat) : Nat := ((Y.L[j]?).map ELay.b).getD 0
def idE (Y : Lay) (B : Bk) : List (Value × AV) := ((Y.L.zip B.ents).take Y.n2).map fun p => (.string p.2.st.id, .ptr p.1.b 0)
def usE (Y : Lay) (B : Bk) : List (Value × AV) := (B.ents.take Y.n3).map fun x => (.agg #[.string x.sgn, .int .i64 x.st.idx], .d (.v (.bool true)))
structure BookAt (H : AHeap) (Y : Lay) (B : Bk) : Prop where
 len : Y.L.length = B.ents.length
 book : H[Y.bl]? = some (.box 76 [.d (.v (.string B.issuer)), slA Y.od Y.n1, .mp Y.ml, .mp Y.ul])
 ord : RowAt H Y.od ((Y.L.take Y.n1).map fun e => [.ptr e.b 0])
 byId : H[Y.ml]? = some (.mp 9 77 (.one .str) (idE Y B))
 used : H[Y.ul]? = some (.mp 92 4 (.flat [.str, .int .i64]) (usE Y B))
 ent : ∀ (i : Nat) e x, Y.L[i]? = some e → B.ents[i]? = some x → H[e.b]? = some (.box 79 (entC x (slA e.row x.next.length))) ∧ RowAt H e.row (x.next.map fun j => [.ptr (Y.eb j) 0]) ∧ ∀ j ∈ x.next, i < j ∧ j < Y.L.length
 dbox : ∀ (i j : Nat) e f, Y.L[i]? = some e → Y.L[j]? = some f → e.b = f.b → i = j
 drow : ∀ (i j : Nat) e f, Y.L[i]? = some e → Y.L[j]? = some f → ∀ a c, e.row = some a → f.row = some c → a.1 = c.1 → i = j
 dord : ∀ (i : Nat) e, Y.L[i]? = some e → ∀ a c, e.row = some a → Y.od = some c → a.1 ≠ c.1
/-- a book at rest -/
structure Book (H : AHeap) (Y : Lay) (B : Bk) : Prop extends BookAt H Y B where
 n1 : Y.n1 = B.ents.length
 n2 : Y.n2 = B.ents.length
 n3 : Y.n3 = B.ents.length
def findB (B : Bk) (id : ByteArray) : Option Nat := B.ents.findIdx? fun x => decide (x.st.id = id)
def findA (Y : Lay) (B : Bk) (id : ByteArray) : AV := match findB B id with
 | some i => .ptr (Y.eb i) 0
 | none => nilP
theorem mget_id (B : List Ent) (L : List ELay) (id : ByteArray) (h : L.length = B.length) : mget ((L.zip B).map fun p => (.string p.2.st.id, .ptr p.1.b 0)) (.string id) = (B.findIdx? fun x => decide (x.st.id = id)).map fun i => .ptr (((L[i]?).map ELay.b).getD 0) 0 := by
 induction B generalizing L with
 | nil => cases L <;> simp at h ⊢ <;> rfl
 | cons x B ih =>
  cases L with
  | nil => cases h
  | cons e L =>
   have ih := ih L (by simpa using h)
   unfold mget at ih ⊢
   simp only [List.zip_cons_cons, List.map_cons, List.find?_cons, List.findIdx?_cons, keyEq, eqV] at ih ⊢
   by_cases hx : x.st.id = id
   ·subst hx; simp
   ·have hx' : ¬ id = x.st.id := fun e => hx e.symm
    simp only [hx, hx', decide_false, Bool.false_eq_true, if_false, ih, Option.map_map]
    congr 1
theorem Book.mget {H : AHeap} {Y : Lay} {B : Bk} (h : Book H Y B) (id : ByteArray) : Av.mget (idE Y B) (.string id) = (findB B id).map fun i => .ptr (Y.eb i) 0 := by
 have := mget_id B.ents Y.L id h.len
 unfold idE
 rw [List.take_of_length_le (by rw [List.length_zip, h.len, h.n2]; omega), this]
 rfl
theorem findB_some {B : Bk} {id : ByteArray} {i : Nat} (h : findB B id = some i) : ∃ x, B.ents[i]? = some x ∧ x.st.id = id := by
 unfold findB at h
 rw [List.findIdx?_eq_some_iff_getElem] at h
 obtain ⟨h1, h2, _⟩ := h
 exact ⟨_, List.getElem?_eq_getElem h1, by simpa using h2⟩
theorem BookAt.lay {H : AHeap} {Y : Lay} {B : Bk} (h : BookAt H Y B) {i : Nat} {x : Ent} (hx : B.ents[i]? = some x) : ∃ e, Y.L[i]? = some e ∧ Y.eb i = e.b := by
 have hi : i < Y.L.length := by rw [h.len]; exact (List.getElem?_eq_some_iff.1 hx).1
 exact ⟨_, List.getElem?_eq_getElem hi, by simp [Lay.eb, List.getElem?_eq_getElem hi]⟩
theorem BookAt.box {H : AHeap} {Y : Lay} {B : Bk} (h : BookAt H Y B) {i : Nat} {x : Ent} (hx : B.ents[i]? = some x) : ∃ nx, H[Y.eb i]? = some (.box 79 (entC x nx)) := by
 obtain ⟨e, he, hb⟩ := h.lay hx
 exact ⟨_, by rw [hb]; exact (h.ent i e x he hx).1⟩
theorem find_a {base : World} {H : AHeap} {Y : Lay} {B : Bk} (h : Book H Y B) (id : ByteArray) : ReadA Tryz.prog base 39 [.ptr Y.bl 0, .d (.v (.string id))] H (findA Y B id) := by
 refine read_enter ttOk Tryz.call39 Tryz.func39 rfl fun hB hb hF => ?_
 rw [Tryz.results39, Tryz.ntmps39]
 simp only [arr_list, List.length_cons, List.length_nil, List.replicate, List.cons_append, List.nil_append, Nat.reduceAdd, Nat.reduceSub]
 repeat refine aw_seq ?_
 refine aw_run ttOk (by kernel_rfl) (by simp only [erun, eall, estep, avs, tts, Nat.reduceAdd, Nat.reduceMul, Nat.reduceSub, Nat.reduceEqDiff, Nat.reduceLT, Nat.reduceLeDiff, Int.reduceToNat, Int.reduceLE, Int.reduceLT, Int.toNat_natCast, reduceCtorEq] <;> first | with_reducible rfl | rfl) ?_
 repeat refine aw_seq ?_
 refine aw_run ttOk (by kernel_rfl) (by simp only [erun, eall, estep, avs, tts, Nat.reduceAdd, Nat.reduceMul, Nat.reduceSub, Nat.reduceEqDiff, Nat.reduceLT, Nat.reduceLeDiff, Int.reduceToNat, Int.reduceLE, Int.reduceLT, Int.toNat_natCast, reduceCtorEq, nilP] <;> first | with_reducible rfl | rfl) ?_
 repeat refine aw_seq ?_
 refine aw_cond rfl rfl (fun hb => ?_) fun hb => ?_
 ·cases hb
 refine aw_skip ?_
 have h1 := h.book
 have h2 := h.byId
 have h3 := h.mget id
 repeat refine aw_seq ?_
 refine aw_run ttOk (by kernel_rfl) (by simp only [erun, eall, estep, avs, tts, Nat.reduceAdd, Nat.reduceMul, Nat.reduceSub, Nat.reduceEqDiff, Nat.reduceLT, Nat.reduceLeDiff, Int.reduceToNat, Int.reduceLE, Int.reduceLT, Int.toNat_natCast, reduceCtorEq, h1, h2, h3] <;> first | with_reducible rfl | rfl) ?_
 refine aw_ret ⟨_, rfl, [], by simp, ?_⟩
 unfold findA
 cases hf : findB B id with
 | none => rfl
 | some i =>
  obtain ⟨x, hx, _⟩ := findB_some hf
  obtain ⟨nx, hn⟩ := h.box hx
  exact if_pos (lt_of_get hn)
end Av
end Go.Proofs.YtnkepmfgmfeabaaGreatDoor
set_option linter.unusedVariables false
set_option linter.unusedSimpArgs false
namespace Go.Proofs.YtnkepmfgmfeabaaGreatDoor
open Go Go.RowKit
namespace Av
def iA (n : Int) : AV := .d (.v (.int .i64 n))
def leftR (B : Bk) (id : ByteArray) : Int × Int := match findB B id with
 | none => (0, 11)
 | some i => match B.ents[i]? with
  | none => (0, 11)
  | some x => if x.rev then (0, 0) else (x.left, 0)
def usesR (B : Bk) (id : ByteArray) : AV × Int := match findB B id with
 | none => (nilS, 11)
 | some i => match B.ents[i]? with
  | none => (nilS, 11)
  | some x => if x.rev then (nilS, 12) else (.d (strsP x.st.uses), 0)
theorem findA_none {Y : Lay} {B : Bk} {id : ByteArray} (h : findB B id = none) : findA Y B id = nilP := by unfold findA; rw [h]
theorem findA_some {Y : Lay} {B : Bk} {id : ByteArray} {i : Nat} (h : findB B id = some i) : findA Y B id = .ptr (Y.eb i) 0 := by unfold findA; rw [h]
theorem left_a {base : World} {H : AHeap} {Y : Lay} {B : Bk} (h : Book H Y B) (id : ByteArray) : ReadA Tryz.prog base 16 [.ptr Y.bl 0, .d (.v (.string id))] H (.tup [iA (leftR B id).1, iA (leftR B id).2]) := by
 refine read_enter ttOk Tryz.call16 Tryz.func16 rfl fun hB hb hF => ?_
 rw [Tryz.results16, Tryz.ntmps16]
 simp only [arr_list, List.length_cons, List.length_nil, List.replicate, List.cons_append, List.nil_append, Nat.reduceAdd, Nat.reduceSub]
 unfold leftR
 repeat refine aw_seq ?_
 refine aw_run ttOk (by kernel_rfl) (by simp only [erun, eall, estep, avs, tts, Nat.reduceAdd, Nat.reduceMul, Nat.reduceSub, Nat.reduceEqDiff, Nat.reduceLT, Nat.reduceLeDiff, Int.reduceToNat, Int.reduceLE, Int.reduceLT, Int.toNat_natCast, reduceCtorEq] <;> first | with_reducible rfl | rfl) ?_
 repeat refine aw_seq ?_
 refine aw_region ttOk (by kernel_rfl) ?_
 refine aops_run 2 (by simp only [erun, eall, estep, avs, tts, Nat.reduceAdd, Nat.reduceMul, Nat.reduceSub, Nat.reduceEqDiff, Nat.reduceLT, Nat.reduceLeDiff, Int.reduceToNat, Int.reduceLE, Int.reduceLT, Int.toNat_natCast, reduceCtorEq] <;> first | with_reducible rfl | rfl) ?_
 refine aops_read rfl (by simp only [avs] <;> rfl) (find_a h id) (by simp only [avs] <;> rfl) ?_
 refine aops_run 1 (by simp only [erun, eall, estep, avs, tts, Nat.reduceAdd, Nat.reduceMul, Nat.reduceSub, Nat.reduceEqDiff, Nat.reduceLT, Nat.reduceLeDiff, Int.reduceToNat, Int.reduceLE, Int.reduceLT, Int.toNat_natCast, reduceCtorEq] <;> first | with_reducible rfl | rfl) ?_
 refine aops_nil ?_
 cases hf : findB B id with
 | none =>
  rw [findA_none hf]
  repeat refine aw_seq ?_
  refine aw_block ?_
  repeat refine aw_seq ?_
  refine aw_run ttOk (by kernel_rfl) (by simp only [erun, eall, estep, avs, tts, Nat.reduceAdd, Nat.reduceMul, Nat.reduceSub, Nat.reduceEqDiff, Nat.reduceLT, Nat.reduceLeDiff, Int.reduceToNat, Int.reduceLE, Int.reduceLT, Int.toNat_natCast, reduceCtorEq, nilP] <;> first | with_reducible rfl | rfl) ?_
  repeat refine aw_seq ?_
  refine aw_cond rfl rfl (fun hb => ?_) fun hb => ?_
  ·repeat refine aw_seq ?_
   refine aw_run ttOk (by kernel_rfl) (by simp only [erun, eall, estep, avs, tts, Nat.reduceAdd, Nat.reduceMul, Nat.reduceSub, Nat.reduceEqDiff, Nat.reduceLT, Nat.reduceLeDiff, Int.reduceToNat, Int.reduceLE, Int.reduceLT, Int.toNat_natCast, reduceCtorEq] <;> first | with_reducible rfl | rfl) ?_
   exact aw_ret ⟨_, rfl, [], by simp, rfl⟩
  ·cases hb
 | some i =>
  obtain ⟨x, hx, _⟩ := findB_some hf
  obtain ⟨nx, hn⟩ := h.box hx
  rw [findA_some hf]
  simp only [hx]
  repeat refine aw_seq ?_
  refine aw_block ?_
  repeat refine aw_seq ?_
  refine aw_run ttOk (by kernel_rfl) (by simp only [erun, eall, estep, avs, tts, Nat.reduceAdd, Nat.reduceMul, Nat.reduceSub, Nat.reduceEqDiff, Nat.reduceLT, Nat.reduceLeDiff, Int.reduceToNat, Int.reduceLE, Int.reduceLT, Int.toNat_natCast, reduceCtorEq, nilP] <;> first | with_reducible rfl | rfl) ?_
  repeat refine aw_seq ?_
  refine aw_cond rfl rfl (fun hb => ?_) fun hb => ?_
  ·cases hb
  repeat refine aw_seq ?_
  refine aw_run ttOk (by kernel_rfl) (by simp only [erun, eall, estep, avs, tts, Nat.reduceAdd, Nat.reduceMul, Nat.reduceSub, Nat.reduceEqDiff, Nat.reduceLT, Nat.reduceLeDiff, Int.reduceToNat, Int.reduceLE, Int.reduceLT, Int.toNat_natCast, reduceCtorEq, hn, entC] <;> first | with_reducible rfl | rfl) ?_
  repeat refine aw_seq ?_
  refine aw_cond rfl rfl (fun hb => ?_) fun hb => ?_
  ·repeat refine aw_seq ?_
   refine aw_run ttOk (by kernel_rfl) (by simp only [erun, eall, estep, avs, tts, Nat.reduceAdd, Nat.reduceMul, Nat.reduceSub, Nat.reduceEqDiff, Nat.reduceLT, Nat.reduceLeDiff, Int.reduceToNat, Int.reduceLE, Int.reduceLT, Int.toNat_natCast, reduceCtorEq] <;> first | with_reducible rfl | rfl) ?_
   exact aw_ret ⟨_, rfl, [], by simp, by rw [if_pos hb]; rfl⟩
  ·repeat refine aw_seq ?_
   refine aw_run ttOk (by kernel_rfl) (by simp only [erun, eall, estep, avs, tts, Nat.reduceAdd, Nat.reduceMul, Nat.reduceSub, Nat.reduceEqDiff, Nat.reduceLT, Nat.reduceLeDiff, Int.reduceToNat, Int.reduceLE, Int.reduceLT, Int.toNat_natCast, reduceCtorEq, hn, entC] <;> first | with_reducible rfl | rfl) ?_
   exact aw_ret ⟨_, rfl, [], by simp, by rw [hb]; rfl⟩
theorem clonei_a (base : World) (l : List (ByteArray × Int)) (hl : l.length ≤ 1000000) : PureA Tryz.prog base 43 [.d (inpsP l)] (.d (inpsP l)) := by
 refine pure_enter ttOk Tryz.call43 Tryz.func43 rfl fun H hB hb hF => ?_
 rw [Tryz.results43, Tryz.ntmps43]
 simp only [arr_list, List.length_cons, List.length_nil, List.replicate, List.cons_append, List.nil_append, Nat.reduceAdd, Nat.reduceSub]
 repeat refine aw_seq ?_
 refine aw_run ttOk (by kernel_rfl) (by simp only [erun, eall, estep, avs, tts, Nat.reduceAdd, Nat.reduceMul, Nat.reduceSub, Nat.reduceEqDiff, Nat.reduceLT, Nat.reduceLeDiff, Int.reduceToNat, Int.reduceLE, Int.reduceLT, Int.toNat_natCast, reduceCtorEq] <;> first | with_reducible rfl | rfl) ?_
 repeat refine aw_seq ?_
 refine aw_region ttOk (by kernel_rfl) ?_
 refine aops_run 1 (by simp only [erun, eall, estep, avs, tts, Nat.reduceAdd, Nat.reduceMul, Nat.reduceSub, Nat.reduceEqDiff, Nat.reduceLT, Nat.reduceLeDiff, Int.reduceToNat, Int.reduceLE, Int.reduceLT, Int.toNat_natCast, reduceCtorEq] <;> first | with_reducible rfl | rfl) ?_
 refine aops_nilcmp rfl rfl rfl rfl fun b hn => aops_nil ?_
 repeat refine aw_seq ?_
 refine aw_cond rfl rfl (fun hb => ?_) fun hb => ?_
 ·have hnl : (l.map fun x => [PD.v (.string x.1), PD.v (.int .i64 x.2)]) = [] := hn (by simpa using hb)
  have hl : inpsP l = .sl 2 [] := by unfold inpsP; rw [hnl]
  repeat refine aw_seq ?_
  refine aw_run ttOk (by kernel_rfl) (by simp only [erun, eall, estep, avs, tts, Nat.reduceAdd, Nat.reduceMul, Nat.reduceSub, Nat.reduceEqDiff, Nat.reduceLT, Nat.reduceLeDiff, Int.reduceToNat, Int.reduceLE, Int.reduceLT, Int.toNat_natCast, reduceCtorEq] <;> first | with_reducible rfl | rfl) ?_
  refine aw_nils 2 2 rfl rfl ?_
  exact aw_ret ⟨_, rfl, [], by simp, by rw [hl]; rfl⟩
 ·refine aw_skip ?_
  have b1 : l.length ≤ 9223372036854775807 := by omega
  have b2 : l.length * 32 ≤ 140737488355328 := by omega
  have b3 : l.length * 24 ≤ 140737488355328 := by omega
  repeat refine aw_seq ?_
  refine aw_run ttOk (by kernel_rfl) (by simp only [erun, eall, estep, avs, tts, Nat.reduceAdd, Nat.reduceMul, Nat.reduceSub, Nat.reduceEqDiff, Nat.reduceLT, Nat.reduceLeDiff, Int.reduceToNat, Int.reduceLE, Int.reduceLT, Int.toNat_natCast, reduceCtorEq, inpsP, b1, b2, b3] <;> first | with_reducible rfl | rfl) ?_
  refine aw_ret ⟨_, rfl, _, rfl, ?_⟩
  simp only [avs, sealA, unI_dI, dI_len]
  rw [if_neg (by omega), show List.map (fun it : List PD => List.map AV.d it) (l.map fun x => [PD.v (.string x.1), PD.v (.int .i64 x.2)]) = dI _ from rfl, unI_dI]
  rfl
theorem clones_a (base : World) (l : List ByteArray) (hl : l.length ≤ 1000000) : PureA Tryz.prog base 40 [.d (strsP l)] (.d (strsP l)) := by
 refine pure_enter ttOk Tryz.call40 Tryz.func40 rfl fun H hB hb hF => ?_
 rw [Tryz.results40, Tryz.ntmps40]
 simp only [arr_list, List.length_cons, List.length_nil, List.replicate, List.cons_append, List.nil_append, Nat.reduceAdd, Nat.reduceSub]
 repeat refine aw_seq ?_
 refine aw_run ttOk (by kernel_rfl) (by simp only [erun, eall, estep, avs, tts, Nat.reduceAdd, Nat.reduceMul, Nat.reduceSub, Nat.reduceEqDiff, Nat.reduceLT, Nat.reduceLeDiff, Int.reduceToNat, Int.reduceLE, Int.reduceLT, Int.toNat_natCast, reduceCtorEq] <;> first | with_reducible rfl | rfl) ?_
 repeat refine aw_seq ?_
 refine aw_region ttOk (by kernel_rfl) ?_
 refine aops_run 1 (by simp only [erun, eall, estep, avs, tts, Nat.reduceAdd, Nat.reduceMul, Nat.reduceSub, Nat.reduceEqDiff, Nat.reduceLT, Nat.reduceLeDiff, Int.reduceToNat, Int.reduceLE, Int.reduceLT, Int.toNat_natCast, reduceCtorEq] <;> first | with_reducible rfl | rfl) ?_
 refine aops_nilcmp rfl rfl rfl rfl fun b hn => aops_nil ?_
 repeat refine aw_seq ?_
 refine aw_cond rfl rfl (fun hb => ?_) fun hb => ?_
 ·have hnl : (l.map fun s => [PD.v (.string s)]) = [] := hn (by simpa using hb)
  have hl : strsP l = .sl 1 [] := by unfold strsP; rw [hnl]
  repeat refine aw_seq ?_
  refine aw_run ttOk (by kernel_rfl) (by simp only [erun, eall, estep, avs, tts, Nat.reduceAdd, Nat.reduceMul, Nat.reduceSub, Nat.reduceEqDiff, Nat.reduceLT, Nat.reduceLeDiff, Int.reduceToNat, Int.reduceLE, Int.reduceLT, Int.toNat_natCast, reduceCtorEq] <;> first | with_reducible rfl | rfl) ?_
  refine aw_nils 2 1 rfl rfl ?_
  exact aw_ret ⟨_, rfl, [], by simp, by rw [hl]; rfl⟩
 ·refine aw_skip ?_
  have b1 : l.length ≤ 9223372036854775807 := by omega
  have b2 : l.length * 32 ≤ 140737488355328 := by omega
  have b3 : l.length * 16 ≤ 140737488355328 := by omega
  repeat refine aw_seq ?_
  refine aw_run ttOk (by kernel_rfl) (by simp only [erun, eall, estep, avs, tts, Nat.reduceAdd, Nat.reduceMul, Nat.reduceSub, Nat.reduceEqDiff, Nat.reduceLT, Nat.reduceLeDiff, Int.reduceToNat, Int.reduceLE, Int.reduceLT, Int.toNat_natCast, reduceCtorEq, strsP, b1, b2, b3] <;> first | with_reducible rfl | rfl) ?_
  refine aw_ret ⟨_, rfl, _, rfl, ?_⟩
  simp only [avs, sealA, unI_dI, dI_len]
  rw [if_neg (by omega), show List.map (fun it : List PD => List.map AV.d it) (l.map fun s => [PD.v (.string s)]) = dI _ from rfl, unI_dI]
  rfl
theorem uses_a {base : World} {H : AHeap} {Y : Lay} {B : Bk} (h : Book H Y B) (hu : ∀ x ∈ B.ents, x.st.uses.length ≤ 1000000) (id : ByteArray) : ReadA Tryz.prog base 19 [.ptr Y.bl 0, .d (.v (.string id))] H (.tup [(usesR B id).1, iA (usesR B id).2]) := by
 refine read_enter ttOk Tryz.call19 Tryz.func19 rfl fun hB hb hF => ?_
 rw [Tryz.results19, Tryz.ntmps19]
 simp only [arr_list, List.length_cons, List.length_nil, List.replicate, List.cons_append, List.nil_append, Nat.reduceAdd, Nat.reduceSub]
 unfold usesR
 repeat refine aw_seq ?_
 refine aw_run ttOk (by kernel_rfl) (by simp only [erun, eall, estep, avs, tts, Nat.reduceAdd, Nat.reduceMul, Nat.reduceSub, Nat.reduceEqDiff, Nat.reduceLT, Nat.reduceLeDiff, Int.reduceToNat, Int.reduceLE, Int.reduceLT, Int.toNat_natCast, reduceCtorEq] <;> first | with_reducible rfl | rfl) ?_
 repeat refine aw_seq ?_
 refine aw_region ttOk (by kernel_rfl) ?_
 refine aops_run 2 (by simp only [erun, eall, estep, avs, tts, Nat.reduceAdd, Nat.reduceMul, Nat.reduceSub, Nat.reduceEqDiff, Nat.reduceLT, Nat.reduceLeDiff, Int.reduceToNat, Int.reduceLE, Int.reduceLT, Int.toNat_natCast, reduceCtorEq] <;> first | with_reducible rfl | rfl) ?_
 refine aops_read rfl (by simp only [avs] <;> rfl) (find_a h id) (by simp only [avs] <;> rfl) ?_
 refine aops_run 1 (by simp only [erun, eall, estep, avs, tts, Nat.reduceAdd, Nat.reduceMul, Nat.reduceSub, Nat.reduceEqDiff, Nat.reduceLT, Nat.reduceLeDiff, Int.reduceToNat, Int.reduceLE, Int.reduceLT, Int.toNat_natCast, reduceCtorEq] <;> first | with_reducible rfl | rfl) ?_
 refine aops_nil ?_
 cases hf : findB B id with
 | none =>
  rw [findA_none hf]
  repeat refine aw_seq ?_
  refine aw_block ?_
  repeat refine aw_seq ?_
  refine aw_run ttOk (by kernel_rfl) (by simp only [erun, eall, estep, avs, tts, Nat.reduceAdd, Nat.reduceMul, Nat.reduceSub, Nat.reduceEqDiff, Nat.reduceLT, Nat.reduceLeDiff, Int.reduceToNat, Int.reduceLE, Int.reduceLT, Int.toNat_natCast, reduceCtorEq, nilP] <;> first | with_reducible rfl | rfl) ?_
  repeat refine aw_seq ?_
  refine aw_cond rfl rfl (fun hb => ?_) fun hb => ?_
  ·repeat refine aw_seq ?_
   refine aw_run ttOk (by kernel_rfl) (by simp only [erun, eall, estep, avs, tts, Nat.reduceAdd, Nat.reduceMul, Nat.reduceSub, Nat.reduceEqDiff, Nat.reduceLT, Nat.reduceLeDiff, Int.reduceToNat, Int.reduceLE, Int.reduceLT, Int.toNat_natCast, reduceCtorEq] <;> first | with_reducible rfl | rfl) ?_
   exact aw_ret ⟨_, rfl, [], by simp, rfl⟩
  ·cases hb
 | some i =>
  obtain ⟨x, hx, _⟩ := findB_some hf
  obtain ⟨nx, hn⟩ := h.box hx
  rw [findA_some hf]
  simp only [hx]
  repeat refine aw_seq ?_
  refine aw_block ?_
  repeat refine aw_seq ?_
  refine aw_run ttOk (by kernel_rfl) (by simp only [erun, eall, estep, avs, tts, Nat.reduceAdd, Nat.reduceMul, Nat.reduceSub, Nat.reduceEqDiff, Nat.reduceLT, Nat.reduceLeDiff, Int.reduceToNat, Int.reduceLE, Int.reduceLT, Int.toNat_natCast, reduceCtorEq, nilP] <;> first | with_reducible rfl | rfl) ?_
  repeat refine aw_seq ?_
  refine aw_cond rfl rfl (fun hb => ?_) fun hb => ?_
  ·cases hb
  repeat refine aw_seq ?_
  refine aw_run ttOk (by kernel_rfl) (by simp only [erun, eall, estep, avs, tts, Nat.reduceAdd, Nat.reduceMul, Nat.reduceSub, Nat.reduceEqDiff, Nat.reduceLT, Nat.reduceLeDiff, Int.reduceToNat, Int.reduceLE, Int.reduceLT, Int.toNat_natCast, reduceCtorEq, hn, entC] <;> first | with_reducible rfl | rfl) ?_
  repeat refine aw_seq ?_
  refine aw_cond rfl rfl (fun hb => ?_) fun hb => ?_
  ·repeat refine aw_seq ?_
   refine aw_run ttOk (by kernel_rfl) (by simp only [erun, eall, estep, avs, tts, Nat.reduceAdd, Nat.reduceMul, Nat.reduceSub, Nat.reduceEqDiff, Nat.reduceLT, Nat.reduceLeDiff, Int.reduceToNat, Int.reduceLE, Int.reduceLT, Int.toNat_natCast, reduceCtorEq] <;> first | with_reducible rfl | rfl) ?_
   exact aw_ret ⟨_, rfl, [], by simp, by rw [if_pos hb]; rfl⟩
  ·repeat refine aw_seq ?_
   refine aw_region ttOk (by kernel_rfl) ?_
   refine aops_run 5 (by simp only [erun, eall, estep, avs, tts, Nat.reduceAdd, Nat.reduceMul, Nat.reduceSub, Nat.reduceEqDiff, Nat.reduceLT, Nat.reduceLeDiff, Int.reduceToNat, Int.reduceLE, Int.reduceLT, Int.toNat_natCast, reduceCtorEq, hn, entC] <;> first | with_reducible rfl | rfl) ?_
   refine aops_pure rfl (by simp only [avs] <;> rfl) (clones_a base x.st.uses (hu x (List.mem_of_getElem? hx))) (by simp only [avs] <;> rfl) ?_
   refine aops_run 2 (by simp only [erun, eall, estep, avs, tts, Nat.reduceAdd, Nat.reduceMul, Nat.reduceSub, Nat.reduceEqDiff, Nat.reduceLT, Nat.reduceLeDiff, Int.reduceToNat, Int.reduceLE, Int.reduceLT, Int.toNat_natCast, reduceCtorEq] <;> first | with_reducible rfl | rfl) ?_
   refine aops_nil ?_
   exact aw_ret ⟨_, rfl, [], by simp, by rw [hb]; rfl⟩
end Av
end Go.Proofs.YtnkepmfgmfeabaaGreatDoor
set_option linter.unusedVariables false
set_option linter.unusedSimpArgs false
namespace Go.Proofs.YtnkepmfgmfeabaaGreatDoor
open Go Go.RowKit
namespace Av
def stL (l : List Ent) : List (List PD) := l.map fun x => stmC x.st
theorem Book.row {H : AHeap} {Y : Lay} {B : Bk} (h : Book H Y B) : (Y.od = none ∧ B.ents = []) ∨ ∃ l v, Y.od = some (l, v) ∧ H[l]? = some (.row 77 1 v (Y.L.map fun e => [.ptr e.b 0])) := by
 have h1 := h.ord
 rw [h.n1, List.take_of_length_le (by rw [h.len]; exact Nat.le_refl _)] at h1
 cases ho : Y.od with
 | none =>
  rw [ho] at h1
  have : Y.L = [] := by simpa [RowAt] using h1
  have h2 := h.len
  rw [this] at h2
  exact .inl ⟨rfl, List.eq_nil_of_length_eq_zero h2.symm⟩
 | some p =>
  rw [ho] at h1
  exact .inr ⟨p.1, p.2, rfl, h1⟩
theorem listb_a {base : World} {H : AHeap} {Y : Lay} {B : Bk} (h : Book H Y B) (hn : B.ents.length ≤ 1000000) : ReadA Tryz.prog base 15 [.ptr Y.bl 0] H (.d (.sl 9 (stL B.ents))) := by
 refine read_enter ttOk Tryz.call15 Tryz.func15 rfl fun hB hb hF => ?_
 rw [Tryz.results15, Tryz.ntmps15]
 simp only [arr_list, List.length_cons, List.length_nil, List.replicate, List.cons_append, List.nil_append, Nat.reduceAdd, Nat.reduceSub]
 have h1 := h.book
 have hLn := h.len
 rw [h.n1] at h1
 repeat refine aw_seq ?_
 refine aw_run ttOk (by kernel_rfl) (by simp only [erun, eall, estep, avs, tts, Nat.reduceAdd, Nat.reduceMul, Nat.reduceSub, Nat.reduceEqDiff, Nat.reduceLT, Nat.reduceLeDiff, Int.reduceToNat, Int.reduceLE, Int.reduceLT, Int.toNat_natCast, reduceCtorEq] <;> first | with_reducible rfl | rfl) ?_
 repeat refine aw_seq ?_
 refine aw_run ttOk (by kernel_rfl) (by simp only [erun, eall, estep, avs, tts, Nat.reduceAdd, Nat.reduceMul, Nat.reduceSub, Nat.reduceEqDiff, Nat.reduceLT, Nat.reduceLeDiff, Int.reduceToNat, Int.reduceLE, Int.reduceLT, Int.toNat_natCast, reduceCtorEq, nilP] <;> first | with_reducible rfl | rfl) ?_
 repeat refine aw_seq ?_
 refine aw_cond rfl rfl (fun hb => ?_) fun hb => ?_
 ·cases hb
 refine aw_skip ?_
 repeat refine aw_seq ?_
 refine aw_run ttOk (by kernel_rfl) (by simp only [erun, eall, estep, avs, tts, Nat.reduceAdd, Nat.reduceMul, Nat.reduceSub, Nat.reduceEqDiff, Nat.reduceLT, Nat.reduceLeDiff, Int.reduceToNat, Int.reduceLE, Int.reduceLT, Int.toNat_natCast, reduceCtorEq] <;> first | with_reducible rfl | rfl) ?_
 rcases h.row with ⟨ho, hE⟩ | ⟨ol, ov, ho, hrow⟩
 ·rw [ho, hE] at h1
  repeat refine aw_seq ?_
  refine aw_run ttOk (by kernel_rfl) (by simp only [erun, eall, estep, avs, tts, Nat.reduceAdd, Nat.reduceMul, Nat.reduceSub, Nat.reduceEqDiff, Nat.reduceLT, Nat.reduceLeDiff, Int.reduceToNat, Int.reduceLE, Int.reduceLT, Int.toNat_natCast, reduceCtorEq, h1, slA, nilS] <;> first | with_reducible rfl | rfl) ?_
  refine aw_block (aw_loop (fun m env H' => m = 0 ∧ H' = H ∧ env = .undef :: .undef :: .undef :: nilS :: List.replicate 8 .undef ++ [iA 0, iA 0] ++ List.replicate 12 .undef) ?_ ⟨rfl, rfl, rfl⟩ ?_)
  ·simp [Goes, EnvLe, nilS, iA, List.replicate]
  rintro m env H' ⟨rfl, rfl, rfl⟩ hN
  simp only [List.replicate, List.cons_append, List.nil_append, iA, nilS]
  repeat refine aw_seq ?_
  refine aw_run ttOk (by kernel_rfl) (by simp only [erun, eall, estep, avs, tts, Nat.reduceAdd, Nat.reduceMul, Nat.reduceSub, Nat.reduceEqDiff, Nat.reduceLT, Nat.reduceLeDiff, Int.reduceToNat, Int.reduceLE, Int.reduceLT, Int.toNat_natCast, reduceCtorEq] <;> first | with_reducible rfl | rfl) ?_
  repeat refine aw_seq ?_
  refine aw_cond rfl rfl (fun hb => ?_) fun hb => ?_
  ·cases hb
  refine aw_exit ?_
  repeat refine aw_seq ?_
  refine aw_run ttOk (by kernel_rfl) (by simp only [erun, eall, estep, avs, tts, Nat.reduceAdd, Nat.reduceMul, Nat.reduceSub, Nat.reduceEqDiff, Nat.reduceLT, Nat.reduceLeDiff, Int.reduceToNat, Int.reduceLE, Int.reduceLT, Int.toNat_natCast, reduceCtorEq] <;> first | with_reducible rfl | rfl) ?_
  refine aw_nils 2 9 rfl rfl ?_
  exact aw_ret ⟨_, rfl, [], by simp, by rw [hE]; rfl⟩
 rw [ho] at h1
 have c1 : (Y.L.map fun e => [AV.ptr e.b 0]).length = B.ents.length := by rw [List.length_map, hLn]
 repeat refine aw_seq ?_
 refine aw_run ttOk (by kernel_rfl) (by simp only [erun, eall, estep, avs, tts, Nat.reduceAdd, Nat.reduceMul, Nat.reduceSub, Nat.reduceEqDiff, Nat.reduceLT, Nat.reduceLeDiff, Int.reduceToNat, Int.reduceLE, Int.reduceLT, Int.toNat_natCast, reduceCtorEq, h1, slA, hrow, hLn] <;> first | with_reducible rfl | rfl) ?_
 refine aw_block (aw_loop (fun m env H' => ∃ k, m = B.ents.length - k ∧ k ≤ B.ents.length ∧ ((k = 0 ∧ H' = H ∧ env = .undef :: .undef :: .undef :: nilS :: List.replicate 7 .undef ++ [.ms ol ov B.ents.length, iA B.ents.length, iA k] ++ List.replicate 12 .undef) ∨
   (∃ T, T.bel (H.length + 2) ∧ H' = H ++ [T, .row 27 9 0 (dI (stL (B.ents.take k)))] ∧ env = .undef :: .undef :: .undef :: .ms (H.length + 1) 0 k :: List.replicate 7 .undef ++ [.ms ol ov B.ents.length, iA B.ents.length, iA k] ++ List.replicate 12 .undef))) ?_ ⟨0, rfl, Nat.zero_le _, .inl ⟨rfl, rfl, rfl⟩⟩ ?_)
 ·simp [Goes, EnvLe, nilS, iA, List.replicate]
 rintro m env H' ⟨k, rfl, hk, ⟨hk0, rfl, rfl⟩ | ⟨T, hTb, rfl, rfl⟩⟩ hN
 ·simp only [List.replicate, List.cons_append, List.nil_append, iA, nilS]
  repeat refine aw_seq ?_
  refine aw_run ttOk (by kernel_rfl) (by simp only [erun, eall, estep, avs, tts, Nat.reduceAdd, Nat.reduceMul, Nat.reduceSub, Nat.reduceEqDiff, Nat.reduceLT, Nat.reduceLeDiff, Int.reduceToNat, Int.reduceLE, Int.reduceLT, Int.toNat_natCast, reduceCtorEq] <;> first | with_reducible rfl | rfl) ?_
  repeat refine aw_seq ?_
  refine aw_cond rfl rfl (fun hb => ?_) fun hb => ?_
  ·have hlt : k < B.ents.length := by simpa using hb
   have hix : (0 : Int) ≤ (k : Int) := by omega
   obtain ⟨x, hx⟩ : ∃ x, B.ents[k]? = some x := ⟨_, List.getElem?_eq_getElem hlt⟩
   obtain ⟨e, he, _⟩ := h.lay hx
   have hbx := (h.ent k e x he hx).1
   have hgd : (Y.L.map fun e => [AV.ptr e.b 0]).getD k [] = [.ptr e.b 0] := by simp [List.getD, he]
   refine aw_skip ?_
   repeat refine aw_seq ?_
   refine aw_block ?_
   repeat refine aw_seq ?_
   refine aw_run ttOk (by kernel_rfl) (by simp only [erun, eall, estep, avs, tts, Nat.reduceAdd, Nat.reduceMul, Nat.reduceSub, Nat.reduceEqDiff, Nat.reduceLT, Nat.reduceLeDiff, Int.reduceToNat, Int.reduceLE, Int.reduceLT, Int.toNat_natCast, reduceCtorEq, hrow, hgd, hlt, hLn, hix] <;> first | with_reducible rfl | rfl) ?_
   repeat refine aw_seq ?_
   refine aw_run ttOk (by kernel_rfl) (by simp only [erun, eall, estep, avs, tts, Nat.reduceAdd, Nat.reduceMul, Nat.reduceSub, Nat.reduceEqDiff, Nat.reduceLT, Nat.reduceLeDiff, Int.reduceToNat, Int.reduceLE, Int.reduceLT, Int.toNat_natCast, reduceCtorEq, hbx, entC, strsP, inpsP] <;> first | with_reducible rfl | rfl) ?_
   repeat refine aw_seq ?_
   refine aw_run ttOk (by kernel_rfl) (by simp only [erun, eall, estep, avs, tts, Nat.reduceAdd, Nat.reduceMul, Nat.reduceSub, Nat.reduceEqDiff, Nat.reduceLT, Nat.reduceLeDiff, Int.reduceToNat, Int.reduceLE, Int.reduceLT, Int.toNat_natCast, reduceCtorEq, wrap_succ hlt (by omega : B.ents.length ≤ 9223372036854775807)] <;> first | with_reducible rfl | rfl) ?_
   refine ⟨B.ents.length - (k + 1), _, _, by omega, ⟨?_, .inl rfl⟩, k + 1, rfl, hlt, .inr ⟨.row 27 9 0 (dI (stL [x])), bel_dI _, ?_, rfl⟩⟩
   ·subst hk0
    simp [EnvLe, List.replicate, iA]
   ·subst hk0
    have : B.ents.take (0 + 1) = [x] := by rw [List.take_add_one, hx]; rfl
    rw [this]
    rfl
  ·refine aw_exit ?_
   have hkl : k = B.ents.length := by simp at hb; omega
   have hE : B.ents = [] := List.eq_nil_of_length_eq_zero (by omega)
   repeat refine aw_seq ?_
   refine aw_run ttOk (by kernel_rfl) (by simp only [erun, eall, estep, avs, tts, Nat.reduceAdd, Nat.reduceMul, Nat.reduceSub, Nat.reduceEqDiff, Nat.reduceLT, Nat.reduceLeDiff, Int.reduceToNat, Int.reduceLE, Int.reduceLT, Int.toNat_natCast, reduceCtorEq] <;> first | with_reducible rfl | rfl) ?_
   refine aw_nils 2 9 rfl rfl ?_
   exact aw_ret ⟨_, rfl, [], by simp, by rw [hE]; rfl⟩
 ·simp only [List.replicate, List.cons_append, List.nil_append, iA, nilS]
  have hsl : (stL (B.ents.take k)).length = k := by unfold stL; rw [List.length_map, List.length_take]; omega
  have hrow' := got hrow
  repeat refine aw_seq ?_
  refine aw_run ttOk (by kernel_rfl) (by simp only [erun, eall, estep, avs, tts, Nat.reduceAdd, Nat.reduceMul, Nat.reduceSub, Nat.reduceEqDiff, Nat.reduceLT, Nat.reduceLeDiff, Int.reduceToNat, Int.reduceLE, Int.reduceLT, Int.toNat_natCast, reduceCtorEq] <;> first | with_reducible rfl | rfl) ?_
  repeat refine aw_seq ?_
  refine aw_cond rfl rfl (fun hb => ?_) fun hb => ?_
  ·have hlt : k < B.ents.length := by simpa using hb
   have hix : (0 : Int) ≤ (k : Int) := by omega
   obtain ⟨x, hx⟩ : ∃ x, B.ents[k]? = some x := ⟨_, List.getElem?_eq_getElem hlt⟩
   obtain ⟨e, he, _⟩ := h.lay hx
   have hbx := got (h.ent k e x he hx).1
   have hgd : (Y.L.map fun e => [AV.ptr e.b 0]).getD k [] = [.ptr e.b 0] := by simp [List.getD, he]
   have b1 : k + 1 ≤ 9223372036854775807 := by omega
   have b2 : (k + 1) * 160 ≤ 140737488355328 := by omega
   refine aw_skip ?_
   repeat refine aw_seq ?_
   refine aw_block ?_
   repeat refine aw_seq ?_
   refine aw_run ttOk (by kernel_rfl) (by simp only [erun, eall, estep, avs, tts, Nat.reduceAdd, Nat.reduceMul, Nat.reduceSub, Nat.reduceEqDiff, Nat.reduceLT, Nat.reduceLeDiff, Int.reduceToNat, Int.reduceLE, Int.reduceLT, Int.toNat_natCast, reduceCtorEq, hrow', hgd, hlt, hLn, hix] <;> first | with_reducible rfl | rfl) ?_
   repeat refine aw_seq ?_
   refine aw_run ttOk (by kernel_rfl) (by simp only [erun, eall, estep, avs, tts, Nat.reduceAdd, Nat.reduceMul, Nat.reduceSub, Nat.reduceEqDiff, Nat.reduceLT, Nat.reduceLeDiff, Int.reduceToNat, Int.reduceLE, Int.reduceLT, Int.toNat_natCast, reduceCtorEq, hbx, entC, strsP, inpsP, dI_len, hsl, b1, b2] <;> first | with_reducible rfl | rfl) ?_
   repeat refine aw_seq ?_
   refine aw_run ttOk (by kernel_rfl) (by simp only [erun, eall, estep, avs, tts, Nat.reduceAdd, Nat.reduceMul, Nat.reduceSub, Nat.reduceEqDiff, Nat.reduceLT, Nat.reduceLeDiff, Int.reduceToNat, Int.reduceLE, Int.reduceLT, Int.toNat_natCast, reduceCtorEq, wrap_succ hlt (by omega : B.ents.length ≤ 9223372036854775807)] <;> first | with_reducible rfl | rfl) ?_
   refine ⟨B.ents.length - (k + 1), _, _, by omega, ⟨?_, .inr ⟨by simp, ?_, .more hB (.cons ?_ (.cons (bel_dI _) .nil)), ?_⟩⟩, k + 1, rfl, hlt, .inr ⟨T, hTb, rfl, rfl⟩⟩
   ·simp [EnvLe, List.replicate, iA, dI_len, hsl]
   ·simp [belL, AV.bel, List.replicate, iA]
    have := lt_of_get hrow
    omega
   ·simpa using hTb
   ·refine ⟨[.row 27 9 0 (dI (stL [x]))], ?_⟩
    have : B.ents.take (k + 1) = B.ents.take k ++ [x] := by rw [List.take_add_one, hx]; rfl
    rw [this, show stL (B.ents.take k ++ [x]) = stL (B.ents.take k) ++ stL [x] from List.map_append, ← dI_app]
    simp only [List.append_assoc, List.cons_append, List.nil_append]
    rfl
  ·refine aw_exit ?_
   have hkl : k = B.ents.length := by simp at hb; omega
   repeat refine aw_seq ?_
   refine aw_run ttOk (by kernel_rfl) (by simp only [erun, eall, estep, avs, tts, Nat.reduceAdd, Nat.reduceMul, Nat.reduceSub, Nat.reduceEqDiff, Nat.reduceLT, Nat.reduceLeDiff, Int.reduceToNat, Int.reduceLE, Int.reduceLT, Int.toNat_natCast, reduceCtorEq] <;> first | with_reducible rfl | rfl) ?_
   refine aw_ret ⟨_, rfl, _, rfl, ?_⟩
   simp only [avs, sealA, unI_dI, dI_len, hsl]
   rw [if_neg (by omega), hkl, List.take_length]
end Av
end Go.Proofs.YtnkepmfgmfeabaaGreatDoor
set_option linter.unusedVariables false
set_option linter.unusedSimpArgs false
namespace Go.Proofs.YtnkepmfgmfeabaaGreatDoor
open Go Go.RowKit
namespace Av
theorem RowAt.app {H : AHeap} {o : OR} {items : List (List AV)} (h : RowAt H o items) (G : AHeap) : RowAt (H ++ G) o items := by
 cases o with
 | none => exact h
 | some p => exact got h G
theorem BookAt.app {H : AHeap} {Y : Lay} {B : Bk} (h : BookAt H Y B) (G : AHeap) : BookAt (H ++ G) Y B :=
 ⟨h.len, got h.book G, h.ord.app G, got h.byId G, got h.used G, fun i e x he hx => ⟨got (h.ent i e x he hx).1 G, (h.ent i e x he hx).2.1.app G, (h.ent i e x he hx).2.2⟩, h.dbox, h.drow, h.dord⟩
theorem Book.app {H : AHeap} {Y : Lay} {B : Bk} (h : Book H Y B) (G : AHeap) : Book (H ++ G) Y B := ⟨h.toBookAt.app G, h.n1, h.n2, h.n3⟩
/-! searching -/
def bA (b : Bool) : AV := .d (.v (.bool b))
def idxR (p : ByteArray → Bool) (l : List ByteArray) : Int := match l.findIdx? p with
 | some i => (i : Int)
 | none => -1
theorem idx_some {p : ByteArray → Bool} {l : List ByteArray} {k : Nat} (hk : k < l.length) (hj : ∀ j, j < k → ∀ h : j < l.length, p l[j] = false) (h : p l[k] = true) : idxR p l = k := by
 unfold idxR
 rw [show l.findIdx? p = some k from by
  rw [List.findIdx?_eq_some_iff_getElem]
  exact ⟨hk, h, fun j hjk => by simp [hj j hjk (by omega)]⟩]
theorem idx_none {p : ByteArray → Bool} {l : List ByteArray} (hj : ∀ j, j < l.length → ∀ h : j < l.length, p l[j] = false) : idxR p l = -1 := by
 unfold idxR
 rw [show l.findIdx? p = none from by
  rw [List.findIdx?_eq_none_iff]
  intro x hx
  obtain ⟨i, hi, rfl⟩ := List.mem_iff_getElem.1 hx
  exact hj i hi hi]
theorem idx_ge {p : ByteArray → Bool} {l : List ByteArray} : decide (0 ≤ idxR p l) = l.any p := by
 unfold idxR
 cases h : l.findIdx? p with
 | none =>
  rw [List.findIdx?_eq_none_iff] at h
  have : l.any p = false := by rw [List.any_eq_false]; exact fun x hx => by simp [h x hx]
  rw [this]; rfl
 | some i =>
  rw [List.findIdx?_eq_some_iff_getElem] at h
  obtain ⟨h1, h2, _⟩ := h
  have : l.any p = true := List.any_eq_true.2 ⟨_, List.getElem_mem h1, h2⟩
  rw [this]
  simp
theorem index_a (base : World) (l : List ByteArray) (s : ByteArray) : PureA Tryz.prog base 104 [.d (strsP l), .d (.v (.string s))] (iA (idxR (fun x => decide (s = x)) l)) := by
 refine pure_enter ttOk Tryz.call104 Tryz.func104 rfl fun H hB hb hF => ?_
 rw [Tryz.results104, Tryz.ntmps104]
 simp only [arr_list, List.length_cons, List.length_nil, List.replicate, List.cons_append, List.nil_append, Nat.reduceAdd, Nat.reduceSub]
 have hL : l.length ≤ 9223372036854775807 := by simpa [strsP, fctL, fctA, fctP] using hF.1.1
 repeat refine aw_seq ?_
 refine aw_run ttOk (by kernel_rfl) (by simp only [erun, eall, estep, avs, tts, Nat.reduceAdd, Nat.reduceMul, Nat.reduceSub, Nat.reduceEqDiff, Nat.reduceLT, Nat.reduceLeDiff, Int.reduceToNat, Int.reduceLE, Int.reduceLT, Int.toNat_natCast, reduceCtorEq] <;> first | with_reducible rfl | rfl) ?_
 repeat refine aw_seq ?_
 refine aw_run ttOk (by kernel_rfl) (by simp only [erun, eall, estep, avs, tts, Nat.reduceAdd, Nat.reduceMul, Nat.reduceSub, Nat.reduceEqDiff, Nat.reduceLT, Nat.reduceLeDiff, Int.reduceToNat, Int.reduceLE, Int.reduceLT, Int.toNat_natCast, reduceCtorEq, strsP] <;> first | with_reducible rfl | rfl) ?_
 refine aw_block (aw_loop (fun n env H' => ∃ k, n = l.length - k ∧ k ≤ l.length ∧ H' = H ∧ (∀ j, j < k → ∀ h : j < l.length, decide (s = l[j]) = false) ∧ env = [.d (strsP l), .d (.v (.string s)), .undef, .undef, .undef, .undef, .undef, iA l.length, iA k] ++ List.replicate 10 .undef) ?_ ⟨0, rfl, Nat.zero_le _, rfl, fun j hj => by omega, rfl⟩ ?_)
 ·simp [Goes, EnvLe, strsP, iA, List.replicate]
 rintro n env H' ⟨k, rfl, hk, rfl, hj, rfl⟩ hN
 simp only [List.replicate, List.cons_append, List.nil_append, iA]
 repeat refine aw_seq ?_
 refine aw_run ttOk (by kernel_rfl) (by simp only [erun, eall, estep, avs, tts, Nat.reduceAdd, Nat.reduceMul, Nat.reduceSub, Nat.reduceEqDiff, Nat.reduceLT, Nat.reduceLeDiff, Int.reduceToNat, Int.reduceLE, Int.reduceLT, Int.toNat_natCast, reduceCtorEq] <;> first | with_reducible rfl | rfl) ?_
 repeat refine aw_seq ?_
 refine aw_cond rfl rfl (fun hb => ?_) fun hb => ?_
 ·have hlt : k < l.length := by simpa using hb
  have hix : (0 : Int) ≤ (k : Int) := by omega
  have hgd : (l.map fun s => [PD.v (.string s)]).getD k [] = [.v (.string l[k])] := by simp [hlt]
  refine aw_skip ?_
  repeat refine aw_seq ?_
  refine aw_block ?_
  repeat refine aw_seq ?_
  refine aw_run ttOk (by kernel_rfl) (by simp only [erun, eall, estep, avs, tts, Nat.reduceAdd, Nat.reduceMul, Nat.reduceSub, Nat.reduceEqDiff, Nat.reduceLT, Nat.reduceLeDiff, Int.reduceToNat, Int.reduceLE, Int.reduceLT, Int.toNat_natCast, reduceCtorEq] <;> first | with_reducible rfl | rfl) ?_
  repeat refine aw_seq ?_
  refine aw_run ttOk (by kernel_rfl) (by simp only [erun, eall, estep, avs, tts, Nat.reduceAdd, Nat.reduceMul, Nat.reduceSub, Nat.reduceEqDiff, Nat.reduceLT, Nat.reduceLeDiff, Int.reduceToNat, Int.reduceLE, Int.reduceLT, Int.toNat_natCast, reduceCtorEq, strsP, hgd, hix, hlt] <;> first | with_reducible rfl | rfl) ?_
  repeat refine aw_seq ?_
  refine aw_cond rfl rfl (fun hb => ?_) fun hb => ?_
  ·repeat refine aw_seq ?_
   refine aw_run ttOk (by kernel_rfl) (by simp only [erun, eall, estep, avs, tts, Nat.reduceAdd, Nat.reduceMul, Nat.reduceSub, Nat.reduceEqDiff, Nat.reduceLT, Nat.reduceLeDiff, Int.reduceToNat, Int.reduceLE, Int.reduceLT, Int.toNat_natCast, reduceCtorEq] <;> first | with_reducible rfl | rfl) ?_
   exact aw_ret ⟨_, rfl, [], by simp, by rw [idx_some hlt hj hb]; rfl⟩
  ·refine aw_skip ?_
   repeat refine aw_seq ?_
   refine aw_run ttOk (by kernel_rfl) (by simp only [erun, eall, estep, avs, tts, Nat.reduceAdd, Nat.reduceMul, Nat.reduceSub, Nat.reduceEqDiff, Nat.reduceLT, Nat.reduceLeDiff, Int.reduceToNat, Int.reduceLE, Int.reduceLT, Int.toNat_natCast, reduceCtorEq, wrap_succ hlt hL] <;> first | with_reducible rfl | rfl) ?_
   refine ⟨l.length - (k + 1), _, _, by omega, ⟨?_, .inl rfl⟩, k + 1, rfl, hlt, rfl, fun j hjk h => ?_, rfl⟩
   ·simp [EnvLe, strsP, iA, List.replicate]
   ·rcases Nat.lt_succ_iff_lt_or_eq.1 hjk with h1 | rfl
    ·exact hj j h1 h
    ·exact hb
 ·refine aw_exit ?_
  repeat refine aw_seq ?_
  refine aw_run ttOk (by kernel_rfl) (by simp only [erun, eall, estep, avs, tts, Nat.reduceAdd, Nat.reduceMul, Nat.reduceSub, Nat.reduceEqDiff, Nat.reduceLT, Nat.reduceLeDiff, Int.reduceToNat, Int.reduceLE, Int.reduceLT, Int.toNat_natCast, reduceCtorEq] <;> first | with_reducible rfl | rfl) ?_
  have hkL : k = l.length := by simp at hb; omega
  exact aw_ret ⟨_, rfl, [], by simp, by rw [idx_none fun j hjl => hj j (by omega)]; rfl⟩
theorem contains_a (base : World) (l : List ByteArray) (s : ByteArray) : PureA Tryz.prog base 76 [.d (strsP l), .d (.v (.string s))] (bA (l.any fun x => decide (s = x))) := by
 refine pure_enter ttOk Tryz.call76 Tryz.func76 rfl fun H hB hb hF => ?_
 rw [Tryz.results76, Tryz.ntmps76]
 simp only [arr_list, List.length_cons, List.length_nil, List.replicate, List.cons_append, List.nil_append, Nat.reduceAdd, Nat.reduceSub]
 repeat refine aw_seq ?_
 refine aw_run ttOk (by kernel_rfl) (by simp only [erun, eall, estep, avs, tts, Nat.reduceAdd, Nat.reduceMul, Nat.reduceSub, Nat.reduceEqDiff, Nat.reduceLT, Nat.reduceLeDiff, Int.reduceToNat, Int.reduceLE, Int.reduceLT, Int.toNat_natCast, reduceCtorEq] <;> first | with_reducible rfl | rfl) ?_
 repeat refine aw_seq ?_
 refine aw_region ttOk (by kernel_rfl) ?_
 refine aops_run 2 (by simp only [erun, eall, estep, avs, tts, Nat.reduceAdd, Nat.reduceMul, Nat.reduceSub, Nat.reduceEqDiff, Nat.reduceLT, Nat.reduceLeDiff, Int.reduceToNat, Int.reduceLE, Int.reduceLT, Int.toNat_natCast, reduceCtorEq] <;> first | with_reducible rfl | rfl) ?_
 refine aops_pure rfl (by simp only [avs] <;> rfl) (index_a base l s) (by simp only [avs] <;> rfl) ?_
 refine aops_run 2 (by simp only [erun, eall, estep, avs, tts, Nat.reduceAdd, Nat.reduceMul, Nat.reduceSub, Nat.reduceEqDiff, Nat.reduceLT, Nat.reduceLeDiff, Int.reduceToNat, Int.reduceLE, Int.reduceLT, Int.toNat_natCast, reduceCtorEq, iA] <;> first | with_reducible rfl | rfl) ?_
 refine aops_nil ?_
 exact aw_ret ⟨_, rfl, [], by simp, by rw [← idx_ge]; rfl⟩
theorem indexf_a {base : World} {H : AHeap} (l : List ByteArray) (p : ByteArray → Bool) (g : Nat) (first caps : List AV) (hg : ∀ s ∈ l, ReadA Tryz.prog base g (first ++ [.d (.v (.string s))] ++ caps) H (bA (p s))) : ReadA Tryz.prog base 103 [.d (strsP l), .fn (.func g) first caps] H (iA (idxR p l)) := by
 refine read_enter ttOk Tryz.call103 Tryz.func103 rfl fun hB hb hF => ?_
 rw [Tryz.results103, Tryz.ntmps103]
 simp only [arr_list, List.length_cons, List.length_nil, List.replicate, List.cons_append, List.nil_append, Nat.reduceAdd, Nat.reduceSub]
 have hL : l.length ≤ 9223372036854775807 := by simpa [strsP, fctL, fctA, fctP] using hF.1.1
 repeat refine aw_seq ?_
 refine aw_run ttOk (by kernel_rfl) (by simp only [erun, eall, estep, avs, tts, Nat.reduceAdd, Nat.reduceMul, Nat.reduceSub, Nat.reduceEqDiff, Nat.reduceLT, Nat.reduceLeDiff, Int.reduceToNat, Int.reduceLE, Int.reduceLT, Int.toNat_natCast, reduceCtorEq] <;> first | with_reducible rfl | rfl) ?_
 repeat refine aw_seq ?_
 refine aw_run ttOk (by kernel_rfl) (by simp only [erun, eall, estep, avs, tts, Nat.reduceAdd, Nat.reduceMul, Nat.reduceSub, Nat.reduceEqDiff, Nat.reduceLT, Nat.reduceLeDiff, Int.reduceToNat, Int.reduceLE, Int.reduceLT, Int.toNat_natCast, reduceCtorEq, strsP] <;> first | with_reducible rfl | rfl) ?_
 refine aw_block (aw_loop (fun n env H' => ∃ k, n = l.length - k ∧ k ≤ l.length ∧ H' = H ∧ (∀ j, j < k → ∀ h : j < l.length, p l[j] = false) ∧ env = [.d (strsP l), .fn (.func g) first caps, .undef, .undef, .undef, .undef, .undef, iA l.length, iA k] ++ List.replicate 10 .undef) ?_ ⟨0, rfl, Nat.zero_le _, rfl, fun j hj => by omega, rfl⟩ ?_)
 ·simp [Goes, EnvLe, strsP, iA, List.replicate]
 rintro n env H' ⟨k, rfl, hk, rfl, hj, rfl⟩ hN
 simp only [List.replicate, List.cons_append, List.nil_append, iA]
 repeat refine aw_seq ?_
 refine aw_run ttOk (by kernel_rfl) (by simp only [erun, eall, estep, avs, tts, Nat.reduceAdd, Nat.reduceMul, Nat.reduceSub, Nat.reduceEqDiff, Nat.reduceLT, Nat.reduceLeDiff, Int.reduceToNat, Int.reduceLE, Int.reduceLT, Int.toNat_natCast, reduceCtorEq] <;> first | with_reducible rfl | rfl) ?_
 repeat refine aw_seq ?_
 refine aw_cond rfl rfl (fun hb => ?_) fun hb => ?_
 ·have hlt : k < l.length := by simpa using hb
  have hix : (0 : Int) ≤ (k : Int) := by omega
  have hgd : (l.map fun s => [PD.v (.string s)]).getD k [] = [.v (.string l[k])] := by simp [hlt]
  refine aw_skip ?_
  repeat refine aw_seq ?_
  refine aw_block ?_
  repeat refine aw_seq ?_
  refine aw_run ttOk (by kernel_rfl) (by simp only [erun, eall, estep, avs, tts, Nat.reduceAdd, Nat.reduceMul, Nat.reduceSub, Nat.reduceEqDiff, Nat.reduceLT, Nat.reduceLeDiff, Int.reduceToNat, Int.reduceLE, Int.reduceLT, Int.toNat_natCast, reduceCtorEq] <;> first | with_reducible rfl | rfl) ?_
  repeat refine aw_seq ?_
  refine aw_region ttOk (by kernel_rfl) ?_
  refine aops_run 5 (by simp only [erun, eall, estep, avs, tts, Nat.reduceAdd, Nat.reduceMul, Nat.reduceSub, Nat.reduceEqDiff, Nat.reduceLT, Nat.reduceLeDiff, Int.reduceToNat, Int.reduceLE, Int.reduceLT, Int.toNat_natCast, reduceCtorEq, strsP, hgd, hix, hlt] <;> first | with_reducible rfl | rfl) ?_
  refine aops_read rfl (by simp only [avs] <;> rfl) (hg _ (List.getElem_mem hlt)) (by simp only [avs] <;> rfl) ?_
  refine aops_nil ?_
  repeat refine aw_seq ?_
  refine aw_cond rfl rfl (fun hb => ?_) fun hb => ?_
  ·repeat refine aw_seq ?_
   refine aw_run ttOk (by kernel_rfl) (by simp only [erun, eall, estep, avs, tts, Nat.reduceAdd, Nat.reduceMul, Nat.reduceSub, Nat.reduceEqDiff, Nat.reduceLT, Nat.reduceLeDiff, Int.reduceToNat, Int.reduceLE, Int.reduceLT, Int.toNat_natCast, reduceCtorEq] <;> first | with_reducible rfl | rfl) ?_
   exact aw_ret ⟨_, rfl, [], by simp, by rw [idx_some hlt hj hb]; rfl⟩
  ·refine aw_skip ?_
   repeat refine aw_seq ?_
   refine aw_run ttOk (by kernel_rfl) (by simp only [erun, eall, estep, avs, tts, Nat.reduceAdd, Nat.reduceMul, Nat.reduceSub, Nat.reduceEqDiff, Nat.reduceLT, Nat.reduceLeDiff, Int.reduceToNat, Int.reduceLE, Int.reduceLT, Int.toNat_natCast, reduceCtorEq, wrap_succ hlt hL] <;> first | with_reducible rfl | rfl) ?_
   refine ⟨l.length - (k + 1), _, _, by omega, ⟨?_, .inl rfl⟩, k + 1, rfl, hlt, rfl, fun j hjk h => ?_, rfl⟩
   ·simp [EnvLe, strsP, iA, List.replicate]
   ·rcases Nat.lt_succ_iff_lt_or_eq.1 hjk with h1 | rfl
    ·exact hj j h1 h
    ·exact hb
 ·refine aw_exit ?_
  repeat refine aw_seq ?_
  refine aw_run ttOk (by kernel_rfl) (by simp only [erun, eall, estep, avs, tts, Nat.reduceAdd, Nat.reduceMul, Nat.reduceSub, Nat.reduceEqDiff, Nat.reduceLT, Nat.reduceLeDiff, Int.reduceToNat, Int.reduceLE, Int.reduceLT, Int.toNat_natCast, reduceCtorEq] <;> first | with_reducible rfl | rfl) ?_
  have hkL : k = l.length := by simp at hb; omega
  exact aw_ret ⟨_, rfl, [], by simp, by rw [idx_none fun j hjl => hj j (by omega)]; rfl⟩
theorem containsf_a {base : World} {H : AHeap} (l : List ByteArray) (p : ByteArray → Bool) (g : Nat) (first caps : List AV) (hg : ∀ s ∈ l, ReadA Tryz.prog base g (first ++ [.d (.v (.string s))] ++ caps) H (bA (p s))) : ReadA Tryz.prog base 74 [.d (strsP l), .fn (.func g) first caps] H (bA (l.any p)) := by
 refine read_enter ttOk Tryz.call74 Tryz.func74 rfl fun hB hb hF => ?_
 rw [Tryz.results74, Tryz.ntmps74]
 simp only [arr_list, List.length_cons, List.length_nil, List.replicate, List.cons_append, List.nil_append, Nat.reduceAdd, Nat.reduceSub]
 repeat refine aw_seq ?_
 refine aw_run ttOk (by kernel_rfl) (by simp only [erun, eall, estep, avs, tts, Nat.reduceAdd, Nat.reduceMul, Nat.reduceSub, Nat.reduceEqDiff, Nat.reduceLT, Nat.reduceLeDiff, Int.reduceToNat, Int.reduceLE, Int.reduceLT, Int.toNat_natCast, reduceCtorEq] <;> first | with_reducible rfl | rfl) ?_
 repeat refine aw_seq ?_
 refine aw_region ttOk (by kernel_rfl) ?_
 refine aops_run 2 (by simp only [erun, eall, estep, avs, tts, Nat.reduceAdd, Nat.reduceMul, Nat.reduceSub, Nat.reduceEqDiff, Nat.reduceLT, Nat.reduceLeDiff, Int.reduceToNat, Int.reduceLE, Int.reduceLT, Int.toNat_natCast, reduceCtorEq] <;> first | with_reducible rfl | rfl) ?_
 refine aops_read rfl (by simp only [avs] <;> rfl) (indexf_a l p g first caps hg) (by simp only [avs] <;> rfl) ?_
 refine aops_run 2 (by simp only [erun, eall, estep, avs, tts, Nat.reduceAdd, Nat.reduceMul, Nat.reduceSub, Nat.reduceEqDiff, Nat.reduceLT, Nat.reduceLeDiff, Int.reduceToNat, Int.reduceLE, Int.reduceLT, Int.toNat_natCast, reduceCtorEq, iA] <;> first | with_reducible rfl | rfl) ?_
 refine aops_nil ?_
 exact aw_ret ⟨_, rfl, [], by simp, by rw [← idx_ge]; rfl⟩
end Av
end Go.Proofs.YtnkepmfgmfeabaaGreatDoor
set_option linter.unusedVariables false
set_option linter.unusedSimpArgs false
namespace Go.Proofs.YtnkepmfgmfeabaaGreatDoor
open Go Go.RowKit
namespace Av

/-! A statement that asks to be added. -/
def stA (s : Stm) : List AV := [.d (.v (.string s.id)), .d (.v (.string s.prod)), .d (.v (.int .i64 s.q)), .d (.v (.string s.holder)), .d (strsP s.uses), .d (inpsP s.inputs), .d (.v (.int .i64 s.idx)), .d (strsP s.sig), .d (strsP s.path)]
structure CandAt (H : AHeap) (cl : Nat) (Y : Lay) (B : Bk) (s : Stm) (ins : List Nat) (od : OR) : Prop where
 box : H[cl]? = some (.box 87 [.ptr Y.bl 0, .d (.v (.string s.id)), .d (.v (.string s.prod)), .d (.v (.int .i64 s.q)), .d (.v (.string s.holder)), .d (strsP s.uses), .d (inpsP s.inputs), .d (.v (.int .i64 s.idx)), .d (strsP s.sig), .d (strsP s.path), slA od ins.length])
 row : RowAt H od (ins.map fun j => [.ptr (Y.eb j) 0])
 lt : ∀ j ∈ ins, j < B.ents.length
theorem CandAt.app {H : AHeap} {cl : Nat} {Y : Lay} {B : Bk} {s : Stm} {ins : List Nat} {od : OR} (h : CandAt H cl Y B s ins od) (G : AHeap) : CandAt (H ++ G) cl Y B s ins od := ⟨got h.box G, h.row.app G, h.lt⟩
def anyP (p : Nat → Nat → Bool) (ins : List Nat) : Bool := (List.range ins.length).any fun i => p i (ins.getD i 0)
theorem any_yes {p : Nat → Nat → Bool} {ins : List Nat} {i j : Nat} (h : ins[i]? = some j) (hp : p i j = true) : anyP p ins = true := by
 unfold anyP
 rw [List.any_eq_true]
 exact ⟨i, by simpa using (List.getElem?_eq_some_iff.1 h).1, by simpa [List.getD, h] using hp⟩
theorem any_no {p : Nat → Nat → Bool} {ins : List Nat} (h : ∀ i j, ins[i]? = some j → p i j = false) : anyP p ins = false := by
 unfold anyP
 rw [List.any_eq_false]
 intro i hi
 have hi : i < ins.length := by simpa using hi
 have := h i ins[i] (List.getElem?_eq_getElem hi)
 simpa [List.getD, hi] using this
theorem any_a {base : World} {H : AHeap} {cl : Nat} {Y : Lay} {B : Bk} {s : Stm} {ins : List Nat} {od : OR} (h : CandAt H cl Y B s ins od) (hn : ins.length ≤ 1000000) (code : Int) (p : Nat → Nat → Bool) (g : Nat) (first caps : List AV)
  (hg : ∀ i j : Nat, ins[i]? = some j → ReadA Tryz.prog base g (first ++ [iA (i : Int), .ptr (Y.eb j) 0] ++ caps) H (bA (p i j))) :
  ReadA Tryz.prog base 69 [.ptr cl 0, iA code, .fn (.func g) first caps] H (iA (if anyP p ins then code else 0)) := by
 refine read_enter ttOk Tryz.call69 Tryz.func69 rfl fun hB hb hF => ?_
 rw [Tryz.results69, Tryz.ntmps69]
 simp only [arr_list, List.length_cons, List.length_nil, List.replicate, List.cons_append, List.nil_append, Nat.reduceAdd, Nat.reduceSub]
 have h1 := h.box
 have h2 := h.row
 repeat refine aw_seq ?_
 refine aw_run ttOk (by kernel_rfl) (by simp only [erun, eall, estep, avs, tts, Nat.reduceAdd, Nat.reduceMul, Nat.reduceSub, Nat.reduceEqDiff, Nat.reduceLT, Nat.reduceLeDiff, Int.reduceToNat, Int.reduceLE, Int.reduceLT, Int.toNat_natCast, reduceCtorEq] <;> first | with_reducible rfl | rfl) ?_
 rcases od with _ | ⟨ol, ov⟩
 ·have hE : ins = [] := by simpa [RowAt] using h2
  rw [hE] at h1
  repeat refine aw_seq ?_
  refine aw_run ttOk (by kernel_rfl) (by simp only [erun, eall, estep, avs, tts, Nat.reduceAdd, Nat.reduceMul, Nat.reduceSub, Nat.reduceEqDiff, Nat.reduceLT, Nat.reduceLeDiff, Int.reduceToNat, Int.reduceLE, Int.reduceLT, Int.toNat_natCast, reduceCtorEq, h1, slA, nilS, iA] <;> first | with_reducible rfl | rfl) ?_
  refine aw_block (aw_loop (fun m env H' => m = 0 ∧ H' = H ∧ env = .undef :: .undef :: .undef :: .undef :: .undef :: .undef :: .undef :: .undef :: .undef :: .undef :: .undef :: .undef :: .undef :: iA 0 :: iA 0 :: List.replicate 10 .undef) ?_ ⟨rfl, rfl, rfl⟩ ?_)
  ·simp [Goes, EnvLe, iA, List.replicate]
  rintro m env H' ⟨rfl, rfl, rfl⟩ hN
  simp only [List.replicate, List.cons_append, List.nil_append, iA]
  repeat refine aw_seq ?_
  refine aw_run ttOk (by kernel_rfl) (by simp only [erun, eall, estep, avs, tts, Nat.reduceAdd, Nat.reduceMul, Nat.reduceSub, Nat.reduceEqDiff, Nat.reduceLT, Nat.reduceLeDiff, Int.reduceToNat, Int.reduceLE, Int.reduceLT, Int.toNat_natCast, reduceCtorEq] <;> first | with_reducible rfl | rfl) ?_
  repeat refine aw_seq ?_
  refine aw_cond rfl rfl (fun hb => ?_) fun hb => ?_
  ·cases hb
  refine aw_exit ?_
  repeat refine aw_seq ?_
  refine aw_run ttOk (by kernel_rfl) (by simp only [erun, eall, estep, avs, tts, Nat.reduceAdd, Nat.reduceMul, Nat.reduceSub, Nat.reduceEqDiff, Nat.reduceLT, Nat.reduceLeDiff, Int.reduceToNat, Int.reduceLE, Int.reduceLT, Int.toNat_natCast, reduceCtorEq] <;> first | with_reducible rfl | rfl) ?_
  exact aw_ret ⟨_, rfl, [], by simp, by rw [hE]; rfl⟩
 have hrow : H[ol]? = some (.row 77 1 ov (ins.map fun j => [.ptr (Y.eb j) 0])) := h2
 repeat refine aw_seq ?_
 refine aw_run ttOk (by kernel_rfl) (by simp only [erun, eall, estep, avs, tts, Nat.reduceAdd, Nat.reduceMul, Nat.reduceSub, Nat.reduceEqDiff, Nat.reduceLT, Nat.reduceLeDiff, Int.reduceToNat, Int.reduceLE, Int.reduceLT, Int.toNat_natCast, reduceCtorEq, h1, slA, hrow, iA] <;> first | with_reducible rfl | rfl) ?_
 refine aw_block (aw_loop (fun m env H' => ∃ k, m = ins.length - k ∧ k ≤ ins.length ∧ H' = H ∧ (∀ i j, i < k → ins[i]? = some j → p i j = false) ∧ env = .undef :: iA code :: .fn (.func g) first caps :: .undef :: .undef :: .undef :: .undef :: .undef :: .undef :: .undef :: .undef :: .undef :: .ms ol ov ins.length :: iA ins.length :: iA k :: List.replicate 10 .undef) ?_ ⟨0, rfl, Nat.zero_le _, rfl, fun i j hi => by omega, rfl⟩ ?_)
 ·simp [Goes, EnvLe, iA, List.replicate]
 rintro m env H' ⟨k, rfl, hk, rfl, hj, rfl⟩ hN
 simp only [List.replicate, List.cons_append, List.nil_append, iA]
 repeat refine aw_seq ?_
 refine aw_run ttOk (by kernel_rfl) (by simp only [erun, eall, estep, avs, tts, Nat.reduceAdd, Nat.reduceMul, Nat.reduceSub, Nat.reduceEqDiff, Nat.reduceLT, Nat.reduceLeDiff, Int.reduceToNat, Int.reduceLE, Int.reduceLT, Int.toNat_natCast, reduceCtorEq] <;> first | with_reducible rfl | rfl) ?_
 repeat refine aw_seq ?_
 refine aw_cond rfl rfl (fun hb => ?_) fun hb => ?_
 ·have hlt : k < ins.length := by simpa using hb
  have hix : (0 : Int) ≤ (k : Int) := by omega
  obtain ⟨j, hjk⟩ : ∃ j, ins[k]? = some j := ⟨_, List.getElem?_eq_getElem hlt⟩
  have hgd : (ins.map fun j => [AV.ptr (Y.eb j) 0]).getD k [] = [.ptr (Y.eb j) 0] := by simp [List.getD, hjk]
  refine aw_skip ?_
  repeat refine aw_seq ?_
  refine aw_block ?_
  repeat refine aw_seq ?_
  refine aw_run ttOk (by kernel_rfl) (by simp only [erun, eall, estep, avs, tts, Nat.reduceAdd, Nat.reduceMul, Nat.reduceSub, Nat.reduceEqDiff, Nat.reduceLT, Nat.reduceLeDiff, Int.reduceToNat, Int.reduceLE, Int.reduceLT, Int.toNat_natCast, reduceCtorEq, hrow, hgd, hlt, hix] <;> first | with_reducible rfl | rfl) ?_
  repeat refine aw_seq ?_
  repeat refine aw_seq ?_
  refine aw_region ttOk (by kernel_rfl) ?_
  refine aops_run 3 (by simp only [erun, eall, estep, avs, tts, Nat.reduceAdd, Nat.reduceMul, Nat.reduceSub, Nat.reduceEqDiff, Nat.reduceLT, Nat.reduceLeDiff, Int.reduceToNat, Int.reduceLE, Int.reduceLT, Int.toNat_natCast, reduceCtorEq] <;> first | with_reducible rfl | rfl) ?_
  refine aops_read rfl (by simp only [avs] <;> rfl) (hg k j hjk) (by simp only [avs] <;> rfl) ?_
  refine aops_nil ?_
  unfold bA
  repeat refine aw_seq ?_
  refine aw_cond rfl rfl (fun hb => ?_) fun hb => ?_
  ·repeat refine aw_seq ?_
   refine aw_run ttOk (by kernel_rfl) (by simp only [erun, eall, estep, avs, tts, Nat.reduceAdd, Nat.reduceMul, Nat.reduceSub, Nat.reduceEqDiff, Nat.reduceLT, Nat.reduceLeDiff, Int.reduceToNat, Int.reduceLE, Int.reduceLT, Int.toNat_natCast, reduceCtorEq] <;> first | with_reducible rfl | rfl) ?_
   exact aw_ret ⟨_, rfl, [], by simp, by rw [any_yes hjk hb]; rfl⟩
  ·refine aw_skip ?_
   repeat refine aw_seq ?_
   refine aw_run ttOk (by kernel_rfl) (by simp only [erun, eall, estep, avs, tts, Nat.reduceAdd, Nat.reduceMul, Nat.reduceSub, Nat.reduceEqDiff, Nat.reduceLT, Nat.reduceLeDiff, Int.reduceToNat, Int.reduceLE, Int.reduceLT, Int.toNat_natCast, reduceCtorEq, wrap_succ hlt (by omega : ins.length ≤ 9223372036854775807)] <;> first | with_reducible rfl | rfl) ?_
   refine ⟨ins.length - (k + 1), _, _, by omega, ⟨?_, .inl rfl⟩, k + 1, rfl, hlt, rfl, fun i j' hi hij => ?_, rfl⟩
   ·simp [EnvLe, iA, List.replicate]
   ·rcases Nat.lt_succ_iff_lt_or_eq.1 hi with h1 | rfl
    ·exact hj i j' h1 hij
    ·rw [hjk] at hij; cases hij; exact hb
 ·refine aw_exit ?_
  repeat refine aw_seq ?_
  refine aw_run ttOk (by kernel_rfl) (by simp only [erun, eall, estep, avs, tts, Nat.reduceAdd, Nat.reduceMul, Nat.reduceSub, Nat.reduceEqDiff, Nat.reduceLT, Nat.reduceLeDiff, Int.reduceToNat, Int.reduceLE, Int.reduceLT, Int.toNat_natCast, reduceCtorEq] <;> first | with_reducible rfl | rfl) ?_
  have hkL : k = ins.length := by simp at hb; omega
  exact aw_ret ⟨_, rfl, [], by simp, by rw [any_no fun i j hij => hj i j (by rw [hkL]; exact (List.getElem?_eq_some_iff.1 hij).1) hij]; rfl⟩
end Av
end Go.Proofs.YtnkepmfgmfeabaaGreatDoor
set_option linter.unusedVariables false
set_option linter.unusedSimpArgs false
namespace Go.Proofs.YtnkepmfgmfeabaaGreatDoor
open Go Go.RowKit
namespace Av
def onE (B : Bk) (f : Ent → Bool) (j : Nat) : Bool := match B.ents[j]? with
 | some x => f x
 | none => false
theorem onE_eq {B : Bk} {f : Ent → Bool} {j : Nat} {x : Ent} (h : B.ents[j]? = some x) : onE B f j = f x := by unfold onE; rw [h]
def pRev (B : Bk) : Nat → Nat → Bool := fun _ j => onE B (fun x => x.rev) j
def pProd (B : Bk) (s : Stm) : Nat → Nat → Bool := fun _ j => onE B (fun x => !decide (x.st.prod = s.prod)) j
def pQuota (B : Bk) (s : Stm) : Nat → Nat → Bool := fun i j => onE B (fun x => decide (x.left < (s.inputs.getD i nilInp).2)) j
def pUses (B : Bk) (s : Stm) : Nat → Nat → Bool := fun _ j => onE B (fun x => s.uses.any fun u => !(x.st.uses.any fun y => decide (u = y))) j
def pSgn (B : Bk) (g : ByteArray) : Nat → Nat → Bool := fun _ j => onE B (fun x => !decide (x.st.holder = g)) j
section
variable {base : World} {H : AHeap} {cl : Nat} {Y : Lay} {B : Bk} {s : Stm} {ins : List Nat} {od : OR}
theorem CandAt.ex (h : CandAt H cl Y B s ins od) {i j : Nat} (hj : ins[i]? = some j) : ∃ x, B.ents[j]? = some x := ⟨_, List.getElem?_eq_getElem (h.lt j (List.mem_of_getElem? hj))⟩
theorem state1_a (hk : Book H Y B) (i : Int) {j : Nat} {x : Ent} (hx : B.ents[j]? = some x) : ReadA Tryz.prog base 70 [iA i, .ptr (Y.eb j) 0] H (bA x.rev) := by
 refine read_enter ttOk Tryz.call70 Tryz.func70 rfl fun hB hb hF => ?_
 rw [Tryz.results70, Tryz.ntmps70]
 simp only [arr_list, List.length_cons, List.length_nil, List.replicate, List.cons_append, List.nil_append, Nat.reduceAdd, Nat.reduceSub]
 obtain ⟨nx, hn⟩ := hk.box hx
 repeat refine aw_seq ?_
 refine aw_run ttOk (by kernel_rfl) (by simp only [erun, eall, estep, avs, tts, Nat.reduceAdd, Nat.reduceMul, Nat.reduceSub, Nat.reduceEqDiff, Nat.reduceLT, Nat.reduceLeDiff, Int.reduceToNat, Int.reduceLE, Int.reduceLT, Int.toNat_natCast, reduceCtorEq, iA] <;> first | with_reducible rfl | rfl) ?_
 repeat refine aw_seq ?_
 refine aw_run ttOk (by kernel_rfl) (by simp only [erun, eall, estep, avs, tts, Nat.reduceAdd, Nat.reduceMul, Nat.reduceSub, Nat.reduceEqDiff, Nat.reduceLT, Nat.reduceLeDiff, Int.reduceToNat, Int.reduceLE, Int.reduceLT, Int.toNat_natCast, reduceCtorEq, hn, entC] <;> first | with_reducible rfl | rfl) ?_
 exact aw_ret ⟨_, rfl, [], by simp, rfl⟩
theorem state_a (hk : Book H Y B) (hc : CandAt H cl Y B s ins od) (hn : ins.length ≤ 1000000) : ReadA Tryz.prog base 44 [.ptr cl 0] H (iA (if anyP (pRev B) ins then 12 else 0)) := by
 refine read_enter ttOk Tryz.call44 Tryz.func44 rfl fun hB hb hF => ?_
 rw [Tryz.results44, Tryz.ntmps44]
 simp only [arr_list, List.length_cons, List.length_nil, List.replicate, List.cons_append, List.nil_append, Nat.reduceAdd, Nat.reduceSub]
 repeat refine aw_seq ?_
 refine aw_run ttOk (by kernel_rfl) (by simp only [erun, eall, estep, avs, tts, Nat.reduceAdd, Nat.reduceMul, Nat.reduceSub, Nat.reduceEqDiff, Nat.reduceLT, Nat.reduceLeDiff, Int.reduceToNat, Int.reduceLE, Int.reduceLT, Int.toNat_natCast, reduceCtorEq] <;> first | with_reducible rfl | rfl) ?_
 repeat refine aw_seq ?_
 refine aw_region ttOk (by kernel_rfl) ?_
 refine aops_run 1 (by simp only [erun, eall, estep, avs, tts, Nat.reduceAdd, Nat.reduceMul, Nat.reduceSub, Nat.reduceEqDiff, Nat.reduceLT, Nat.reduceLeDiff, Int.reduceToNat, Int.reduceLE, Int.reduceLT, Int.toNat_natCast, reduceCtorEq] <;> first | with_reducible rfl | rfl) ?_
 refine aops_read rfl (by simp only [avs] <;> rfl) (any_a hc hn 12 (pRev B) 70 [] [] fun i j hj => by obtain ⟨x, hx⟩ := hc.ex hj; rw [show pRev B i j = _ from onE_eq hx]; exact state1_a hk i hx) (by simp only [avs] <;> rfl) ?_
 refine aops_run 1 (by simp only [erun, eall, estep, avs, tts, Nat.reduceAdd, Nat.reduceMul, Nat.reduceSub, Nat.reduceEqDiff, Nat.reduceLT, Nat.reduceLeDiff, Int.reduceToNat, Int.reduceLE, Int.reduceLT, Int.toNat_natCast, reduceCtorEq] <;> first | with_reducible rfl | rfl) ?_
 refine aops_nil ?_
 exact aw_ret ⟨_, rfl, [], by simp, rfl⟩
theorem product1_a (hk : Book H Y B) (hc : CandAt H cl Y B s ins od) {vl : Nat} (hv : H[vl]? = some (.box 85 [.ptr cl 0])) (i : Int) {j : Nat} {x : Ent} (hx : B.ents[j]? = some x) :
  ReadA Tryz.prog base 71 [iA i, .ptr (Y.eb j) 0, .ptr vl 0] H (bA (!decide (x.st.prod = s.prod))) := by
 refine read_enter ttOk Tryz.call71 Tryz.func71 rfl fun hB hb hF => ?_
 rw [Tryz.results71, Tryz.ntmps71]
 simp only [arr_list, List.length_cons, List.length_nil, List.replicate, List.cons_append, List.nil_append, Nat.reduceAdd, Nat.reduceSub]
 obtain ⟨nx, hn⟩ := hk.box hx
 have h1 := hc.box
 repeat refine aw_seq ?_
 refine aw_run ttOk (by kernel_rfl) (by simp only [erun, eall, estep, avs, tts, Nat.reduceAdd, Nat.reduceMul, Nat.reduceSub, Nat.reduceEqDiff, Nat.reduceLT, Nat.reduceLeDiff, Int.reduceToNat, Int.reduceLE, Int.reduceLT, Int.toNat_natCast, reduceCtorEq, iA] <;> first | with_reducible rfl | rfl) ?_
 have l1 := lt_of_get hn
 have l2 := lt_of_get h1
 repeat refine aw_seq ?_
 refine aw_drun 12 ttOk mixed (by kernel_rfl) (by kernel_rfl) (by kernel_rfl) (by simp only [hrun, hstep, avs, tts, Nat.reduceAdd, Nat.reduceMul, Nat.reduceSub, Nat.reduceEqDiff, Nat.reduceLT, Nat.reduceLeDiff, Int.reduceToNat, Int.reduceLE, Int.reduceLT, Int.toNat_natCast, reduceCtorEq, hn, entC, hv, h1, l1, l2] <;> first | with_reducible rfl | rfl) (by simp only [erun, eall, estep, avs, tts, Nat.reduceAdd, Nat.reduceMul, Nat.reduceSub, Nat.reduceEqDiff, Nat.reduceLT, Nat.reduceLeDiff, Int.reduceToNat, Int.reduceLE, Int.reduceLT, Int.toNat_natCast, reduceCtorEq, hn, entC, hv, h1, l1, l2] <;> first | with_reducible rfl | rfl) ?_
 exact aw_ret ⟨_, rfl, [], by simp, rfl⟩
theorem product_a (hk : Book H Y B) (hc : CandAt H cl Y B s ins od) (hn : ins.length ≤ 1000000) : ReadA Tryz.prog base 45 [.ptr cl 0] H (iA (if anyP (pProd B s) ins then 8 else 0)) := by
 refine read_enter ttOk Tryz.call45 Tryz.func45 rfl fun hB hb hF => ?_
 rw [Tryz.results45, Tryz.ntmps45]
 simp only [arr_list, List.length_cons, List.length_nil, List.replicate, List.cons_append, List.nil_append, Nat.reduceAdd, Nat.reduceSub]
 repeat refine aw_seq ?_
 refine aw_run ttOk (by kernel_rfl) (by simp only [erun, eall, estep, avs, tts, Nat.reduceAdd, Nat.reduceMul, Nat.reduceSub, Nat.reduceEqDiff, Nat.reduceLT, Nat.reduceLeDiff, Int.reduceToNat, Int.reduceLE, Int.reduceLT, Int.toNat_natCast, reduceCtorEq] <;> first | with_reducible rfl | rfl) ?_
 repeat refine aw_seq ?_
 refine aw_region ttOk (by kernel_rfl) ?_
 refine aops_run 2 (by simp only [erun, eall, estep, avs, tts, Nat.reduceAdd, Nat.reduceMul, Nat.reduceSub, Nat.reduceEqDiff, Nat.reduceLT, Nat.reduceLeDiff, Int.reduceToNat, Int.reduceLE, Int.reduceLT, Int.toNat_natCast, reduceCtorEq] <;> first | with_reducible rfl | rfl) ?_
 refine aops_read rfl (by simp only [avs] <;> rfl) (any_a (hc.app _) hn 8 (pProd B s) 71 [] [.ptr H.length 0] fun i j hj => by obtain ⟨x, hx⟩ := hc.ex hj; rw [show pProd B s i j = _ from onE_eq hx]; exact product1_a (hk.app _) (hc.app _) (H_get0 _ _) i hx) (by simp only [avs] <;> rfl) ?_
 refine aops_run 1 (by simp only [erun, eall, estep, avs, tts, Nat.reduceAdd, Nat.reduceMul, Nat.reduceSub, Nat.reduceEqDiff, Nat.reduceLT, Nat.reduceLeDiff, Int.reduceToNat, Int.reduceLE, Int.reduceLT, Int.toNat_natCast, reduceCtorEq] <;> first | with_reducible rfl | rfl) ?_
 refine aops_nil ?_
 exact aw_ret ⟨_, rfl, _, rfl, rfl⟩
theorem quota1_a (hk : Book H Y B) (hc : CandAt H cl Y B s ins od) {vl : Nat} (hv : H[vl]? = some (.box 85 [.ptr cl 0])) {i : Nat} (hi : i < s.inputs.length) {j : Nat} {x : Ent} (hx : B.ents[j]? = some x) :
  ReadA Tryz.prog base 72 [iA i, .ptr (Y.eb j) 0, .ptr vl 0] H (bA (decide (x.left < (s.inputs.getD i nilInp).2))) := by
 refine read_enter ttOk Tryz.call72 Tryz.func72 rfl fun hB hb hF => ?_
 rw [Tryz.results72, Tryz.ntmps72]
 simp only [arr_list, List.length_cons, List.length_nil, List.replicate, List.cons_append, List.nil_append, Nat.reduceAdd, Nat.reduceSub]
 obtain ⟨nx, hn⟩ := hk.box hx
 have h1 := hc.box
 have hix : (0 : Int) ≤ (i : Int) := by omega
 have hgd : (s.inputs.map fun x => [PD.v (.string x.1), PD.v (.int .i64 x.2)]).getD i [] = [.v (.string (s.inputs.getD i nilInp).1), .v (.int .i64 (s.inputs.getD i nilInp).2)] := by simp [List.getD, hi]
 repeat refine aw_seq ?_
 refine aw_run ttOk (by kernel_rfl) (by simp only [erun, eall, estep, avs, tts, Nat.reduceAdd, Nat.reduceMul, Nat.reduceSub, Nat.reduceEqDiff, Nat.reduceLT, Nat.reduceLeDiff, Int.reduceToNat, Int.reduceLE, Int.reduceLT, Int.toNat_natCast, reduceCtorEq, iA] <;> first | with_reducible rfl | rfl) ?_
 have l1 := lt_of_get hn
 have l2 := lt_of_get h1
 repeat refine aw_seq ?_
 refine aw_drun 15 ttOk mixed (by kernel_rfl) (by kernel_rfl) (by kernel_rfl) (by simp only [hrun, hstep, avs, tts, Nat.reduceAdd, Nat.reduceMul, Nat.reduceSub, Nat.reduceEqDiff, Nat.reduceLT, Nat.reduceLeDiff, Int.reduceToNat, Int.reduceLE, Int.reduceLT, Int.toNat_natCast, reduceCtorEq, hn, entC, hv, h1, inpsP, hix, hi, hgd, l1, l2] <;> first | with_reducible rfl | rfl) (by simp only [erun, eall, estep, avs, tts, Nat.reduceAdd, Nat.reduceMul, Nat.reduceSub, Nat.reduceEqDiff, Nat.reduceLT, Nat.reduceLeDiff, Int.reduceToNat, Int.reduceLE, Int.reduceLT, Int.toNat_natCast, reduceCtorEq, hn, entC, hv, h1, inpsP, hix, hi, hgd, l1, l2] <;> first | with_reducible rfl | rfl) ?_
 exact aw_ret ⟨_, rfl, [], by simp, rfl⟩
theorem quota_a (hk : Book H Y B) (hc : CandAt H cl Y B s ins od) (hn : ins.length ≤ 1000000) (hi : ins.length ≤ s.inputs.length) : ReadA Tryz.prog base 47 [.ptr cl 0] H (iA (if anyP (pQuota B s) ins then 19 else 0)) := by
 refine read_enter ttOk Tryz.call47 Tryz.func47 rfl fun hB hb hF => ?_
 rw [Tryz.results47, Tryz.ntmps47]
 simp only [arr_list, List.length_cons, List.length_nil, List.replicate, List.cons_append, List.nil_append, Nat.reduceAdd, Nat.reduceSub]
 repeat refine aw_seq ?_
 refine aw_run ttOk (by kernel_rfl) (by simp only [erun, eall, estep, avs, tts, Nat.reduceAdd, Nat.reduceMul, Nat.reduceSub, Nat.reduceEqDiff, Nat.reduceLT, Nat.reduceLeDiff, Int.reduceToNat, Int.reduceLE, Int.reduceLT, Int.toNat_natCast, reduceCtorEq] <;> first | with_reducible rfl | rfl) ?_
 repeat refine aw_seq ?_
 refine aw_region ttOk (by kernel_rfl) ?_
 refine aops_run 2 (by simp only [erun, eall, estep, avs, tts, Nat.reduceAdd, Nat.reduceMul, Nat.reduceSub, Nat.reduceEqDiff, Nat.reduceLT, Nat.reduceLeDiff, Int.reduceToNat, Int.reduceLE, Int.reduceLT, Int.toNat_natCast, reduceCtorEq] <;> first | with_reducible rfl | rfl) ?_
 refine aops_read rfl (by simp only [avs] <;> rfl) (any_a (hc.app _) hn 19 (pQuota B s) 72 [] [.ptr H.length 0] fun i j hj => by obtain ⟨x, hx⟩ := hc.ex hj; rw [show pQuota B s i j = _ from onE_eq hx]; exact quota1_a (hk.app _) (hc.app _) (H_get0 _ _) (by have := (List.getElem?_eq_some_iff.1 hj).1; omega) hx) (by simp only [avs] <;> rfl) ?_
 refine aops_run 1 (by simp only [erun, eall, estep, avs, tts, Nat.reduceAdd, Nat.reduceMul, Nat.reduceSub, Nat.reduceEqDiff, Nat.reduceLT, Nat.reduceLeDiff, Int.reduceToNat, Int.reduceLE, Int.reduceLT, Int.toNat_natCast, reduceCtorEq] <;> first | with_reducible rfl | rfl) ?_
 refine aops_nil ?_
 exact aw_ret ⟨_, rfl, _, rfl, rfl⟩
theorem allowed11_a (hk : Book H Y B) {bx : Nat} {j : Nat} {x : Ent} (hx : B.ents[j]? = some x) (hv : H[bx]? = some (.box 77 [.ptr (Y.eb j) 0])) (u : ByteArray) :
  ReadA Tryz.prog base 75 [.d (.v (.string u)), .ptr bx 0] H (bA (!(x.st.uses.any fun y => decide (u = y)))) := by
 refine read_enter ttOk Tryz.call75 Tryz.func75 rfl fun hB hb hF => ?_
 rw [Tryz.results75, Tryz.ntmps75]
 simp only [arr_list, List.length_cons, List.length_nil, List.replicate, List.cons_append, List.nil_append, Nat.reduceAdd, Nat.reduceSub]
 obtain ⟨nx, hn⟩ := hk.box hx
 repeat refine aw_seq ?_
 refine aw_run ttOk (by kernel_rfl) (by simp only [erun, eall, estep, avs, tts, Nat.reduceAdd, Nat.reduceMul, Nat.reduceSub, Nat.reduceEqDiff, Nat.reduceLT, Nat.reduceLeDiff, Int.reduceToNat, Int.reduceLE, Int.reduceLT, Int.toNat_natCast, reduceCtorEq] <;> first | with_reducible rfl | rfl) ?_
 repeat refine aw_seq ?_
 refine aw_region ttOk (by kernel_rfl) ?_
 refine aops_run 6 (by simp only [erun, eall, estep, avs, tts, Nat.reduceAdd, Nat.reduceMul, Nat.reduceSub, Nat.reduceEqDiff, Nat.reduceLT, Nat.reduceLeDiff, Int.reduceToNat, Int.reduceLE, Int.reduceLT, Int.toNat_natCast, reduceCtorEq, hn, entC, hv] <;> first | with_reducible rfl | rfl) ?_
 refine aops_pure rfl (by simp only [avs] <;> rfl) (contains_a base x.st.uses u) (by simp only [avs] <;> rfl) ?_
 refine aops_run 2 (by simp only [erun, eall, estep, avs, tts, Nat.reduceAdd, Nat.reduceMul, Nat.reduceSub, Nat.reduceEqDiff, Nat.reduceLT, Nat.reduceLeDiff, Int.reduceToNat, Int.reduceLE, Int.reduceLT, Int.toNat_natCast, reduceCtorEq, bA] <;> first | with_reducible rfl | rfl) ?_
 refine aops_nil ?_
 exact aw_ret ⟨_, rfl, [], by simp, rfl⟩
theorem allowed1_a (hk : Book H Y B) (hc : CandAt H cl Y B s ins od) {vl : Nat} (hv : H[vl]? = some (.box 85 [.ptr cl 0])) (i : Int) {j : Nat} {x : Ent} (hx : B.ents[j]? = some x) :
  ReadA Tryz.prog base 73 [iA i, .ptr (Y.eb j) 0, .ptr vl 0] H (bA (s.uses.any fun u => !(x.st.uses.any fun y => decide (u = y)))) := by
 refine read_enter ttOk Tryz.call73 Tryz.func73 rfl fun hB hb hF => ?_
 rw [Tryz.results73, Tryz.ntmps73]
 simp only [arr_list, List.length_cons, List.length_nil, List.replicate, List.cons_append, List.nil_append, Nat.reduceAdd, Nat.reduceSub]
 have h1 := got hc.box
 have hv' := got hv
 repeat refine aw_seq ?_
 refine aw_run ttOk (by kernel_rfl) (by simp only [erun, eall, estep, avs, tts, Nat.reduceAdd, Nat.reduceMul, Nat.reduceSub, Nat.reduceEqDiff, Nat.reduceLT, Nat.reduceLeDiff, Int.reduceToNat, Int.reduceLE, Int.reduceLT, Int.toNat_natCast, reduceCtorEq, iA] <;> first | with_reducible rfl | rfl) ?_
 repeat refine aw_seq ?_
 refine aw_region ttOk (by kernel_rfl) ?_
 refine aops_run 6 (by simp only [erun, eall, estep, avs, tts, Nat.reduceAdd, Nat.reduceMul, Nat.reduceSub, Nat.reduceEqDiff, Nat.reduceLT, Nat.reduceLeDiff, Int.reduceToNat, Int.reduceLE, Int.reduceLT, Int.toNat_natCast, reduceCtorEq, hv', h1] <;> first | with_reducible rfl | rfl) ?_
 refine aops_read rfl (by simp only [avs] <;> rfl) (containsf_a s.uses (fun u => !(x.st.uses.any fun y => decide (u = y))) 75 [] [.ptr H.length 0] fun u _ => allowed11_a (hk.app _) hx (H_get0 _ _) u) (by simp only [avs] <;> rfl) ?_
 refine aops_run 1 (by simp only [erun, eall, estep, avs, tts, Nat.reduceAdd, Nat.reduceMul, Nat.reduceSub, Nat.reduceEqDiff, Nat.reduceLT, Nat.reduceLeDiff, Int.reduceToNat, Int.reduceLE, Int.reduceLT, Int.toNat_natCast, reduceCtorEq] <;> first | with_reducible rfl | rfl) ?_
 refine aops_nil ?_
 exact aw_ret ⟨_, rfl, _, rfl, rfl⟩
theorem allowed_a (hk : Book H Y B) (hc : CandAt H cl Y B s ins od) (hn : ins.length ≤ 1000000) : ReadA Tryz.prog base 48 [.ptr cl 0] H (iA (if anyP (pUses B s) ins then 7 else 0)) := by
 refine read_enter ttOk Tryz.call48 Tryz.func48 rfl fun hB hb hF => ?_
 rw [Tryz.results48, Tryz.ntmps48]
 simp only [arr_list, List.length_cons, List.length_nil, List.replicate, List.cons_append, List.nil_append, Nat.reduceAdd, Nat.reduceSub]
 repeat refine aw_seq ?_
 refine aw_run ttOk (by kernel_rfl) (by simp only [erun, eall, estep, avs, tts, Nat.reduceAdd, Nat.reduceMul, Nat.reduceSub, Nat.reduceEqDiff, Nat.reduceLT, Nat.reduceLeDiff, Int.reduceToNat, Int.reduceLE, Int.reduceLT, Int.toNat_natCast, reduceCtorEq] <;> first | with_reducible rfl | rfl) ?_
 repeat refine aw_seq ?_
 refine aw_region ttOk (by kernel_rfl) ?_
 refine aops_run 2 (by simp only [erun, eall, estep, avs, tts, Nat.reduceAdd, Nat.reduceMul, Nat.reduceSub, Nat.reduceEqDiff, Nat.reduceLT, Nat.reduceLeDiff, Int.reduceToNat, Int.reduceLE, Int.reduceLT, Int.toNat_natCast, reduceCtorEq] <;> first | with_reducible rfl | rfl) ?_
 refine aops_read rfl (by simp only [avs] <;> rfl) (any_a (hc.app _) hn 7 (pUses B s) 73 [] [.ptr H.length 0] fun i j hj => by obtain ⟨x, hx⟩ := hc.ex hj; rw [show pUses B s i j = _ from onE_eq hx]; exact allowed1_a (hk.app _) (hc.app _) (H_get0 _ _) i hx) (by simp only [avs] <;> rfl) ?_
 refine aops_run 1 (by simp only [erun, eall, estep, avs, tts, Nat.reduceAdd, Nat.reduceMul, Nat.reduceSub, Nat.reduceEqDiff, Nat.reduceLT, Nat.reduceLeDiff, Int.reduceToNat, Int.reduceLE, Int.reduceLT, Int.toNat_natCast, reduceCtorEq] <;> first | with_reducible rfl | rfl) ?_
 refine aops_nil ?_
 exact aw_ret ⟨_, rfl, _, rfl, rfl⟩
end
end Av
end Go.Proofs.YtnkepmfgmfeabaaGreatDoor
set_option linter.unusedVariables false
set_option linter.unusedSimpArgs false
namespace Go.Proofs.YtnkepmfgmfeabaaGreatDoor
open Go Go.RowKit
namespace Av
def sumQ (l : List (ByteArray × Int)) : Int := (l.map (·.2)).sum
theorem sumQ_succ {l : List (ByteArray × Int)} {k : Nat} (h : k < l.length) : sumQ (l.take (k + 1)) = sumQ (l.take k) + l[k].2 := by
 unfold sumQ
 rw [List.take_succ_eq_append_getElem h, List.map_append, List.sum_append]
 simp
theorem sumQ_bound {l : List (ByteArray × Int)} (h : ∀ x ∈ l, 0 ≤ x.2 ∧ x.2 ≤ 1000000000) : 0 ≤ sumQ l ∧ sumQ l ≤ 1000000000 * l.length := by
 induction l with
 | nil => exact ⟨Int.le_refl _, Int.le_refl _⟩
 | cons x l ih =>
  have h1 := h x (by simp)
  have h2 := ih fun y hy => h y (by simp [hy])
  unfold sumQ at h2 ⊢
  simp only [List.map_cons, List.sum_cons, List.length_cons]
  omega
def signerR (B : Bk) (ins : List Nat) : ByteArray := match ins with
 | [] => B.issuer
 | j :: _ => match B.ents[j]? with
  | some x => x.st.holder
  | none => B.issuer
section
variable {base : World} {H : AHeap} {cl : Nat} {Y : Lay} {B : Bk} {s : Stm} {ins : List Nat} {od : OR}
theorem sum_a (hc : CandAt H cl Y B s ins od) (hn : s.inputs.length ≤ 1000000) (hq : ∀ x ∈ s.inputs, 0 ≤ x.2 ∧ x.2 ≤ 1000000000) : ReadA Tryz.prog base 46 [.ptr cl 0] H (iA (if decide (0 < s.inputs.length) && !decide (sumQ s.inputs = s.q) then 10 else 0)) := by
 refine read_enter ttOk Tryz.call46 Tryz.func46 rfl fun hB hb hF => ?_
 rw [Tryz.results46, Tryz.ntmps46]
 simp only [arr_list, List.length_cons, List.length_nil, List.replicate, List.cons_append, List.nil_append, Nat.reduceAdd, Nat.reduceSub]
 have h1 := hc.box
 have h1' := got h1
 repeat refine aw_seq ?_
 refine aw_run ttOk (by kernel_rfl) (by simp only [erun, eall, estep, avs, tts, Nat.reduceAdd, Nat.reduceMul, Nat.reduceSub, Nat.reduceEqDiff, Nat.reduceLT, Nat.reduceLeDiff, Int.reduceToNat, Int.reduceLE, Int.reduceLT, Int.toNat_natCast, reduceCtorEq] <;> first | with_reducible rfl | rfl) ?_
 repeat refine aw_seq ?_
 refine aw_run ttOk (by kernel_rfl) (by simp only [erun, eall, estep, avs, tts, Nat.reduceAdd, Nat.reduceMul, Nat.reduceSub, Nat.reduceEqDiff, Nat.reduceLT, Nat.reduceLeDiff, Int.reduceToNat, Int.reduceLE, Int.reduceLT, Int.toNat_natCast, reduceCtorEq] <;> first | with_reducible rfl | rfl) ?_
 repeat refine aw_seq ?_
 refine aw_run ttOk (by kernel_rfl) (by simp only [erun, eall, estep, avs, tts, Nat.reduceAdd, Nat.reduceMul, Nat.reduceSub, Nat.reduceEqDiff, Nat.reduceLT, Nat.reduceLeDiff, Int.reduceToNat, Int.reduceLE, Int.reduceLT, Int.toNat_natCast, reduceCtorEq, h1, inpsP] <;> first | with_reducible rfl | rfl) ?_
 refine aw_block (aw_loop (fun m env H' => ∃ k, m = s.inputs.length - k ∧ k ≤ s.inputs.length ∧ H' = H ∧ env = .ptr cl 0 :: .undef :: .undef :: iA (sumQ (s.inputs.take k)) :: .undef :: .undef :: .undef :: .undef :: .undef :: .undef :: .d (inpsP s.inputs) :: iA s.inputs.length :: iA k :: List.replicate 24 .undef) ?_ ⟨0, rfl, Nat.zero_le _, rfl, rfl⟩ ?_)
 ·simp [Goes, EnvLe, iA, List.replicate, inpsP, sumQ]
 rintro m env H' ⟨k, rfl, hk, rfl, rfl⟩ hN
 simp only [List.replicate, List.cons_append, List.nil_append, iA]
 repeat refine aw_seq ?_
 refine aw_run ttOk (by kernel_rfl) (by simp only [erun, eall, estep, avs, tts, Nat.reduceAdd, Nat.reduceMul, Nat.reduceSub, Nat.reduceEqDiff, Nat.reduceLT, Nat.reduceLeDiff, Int.reduceToNat, Int.reduceLE, Int.reduceLT, Int.toNat_natCast, reduceCtorEq] <;> first | with_reducible rfl | rfl) ?_
 repeat refine aw_seq ?_
 refine aw_cond rfl rfl (fun hb => ?_) fun hb => ?_
 ·have hlt : k < s.inputs.length := by simpa using hb
  have hix : (0 : Int) ≤ (k : Int) := by omega
  have hgd : (s.inputs.map fun x => [PD.v (.string x.1), PD.v (.int .i64 x.2)]).getD k [] = [.v (.string s.inputs[k].1), .v (.int .i64 s.inputs[k].2)] := by simp [hlt]
  have hs1 := sumQ_succ hlt
  have hs2 := sumQ_bound (l := s.inputs.take (k + 1)) fun x hx => hq x (List.mem_of_mem_take hx)
  have hs3 : (s.inputs.take (k + 1)).length ≤ 1000000 := by rw [List.length_take]; omega
  have hw : IntKind.i64.wrap (sumQ (s.inputs.take k) + s.inputs[k].2) = sumQ (s.inputs.take (k + 1)) := by rw [← hs1, IntKind.wrap_i64]; omega
  refine aw_skip ?_
  repeat refine aw_seq ?_
  refine aw_block ?_
  repeat refine aw_seq ?_
  refine aw_run ttOk (by kernel_rfl) (by simp only [erun, eall, estep, avs, tts, Nat.reduceAdd, Nat.reduceMul, Nat.reduceSub, Nat.reduceEqDiff, Nat.reduceLT, Nat.reduceLeDiff, Int.reduceToNat, Int.reduceLE, Int.reduceLT, Int.toNat_natCast, reduceCtorEq, inpsP, hgd, hix, hlt] <;> first | with_reducible rfl | rfl) ?_
  repeat refine aw_seq ?_
  refine aw_run ttOk (by kernel_rfl) (by simp only [erun, eall, estep, avs, tts, Nat.reduceAdd, Nat.reduceMul, Nat.reduceSub, Nat.reduceEqDiff, Nat.reduceLT, Nat.reduceLeDiff, Int.reduceToNat, Int.reduceLE, Int.reduceLT, Int.toNat_natCast, reduceCtorEq, hw] <;> first | with_reducible rfl | rfl) ?_
  repeat refine aw_seq ?_
  refine aw_run ttOk (by kernel_rfl) (by simp only [erun, eall, estep, avs, tts, Nat.reduceAdd, Nat.reduceMul, Nat.reduceSub, Nat.reduceEqDiff, Nat.reduceLT, Nat.reduceLeDiff, Int.reduceToNat, Int.reduceLE, Int.reduceLT, Int.toNat_natCast, reduceCtorEq, wrap_succ hlt (by omega : s.inputs.length ≤ 9223372036854775807)] <;> first | with_reducible rfl | rfl) ?_
  refine ⟨s.inputs.length - (k + 1), _, _, by omega, ⟨?_, .inr ⟨by simp, ?_, hB, ⟨_, rfl⟩⟩⟩, k + 1, rfl, hlt, rfl, rfl⟩
  ·simp [EnvLe, iA, List.replicate, inpsP]
  ·simp [belL, AV.bel, List.replicate, iA, lt_of_get h1]
 ·refine aw_exit ?_
  have hkl : k = s.inputs.length := by simp at hb; omega
  subst hkl
  rw [List.take_length]
  by_cases h0 : 0 < s.inputs.length
  ·have e0 : decide ((0 : Int) < (s.inputs.length : Int)) = true := by simpa using h0
   repeat refine aw_seq ?_
   refine aw_run ttOk (by kernel_rfl) (by simp only [erun, eall, estep, avs, tts, Nat.reduceAdd, Nat.reduceMul, Nat.reduceSub, Nat.reduceEqDiff, Nat.reduceLT, Nat.reduceLeDiff, Int.reduceToNat, Int.reduceLE, Int.reduceLT, Int.toNat_natCast, reduceCtorEq, h1, inpsP, e0] <;> first | with_reducible rfl | rfl) ?_
   repeat refine aw_seq ?_
   refine aw_cond rfl rfl (fun hb => ?_) fun hb => ?_
   ·repeat refine aw_seq ?_
    refine aw_run ttOk (by kernel_rfl) (by simp only [erun, eall, estep, avs, tts, Nat.reduceAdd, Nat.reduceMul, Nat.reduceSub, Nat.reduceEqDiff, Nat.reduceLT, Nat.reduceLeDiff, Int.reduceToNat, Int.reduceLE, Int.reduceLT, Int.toNat_natCast, reduceCtorEq] <;> first | with_reducible rfl | rfl) ?_
    exact aw_ret ⟨_, rfl, [], by simp, by simp only [h0, decide_true, Bool.true_and]; rw [if_pos hb]; rfl⟩
   ·refine aw_skip ?_
    repeat refine aw_seq ?_
    refine aw_run ttOk (by kernel_rfl) (by simp only [erun, eall, estep, avs, tts, Nat.reduceAdd, Nat.reduceMul, Nat.reduceSub, Nat.reduceEqDiff, Nat.reduceLT, Nat.reduceLeDiff, Int.reduceToNat, Int.reduceLE, Int.reduceLT, Int.toNat_natCast, reduceCtorEq] <;> first | with_reducible rfl | rfl) ?_
    exact aw_ret ⟨_, rfl, [], by simp, by simp only [h0, decide_true, Bool.true_and]; rw [hb]; rfl⟩
  ·have e0 : decide ((0 : Int) < (s.inputs.length : Int)) = false := by simpa using h0
   repeat refine aw_seq ?_
   refine aw_run ttOk (by kernel_rfl) (by simp only [erun, eall, estep, avs, tts, Nat.reduceAdd, Nat.reduceMul, Nat.reduceSub, Nat.reduceEqDiff, Nat.reduceLT, Nat.reduceLeDiff, Int.reduceToNat, Int.reduceLE, Int.reduceLT, Int.toNat_natCast, reduceCtorEq, h1, inpsP, e0] <;> first | with_reducible rfl | rfl) ?_
   repeat refine aw_seq ?_
   refine aw_cond rfl rfl (fun hb => ?_) fun hb => ?_
   ·cases hb
   ·refine aw_skip ?_
    repeat refine aw_seq ?_
    refine aw_run ttOk (by kernel_rfl) (by simp only [erun, eall, estep, avs, tts, Nat.reduceAdd, Nat.reduceMul, Nat.reduceSub, Nat.reduceEqDiff, Nat.reduceLT, Nat.reduceLeDiff, Int.reduceToNat, Int.reduceLE, Int.reduceLT, Int.toNat_natCast, reduceCtorEq] <;> first | with_reducible rfl | rfl) ?_
    exact aw_ret ⟨_, rfl, [], by simp, by simp only [h0, decide_false, Bool.false_and]; rfl⟩
theorem signer_a (hk : Book H Y B) (hc : CandAt H cl Y B s ins od) (hn : ins.length ≤ 1000000) : ReadA Tryz.prog base 50 [.ptr cl 0] H (.d (.v (.string (signerR B ins)))) := by
 refine read_enter ttOk Tryz.call50 Tryz.func50 rfl fun hB hb hF => ?_
 rw [Tryz.results50, Tryz.ntmps50]
 simp only [arr_list, List.length_cons, List.length_nil, List.replicate, List.cons_append, List.nil_append, Nat.reduceAdd, Nat.reduceSub]
 have h1 := hc.box
 have h2 := hc.row
 have h3 := hk.book
 repeat refine aw_seq ?_
 refine aw_run ttOk (by kernel_rfl) (by simp only [erun, eall, estep, avs, tts, Nat.reduceAdd, Nat.reduceMul, Nat.reduceSub, Nat.reduceEqDiff, Nat.reduceLT, Nat.reduceLeDiff, Int.reduceToNat, Int.reduceLE, Int.reduceLT, Int.toNat_natCast, reduceCtorEq] <;> first | with_reducible rfl | rfl) ?_
 cases ins with
 | nil =>
  rcases od with _ | ⟨ol, ov⟩
  ·repeat refine aw_seq ?_
   refine aw_run ttOk (by kernel_rfl) (by simp only [erun, eall, estep, avs, tts, Nat.reduceAdd, Nat.reduceMul, Nat.reduceSub, Nat.reduceEqDiff, Nat.reduceLT, Nat.reduceLeDiff, Int.reduceToNat, Int.reduceLE, Int.reduceLT, Int.toNat_natCast, reduceCtorEq, h1, slA, nilS] <;> first | with_reducible rfl | rfl) ?_
   repeat refine aw_seq ?_
   refine aw_cond rfl rfl (fun hb => ?_) fun hb => ?_
   ·repeat refine aw_seq ?_
    refine aw_run ttOk (by kernel_rfl) (by simp only [erun, eall, estep, avs, tts, Nat.reduceAdd, Nat.reduceMul, Nat.reduceSub, Nat.reduceEqDiff, Nat.reduceLT, Nat.reduceLeDiff, Int.reduceToNat, Int.reduceLE, Int.reduceLT, Int.toNat_natCast, reduceCtorEq, h1, h3] <;> first | with_reducible rfl | rfl) ?_
    exact aw_ret ⟨_, rfl, [], by simp, rfl⟩
   ·cases hb
  ·have hrow : H[ol]? = some (.row 77 1 ov []) := h2
   repeat refine aw_seq ?_
   refine aw_run ttOk (by kernel_rfl) (by simp only [erun, eall, estep, avs, tts, Nat.reduceAdd, Nat.reduceMul, Nat.reduceSub, Nat.reduceEqDiff, Nat.reduceLT, Nat.reduceLeDiff, Int.reduceToNat, Int.reduceLE, Int.reduceLT, Int.toNat_natCast, reduceCtorEq, h1, slA, hrow] <;> first | with_reducible rfl | rfl) ?_
   repeat refine aw_seq ?_
   refine aw_cond rfl rfl (fun hb => ?_) fun hb => ?_
   ·repeat refine aw_seq ?_
    refine aw_run ttOk (by kernel_rfl) (by simp only [erun, eall, estep, avs, tts, Nat.reduceAdd, Nat.reduceMul, Nat.reduceSub, Nat.reduceEqDiff, Nat.reduceLT, Nat.reduceLeDiff, Int.reduceToNat, Int.reduceLE, Int.reduceLT, Int.toNat_natCast, reduceCtorEq, h1, h3] <;> first | with_reducible rfl | rfl) ?_
    exact aw_ret ⟨_, rfl, [], by simp, rfl⟩
   ·cases hb
 | cons j t =>
  rcases od with _ | ⟨ol, ov⟩
  ·simp [RowAt] at h2
  ·have hrow : H[ol]? = some (.row 77 1 ov ([.ptr (Y.eb j) 0] :: t.map fun j => [.ptr (Y.eb j) 0])) := h2
   obtain ⟨x, hx⟩ := hc.ex (i := 0) (j := j) rfl
   obtain ⟨nx, hbx⟩ := hk.box hx
   have hs : signerR B (j :: t) = x.st.holder := by
    show (match B.ents[j]? with | some x => x.st.holder | none => B.issuer) = _
    rw [hx]
   have e0 : (((t.length + 1 : Nat) : Int) = 0) = False := by simp; omega
   repeat refine aw_seq ?_
   refine aw_run ttOk (by kernel_rfl) (by simp only [erun, eall, estep, avs, tts, Nat.reduceAdd, Nat.reduceMul, Nat.reduceSub, Nat.reduceEqDiff, Nat.reduceLT, Nat.reduceLeDiff, Int.reduceToNat, Int.reduceLE, Int.reduceLT, Int.toNat_natCast, reduceCtorEq, h1, slA, hrow, e0] <;> first | with_reducible rfl | rfl) ?_
   repeat refine aw_seq ?_
   refine aw_cond rfl rfl (fun hb => ?_) fun hb => ?_
   ·exfalso
    simp at hb
   ·refine aw_skip ?_
    repeat refine aw_seq ?_
    refine aw_run ttOk (by kernel_rfl) (by simp only [erun, eall, estep, avs, tts, Nat.reduceAdd, Nat.reduceMul, Nat.reduceSub, Nat.reduceEqDiff, Nat.reduceLT, Nat.reduceLeDiff, Int.reduceToNat, Int.reduceLE, Int.reduceLT, Int.toNat_natCast, reduceCtorEq, h1, slA, hrow, hbx, entC] <;> first | with_reducible rfl | rfl) ?_
    exact aw_ret ⟨_, rfl, [], by simp, by rw [hs]; rfl⟩
theorem signed1_a (hk : Book H Y B) {g : ByteArray} {vl : Nat} (hv : H[vl]? = some (.box 9 [.d (.v (.string g))])) (i : Int) {j : Nat} {x : Ent} (hx : B.ents[j]? = some x) :
  ReadA Tryz.prog base 77 [iA i, .ptr (Y.eb j) 0, .ptr vl 0] H (bA (!decide (x.st.holder = g))) := by
 refine read_enter ttOk Tryz.call77 Tryz.func77 rfl fun hB hb hF => ?_
 rw [Tryz.results77, Tryz.ntmps77]
 simp only [arr_list, List.length_cons, List.length_nil, List.replicate, List.cons_append, List.nil_append, Nat.reduceAdd, Nat.reduceSub]
 obtain ⟨nx, hn⟩ := hk.box hx
 have l1 := lt_of_get hn
 repeat refine aw_seq ?_
 refine aw_run ttOk (by kernel_rfl) (by simp only [erun, eall, estep, avs, tts, Nat.reduceAdd, Nat.reduceMul, Nat.reduceSub, Nat.reduceEqDiff, Nat.reduceLT, Nat.reduceLeDiff, Int.reduceToNat, Int.reduceLE, Int.reduceLT, Int.toNat_natCast, reduceCtorEq, iA] <;> first | with_reducible rfl | rfl) ?_
 repeat refine aw_seq ?_
 refine aw_drun 8 ttOk mixed (by kernel_rfl) (by kernel_rfl) (by kernel_rfl) (by simp only [hrun, hstep, avs, tts, Nat.reduceAdd, Nat.reduceMul, Nat.reduceSub, Nat.reduceEqDiff, Nat.reduceLT, Nat.reduceLeDiff, Int.reduceToNat, Int.reduceLE, Int.reduceLT, Int.toNat_natCast, reduceCtorEq, hn, entC, hv, l1] <;> first | with_reducible rfl | rfl) (by simp only [erun, eall, estep, avs, tts, Nat.reduceAdd, Nat.reduceMul, Nat.reduceSub, Nat.reduceEqDiff, Nat.reduceLT, Nat.reduceLeDiff, Int.reduceToNat, Int.reduceLE, Int.reduceLT, Int.toNat_natCast, reduceCtorEq, hn, entC, hv, l1] <;> first | with_reducible rfl | rfl) ?_
 exact aw_ret ⟨_, rfl, [], by simp, rfl⟩
def usedB (B : Bk) (g : ByteArray) (n : Int) : Bool := B.ents.any fun x => decide (g = x.sgn) && decide (n = x.st.idx)
theorem Book.usedGet (h : Book H Y B) (g : ByteArray) (n : Int) : Av.mget (usE Y B) (.agg #[.string g, .int .i64 n]) = if usedB B g n then some (bA true) else none := by
 unfold usE usedB
 rw [h.n3, List.take_length]
 generalize B.ents = l
 induction l with
 | nil => rfl
 | cons x l ih =>
  have e : keyEq (.agg #[.string g, .int .i64 n]) (.agg #[.string x.sgn, .int .i64 x.st.idx]) = (decide (g = x.sgn) && decide (n = x.st.idx)) := by
   simp [keyEq, eqL, eqV]
  unfold Av.mget at ih ⊢
  simp only [List.map_cons, List.find?_cons, List.any_cons, e]
  by_cases hh : (decide (g = x.sgn) && decide (n = x.st.idx)) = true
  ·simp only [hh, Bool.true_or]; rfl
  ·simp only [Bool.not_eq_true] at hh
   simp only [hh, Bool.false_or]; exact ih
def signedR (B : Bk) (s : Stm) (ins : List Nat) : Int := if anyP (pSgn B (signerR B ins)) ins then 16 else if !verT (signerR B ins) (messT s) s.idx s.sig s.path || usedB B (signerR B ins) s.idx then 16 else 0
theorem ksh_si (a : ByteArray) (n : Int) : keyShape (.flat [.str, .int .i64]) (.agg #[.string a, .int .i64 n]) = true := rfl
theorem messT_size (s : Stm) : (messT s).size = 16 := sumS_size _
attribute [local irreducible] messT verT
/-- what a statement must keep to, to be walked -/
structure Fits (s : Stm) : Prop where
 q : 0 ≤ s.q
 qi : ∀ y ∈ s.inputs, 0 ≤ y.2 ∧ y.2 ≤ 1000000000
 lu : s.uses.length ≤ 1000000
 li : s.inputs.length ≤ 1000000
 J : (joinB (fieldsT s)).length ≤ 140737488355328
 ss : ∀ t ∈ s.sig, t.size ≤ 1099511627776
 ps : ∀ t ∈ s.path, t.size ≤ 1099511627776
set_option maxHeartbeats 4000000 in
theorem signed_a (hT : Tabs base) (hk : Book H Y B) (hc : CandAt H cl Y B s ins od) (hf : Fits s) (hn : ins.length ≤ 1000000) (hg : (signerR B ins).size ≤ 1099511627776) : ReadA Tryz.prog base 49 [.ptr cl 0] H (iA (signedR B s ins)) := by
 refine read_enter ttOk Tryz.call49 Tryz.func49 rfl fun hB hb hF => ?_
 rw [Tryz.results49, Tryz.ntmps49]
 simp only [arr_list, List.length_cons, List.length_nil, List.replicate, List.cons_append, List.nil_append, Nat.reduceAdd, Nat.reduceSub]
 have h1 := got hc.box
 have h2 := got hk.book
 have h3 := got hk.used
 have h4 := hk.usedGet (signerR B ins) s.idx
 have hm : (messT s).size ≤ 1099511627776 := by
  have := messT_size s
  omega
 repeat refine aw_seq ?_
 refine aw_run ttOk (by kernel_rfl) (by simp only [erun, eall, estep, avs, tts, Nat.reduceAdd, Nat.reduceMul, Nat.reduceSub, Nat.reduceEqDiff, Nat.reduceLT, Nat.reduceLeDiff, Int.reduceToNat, Int.reduceLE, Int.reduceLT, Int.toNat_natCast, reduceCtorEq] <;> first | with_reducible rfl | rfl) ?_
 repeat refine aw_seq ?_
 refine aw_region ttOk (by kernel_rfl) ?_
 refine aops_run 1 (by simp only [erun, eall, estep, avs, tts, Nat.reduceAdd, Nat.reduceMul, Nat.reduceSub, Nat.reduceEqDiff, Nat.reduceLT, Nat.reduceLeDiff, Int.reduceToNat, Int.reduceLE, Int.reduceLT, Int.toNat_natCast, reduceCtorEq] <;> first | with_reducible rfl | rfl) ?_
 refine aops_read rfl (by simp only [avs] <;> rfl) (signer_a hk hc hn) (by simp only [avs] <;> rfl) ?_
 refine aops_run 2 (by simp only [erun, eall, estep, avs, tts, Nat.reduceAdd, Nat.reduceMul, Nat.reduceSub, Nat.reduceEqDiff, Nat.reduceLT, Nat.reduceLeDiff, Int.reduceToNat, Int.reduceLE, Int.reduceLT, Int.toNat_natCast, reduceCtorEq] <;> first | with_reducible rfl | rfl) ?_
 refine aops_nil ?_
 repeat refine aw_seq ?_
 refine aw_region ttOk (by kernel_rfl) ?_
 refine aops_run 2 (by simp only [erun, eall, estep, avs, tts, Nat.reduceAdd, Nat.reduceMul, Nat.reduceSub, Nat.reduceEqDiff, Nat.reduceLT, Nat.reduceLeDiff, Int.reduceToNat, Int.reduceLE, Int.reduceLT, Int.toNat_natCast, reduceCtorEq] <;> first | with_reducible rfl | rfl) ?_
 refine aops_read rfl (by simp only [avs] <;> rfl) (any_a (hc.app _) hn 16 (pSgn B (signerR B ins)) 77 [] [.ptr H.length 0] fun i j hj => by obtain ⟨x, hx⟩ := hc.ex hj; rw [show pSgn B (signerR B ins) i j = _ from onE_eq hx]; exact signed1_a (hk.app _) (H_get0 _ _) i hx) (by simp only [avs] <;> rfl) ?_
 refine aops_run 1 (by simp only [erun, eall, estep, avs, tts, Nat.reduceAdd, Nat.reduceMul, Nat.reduceSub, Nat.reduceEqDiff, Nat.reduceLT, Nat.reduceLeDiff, Int.reduceToNat, Int.reduceLE, Int.reduceLT, Int.toNat_natCast, reduceCtorEq] <;> first | with_reducible rfl | rfl) ?_
 refine aops_nil ?_
 unfold signedR
 cases hp : anyP (pSgn B (signerR B ins)) ins with
 | true =>
  repeat refine aw_seq ?_
  refine aw_run ttOk (by kernel_rfl) (by simp only [erun, eall, estep, avs, tts, Nat.reduceAdd, Nat.reduceMul, Nat.reduceSub, Nat.reduceEqDiff, Nat.reduceLT, Nat.reduceLeDiff, Int.reduceToNat, Int.reduceLE, Int.reduceLT, Int.toNat_natCast, reduceCtorEq, iA] <;> first | with_reducible rfl | rfl) ?_
  repeat refine aw_seq ?_
  refine aw_cond rfl rfl (fun hb => ?_) fun hb => ?_
  ·repeat refine aw_seq ?_
   refine aw_run ttOk (by kernel_rfl) (by simp only [erun, eall, estep, avs, tts, Nat.reduceAdd, Nat.reduceMul, Nat.reduceSub, Nat.reduceEqDiff, Nat.reduceLT, Nat.reduceLeDiff, Int.reduceToNat, Int.reduceLE, Int.reduceLT, Int.toNat_natCast, reduceCtorEq] <;> first | with_reducible rfl | rfl) ?_
   exact aw_ret ⟨_, rfl, _, rfl, rfl⟩
  ·cases hb
 | false =>
  repeat refine aw_seq ?_
  refine aw_run ttOk (by kernel_rfl) (by simp only [erun, eall, estep, avs, tts, Nat.reduceAdd, Nat.reduceMul, Nat.reduceSub, Nat.reduceEqDiff, Nat.reduceLT, Nat.reduceLeDiff, Int.reduceToNat, Int.reduceLE, Int.reduceLT, Int.toNat_natCast, reduceCtorEq, iA] <;> first | with_reducible rfl | rfl) ?_
  repeat refine aw_seq ?_
  refine aw_cond rfl rfl (fun hb => ?_) fun hb => ?_
  ·cases hb
  refine aw_skip ?_
  have l1 := lt_of_get hc.box
  have l1' : cl < H.length + 1 := by omega
  have l2 := lt_of_get hk.book
  have l2' : Y.bl < H.length + 1 := by omega
  have l3 : Y.ul < H.length + 1 := by have := lt_of_get hk.used; omega
  cases hv : verT (signerR B ins) (messT s) s.idx s.sig s.path with
  | false =>
   repeat refine aw_seq ?_
   refine aw_draw 31 ttOk mixed (by kernel_rfl) (by kernel_rfl) (by kernel_rfl) ?_
   refine ahops_runT 5 (by simp only [hrun, hstep, avs, tts, Nat.reduceAdd, Nat.reduceMul, Nat.reduceSub, Nat.reduceEqDiff, Nat.reduceLT, Nat.reduceLeDiff, Int.reduceToNat, Int.reduceLE, Int.reduceLT, Int.toNat_natCast, reduceCtorEq, h1, l1, l1'] <;> first | with_reducible rfl | rfl) ?_
   refine ahops_pure rfl (by simp only [avs] <;> rfl) (message_a hT s hf.q (fun y hy => (hf.qi y hy).1) hf.lu hf.li hf.J) trivial (by simp only [avs] <;> rfl) ?_
   refine ahops_runT 5 (by simp only [hrun, hstep, avs, tts, Nat.reduceAdd, Nat.reduceMul, Nat.reduceSub, Nat.reduceEqDiff, Nat.reduceLT, Nat.reduceLeDiff, Int.reduceToNat, Int.reduceLE, Int.reduceLT, Int.toNat_natCast, reduceCtorEq, h1, l1, l1'] <;> first | with_reducible rfl | rfl) ?_
   refine ahops_pure rfl (by simp only [avs] <;> rfl) (verify_a hT (signerR B ins) (messT s) s.idx s.sig s.path hg hm hf.ss hf.ps) trivial (by simp only [avs] <;> rfl) ?_
   refine ahops_runT 19 (by simp only [hrun, hstep, avs, tts, Nat.reduceAdd, Nat.reduceMul, Nat.reduceSub, Nat.reduceEqDiff, Nat.reduceLT, Nat.reduceLeDiff, Int.reduceToNat, Int.reduceLE, Int.reduceLT, Int.toNat_natCast, reduceCtorEq, h1, h2, h3, h4, l1, l1', l2, l2', hv, Bool.not_false, Bool.not_true, ksh_si, l3] <;> first | with_reducible rfl | rfl) ?_
   refine ahops_nil ?_
   refine aops_run 0 (by simp only [erun, eall, estep, avs, tts, Nat.reduceAdd, Nat.reduceMul, Nat.reduceSub, Nat.reduceEqDiff, Nat.reduceLT, Nat.reduceLeDiff, Int.reduceToNat, Int.reduceLE, Int.reduceLT, Int.toNat_natCast, reduceCtorEq] <;> first | with_reducible rfl | rfl) ?_
   refine aops_nil ?_
   repeat refine aw_seq ?_
   refine aw_cond rfl rfl (fun hb => ?_) fun hb => ?_
   ·repeat refine aw_seq ?_
    refine aw_run ttOk (by kernel_rfl) (by simp only [erun, eall, estep, avs, tts, Nat.reduceAdd, Nat.reduceMul, Nat.reduceSub, Nat.reduceEqDiff, Nat.reduceLT, Nat.reduceLeDiff, Int.reduceToNat, Int.reduceLE, Int.reduceLT, Int.toNat_natCast, reduceCtorEq] <;> first | with_reducible rfl | rfl) ?_
    exact aw_ret ⟨_, rfl, _, rfl, rfl⟩
   ·cases hb
  | true =>
   cases hu : usedB B (signerR B ins) s.idx
   all_goals rw [hu] at h4
   all_goals simp only [if_true, if_false, Bool.false_eq_true, bA] at h4
   ·repeat refine aw_seq ?_
    refine aw_draw 31 ttOk mixed (by kernel_rfl) (by kernel_rfl) (by kernel_rfl) ?_
    refine ahops_runT 5 (by simp only [hrun, hstep, avs, tts, Nat.reduceAdd, Nat.reduceMul, Nat.reduceSub, Nat.reduceEqDiff, Nat.reduceLT, Nat.reduceLeDiff, Int.reduceToNat, Int.reduceLE, Int.reduceLT, Int.toNat_natCast, reduceCtorEq, h1, l1, l1'] <;> first | with_reducible rfl | rfl) ?_
    refine ahops_pure rfl (by simp only [avs] <;> rfl) (message_a hT s hf.q (fun y hy => (hf.qi y hy).1) hf.lu hf.li hf.J) trivial (by simp only [avs] <;> rfl) ?_
    refine ahops_runT 5 (by simp only [hrun, hstep, avs, tts, Nat.reduceAdd, Nat.reduceMul, Nat.reduceSub, Nat.reduceEqDiff, Nat.reduceLT, Nat.reduceLeDiff, Int.reduceToNat, Int.reduceLE, Int.reduceLT, Int.toNat_natCast, reduceCtorEq, h1, l1, l1'] <;> first | with_reducible rfl | rfl) ?_
    refine ahops_pure rfl (by simp only [avs] <;> rfl) (verify_a hT (signerR B ins) (messT s) s.idx s.sig s.path hg hm hf.ss hf.ps) trivial (by simp only [avs] <;> rfl) ?_
    refine ahops_runT 19 (by simp only [hrun, hstep, avs, tts, Nat.reduceAdd, Nat.reduceMul, Nat.reduceSub, Nat.reduceEqDiff, Nat.reduceLT, Nat.reduceLeDiff, Int.reduceToNat, Int.reduceLE, Int.reduceLT, Int.toNat_natCast, reduceCtorEq, h1, h2, h3, h4, l1, l1', l2, l2', hv, Bool.not_false, Bool.not_true, ksh_si, l3] <;> first | with_reducible rfl | rfl) ?_
    refine ahops_nil ?_
    refine aops_run 0 (by simp only [erun, eall, estep, avs, tts, Nat.reduceAdd, Nat.reduceMul, Nat.reduceSub, Nat.reduceEqDiff, Nat.reduceLT, Nat.reduceLeDiff, Int.reduceToNat, Int.reduceLE, Int.reduceLT, Int.toNat_natCast, reduceCtorEq] <;> first | with_reducible rfl | rfl) ?_
    refine aops_nil ?_
    repeat refine aw_seq ?_
    refine aw_cond rfl rfl (fun hb => ?_) fun hb => ?_
    ·cases hb
    refine aw_skip ?_
    repeat refine aw_seq ?_
    refine aw_run ttOk (by kernel_rfl) (by simp only [erun, eall, estep, avs, tts, Nat.reduceAdd, Nat.reduceMul, Nat.reduceSub, Nat.reduceEqDiff, Nat.reduceLT, Nat.reduceLeDiff, Int.reduceToNat, Int.reduceLE, Int.reduceLT, Int.toNat_natCast, reduceCtorEq] <;> first | with_reducible rfl | rfl) ?_
    exact aw_ret ⟨_, rfl, _, rfl, rfl⟩
   ·repeat refine aw_seq ?_
    refine aw_draw 31 ttOk mixed (by kernel_rfl) (by kernel_rfl) (by kernel_rfl) ?_
    refine ahops_runT 5 (by simp only [hrun, hstep, avs, tts, Nat.reduceAdd, Nat.reduceMul, Nat.reduceSub, Nat.reduceEqDiff, Nat.reduceLT, Nat.reduceLeDiff, Int.reduceToNat, Int.reduceLE, Int.reduceLT, Int.toNat_natCast, reduceCtorEq, h1, l1, l1'] <;> first | with_reducible rfl | rfl) ?_
    refine ahops_pure rfl (by simp only [avs] <;> rfl) (message_a hT s hf.q (fun y hy => (hf.qi y hy).1) hf.lu hf.li hf.J) trivial (by simp only [avs] <;> rfl) ?_
    refine ahops_runT 5 (by simp only [hrun, hstep, avs, tts, Nat.reduceAdd, Nat.reduceMul, Nat.reduceSub, Nat.reduceEqDiff, Nat.reduceLT, Nat.reduceLeDiff, Int.reduceToNat, Int.reduceLE, Int.reduceLT, Int.toNat_natCast, reduceCtorEq, h1, l1, l1'] <;> first | with_reducible rfl | rfl) ?_
    refine ahops_pure rfl (by simp only [avs] <;> rfl) (verify_a hT (signerR B ins) (messT s) s.idx s.sig s.path hg hm hf.ss hf.ps) trivial (by simp only [avs] <;> rfl) ?_
    refine ahops_runT 19 (by simp only [hrun, hstep, avs, tts, Nat.reduceAdd, Nat.reduceMul, Nat.reduceSub, Nat.reduceEqDiff, Nat.reduceLT, Nat.reduceLeDiff, Int.reduceToNat, Int.reduceLE, Int.reduceLT, Int.toNat_natCast, reduceCtorEq, h1, h2, h3, h4, l1, l1', l2, l2', hv, Bool.not_false, Bool.not_true, ksh_si, l3] <;> first | with_reducible rfl | rfl) ?_
    refine ahops_nil ?_
    refine aops_run 0 (by simp only [erun, eall, estep, avs, tts, Nat.reduceAdd, Nat.reduceMul, Nat.reduceSub, Nat.reduceEqDiff, Nat.reduceLT, Nat.reduceLeDiff, Int.reduceToNat, Int.reduceLE, Int.reduceLT, Int.toNat_natCast, reduceCtorEq] <;> first | with_reducible rfl | rfl) ?_
    refine aops_nil ?_
    repeat refine aw_seq ?_
    refine aw_cond rfl rfl (fun hb => ?_) fun hb => ?_
    ·repeat refine aw_seq ?_
     refine aw_run ttOk (by kernel_rfl) (by simp only [erun, eall, estep, avs, tts, Nat.reduceAdd, Nat.reduceMul, Nat.reduceSub, Nat.reduceEqDiff, Nat.reduceLT, Nat.reduceLeDiff, Int.reduceToNat, Int.reduceLE, Int.reduceLT, Int.toNat_natCast, reduceCtorEq] <;> first | with_reducible rfl | rfl) ?_
     exact aw_ret ⟨_, rfl, _, rfl, rfl⟩
    ·cases hb
end
end Av
end Go.Proofs.YtnkepmfgmfeabaaGreatDoor
set_option linter.unusedVariables false
set_option linter.unusedSimpArgs false
namespace Go.Proofs.YtnkepmfgmfeabaaGreatDoor
open Go Go.RowKit
namespace Av
def newY (n : Nat) : Lay := ⟨n + 2, n, n + 1, none, [], 0, 0, 0⟩
theorem book_new (H : AHeap) (issuer : ByteArray) : Book (H ++ [.mp 9 77 (.one .str) [], .mp 92 4 (.flat [.str, .int .i64]) [], .box 76 [.d (.v (.string issuer)), nilS, .mp H.length, .mp (H.length + 1)]]) (newY H.length) ⟨issuer, []⟩ where
 len := rfl
 book := H_get H _ 2
 ord := rfl
 byId := H_get0 H _
 used := H_get H _ 1
 ent := fun i e x he => by simp [newY] at he
 dbox := fun i j e f he => by simp [newY] at he
 drow := fun i j e f he => by simp [newY] at he
 dord := fun i e he => by simp [newY] at he
 n1 := rfl
 n2 := rfl
 n3 := rfl
theorem new_a {base : World} {H : AHeap} (issuer : ByteArray) (hi : issuer.size ≤ 4611686018427387904) : CallsA Tryz.prog base 14 [.d (.v (.string issuer))] H fun r H' =>
  (isS issuer = true ∧ r = .tup [.ptr (newY H.length).bl 0, iA 0] ∧ (∃ G, H' = H ++ G) ∧ Book H' (newY H.length) ⟨issuer, []⟩) ∨ (isS issuer = false ∧ r = .tup [nilP, iA 1] ∧ H' = H) := by
 refine callsA_enter ttOk Tryz.call14 Tryz.func14 rfl fun hB hb hF => ?_
 rw [Tryz.results14, Tryz.ntmps14]
 simp only [arr_list, List.length_cons, List.length_nil, List.replicate, List.cons_append, List.nil_append, Nat.reduceAdd, Nat.reduceSub]
 repeat refine aw_seq ?_
 refine aw_run ttOk (by kernel_rfl) (by simp only [erun, eall, estep, avs, tts, Nat.reduceAdd, Nat.reduceMul, Nat.reduceSub, Nat.reduceEqDiff, Nat.reduceLT, Nat.reduceLeDiff, Int.reduceToNat, Int.reduceLE, Int.reduceLT, Int.toNat_natCast, reduceCtorEq] <;> first | with_reducible rfl | rfl) ?_
 repeat refine aw_seq ?_
 refine aw_region ttOk (by kernel_rfl) ?_
 refine aops_run 1 (by simp only [erun, eall, estep, avs, tts, Nat.reduceAdd, Nat.reduceMul, Nat.reduceSub, Nat.reduceEqDiff, Nat.reduceLT, Nat.reduceLeDiff, Int.reduceToNat, Int.reduceLE, Int.reduceLT, Int.toNat_natCast, reduceCtorEq] <;> first | with_reducible rfl | rfl) ?_
 refine aops_pure rfl (by simp only [avs] <;> rfl) (is_a base issuer hi) (by simp only [avs] <;> rfl) ?_
 refine aops_run 1 (by simp only [erun, eall, estep, avs, tts, Nat.reduceAdd, Nat.reduceMul, Nat.reduceSub, Nat.reduceEqDiff, Nat.reduceLT, Nat.reduceLeDiff, Int.reduceToNat, Int.reduceLE, Int.reduceLT, Int.toNat_natCast, reduceCtorEq] <;> first | with_reducible rfl | rfl) ?_
 refine aops_nil ?_
 repeat refine aw_seq ?_
 refine aw_cond rfl rfl (fun hb => ?_) fun hb => ?_
 ·repeat refine aw_seq ?_
  refine aw_run ttOk (by kernel_rfl) (by simp only [erun, eall, estep, avs, tts, Nat.reduceAdd, Nat.reduceMul, Nat.reduceSub, Nat.reduceEqDiff, Nat.reduceLT, Nat.reduceLeDiff, Int.reduceToNat, Int.reduceLE, Int.reduceLT, Int.toNat_natCast, reduceCtorEq] <;> first | with_reducible rfl | rfl) ?_
  exact aw_ret ⟨_, rfl, .inr ⟨by simpa using hb, rfl, rfl⟩⟩
 ·refine aw_skip ?_
  repeat refine aw_seq ?_
  refine aw_run ttOk (by kernel_rfl) (by simp only [erun, eall, estep, avs, tts, Nat.reduceAdd, Nat.reduceMul, Nat.reduceSub, Nat.reduceEqDiff, Nat.reduceLT, Nat.reduceLeDiff, Int.reduceToNat, Int.reduceLE, Int.reduceLT, Int.toNat_natCast, reduceCtorEq] <;> first | with_reducible rfl | rfl) ?_
  refine aw_ret ⟨_, rfl, .inl ⟨by simpa using hb, rfl, ⟨_, rfl⟩, book_new H issuer⟩⟩
end Av
end Go.Proofs.YtnkepmfgmfeabaaGreatDoor
set_option linter.unusedVariables false
set_option linter.unusedSimpArgs false
namespace Go.Proofs.YtnkepmfgmfeabaaGreatDoor
open Go Go.RowKit
namespace Av

/-! How the book's changes show in what is said of its heap. -/
def Lay.put (Y : Lay) (i : Nat) (e : ELay) : Lay := { Y with L := Y.L.set i e }
theorem eb_put {Y : Lay} {i : Nat} {e f : ELay} (he : Y.L[i]? = some e) (hb : f.b = e.b) (j : Nat) : (Y.put i f).eb j = Y.eb j := by
 unfold Lay.eb Lay.put
 simp only
 by_cases h : i = j
 ·subst h
  have hi := (List.getElem?_eq_some_iff.1 he).1
  rw [List.getElem?_set_self hi, he]
  simp [hb]
 ·rw [List.getElem?_set_ne h]
theorem set_get {α : Type} {l : List α} {i j : Nat} {a x : α} (h : (l.set i a)[j]? = some x) : (i = j ∧ x = a) ∨ (i ≠ j ∧ l[j]? = some x) := by
 by_cases e : i = j
 ·subst e
  have hi : i < l.length := by have := (List.getElem?_eq_some_iff.1 h).1; simpa using this
  rw [List.getElem?_set_self hi] at h
  cases h
  exact .inl ⟨rfl, rfl⟩
 ·rw [List.getElem?_set_ne e] at h
  exact .inr ⟨e, h⟩
theorem zip_set {α β γ : Type} {f : α × β → γ} {l : List α} {m : List β} {i : Nat} {a a' : α} {b b' : β} (ha : l[i]? = some a) (hb : m[i]? = some b) (h : f (a', b') = f (a, b)) : ((l.set i a').zip (m.set i b')).map f = (l.zip m).map f := by
 induction l generalizing m i with
 | nil => simp at ha
 | cons x l ih =>
  cases m with
  | nil => simp at hb
  | cons y m =>
   cases i with
   | zero =>
    simp only [List.getElem?_cons_zero, Option.some.injEq] at ha hb
    subst ha hb
    simp [h]
   | succ i =>
    simp only [List.getElem?_cons_succ] at ha hb
    simp [ih ha hb]
theorem map_set {α γ : Type} {f : α → γ} {l : List α} {i : Nat} {a a' : α} (ha : l[i]? = some a) (h : f a' = f a) : (l.set i a').map f = l.map f := by
 induction l generalizing i with
 | nil => simp at ha
 | cons x l ih =>
  cases i with
  | zero =>
   simp only [List.getElem?_cons_zero, Option.some.injEq] at ha
   subst ha
   simp [h]
  | succ i =>
   simp only [List.getElem?_cons_succ] at ha
   simp [ih ha]
theorem BookAt.upd {H H2 : AHeap} {Y : Lay} {B : Bk} (h : BookAt H Y B) {i : Nat} {e : ELay} {x x' : Ent} {row' : OR} (he : Y.L[i]? = some e) (hx : B.ents[i]? = some x) (hst : x'.st = x.st) (hsg : x'.sgn = x.sgn)
  (hsame : ∀ l o, H[l]? = some o → l ≠ e.b → (∀ a, e.row = some a → l ≠ a.1) → H2[l]? = some o)
  (hbox : H2[e.b]? = some (.box 79 (entC x' (slA row' x'.next.length)))) (hrow : RowAt H2 row' (x'.next.map fun j => [.ptr (Y.eb j) 0])) (hlt : ∀ j ∈ x'.next, i < j ∧ j < Y.L.length)
  (hnew : row' = e.row ∨ ∃ a, row' = some a ∧ H.length ≤ a.1) : BookAt H2 (Y.put i ⟨e.b, row'⟩) { B with ents := B.ents.set i x' } := by
 have hE := h.ent i e x he hx
 have eb := eb_put (f := ⟨e.b, row'⟩) he rfl
 -- what stays
 have keep : ∀ (l : Nat) (o : AObj), H[l]? = some o → (∀ cs, o ≠ .box 79 cs) → (∀ v its, o ≠ .row 77 1 v its) → H2[l]? = some o := fun l o ho h1 h2 => by
  refine hsame l o ho (fun e1 => ?_) fun a ha e1 => ?_
  ·subst e1; rw [hE.1] at ho; cases ho; exact h1 _ rfl
  ·subst e1
   have := hE.2.1
   rw [ha] at this
   rw [show H[a.1]? = _ from this] at ho; cases ho; exact h2 _ _ rfl
 have keepRow : ∀ (o : OR) items, RowAt H o items → (∀ c, o = some c → ∀ a, e.row = some a → c.1 ≠ a.1) → RowAt H2 o items := fun o items hr hne => by
  cases o with
  | none => exact hr
  | some c =>
   refine hsame c.1 _ hr (fun e1 => ?_) fun a ha => hne c rfl a ha
   have := hE.1
   rw [← e1, show H[c.1]? = _ from hr] at this
   cases this
 have rowLt : ∀ (o : OR) items c, RowAt H o items → o = some c → c.1 < H.length := fun o items c hr hc => by
  subst hc; exact lt_of_get (show H[c.1]? = _ from hr)
 refine ⟨by simp [Lay.put, h.len], keep _ _ h.book (fun _ => by simp) (fun _ _ => by simp), ?_, ?_, ?_, ?_, ?_, ?_, ?_⟩
 ·have := keepRow Y.od _ h.ord fun c hc a ha => (h.dord i e he a c ha hc).symm
  have e2 : ((Y.L.set i ⟨e.b, row'⟩).take Y.n1).map (fun e => [AV.ptr e.b 0]) = (Y.L.take Y.n1).map fun e => [AV.ptr e.b 0] := by
   rw [List.map_take, List.map_take, map_set (f := fun e : ELay => [AV.ptr e.b 0]) (a' := ⟨e.b, row'⟩) he rfl]
  show RowAt H2 Y.od (((Y.L.set i ⟨e.b, row'⟩).take Y.n1).map fun e => [AV.ptr e.b 0])
  rw [e2]; exact this
 ·have e2 : idE (Y.put i ⟨e.b, row'⟩) { B with ents := B.ents.set i x' } = idE Y B := by
   unfold idE Lay.put
   simp only
   rw [List.map_take, List.map_take, zip_set he hx (by simp [hst])]
  rw [e2]
  exact keep _ _ h.byId (fun _ => by simp) (fun _ _ => by simp)
 ·have e2 : usE (Y.put i ⟨e.b, row'⟩) { B with ents := B.ents.set i x' } = usE Y B := by
   unfold usE Lay.put
   simp only
   rw [List.map_take, List.map_take, map_set hx (by simp [hst, hsg])]
  rw [e2]
  exact keep _ _ h.used (fun _ => by simp) (fun _ _ => by simp)
 ·intro j f y hf hy
  simp only [eb]
  have hlen : (Y.put i ⟨e.b, row'⟩).L.length = Y.L.length := by simp [Lay.put]
  rw [hlen]
  rcases set_get hf with ⟨rfl, rfl⟩ | ⟨hne, hf⟩
  ·rcases set_get hy with ⟨_, rfl⟩ | ⟨hne, _⟩
   ·exact ⟨hbox, hrow, hlt⟩
   ·exact absurd rfl hne
  ·rcases set_get hy with ⟨h1, _⟩ | ⟨_, hy⟩
   ·exact absurd h1 hne
   have hJ := h.ent j f y hf hy
   refine ⟨hsame _ _ hJ.1 (fun e1 => hne (h.dbox i j e f he hf e1.symm)) fun a ha e1 => ?_, keepRow _ _ hJ.2.1 fun c hc a ha e1 => hne (h.drow i j e f he hf a c ha hc e1.symm), hJ.2.2⟩
   have h5 := hE.2.1
   rw [ha] at h5
   rw [e1, show H[a.1]? = _ from h5] at hJ
   cases hJ.1
 ·intro a b f g hf hg hfg
  rcases set_get hf with ⟨rfl, rfl⟩ | ⟨h1, hf⟩
  ·rcases set_get hg with ⟨rfl, rfl⟩ | ⟨h2, hg⟩
   ·rfl
   ·exact h.dbox _ _ e g he hg hfg
  ·rcases set_get hg with ⟨rfl, rfl⟩ | ⟨h2, hg⟩
   ·exact h.dbox _ _ f e hf he hfg
   ·exact h.dbox _ _ f g hf hg hfg
 ·intro a b f g hf hg p q hp hq hpq
  have far : ∀ c g' q', Y.L[c]? = some g' → g'.row = some q' → ∀ p', row' = some p' → p'.1 = q'.1 → i = c := fun c g' q' hg' hq' p' hp' hpq' => by
   have hl : q'.1 < H.length := by
    obtain ⟨y, hy⟩ : ∃ y, B.ents[c]? = some y := ⟨_, List.getElem?_eq_getElem (by rw [← h.len]; exact (List.getElem?_eq_some_iff.1 hg').1)⟩
    exact rowLt _ _ _ (h.ent c g' y hg' hy).2.1 hq'
   rcases hnew with hn | ⟨a', ha', hl'⟩
   ·exact h.drow _ _ e g' he hg' p' q' (by rw [← hn]; exact hp') hq' hpq'
   ·rw [hp'] at ha'; cases ha'; omega
  rcases set_get hf with ⟨rfl, rfl⟩ | ⟨h1, hf⟩
  ·rcases set_get hg with ⟨rfl, rfl⟩ | ⟨h2, hg⟩
   ·rfl
   ·exact far b g q hg hq p hp hpq
  ·rcases set_get hg with ⟨rfl, rfl⟩ | ⟨h2, hg⟩
   ·exact (far a f p hf hp q hq hpq.symm).symm
   ·exact h.drow _ _ f g hf hg p q hp hq hpq
 ·intro a f hf p q hp hq hpq
  rcases set_get hf with ⟨rfl, rfl⟩ | ⟨h1, hf⟩
  ·rcases hnew with hn | ⟨a', ha', hl'⟩
   ·exact h.dord _ e he p q (by rw [← hn]; exact hp) hq hpq
   ·have hq' : Y.od = some q := hq
    have := rowLt _ _ _ h.ord hq'
    rw [show row' = some p from hp] at ha'
    cases ha'
    omega
  ·exact h.dord _ f hf p q hp hq hpq
theorem snoc_get {α : Type} {l : List α} {j : Nat} {a x : α} (h : (l ++ [a])[j]? = some x) : l[j]? = some x ∨ (j = l.length ∧ x = a) := by
 rcases Nat.lt_trichotomy j l.length with h1 | h1 | h1
 ·rw [List.getElem?_append_left h1] at h; exact .inl h
 ·subst h1; simp at h; exact .inr ⟨rfl, h.symm⟩
 ·rw [List.getElem?_eq_none (by simp; omega)] at h; cases h
theorem eb_snoc {Y : Lay} {e : ELay} {j : Nat} (h : j < Y.L.length) : ({ Y with L := Y.L ++ [e] } : Lay).eb j = Y.eb j := by
 unfold Lay.eb
 simp only
 rw [List.getElem?_append_left h]
theorem RowAt.on {H H2 : AHeap} {o : OR} {items : List (List AV)} (h : RowAt H o items) (hs : ∀ a, o = some a → ∀ x, H[a.1]? = some x → H2[a.1]? = some x) : RowAt H2 o items := by
 cases o with
 | none => exact h
 | some c => exact hs c rfl _ h
theorem BookAt.addE {H H2 : AHeap} {Y : Lay} {B : Bk} (h : BookAt H Y B) {p : Nat} {x : Ent} (hx : x.next = []) (hp : H.length ≤ p) (hsame : ∀ (l : Nat) (o : AObj), H[l]? = some o → H2[l]? = some o) (hbox : H2[p]? = some (.box 79 (entC x nilS)))
  (h1 : Y.n1 ≤ Y.L.length) (h2 : Y.n2 ≤ Y.L.length) (h3 : Y.n3 ≤ Y.L.length) : BookAt H2 { Y with L := Y.L ++ [⟨p, none⟩] } { B with ents := B.ents ++ [x] } := by
 have far : ∀ (j : Nat) (f : ELay), Y.L[j]? = some f → f.b ≠ p := fun j f hf e => by
  obtain ⟨y, hy⟩ : ∃ y, B.ents[j]? = some y := ⟨_, List.getElem?_eq_getElem (by rw [← h.len]; exact (List.getElem?_eq_some_iff.1 hf).1)⟩
  have := lt_of_get (h.ent j f y hf hy).1
  omega
 refine ⟨by simp [h.len], hsame _ _ h.book, ?_, ?_, ?_, ?_, ?_, ?_, ?_⟩
 ·show RowAt H2 Y.od (((Y.L ++ [(⟨p, none⟩ : ELay)]).take Y.n1).map fun e : ELay => [AV.ptr e.b 0])
  rw [List.take_append_of_le_length h1]
  exact h.ord.on fun a _ o => hsame _ o
 ·have e2 : idE { Y with L := Y.L ++ [⟨p, none⟩] } { B with ents := B.ents ++ [x] } = idE Y B := by
   unfold idE
   simp only
   rw [List.zip_append h.len, List.take_append_of_le_length (by rw [List.length_zip, h.len]; have := h.len; omega)]
  rw [e2]
  exact hsame _ _ h.byId
 ·have e2 : usE { Y with L := Y.L ++ [⟨p, none⟩] } { B with ents := B.ents ++ [x] } = usE Y B := by
   unfold usE
   simp only
   rw [List.take_append_of_le_length (by have := h.len; omega)]
  rw [e2]
  exact hsame _ _ h.used
 ·intro j f y hf hy
  rcases snoc_get hf with hf | ⟨rfl, rfl⟩
  ·have hjl := (List.getElem?_eq_some_iff.1 hf).1
   rcases snoc_get hy with hy | ⟨e, _⟩
   ·have hE := h.ent j f y hf hy
    refine ⟨hsame _ _ hE.1, ?_, fun k hk => ?_⟩
    ·have e3 : (y.next.map fun j => [AV.ptr (({ Y with L := Y.L ++ [⟨p, none⟩] } : Lay).eb j) 0]) = y.next.map fun j => [AV.ptr (Y.eb j) 0] := List.map_congr_left fun k hk => by rw [eb_snoc (hE.2.2 k hk).2]
     rw [e3]
     exact hE.2.1.on fun a _ o => hsame _ o
    ·have := hE.2.2 k hk
     simp only [List.length_append, List.length_cons, List.length_nil]
     omega
   ·have := h.len; omega
  ·rcases snoc_get hy with hy | ⟨_, rfl⟩
   ·have := (List.getElem?_eq_some_iff.1 hy).1; have := h.len; omega
   ·rw [hx]
    exact ⟨by simpa [hx, slA] using hbox, rfl, fun k hk => by cases hk⟩
 ·intro a b f g hf hg hfg
  rcases snoc_get hf with hf | ⟨rfl, rfl⟩
  ·rcases snoc_get hg with hg | ⟨rfl, rfl⟩
   ·exact h.dbox a b f g hf hg hfg
   ·exact absurd hfg (far a f hf)
  ·rcases snoc_get hg with hg | ⟨rfl, rfl⟩
   ·exact absurd hfg.symm (far b g hg)
   ·rfl
 ·intro a b f g hf hg q r hq hr hqr
  rcases snoc_get hf with hf | ⟨rfl, rfl⟩
  ·rcases snoc_get hg with hg | ⟨rfl, rfl⟩
   ·exact h.drow a b f g hf hg q r hq hr hqr
   ·cases hr
  ·cases hq
 ·intro a f hf q r hq hr hqr
  rcases snoc_get hf with hf | ⟨rfl, rfl⟩
  ·exact h.dord a f hf q r hq hr hqr
  ·cases hq
theorem BookAt.addO {H H2 : AHeap} {Y : Lay} {B : Bk} (h : BookAt H Y B) {od' : OR} (hsame : ∀ (l : Nat) (o : AObj), H[l]? = some o → l ≠ Y.bl → (∀ a, Y.od = some a → l ≠ a.1) → H2[l]? = some o)
  (hbook : H2[Y.bl]? = some (.box 76 [.d (.v (.string B.issuer)), slA od' (Y.n1 + 1), .mp Y.ml, .mp Y.ul])) (hrow : RowAt H2 od' ((Y.L.take (Y.n1 + 1)).map fun e => [.ptr e.b 0])) (hnew : od' = Y.od ∨ ∃ a, od' = some a ∧ H.length ≤ a.1) :
  BookAt H2 { Y with od := od', n1 := Y.n1 + 1 } B := by
 have odT : ∀ a, Y.od = some a → ∃ v its, H[a.1]? = some (.row 77 1 v its) := fun a ha => by
  have := h.ord
  rw [ha] at this
  exact ⟨_, _, this⟩
 have keep : ∀ (l : Nat) (o : AObj), H[l]? = some o → (∀ cs, o ≠ .box 76 cs) → (∀ v its, o ≠ .row 77 1 v its) → H2[l]? = some o := fun l o ho h1 h2 => by
  refine hsame l o ho (fun e1 => ?_) fun a ha e1 => ?_
  ·subst e1; rw [h.book] at ho; cases ho; exact h1 _ rfl
  ·subst e1
   obtain ⟨v, its, hv⟩ := odT a ha
   rw [hv] at ho; cases ho; exact h2 _ _ rfl
 refine ⟨h.len, hbook, hrow, keep _ _ h.byId (fun _ => by simp) (fun _ _ => by simp), keep _ _ h.used (fun _ => by simp) (fun _ _ => by simp), ?_, h.dbox, h.drow, ?_⟩
 ·intro j f y hf hy
  have hE := h.ent j f y hf hy
  refine ⟨keep _ _ hE.1 (fun _ => by simp) (fun _ _ => by simp), ?_, hE.2.2⟩
  refine hE.2.1.on fun a ha o ho => hsame _ o ho (fun e1 => ?_) fun c hc => h.dord j f hf a c ha hc
  have h5 := hE.2.1
  rw [ha] at h5
  have h6 : H[a.1]? = _ := h5
  rw [e1, h.book] at h6
  cases h6
 ·intro a f hf q r hq hr hqr
  rcases hnew with hn | ⟨c, hc, hl⟩
  ·exact h.dord a f hf q r hq (by rw [← hn]; exact hr) hqr
  ·rw [show od' = some r from hr] at hc
   cases hc
   obtain ⟨y, hy⟩ : ∃ y, B.ents[a]? = some y := ⟨_, List.getElem?_eq_getElem (by rw [← h.len]; exact (List.getElem?_eq_some_iff.1 hf).1)⟩
   have h5 := (h.ent a f y hf hy).2.1
   rw [hq] at h5
   have := lt_of_get (show H[q.1]? = _ from h5)
   omega
theorem BookAt.addI {H H2 : AHeap} {Y : Lay} {B : Bk} (h : BookAt H Y B) (hsame : ∀ (l : Nat) (o : AObj), H[l]? = some o → l ≠ Y.ml → H2[l]? = some o) (hm : H2[Y.ml]? = some (.mp 9 77 (.one .str) (idE { Y with n2 := Y.n2 + 1 } B))) : BookAt H2 { Y with n2 := Y.n2 + 1 } B := by
 have keep : ∀ (l : Nat) (o : AObj), H[l]? = some o → (∀ es, o ≠ .mp 9 77 (.one .str) es) → H2[l]? = some o := fun l o ho h1 => hsame l o ho fun e1 => by
  subst e1; rw [h.byId] at ho; cases ho; exact h1 _ rfl
 refine ⟨h.len, keep _ _ h.book (fun _ => by simp), h.ord.on fun a ha o ho => ?_, hm, keep _ _ h.used (fun _ => by simp), fun j f y hf hy => ?_, h.dbox, h.drow, h.dord⟩
 ·have := h.ord
  rw [ha] at this
  rw [show H[a.1]? = _ from this] at ho
  cases ho
  exact keep _ _ (show H[a.1]? = _ from this) (fun _ => by simp)
 ·have hE := h.ent j f y hf hy
  refine ⟨keep _ _ hE.1 (fun _ => by simp), hE.2.1.on fun a ha o ho => ?_, hE.2.2⟩
  have := hE.2.1
  rw [ha] at this
  rw [show H[a.1]? = _ from this] at ho
  cases ho
  exact keep _ _ (show H[a.1]? = _ from this) (fun _ => by simp)
theorem BookAt.addU {H H2 : AHeap} {Y : Lay} {B : Bk} (h : BookAt H Y B) (hsame : ∀ (l : Nat) (o : AObj), H[l]? = some o → l ≠ Y.ul → H2[l]? = some o) (hm : H2[Y.ul]? = some (.mp 92 4 (.flat [.str, .int .i64]) (usE { Y with n3 := Y.n3 + 1 } B))) : BookAt H2 { Y with n3 := Y.n3 + 1 } B := by
 have keep : ∀ (l : Nat) (o : AObj), H[l]? = some o → (∀ es, o ≠ .mp 92 4 (.flat [.str, .int .i64]) es) → H2[l]? = some o := fun l o ho h1 => hsame l o ho fun e1 => by
  subst e1; rw [h.used] at ho; cases ho; exact h1 _ rfl
 refine ⟨h.len, keep _ _ h.book (fun _ => by simp), h.ord.on fun a ha o ho => ?_, keep _ _ h.byId (fun _ => by simp), hm, fun j f y hf hy => ?_, h.dbox, h.drow, h.dord⟩
 ·have := h.ord
  rw [ha] at this
  rw [show H[a.1]? = _ from this] at ho
  cases ho
  exact keep _ _ (show H[a.1]? = _ from this) (fun _ => by simp)
 ·have hE := h.ent j f y hf hy
  refine ⟨keep _ _ hE.1 (fun _ => by simp), hE.2.1.on fun a ha o ho => ?_, hE.2.2⟩
  have := hE.2.1
  rw [ha] at this
  rw [show H[a.1]? = _ from this] at ho
  cases ho
  exact keep _ _ (show H[a.1]? = _ from this) (fun _ => by simp)
end Av
end Go.Proofs.YtnkepmfgmfeabaaGreatDoor
set_option linter.unusedVariables false
set_option linter.unusedSimpArgs false
namespace Go.Proofs.YtnkepmfgmfeabaaGreatDoor
open Go Go.RowKit
namespace Av

/-! Revoking: what follows is marked too. -/
def visit : Nat → Nat → List Ent → List Ent
 | 0, _, E => E
 | f + 1, i, E => match E[i]? with
  | none => E
  | some x => if x.rev then E else x.next.foldl (fun E j => visit f j E) (E.set i { x with rev := true })
/-- nothing but marks differs -/
def Frm (E E' : List Ent) : Prop := E'.length = E.length ∧ ∀ (i : Nat) x, E[i]? = some x → ∃ r, E'[i]? = some { x with rev := r }
theorem Frm.refl (E : List Ent) : Frm E E := ⟨rfl, fun i x h => ⟨x.rev, h⟩⟩
theorem Frm.trans {A B C : List Ent} (h : Frm A B) (k : Frm B C) : Frm A C := ⟨k.1.trans h.1, fun i x hx => by
 obtain ⟨r, h1⟩ := h.2 i x hx
 obtain ⟨r', h2⟩ := k.2 i _ h1
 exact ⟨r', h2⟩⟩
theorem Frm.mark {E : List Ent} {i : Nat} {x : Ent} (h : E[i]? = some x) (r : Bool) : Frm E (E.set i { x with rev := r }) := ⟨by simp, fun j y hy => by
 by_cases e : i = j
 ·subst e
  rw [h] at hy; cases hy
  exact ⟨r, List.getElem?_set_self (List.getElem?_eq_some_iff.1 h).1⟩
 ·exact ⟨y.rev, by rw [List.getElem?_set_ne e]; exact hy⟩⟩
theorem visit_frm : ∀ (f i : Nat) (E : List Ent), Frm E (visit f i E)
 | 0, i, E => .refl E
 | f + 1, i, E => by
  unfold visit
  split
  ·exact .refl E
  ·rename_i x hx
   split
   ·exact .refl E
   ·have go : ∀ (l : List Nat) (E : List Ent), Frm E (l.foldl (fun E j => visit f j E) E) := by
     intro l
     induction l with
     | nil => exact fun E => .refl E
     | cons j l ih => exact fun E => (visit_frm f j E).trans (ih _)
    exact (Frm.mark hx true).trans (go _ _)
theorem Frm.next {E E' : List Ent} (h : Frm E E') (hn : ∀ x ∈ E, x.next.length ≤ 1000000) : ∀ x ∈ E', x.next.length ≤ 1000000 := by
 intro x hx
 obtain ⟨i, hi, rfl⟩ := List.mem_iff_getElem.1 hx
 have hi' : i < E.length := by rw [← h.1]; exact hi
 obtain ⟨r, h1⟩ := h.2 i _ (List.getElem?_eq_getElem hi')
 rw [List.getElem?_eq_getElem hi] at h1
 rw [Option.some.inj h1]
 exact hn E[i] (List.getElem_mem hi')
theorem fold_frm (f : Nat) : ∀ (l : List Nat) (E : List Ent), Frm E (l.foldl (fun E j => visit f j E) E)
 | [], E => .refl E
 | j :: l, E => (visit_frm f j E).trans (fold_frm f l _)
/-- only entries' marks are written -/
def VKeep (H H' : AHeap) : Prop := H'.length = H.length ∧ ∀ (l : Nat) (o : AObj), H[l]? = some o → (∀ cs, o ≠ .box 79 cs) → H'[l]? = some o
theorem VKeep.refl (H : AHeap) : VKeep H H := ⟨rfl, fun _ _ h _ => h⟩
theorem VKeep.trans {A B C : AHeap} (h : VKeep A B) (k : VKeep B C) : VKeep A C := ⟨k.1.trans h.1, fun l o ho hn => k.2 l o (h.2 l o ho hn) hn⟩
theorem put_self {Y : Lay} {i : Nat} {e : ELay} (he : Y.L[i]? = some e) : Y.put i ⟨e.b, e.row⟩ = Y := by
 unfold Lay.put
 have : Y.L.set i ⟨e.b, e.row⟩ = Y.L := by
  apply List.ext_getElem?
  intro j
  by_cases h : i = j
  ·subst h; rw [List.getElem?_set_self (List.getElem?_eq_some_iff.1 he).1, he]
  ·rw [List.getElem?_set_ne h]
 rw [this]
theorem visit_a {base : World} (fl : Nat) : ∀ (f : Nat) {H : AHeap} {Y : Lay} {B : Bk} (h : Book H Y B) (hn : B.ents.length ≤ 1000000) (hnx : ∀ x ∈ B.ents, x.next.length ≤ 1000000) (i : Nat) (hi : i < B.ents.length) (hf : B.ents.length - i ≤ f) (hfl : H[fl]? = some (.box 95 [.fn (.func 52) [] [.ptr fl 0]])),
  CallsA Tryz.prog base 52 [.ptr (Y.eb i) 0, .ptr fl 0] H fun r H' => r = .tup [] ∧ Book H' Y { B with ents := visit f i B.ents } ∧ VKeep H H'
 | 0, H, Y, B, h, hn, hnx, i, hi, hf, hfl => by omega
 | f + 1, H, Y, B, h, hn, hnx, i, hi, hf, hfl => by
  obtain ⟨x, hx⟩ : ∃ x, B.ents[i]? = some x := ⟨_, List.getElem?_eq_getElem hi⟩
  obtain ⟨e, he, heb⟩ := h.lay hx
  have hE := h.ent i e x he hx
  have hbx := hE.1
  rw [heb]
  refine callsA_enter ttOk Tryz.call52 Tryz.func52 rfl fun hB hb hF => ?_
  rw [Tryz.results52, Tryz.ntmps52]
  simp only [arr_list, List.length_cons, List.length_nil, List.replicate, List.cons_append, List.nil_append, Nat.reduceAdd, Nat.reduceSub]
  repeat refine aw_seq ?_
  refine aw_run ttOk (by kernel_rfl) (by simp only [erun, eall, estep, avs, tts, Nat.reduceAdd, Nat.reduceMul, Nat.reduceSub, Nat.reduceEqDiff, Nat.reduceLT, Nat.reduceLeDiff, Int.reduceToNat, Int.reduceLE, Int.reduceLT, Int.toNat_natCast, reduceCtorEq, hbx, entC] <;> first | with_reducible rfl | rfl) ?_
  repeat refine aw_seq ?_
  refine aw_cond rfl rfl (fun hb => ?_) fun hb => ?_
  ·refine aw_ret ⟨_, rfl, rfl, ?_, .refl H⟩
   have : visit (f + 1) i B.ents = B.ents := by unfold visit; rw [hx]; simp only; rw [if_pos hb]
   rw [this]
   exact h
  refine aw_skip ?_
  repeat refine aw_seq ?_
  refine aw_run ttOk (by kernel_rfl) (by simp only [erun, eall, estep, avs, tts, Nat.reduceAdd, Nat.reduceMul, Nat.reduceSub, Nat.reduceEqDiff, Nat.reduceLT, Nat.reduceLeDiff, Int.reduceToNat, Int.reduceLE, Int.reduceLT, Int.toNat_natCast, reduceCtorEq, hbx, entC] <;> first | with_reducible rfl | rfl) ?_
  have hB1 : Book (H.set e.b (.box 79 (entC { x with rev := true } (slA e.row x.next.length)))) Y { B with ents := B.ents.set i { x with rev := true } } := by
   have hl := lt_of_get hbx
   have h1 := h.toBookAt.upd (H2 := H.set e.b (.box 79 (entC { x with rev := true } (slA e.row x.next.length)))) he hx (x' := { x with rev := true }) (row' := e.row) rfl rfl (fun l o ho hne _ => by rw [get_set_ne hne]; exact ho) (get_set_same hl) (hE.2.1.on fun a ha o ho => by
    rw [get_set_ne]
    ·exact ho
    ·intro e1
     have h5 := hE.2.1
     rw [ha] at h5
     have h6 : H[a.1]? = _ := h5
     rw [e1, hbx] at h6
     cases h6) hE.2.2 (.inl rfl)
   rw [put_self he] at h1
   exact ⟨h1, by simp [h.n1], by simp [h.n2], by simp [h.n3]⟩
  have hV1 : VKeep H (H.set e.b (.box 79 (entC { x with rev := true } (slA e.row x.next.length)))) := ⟨by simp, fun l o ho hn => by
   rw [get_set_ne]
   ·exact ho
   ·intro e1; rw [e1, hbx] at ho; cases ho; exact hn _ rfl⟩
  have hbx1 : (H.set e.b (.box 79 (entC { x with rev := true } (slA e.row x.next.length))))[e.b]? = some (.box 79 (entC { x with rev := true } (slA e.row x.next.length))) := get_set_same (lt_of_get hbx)
  have hvis : visit (f + 1) i B.ents = x.next.foldl (fun E j => visit f j E) (B.ents.set i { x with rev := true }) := by
   conv => lhs; unfold visit
   rw [hx]
   simp only
   rw [if_neg (by rw [hb]; simp)]
  refine aw_goes (env' := .ptr e.b 0 :: .ptr fl 0 :: List.replicate 23 .undef) (H' := H.set e.b (.box 79 (entC { x with rev := true } (slA e.row x.next.length)))) ⟨by simp [EnvLe, List.replicate], .inl rfl⟩ ?_
  rw [hvis]
  generalize hH1 : H.set e.b (.box 79 (entC { x with rev := true } (slA e.row x.next.length))) = H1 at hB1 hV1 hbx1 ⊢
  have hE1x : ∀ y ∈ B.ents.set i { x with rev := true }, y.next.length ≤ 1000000 := (Frm.mark hx true).next hnx
  generalize hE1 : B.ents.set i { x with rev := true } = E1 at hB1 hE1x ⊢
  have hE1n : E1.length = B.ents.length := by rw [← hE1]; simp
  simp only [List.replicate]
  rcases hro : e.row with _ | ⟨ol, ov⟩
  ·rw [hro] at hbx1
   have hE' := hE.2.1
   rw [hro] at hE'
   have hnx : x.next = [] := by simpa [RowAt] using hE'
   rw [hnx] at hbx1 ⊢
   repeat refine aw_seq ?_
   refine aw_run ttOk (by kernel_rfl) (by simp only [erun, eall, estep, avs, tts, Nat.reduceAdd, Nat.reduceMul, Nat.reduceSub, Nat.reduceEqDiff, Nat.reduceLT, Nat.reduceLeDiff, Int.reduceToNat, Int.reduceLE, Int.reduceLT, Int.toNat_natCast, reduceCtorEq, hbx1, entC, slA, nilS] <;> first | with_reducible rfl | rfl) ?_
   refine aw_block (aw_loop (fun m env H' => m = 0 ∧ H' = H1 ∧ env = .undef :: .undef :: .undef :: .undef :: .undef :: .undef :: .undef :: .undef :: .undef :: .undef :: .undef :: .undef :: .undef :: .undef :: .undef :: .undef :: iA 0 :: iA 0 :: List.replicate 7 .undef) ?_ ⟨rfl, rfl, rfl⟩ ?_)
   ·simp [Goes, EnvLe, iA, List.replicate]
   rintro m env H' ⟨rfl, rfl, rfl⟩ hN
   simp only [List.replicate, iA]
   repeat refine aw_seq ?_
   refine aw_run ttOk (by kernel_rfl) (by simp only [erun, eall, estep, avs, tts, Nat.reduceAdd, Nat.reduceMul, Nat.reduceSub, Nat.reduceEqDiff, Nat.reduceLT, Nat.reduceLeDiff, Int.reduceToNat, Int.reduceLE, Int.reduceLT, Int.toNat_natCast, reduceCtorEq] <;> first | with_reducible rfl | rfl) ?_
   repeat refine aw_seq ?_
   refine aw_cond rfl rfl (fun hb => ?_) fun hb => ?_
   ·cases hb
   refine aw_exit ?_
   exact ⟨_, rfl, rfl, hB1, hV1⟩
  rw [hro] at hbx1
  have hrow0 : H[ol]? = some (.row 77 1 ov (x.next.map fun j => [.ptr (Y.eb j) 0])) := by
   have hE' := hE.2.1
   rw [hro] at hE'
   exact hE'
  have hrow := hV1.2 _ _ hrow0 (fun _ => by simp)
  have hnl : x.next.length ≤ 9223372036854775807 := by have := hnx x (List.mem_of_getElem? hx); omega
  repeat refine aw_seq ?_
  refine aw_run ttOk (by kernel_rfl) (by simp only [erun, eall, estep, avs, tts, Nat.reduceAdd, Nat.reduceMul, Nat.reduceSub, Nat.reduceEqDiff, Nat.reduceLT, Nat.reduceLeDiff, Int.reduceToNat, Int.reduceLE, Int.reduceLT, Int.toNat_natCast, reduceCtorEq, hbx1, entC, slA, hrow] <;> first | with_reducible rfl | rfl) ?_
  refine aw_block (aw_loop (fun m env H' => ∃ k, m = x.next.length - k ∧ k ≤ x.next.length ∧ Book H' Y { B with ents := (x.next.take k).foldl (fun E j => visit f j E) E1 } ∧ VKeep H H' ∧ env = .undef :: .ptr fl 0 :: .undef :: .undef :: .undef :: .undef :: .undef :: .undef :: .undef :: .undef :: .undef :: .undef :: .undef :: .undef :: .undef :: .ms ol ov x.next.length :: iA x.next.length :: iA k :: List.replicate 7 .undef) ?_ ⟨0, rfl, Nat.zero_le _, hB1, hV1, rfl⟩ ?_)
  ·simp [Goes, EnvLe, iA, List.replicate]
  rintro m env H' ⟨k, rfl, hk, hBk, hVk, rfl⟩ hN
  simp only [List.replicate, iA]
  repeat refine aw_seq ?_
  refine aw_run ttOk (by kernel_rfl) (by simp only [erun, eall, estep, avs, tts, Nat.reduceAdd, Nat.reduceMul, Nat.reduceSub, Nat.reduceEqDiff, Nat.reduceLT, Nat.reduceLeDiff, Int.reduceToNat, Int.reduceLE, Int.reduceLT, Int.toNat_natCast, reduceCtorEq] <;> first | with_reducible rfl | rfl) ?_
  repeat refine aw_seq ?_
  refine aw_cond rfl rfl (fun hb => ?_) fun hb => ?_
  ·have hlt : k < x.next.length := by simpa using hb
   have hix : (0 : Int) ≤ (k : Int) := by omega
   have hgd : (x.next.map fun j => [AV.ptr (Y.eb j) 0]).getD k [] = [.ptr (Y.eb x.next[k]) 0] := by simp [hlt]
   have hrk := hVk.2 _ _ hrow0 (fun _ => by simp)
   have hfk := hVk.2 _ _ hfl (fun _ => by simp)
   have hjn := hE.2.2 _ (List.getElem_mem hlt)
   rw [h.len] at hjn
   have hfr : ∀ (l : List Nat) (E : List Ent), (l.foldl (fun E j => visit f j E) E).length = E.length := fun l E => (fold_frm f l E).1
   refine aw_skip ?_
   repeat refine aw_seq ?_
   refine aw_block ?_
   repeat refine aw_seq ?_
   refine aw_run ttOk (by kernel_rfl) (by simp only [erun, eall, estep, avs, tts, Nat.reduceAdd, Nat.reduceMul, Nat.reduceSub, Nat.reduceEqDiff, Nat.reduceLT, Nat.reduceLeDiff, Int.reduceToNat, Int.reduceLE, Int.reduceLT, Int.toNat_natCast, reduceCtorEq, hrk, hgd, hix, hlt] <;> first | with_reducible rfl | rfl) ?_
   repeat refine aw_seq ?_
   refine aw_region ttOk (by kernel_rfl) ?_
   refine aops_run 2 (by simp only [erun, eall, estep, avs, tts, Nat.reduceAdd, Nat.reduceMul, Nat.reduceSub, Nat.reduceEqDiff, Nat.reduceLT, Nat.reduceLeDiff, Int.reduceToNat, Int.reduceLE, Int.reduceLT, Int.toNat_natCast, reduceCtorEq, hfk] <;> first | with_reducible rfl | rfl) ?_
   refine aops_call rfl (by simp only [avs, tts] <;> rfl) ⟨_, visit_a fl f hBk (by simp only [hfr, hE1n]; exact hn) ((fold_frm f _ E1).next hE1x) x.next[k] (by simp only [hfr, hE1n]; exact hjn.2) (by simp only [hfr, hE1n]; omega) hfk, ?_⟩
   rintro r H'' ⟨rfl, hB2, hV2⟩ hl2
   refine aops_nil ?_
   repeat refine aw_seq ?_
   refine aw_run ttOk (by kernel_rfl) (by simp only [erun, eall, estep, avs, tts, Nat.reduceAdd, Nat.reduceMul, Nat.reduceSub, Nat.reduceEqDiff, Nat.reduceLT, Nat.reduceLeDiff, Int.reduceToNat, Int.reduceLE, Int.reduceLT, Int.toNat_natCast, reduceCtorEq, wrap_succ hlt hnl] <;> first | with_reducible rfl | rfl) ?_
   refine ⟨x.next.length - (k + 1), _, _, by omega, ⟨?_, .inl rfl⟩, k + 1, rfl, hlt, ?_, hVk.trans hV2, rfl⟩
   ·simp [EnvLe, iA, List.replicate]
   ·rw [List.take_succ_eq_append_getElem hlt, List.foldl_append]
    exact hB2
  ·refine aw_exit ?_
   have hkl : k = x.next.length := by simp at hb; omega
   rw [hkl, List.take_length] at hBk
   exact ⟨_, rfl, rfl, hBk, hVk⟩
/-- Revoke -/
def revokeR (B : Bk) (id : ByteArray) : Int × Bk := match findB B id with
 | none => (11, B)
 | some i => match B.ents[i]? with
  | none => (11, B)
  | some x => if x.rev then (12, B) else (0, { B with ents := visit B.ents.length i B.ents })
theorem revoke_a {base : World} {H : AHeap} {Y : Lay} {B : Bk} (h : Book H Y B) (hn : B.ents.length ≤ 1000000) (hnx : ∀ x ∈ B.ents, x.next.length ≤ 1000000) (id : ByteArray) :
  CallsA Tryz.prog base 24 [.ptr Y.bl 0, .d (.v (.string id))] H fun r H' => r = iA (revokeR B id).1 ∧ Book H' Y (revokeR B id).2 ∧ ∀ (l : Nat) (o : AObj), H[l]? = some o → (∀ cs, o ≠ .box 79 cs) → H'[l]? = some o := by
 refine callsA_enter ttOk Tryz.call24 Tryz.func24 rfl fun hB hb hF => ?_
 rw [Tryz.results24, Tryz.ntmps24]
 simp only [arr_list, List.length_cons, List.length_nil, List.replicate, List.cons_append, List.nil_append, Nat.reduceAdd, Nat.reduceSub]
 repeat refine aw_seq ?_
 refine aw_run ttOk (by kernel_rfl) (by simp only [erun, eall, estep, avs, tts, Nat.reduceAdd, Nat.reduceMul, Nat.reduceSub, Nat.reduceEqDiff, Nat.reduceLT, Nat.reduceLeDiff, Int.reduceToNat, Int.reduceLE, Int.reduceLT, Int.toNat_natCast, reduceCtorEq] <;> first | with_reducible rfl | rfl) ?_
 repeat refine aw_seq ?_
 refine aw_region ttOk (by kernel_rfl) ?_
 refine aops_run 2 (by simp only [erun, eall, estep, avs, tts, Nat.reduceAdd, Nat.reduceMul, Nat.reduceSub, Nat.reduceEqDiff, Nat.reduceLT, Nat.reduceLeDiff, Int.reduceToNat, Int.reduceLE, Int.reduceLT, Int.toNat_natCast, reduceCtorEq] <;> first | with_reducible rfl | rfl) ?_
 refine aops_read rfl (by simp only [avs] <;> rfl) (find_a h id) (by simp only [avs] <;> rfl) ?_
 refine aops_run 1 (by simp only [erun, eall, estep, avs, tts, Nat.reduceAdd, Nat.reduceMul, Nat.reduceSub, Nat.reduceEqDiff, Nat.reduceLT, Nat.reduceLeDiff, Int.reduceToNat, Int.reduceLE, Int.reduceLT, Int.toNat_natCast, reduceCtorEq] <;> first | with_reducible rfl | rfl) ?_
 refine aops_nil ?_
 unfold revokeR
 cases hf : findB B id with
 | none =>
  rw [findA_none hf]
  repeat refine aw_seq ?_
  refine aw_run ttOk (by kernel_rfl) (by simp only [erun, eall, estep, avs, tts, Nat.reduceAdd, Nat.reduceMul, Nat.reduceSub, Nat.reduceEqDiff, Nat.reduceLT, Nat.reduceLeDiff, Int.reduceToNat, Int.reduceLE, Int.reduceLT, Int.toNat_natCast, reduceCtorEq, nilP] <;> first | with_reducible rfl | rfl) ?_
  repeat refine aw_seq ?_
  refine aw_cond rfl rfl (fun hb => ?_) fun hb => ?_
  ·repeat refine aw_seq ?_
   refine aw_run ttOk (by kernel_rfl) (by simp only [erun, eall, estep, avs, tts, Nat.reduceAdd, Nat.reduceMul, Nat.reduceSub, Nat.reduceEqDiff, Nat.reduceLT, Nat.reduceLeDiff, Int.reduceToNat, Int.reduceLE, Int.reduceLT, Int.toNat_natCast, reduceCtorEq] <;> first | with_reducible rfl | rfl) ?_
   exact aw_ret ⟨_, rfl, rfl, h, fun _ _ ho _ => ho⟩
  ·cases hb
 | some i =>
  obtain ⟨x, hx, _⟩ := findB_some hf
  obtain ⟨nx, hbx⟩ := h.box hx
  rw [findA_some hf]
  simp only [hx]
  repeat refine aw_seq ?_
  refine aw_run ttOk (by kernel_rfl) (by simp only [erun, eall, estep, avs, tts, Nat.reduceAdd, Nat.reduceMul, Nat.reduceSub, Nat.reduceEqDiff, Nat.reduceLT, Nat.reduceLeDiff, Int.reduceToNat, Int.reduceLE, Int.reduceLT, Int.toNat_natCast, reduceCtorEq, nilP] <;> first | with_reducible rfl | rfl) ?_
  repeat refine aw_seq ?_
  refine aw_cond rfl rfl (fun hb => ?_) fun hb => ?_
  ·cases hb
  refine aw_skip ?_
  repeat refine aw_seq ?_
  refine aw_run ttOk (by kernel_rfl) (by simp only [erun, eall, estep, avs, tts, Nat.reduceAdd, Nat.reduceMul, Nat.reduceSub, Nat.reduceEqDiff, Nat.reduceLT, Nat.reduceLeDiff, Int.reduceToNat, Int.reduceLE, Int.reduceLT, Int.toNat_natCast, reduceCtorEq, hbx, entC] <;> first | with_reducible rfl | rfl) ?_
  repeat refine aw_seq ?_
  refine aw_cond rfl rfl (fun hb => ?_) fun hb => ?_
  ·repeat refine aw_seq ?_
   refine aw_run ttOk (by kernel_rfl) (by simp only [erun, eall, estep, avs, tts, Nat.reduceAdd, Nat.reduceMul, Nat.reduceSub, Nat.reduceEqDiff, Nat.reduceLT, Nat.reduceLeDiff, Int.reduceToNat, Int.reduceLE, Int.reduceLT, Int.toNat_natCast, reduceCtorEq] <;> first | with_reducible rfl | rfl) ?_
   exact aw_ret ⟨_, rfl, by rw [if_pos hb]; rfl, by rw [if_pos hb]; exact h, fun _ _ ho _ => ho⟩
  refine aw_skip ?_
  repeat refine aw_seq ?_
  refine aw_run ttOk (by kernel_rfl) (by simp only [erun, eall, estep, avs, tts, Nat.reduceAdd, Nat.reduceMul, Nat.reduceSub, Nat.reduceEqDiff, Nat.reduceLT, Nat.reduceLeDiff, Int.reduceToNat, Int.reduceLE, Int.reduceLT, Int.toNat_natCast, reduceCtorEq] <;> first | with_reducible rfl | rfl) ?_
  repeat refine aw_seq ?_
  refine aw_run ttOk (by kernel_rfl) (by simp only [erun, eall, estep, avs, tts, Nat.reduceAdd, Nat.reduceMul, Nat.reduceSub, Nat.reduceEqDiff, Nat.reduceLT, Nat.reduceLeDiff, Int.reduceToNat, Int.reduceLE, Int.reduceLT, Int.toNat_natCast, reduceCtorEq] <;> first | with_reducible rfl | rfl) ?_
  repeat refine aw_seq ?_
  refine aw_region ttOk (by kernel_rfl) ?_
  refine aops_run 2 (by simp only [erun, eall, estep, avs, tts, Nat.reduceAdd, Nat.reduceMul, Nat.reduceSub, Nat.reduceEqDiff, Nat.reduceLT, Nat.reduceLeDiff, Int.reduceToNat, Int.reduceLE, Int.reduceLT, Int.toNat_natCast, reduceCtorEq] <;> first | with_reducible rfl | rfl) ?_
  have hi := (List.getElem?_eq_some_iff.1 hx).1
  refine aops_call rfl (by simp only [avs, tts] <;> rfl) ⟨_, visit_a H.length B.ents.length (h.app _) hn hnx i hi (by omega) (H_get0 _ _), ?_⟩
  rintro r H'' ⟨rfl, hB2, hV2⟩ hl2
  refine aops_nil ?_
  repeat refine aw_seq ?_
  refine aw_run ttOk (by kernel_rfl) (by simp only [erun, eall, estep, avs, tts, Nat.reduceAdd, Nat.reduceMul, Nat.reduceSub, Nat.reduceEqDiff, Nat.reduceLT, Nat.reduceLeDiff, Int.reduceToNat, Int.reduceLE, Int.reduceLT, Int.toNat_natCast, reduceCtorEq] <;> first | with_reducible rfl | rfl) ?_
  refine aw_ret ⟨_, rfl, by rw [if_neg (by rw [hb]; simp)]; rfl, by rw [if_neg (by rw [hb]; simp)]; exact hB2, fun l o ho hne => hV2.2 l o (got ho _) hne⟩
end Av
end Go.Proofs.YtnkepmfgmfeabaaGreatDoor
set_option linter.unusedVariables false
set_option linter.unusedSimpArgs false
namespace Go.Proofs.YtnkepmfgmfeabaaGreatDoor
open Go Go.RowKit
namespace Av

/-! Operations one by one. -/
section
variable {P : Program} {tt : TTab} {base : World} {ops : Array Oper} {N0 : Nat} {K : List AV → AHeap → Prop} {o : Oper} {rest : List Oper} {env env' : List AV} {H H' : AHeap} {r : AV}
end
end Av
end Go.Proofs.YtnkepmfgmfeabaaGreatDoor
set_option linter.unusedVariables false
set_option linter.unusedSimpArgs false
namespace Go.Proofs.YtnkepmfgmfeabaaGreatDoor
open Go Go.RowKit
namespace Av

/-! Guarded operations, whichever way the guard falls. -/
section
variable {P : Program} {tt : TTab} {base : World} {ops : Array Oper} {N0 : Nat} {K : List AV → AHeap → Prop} {o : Oper} {rest : List Oper} {env env' : List AV} {H H' : AHeap} {r : AV}
def AOpsC (P : Program) (tt : TTab) (base : World) (ops : Array Oper) (o : Oper) (rest : List Oper) (env : List AV) (H : AHeap) (K : List AV → AHeap → Prop) : Bool → Prop
 | true => AOps P tt base ops ({ o with guard := none } :: rest) env H K
 | false => AOps P tt base ops rest (aput env o.dst skipV) H K
theorem aops_grd {j : Nat} {want c : Bool} {y : Option Bool} (hg : o.guard = some (j, want)) (hy : yieldedA ops env j = some y) (hc : wantB y want = c) (k : AOpsC P tt base ops o rest env H K c) : AOps P tt base ops (o :: rest) env H K := by
 subst hc
 cases h : wantB y want with
 | true =>
  rw [h] at k
  have e : y = some want := by rw [wantB_eq] at h; simpa using h
  subst e
  exact aops_on hg hy k
 | false =>
  rw [h] at k
  simp only [AOps, AGuard, hg, hy, h, Bool.false_eq_true, if_false]
  exact k
theorem grd_on (k : AOps P tt base ops ({ o with guard := none } :: rest) env H K) : AOpsC P tt base ops o rest env H K true := k
theorem grd_off (he : aput env o.dst skipV = env') (k : AOps P tt base ops rest env' H K) : AOpsC P tt base ops o rest env H K false := by subst he; exact k
def AHOpsC (P : Program) (tt : TTab) (base : World) (N0 : Nat) (ops : Array Oper) (o : Oper) (rest : List Oper) (env : List AV) (H : AHeap) (K : List AV → AHeap → Prop) : Bool → Prop
 | true => AHOps P tt base N0 ops ({ o with guard := none } :: rest) env H K
 | false => AHOps P tt base N0 ops rest (aput env o.dst skipV) H K
theorem ahops_grd {j : Nat} {want c : Bool} {y : Option Bool} (hg : o.guard = some (j, want)) (hy : yieldedA ops env j = some y) (hc : wantB y want = c) (k : AHOpsC P tt base N0 ops o rest env H K c) : AHOps P tt base N0 ops (o :: rest) env H K := by
 subst hc
 cases h : wantB y want with
 | true =>
  rw [h] at k
  have e : y = some want := by rw [wantB_eq] at h; simpa using h
  subst e
  exact ahops_on hg hy k
 | false =>
  rw [h] at k
  simp only [AHOps, AGuard, hg, hy, h, Bool.false_eq_true, if_false]
  exact k
theorem hgrd_on (k : AHOps P tt base N0 ops ({ o with guard := none } :: rest) env H K) : AHOpsC P tt base N0 ops o rest env H K true := k
theorem hgrd_off (he : aput env o.dst skipV = env') (k : AHOps P tt base N0 ops rest env' H K) : AHOpsC P tt base N0 ops o rest env H K false := by subst he; exact k
end
end Av
end Go.Proofs.YtnkepmfgmfeabaaGreatDoor
set_option linter.unusedVariables false
set_option linter.unusedSimpArgs false
namespace Go.Proofs.YtnkepmfgmfeabaaGreatDoor
open Go Go.RowKit
namespace Av

/-! One operation, one premise. -/
section
variable {P : Program} {tt : TTab} {base : World} {ops : Array Oper} {N0 : Nat} {K : List AV → AHeap → Prop} {o : Oper} {rest : List Oper} {env env' : List AV} {H H' : AHeap} {C : Prop}
theorem aops_cons (k : AOps P tt base ops (o :: rest) env H K) : AOps P tt base ops (o :: rest) env H K := k
theorem ahops_cons (k : AHOps P tt base N0 ops (o :: rest) env H K) : AHOps P tt base N0 ops (o :: rest) env H K := k
theorem aops_o (hc : acall env o.op = none) (h : estep tt ops o (some (env, H)) = some (env', H')) (k : AOps P tt base ops rest env' H' K) : AOps P tt base ops (o :: rest) env H K :=
 aops_run 1 (l := o :: rest) (by simp only [erun, Option.map_some, Option.getD_some, hc]; exact h) k
theorem ahops_o (hc : acall env o.op = none) (h : hstep tt ops o (some (env, H, True)) = some (env', H', C)) (hC : C) (k : AHOps P tt base N0 ops rest env' H' K) : AHOps P tt base N0 ops (o :: rest) env H K :=
 ahops_run 1 (l := o :: rest) (C := True) (C' := C) (by simp only [hrun, Option.map_some, Option.getD_some, hc]; exact h) hC k
end
end Av
end Go.Proofs.YtnkepmfgmfeabaaGreatDoor
set_option linter.unusedVariables false
set_option linter.unusedSimpArgs false
namespace Go.Proofs.YtnkepmfgmfeabaaGreatDoor
open Go Go.RowKit
namespace Av
attribute [local irreducible] AW AOps AHOps

/-! Add, its end: the order and both maps grow. -/
/-- what follows the n-th part of a body -/
def restC : Nat → Code → Option Code
 | 0, c => some c
 | n + 1, .seq _ b => restC n b
 | _ + 1, _ => none
theorem ne_of_get {H : AHeap} {a b : Nat} {o o' : AObj} (h : H[a]? = some o) (k : H[b]? = some o') (hne : o ≠ o') : a ≠ b := fun e => by
 subst e; rw [h] at k; exact hne (Option.some.inj k)
theorem got_set {H : AHeap} {l m : Nat} {o : AObj} (h : H[l]? = some o) (hne : l ≠ m) : ∀ (G : AHeap) (x : AObj), ((H ++ G).set m x)[l]? = some o := fun G x => by rw [get_set_ne hne]; exact got h G
theorem got_self {H : AHeap} {m : Nat} {o : AObj} (h : H[m]? = some o) : ∀ (G : AHeap) (x : AObj), ((H ++ G).set m x)[m]? = some x := fun G x => get_set_same (by have := lt_of_get h; simp; omega)
theorem mset_new {es : List (Value × AV)} {key : Value} {v : AV} (h : mget es key = none) : mset es key v = es ++ [(key, v)] := by
 unfold mset
 have : mfind es key = none := by
  unfold mfind
  unfold mget at h
  simp only [Option.map_eq_none_iff, List.find?_eq_none] at h
  rw [List.findIdx?_eq_none_iff]
  intro x hx
  simpa using h x hx
 rw [this]
theorem ksh_s (a : ByteArray) : keyShape (.one .str) (.string a) = true := rfl
/-- objects that are not a book's -/
def otherO : AObj → Bool
 | .box ty _ => ty != 76 && ty != 79
 | .row ty _ _ _ => ty != 77
 | .mp kt _ _ _ => kt != 9 && kt != 92
 | _ => false
def KeepO (H H' : AHeap) : Prop := ∀ (l : Nat) (o : AObj), H[l]? = some o → otherO o = true → H'[l]? = some o
theorem KeepO.app (H G : AHeap) : KeepO H (H ++ G) := fun l o h _ => got h G
theorem KeepO.refl (H : AHeap) : KeepO H H := fun l o h _ => h
theorem KeepO.trans {A B C : AHeap} (h : KeepO A B) (k : KeepO B C) : KeepO A C := fun l o ho hx => k l o (h l o ho hx) hx
theorem KeepO.set {H H' : AHeap} {l : Nat} {o o' : AObj} (h : KeepO H H') (ho : H[l]? = some o) (hx : otherO o = false) : KeepO H (H'.set l o') := fun m x hm hxx => by
 have hne : m ≠ l := fun e => by subst e; rw [ho] at hm; cases hm; rw [hx] at hxx; cases hxx
 rw [get_set_ne hne]
 exact h m x hm hxx
theorem mget_none {es : List (Value × AV)} {key : Value} (h : ∀ p ∈ es, keyEq key p.1 = false) : mget es key = none := by
 unfold mget
 simp only [Option.map_eq_none_iff, List.find?_eq_none]
 intro x hx
 rw [h x hx]; simp
theorem zip_take {α β : Type} {L : List α} {E : List β} {n : Nat} {e : α × β} (h : e ∈ (L.zip E).take n) : e.2 ∈ E.take n := by
 obtain ⟨i, hi, rfl⟩ := List.mem_iff_getElem.1 h
 simp only [List.length_take, List.length_zip] at hi
 rw [List.getElem_take, List.getElem_zip]
 exact List.mem_take_iff_getElem.2 ⟨i, by omega, rfl⟩
set_option maxRecDepth 100000 in
set_option maxHeartbeats 4000000 in
theorem add_fin2 {base : World} {N : Nat} {K : AHeap} {Y : Lay} {B : Bk} (h : BookAt K Y B) {n p sl : Nat} {x : Ent} {s : Stm} (hn : B.ents.length = n + 1) (n1 : Y.n1 = n + 1) (n2 : Y.n2 = n) (n3 : Y.n3 = n) (hp : Y.L[n]? = some ⟨p, none⟩) (hx : B.ents[n]? = some x) (hxs : x.st = s) (hsl : K[sl]? = some (.box 27 (stA s)))
  (hid : ∀ y ∈ B.ents.take n, y.st.id ≠ s.id) (hus : ∀ y ∈ B.ents.take n, ¬ (x.sgn = y.sgn ∧ s.idx = y.st.idx)) :
  (Tryz.f21.body.bind (restC 11)).elim False fun c => AW ⟨Tryz.prog, tt, base, N⟩ c (retA tt [.tmp 4] fun r H' => r = iA 0 ∧ ∃ Y', Y'.bl = Y.bl ∧ Book H' Y' B ∧ KeepO K H')
   (.ptr Y.bl 0 :: .undef :: .undef :: .ptr sl 0 :: iA 0 :: .undef :: .undef :: .undef :: .undef :: .undef :: .undef :: .ptr p 0 :: List.replicate 161 .undef) K := by
 show AW _ _ _ _ _
 have hb := h.book
 have hm := h.byId
 have hu := h.used
 have hLn : Y.L.length = n + 1 := by rw [h.len, hn]
 have hpe : K[p]? = some (.box 79 (entC x (slA none x.next.length))) := (h.ent n _ x hp hx).1
 have hmg : mget (idE Y B) (.string s.id) = none := by
  apply mget_none
  intro q hq
  unfold idE at hq
  obtain ⟨e, he, rfl⟩ := List.mem_map.1 hq
  rw [n2] at he
  have := hid e.2 (zip_take he)
  simp only [keyEq, eqV]
  simpa using fun e => this e.symm
 have hug : mget (usE Y B) (.agg #[.string x.sgn, .int .i64 s.idx]) = none := by
  apply mget_none
  intro q hq
  unfold usE at hq
  obtain ⟨e, he, rfl⟩ := List.mem_map.1 hq
  rw [n3] at he
  have := hus e he
  simp only [keyEq, eqL, eqV]
  simpa using this
 have e1 : idE { Y with n2 := Y.n2 + 1 } B = mset (idE Y B) (.string s.id) (.ptr p 0) := by
  rw [mset_new hmg]
  unfold idE
  simp only [n2]
  have hz : (Y.L.zip B.ents)[n]? = some (⟨p, none⟩, x) := by rw [List.getElem?_zip_eq_some]; exact ⟨hp, hx⟩
  rw [List.take_add_one, hz, List.map_append]
  simp [hxs]
 have h2 := h.addI (H2 := K.set Y.ml (.mp 9 77 (.one .str) (mset (idE Y B) (.string s.id) (.ptr p 0)))) (fun l o ho hne => by rw [get_set_ne hne]; exact ho) (by rw [e1]; exact get_set_same (lt_of_get hm))
 have hb2 := h2.book
 have hu2 := h2.used
 have hpe2 : (K.set Y.ml (.mp 9 77 (.one .str) (mset (idE Y B) (.string s.id) (.ptr p 0))))[p]? = some (.box 79 (entC x (slA none x.next.length))) := (h2.ent n _ x hp hx).1
 have hsl2 : (K.set Y.ml (.mp 9 77 (.one .str) (mset (idE Y B) (.string s.id) (.ptr p 0))))[sl]? = some (.box 27 (stA s)) := by rw [get_set_ne (ne_of_get hsl hm (by simp))]; exact hsl
 have e2 : usE { Y with n2 := Y.n2 + 1, n3 := Y.n3 + 1 } B = mset (usE Y B) (.agg #[.string x.sgn, .int .i64 s.idx]) (bA true) := by
  rw [mset_new hug]
  unfold usE
  simp only [n3]
  rw [List.take_add_one, hx, List.map_append]
  simp [hxs, bA]
 have h3 := h2.addU (H2 := (K.set Y.ml (.mp 9 77 (.one .str) (mset (idE Y B) (.string s.id) (.ptr p 0)))).set Y.ul (.mp 92 4 (.flat [.str, .int .i64]) (mset (usE Y B) (.agg #[.string x.sgn, .int .i64 s.idx]) (bA true)))) (fun l o ho hne => by rw [get_set_ne hne]; exact ho) (by rw [e2]; exact get_set_same (lt_of_get hu2))
 simp only [List.replicate, iA, stA] at hsl hsl2 ⊢
 have l1 := lt_of_get hb
 have l2 := lt_of_get hm
 have l3 := lt_of_get hsl
 have l4 := lt_of_get hpe
 have l5 := lt_of_get hu
 repeat refine aw_seq ?_
 refine aw_draw 7 ttOk mixed (by kernel_rfl) (by kernel_rfl) (by kernel_rfl) ?_
 repeat (refine ahops_cons ?_; first | (apply ahops_o; rfl; simp only [hstep, avs, tts, Nat.reduceAdd, Nat.reduceMul, Nat.reduceSub, Nat.reduceEqDiff, Nat.reduceLT, Nat.reduceLeDiff, Int.reduceToNat, Int.reduceLE, Int.reduceLT, Int.toNat_natCast, reduceCtorEq, hb, hm, hsl, l1, l2, l3, l4, ksh_s] <;> (first | with_reducible rfl | rfl); first | trivial | omega) | (refine ahops_grd rfl (by simp only [avs] <;> rfl) (by rfl) ?_; first | refine hgrd_on ?_ | refine hgrd_off (by simp only [avs] <;> rfl) ?_))
 refine ahops_nil ?_
 repeat (refine aops_cons ?_; first | (apply aops_o; rfl; simp only [estep, avs, tts, Nat.reduceAdd, Nat.reduceMul, Nat.reduceSub, Nat.reduceEqDiff, Nat.reduceLT, Nat.reduceLeDiff, Int.reduceToNat, Int.reduceLE, Int.reduceLT, Int.toNat_natCast, reduceCtorEq, hb, hm, hsl, l1, l2, l3, l4, ksh_s] <;> (first | with_reducible rfl | rfl)) | (refine aops_grd rfl (by simp only [avs] <;> rfl) (by rfl) ?_; first | refine grd_on ?_ | refine grd_off (by simp only [avs] <;> rfl) ?_))
 refine aops_nil ?_
 repeat refine aw_seq ?_
 refine aw_draw 12 ttOk mixed (by kernel_rfl) (by kernel_rfl) (by kernel_rfl) ?_
 repeat (refine ahops_cons ?_; first | (apply ahops_o; rfl; simp only [hstep, avs, tts, Nat.reduceAdd, Nat.reduceMul, Nat.reduceSub, Nat.reduceEqDiff, Nat.reduceLT, Nat.reduceLeDiff, Int.reduceToNat, Int.reduceLE, Int.reduceLT, Int.toNat_natCast, reduceCtorEq, hb2, hu2, hsl2, hpe2, l1, l2, l3, l4, l5, ksh_si, List.length_set, entC] <;> (first | with_reducible rfl | rfl); first | trivial | omega) | (refine ahops_grd rfl (by simp only [avs] <;> rfl) (by rfl) ?_; first | refine hgrd_on ?_ | refine hgrd_off (by simp only [avs] <;> rfl) ?_))
 refine ahops_nil ?_
 repeat (refine aops_cons ?_; first | (apply aops_o; rfl; simp only [estep, avs, tts, Nat.reduceAdd, Nat.reduceMul, Nat.reduceSub, Nat.reduceEqDiff, Nat.reduceLT, Nat.reduceLeDiff, Int.reduceToNat, Int.reduceLE, Int.reduceLT, Int.toNat_natCast, reduceCtorEq, hb2, hu2, hsl2, hpe2, l1, l2, l3, l4, l5, ksh_si, List.length_set, entC] <;> (first | with_reducible rfl | rfl)) | (refine aops_grd rfl (by simp only [avs] <;> rfl) (by rfl) ?_; first | refine grd_on ?_ | refine grd_off (by simp only [avs] <;> rfl) ?_))
 refine aops_nil ?_
 repeat refine aw_seq ?_
 refine aw_region ttOk (by kernel_rfl) ?_
 repeat (refine aops_cons ?_; first | (apply aops_o; rfl; simp only [estep, avs, tts, Nat.reduceAdd, Nat.reduceMul, Nat.reduceSub, Nat.reduceEqDiff, Nat.reduceLT, Nat.reduceLeDiff, Int.reduceToNat, Int.reduceLE, Int.reduceLT, Int.toNat_natCast, reduceCtorEq] <;> (first | with_reducible rfl | rfl)) | (refine aops_grd rfl (by simp only [avs] <;> rfl) (by rfl) ?_; first | refine grd_on ?_ | refine grd_off (by simp only [avs] <;> rfl) ?_))
 refine aops_nil ?_
 refine aw_ret ⟨_, rfl, rfl, { Y with n2 := Y.n2 + 1, n3 := Y.n3 + 1 }, rfl, ⟨h3, ?_, ?_, ?_⟩, ?_⟩
 ·show Y.n1 = _; rw [n1, hn]
 ·show Y.n2 + 1 = _; rw [n2, hn]
 ·show Y.n3 + 1 = _; rw [n3, hn]
 ·exact ((KeepO.refl K).set hm rfl).set hu rfl
end Av
end Go.Proofs.YtnkepmfgmfeabaaGreatDoor
set_option linter.unusedVariables false
set_option linter.unusedSimpArgs false
namespace Go.Proofs.YtnkepmfgmfeabaaGreatDoor
open Go Go.RowKit
namespace Av
attribute [local irreducible] AW AOps AHOps
theorem retA_mono {tt : TTab} {rs : List ResultVar} {R R' : AV → AHeap → Prop} (h : ∀ r H, R r H → R' r H) : ∀ x env H, retA tt rs R x env H → retA tt rs R' x env H := by
 intro x env H hq
 cases x with
 | normal => obtain ⟨r, h1, h2⟩ := hq; exact ⟨r, h1, h _ _ h2⟩
 | ret => obtain ⟨r, h1, h2⟩ := hq; exact ⟨r, h1, h _ _ h2⟩
 | _ => exact hq
set_option maxRecDepth 100000 in
set_option maxHeartbeats 4000000 in
theorem add_fin {base : World} {N : Nat} {K : AHeap} {Y : Lay} {B : Bk} (h : BookAt K Y B) {n p sl : Nat} {x : Ent} {s : Stm} (hn : B.ents.length = n + 1) (n1 : Y.n1 = n) (n2 : Y.n2 = n) (n3 : Y.n3 = n) (hp : Y.L[n]? = some ⟨p, none⟩) (hx : B.ents[n]? = some x) (hxs : x.st = s) (hsl : K[sl]? = some (.box 27 (stA s)))
  (hid : ∀ y ∈ B.ents.take n, y.st.id ≠ s.id) (hus : ∀ y ∈ B.ents.take n, ¬ (x.sgn = y.sgn ∧ s.idx = y.st.idx)) (hn6 : n ≤ 1000000) :
  (Tryz.f21.body.bind (restC 10)).elim False fun c => AW ⟨Tryz.prog, tt, base, N⟩ c (retA tt [.tmp 4] fun r H' => r = iA 0 ∧ ∃ Y', Y'.bl = Y.bl ∧ Book H' Y' B ∧ KeepO K H')
   (.ptr Y.bl 0 :: .undef :: .undef :: .ptr sl 0 :: iA 0 :: .undef :: .undef :: .undef :: .undef :: .undef :: .undef :: .ptr p 0 :: List.replicate 161 .undef) K := by
 show AW _ _ _ _ _
 have hb := h.book
 rw [n1] at hb
 have hb' := got hb
 have hLn : Y.L.length = n + 1 := by rw [h.len, hn]
 have hord := h.ord
 have hL1 : (Y.L.take (n + 1)).map (fun e : ELay => [AV.ptr e.b 0]) = (Y.L.take n).map (fun e : ELay => [AV.ptr e.b 0]) ++ [[AV.ptr p 0]] := by
  rw [List.take_add_one, hp, List.map_append]; rfl
 have hLt : ((Y.L.take n).map fun e : ELay => [AV.ptr e.b 0]).length = n := by rw [List.length_map, List.length_take]; omega
 simp only [List.replicate, iA]
 rcases hod : Y.od with _ | ⟨ol, ov⟩
 ·rw [hod] at hord hb hb'
  have hn0 : n = 0 := by
   have : (Y.L.take n).map (fun e : ELay => [AV.ptr e.b 0]) = [] := by rw [n1] at hord; exact hord
   rw [← hLt, this]; rfl
  repeat refine aw_seq ?_
  refine aw_region ttOk (by kernel_rfl) ?_
  repeat (refine aops_cons ?_; first | (apply aops_o; rfl; simp only [estep, avs, tts, Nat.reduceAdd, Nat.reduceMul, Nat.reduceSub, Nat.reduceEqDiff, Nat.reduceLT, Nat.reduceLeDiff, Int.reduceToNat, Int.reduceLE, Int.reduceLT, Int.toNat_natCast, reduceCtorEq, hb, hb', slA, nilS] <;> (first | with_reducible rfl | rfl)) | (refine aops_grd rfl (by simp only [avs] <;> rfl) (by rfl) ?_; first | refine grd_on ?_ | refine grd_off (by simp only [avs] <;> rfl) ?_))
  refine aops_nil ?_
  refine aw_goes (env' := .ptr Y.bl 0 :: .undef :: .undef :: .ptr sl 0 :: iA 0 :: .undef :: .undef :: .undef :: .undef :: .undef :: .undef :: .ptr p 0 :: List.replicate 161 .undef) (H' := (K ++ [AObj.row 77 1 0 [[AV.ptr p 0]], AObj.row 77 1 0 [[AV.ptr p 0]]]).set Y.bl (AObj.box 76 [.d (.v (.string B.issuer)), .ms (K.length + 1) 0 1, .mp Y.ml, .mp Y.ul])) ⟨by simp [EnvLe, List.replicate, iA], .inl rfl⟩ ?_
  have h3 : BookAt ((K ++ [AObj.row 77 1 0 [[AV.ptr p 0]], AObj.row 77 1 0 [[AV.ptr p 0]]]).set Y.bl (AObj.box 76 [.d (.v (.string B.issuer)), .ms (K.length + 1) 0 1, .mp Y.ml, .mp Y.ul])) { Y with od := some (K.length + 1, 0), n1 := Y.n1 + 1 } B := by
   refine h.addO (fun l o ho h1 _ => by rw [get_set_ne h1]; exact got ho _) (by rw [n1, hn0]; exact got_self hb _ _) ?_ (.inr ⟨_, rfl, by simp⟩)
   show _ = _
   rw [n1, hL1, get_set_ne (by have := lt_of_get hb; show K.length + 1 ≠ Y.bl; omega), H_get]
   rw [n1] at hord
   rw [show (Y.L.take n).map (fun e : ELay => [AV.ptr e.b 0]) = [] from hord]
   rfl
  have h4 := add_fin2 (base := base) (N := N) h3 (n := n) (sl := sl) (s := s) hn (by show Y.n1 + 1 = _; rw [n1]) n2 n3 hp hx hxs (by rw [get_set_ne (ne_of_get hsl hb (by simp))]; exact got hsl _) hid hus
  exact AW.mono h4 (retA_mono fun r H' ⟨q1, Y', q2, q3, q4⟩ => ⟨q1, Y', q2, q3, ((KeepO.app K _).set hb rfl).trans q4⟩)
 ·rw [hod] at hord hb hb'
  have hro : K[ol]? = some (.row 77 1 ov ((Y.L.take n).map fun e : ELay => [AV.ptr e.b 0])) := by rw [n1] at hord; exact hord
  have hro' := got hro
  have hbs := got_set hb (ne_of_get hb hro (by simp))
  have b1 : n ≤ 9223372036854775806 := by omega
  have b2 : (n + 1) * 8 ≤ 140737488355328 := by omega
  repeat refine aw_seq ?_
  refine aw_region ttOk (by kernel_rfl) ?_
  repeat (refine aops_cons ?_; first | (apply aops_o; rfl; simp only [estep, avs, tts, Nat.reduceAdd, Nat.reduceMul, Nat.reduceSub, Nat.reduceEqDiff, Nat.reduceLT, Nat.reduceLeDiff, Int.reduceToNat, Int.reduceLE, Int.reduceLT, Int.toNat_natCast, reduceCtorEq, hb, hb', hbs, hro', slA, hLt, b1, b2] <;> (first | with_reducible rfl | rfl)) | (refine aops_grd rfl (by simp only [avs] <;> rfl) (by rfl) ?_; first | refine grd_on ?_ | refine grd_off (by simp only [avs] <;> rfl) ?_))
  refine aops_nil ?_
  refine aw_goes (env' := .ptr Y.bl 0 :: .undef :: .undef :: .ptr sl 0 :: iA 0 :: .undef :: .undef :: .undef :: .undef :: .undef :: .undef :: .ptr p 0 :: List.replicate 161 .undef) (H' := ((K ++ [AObj.row 77 1 0 [[AV.ptr p 0]]]).set ol (AObj.row 77 1 ov ((Y.L.take n).map (fun e : ELay => [AV.ptr e.b 0]) ++ [[AV.ptr p 0]]))).set Y.bl (.box 76 [.d (.v (.string B.issuer)), .ms ol ov (n + 1), .mp Y.ml, .mp Y.ul])) ⟨by simp [EnvLe, List.replicate, iA], .inl rfl⟩ ?_
  have hne : ol ≠ Y.bl := ne_of_get hro hb (by simp)
  have h3 : BookAt (((K ++ [AObj.row 77 1 0 [[AV.ptr p 0]]]).set ol (AObj.row 77 1 ov ((Y.L.take n).map (fun e : ELay => [AV.ptr e.b 0]) ++ [[AV.ptr p 0]]))).set Y.bl (.box 76 [.d (.v (.string B.issuer)), .ms ol ov (n + 1), .mp Y.ml, .mp Y.ul])) { Y with od := some (ol, ov), n1 := Y.n1 + 1 } B := by
   refine h.addO (fun l o ho h1 h2 => by rw [get_set_ne h1, get_set_ne (h2 _ hod)]; exact got ho _) (by rw [n1]; exact get_set_same (by have := lt_of_get hb; simp; omega)) ?_ (.inl hod.symm)
   show _ = _
   rw [n1, hL1, get_set_ne hne]
   exact got_self hro _ _
  have h4 := add_fin2 (base := base) (N := N) h3 (n := n) (sl := sl) (s := s) hn (by show Y.n1 + 1 = _; rw [n1]) n2 n3 hp hx hxs (by rw [get_set_ne (ne_of_get hsl hb (by simp)), get_set_ne (ne_of_get hsl hro (by simp))]; exact got hsl _) hid hus
  exact AW.mono h4 (retA_mono fun r H' ⟨q1, Y', q2, q3, q4⟩ => ⟨q1, Y', q2, q3, (((KeepO.app K _).set hro rfl).set hb rfl).trans q4⟩)
end Av
end Go.Proofs.YtnkepmfgmfeabaaGreatDoor
set_option linter.unusedVariables false
set_option linter.unusedSimpArgs false
namespace Go.Proofs.YtnkepmfgmfeabaaGreatDoor
open Go Go.RowKit
namespace Av

/-! Add, behind the checks: the new entry, what is left of its inputs. -/
theorem BookAt.on {H H2 : AHeap} {Y : Lay} {B : Bk} (h : BookAt H Y B) (hs : ∀ (l : Nat) (o : AObj), H[l]? = some o → H2[l]? = some o) : BookAt H2 Y B :=
 ⟨h.len, hs _ _ h.book, h.ord.on fun a _ o ho => hs _ o ho, hs _ _ h.byId, hs _ _ h.used, fun i e x he hx => ⟨hs _ _ (h.ent i e x he hx).1, (h.ent i e x he hx).2.1.on fun a _ o ho => hs _ o ho, (h.ent i e x he hx).2.2⟩, h.dbox, h.drow, h.dord⟩
theorem Book.on {H H2 : AHeap} {Y : Lay} {B : Bk} (h : Book H Y B) (hs : ∀ (l : Nat) (o : AObj), H[l]? = some o → H2[l]? = some o) : Book H2 Y B := ⟨h.toBookAt.on hs, h.n1, h.n2, h.n3⟩
theorem CandAt.on {H H2 : AHeap} {cl : Nat} {Y : Lay} {B : Bk} {s : Stm} {ins : List Nat} {od : OR} (h : CandAt H cl Y B s ins od) (hs : ∀ (l : Nat) (o : AObj), H[l]? = some o → H2[l]? = some o) : CandAt H2 cl Y B s ins od :=
 ⟨hs _ _ h.box, h.row.on fun a _ o ho => hs _ o ho, h.lt⟩
def takeE (n : Nat) (E : List Ent) (p : Nat × Int) : List Ent := match E[p.1]? with
 | none => E
 | some x => E.set p.1 { x with left := x.left - p.2, next := x.next ++ [n] }
def newE (B : Bk) (s : Stm) (ins : List Nat) : Ent := ⟨s, s.q, signerR B ins, false, []⟩
/-- the entries, when k inputs have been taken off -/
def offE (B : Bk) (s : Stm) (ins : List Nat) (k : Nat) : List Ent := ((ins.zip (s.inputs.map (·.2))).take k).foldl (takeE B.ents.length) (B.ents ++ [newE B s ins])
def finalB (B : Bk) (s : Stm) (ins : List Nat) : Bk := { B with ents := offE B s ins (ins.zip (s.inputs.map (·.2))).length }
theorem takeE_some {n : Nat} {E : List Ent} {p : Nat × Int} {x : Ent} (h : E[p.1]? = some x) : takeE n E p = E.set p.1 { x with left := x.left - p.2, next := x.next ++ [n] } := by unfold takeE; rw [h]
/-- but for what is left and what follows, the entries are the same -/
def Alike (E E' : List Ent) : Prop := E'.length = E.length ∧ ∀ (i : Nat) x, E[i]? = some x → ∃ l nx, E'[i]? = some { x with left := l, next := nx }
theorem Alike.refl (E : List Ent) : Alike E E := ⟨rfl, fun i x h => ⟨x.left, x.next, h⟩⟩
theorem Alike.trans {A B C : List Ent} (h : Alike A B) (k : Alike B C) : Alike A C := ⟨k.1.trans h.1, fun i x hx => by
 obtain ⟨l, nx, h1⟩ := h.2 i x hx
 obtain ⟨l', nx', h2⟩ := k.2 i _ h1
 exact ⟨l', nx', h2⟩⟩
theorem takeE_alike (n : Nat) (E : List Ent) (p : Nat × Int) : Alike E (takeE n E p) := by
 unfold takeE
 split
 ·exact .refl E
 ·rename_i x hx
  refine ⟨by simp, fun i y hy => ?_⟩
  by_cases e : p.1 = i
  ·subst e
   rw [hx] at hy; cases hy
   exact ⟨_, _, List.getElem?_set_self (List.getElem?_eq_some_iff.1 hx).1⟩
  ·exact ⟨y.left, y.next, by rw [List.getElem?_set_ne e]; exact hy⟩
theorem fold_alike (n : Nat) : ∀ (l : List (Nat × Int)) (E : List Ent), Alike E (l.foldl (takeE n) E)
 | [], E => .refl E
 | p :: l, E => (takeE_alike n E p).trans (fold_alike n l _)
theorem fold_at (n m : Nat) : ∀ (l : List (Nat × Int)) (E : List Ent), (∀ p ∈ l, p.1 ≠ m) → (l.foldl (takeE n) E)[m]? = E[m]?
 | [], E, _ => rfl
 | p :: l, E, h => by
  rw [List.foldl_cons, fold_at n m l _ fun q hq => h q (by simp [hq])]
  unfold takeE
  split
  ·rfl
  ·rw [List.getElem?_set_ne (h p (by simp))]
theorem takeE_mem {n : Nat} {E : List Ent} {p : Nat × Int} {y : Ent} (h : y ∈ takeE n E p) : y ∈ E ∨ ∃ x ∈ E, y = { x with left := x.left - p.2, next := x.next ++ [n] } := by
 unfold takeE at h
 split at h
 ·exact .inl h
 ·rename_i x hx
  rcases List.mem_or_eq_of_mem_set h with h | h
  ·exact .inl h
  ·exact .inr ⟨x, List.mem_of_getElem? hx, h⟩
theorem fold_next (n a : Nat) : ∀ (l : List (Nat × Int)) (E : List Ent), (∀ y ∈ E, y.next.length ≤ a) → ∀ y ∈ l.foldl (takeE n) E, y.next.length ≤ a + l.length := by
 intro l
 induction l generalizing a with
 | nil => exact fun E h y hy => h y hy
 | cons p l ih =>
  intro E h y hy
  have := ih (a + 1) (takeE n E p) (fun z hz => by
   rcases takeE_mem hz with hz | ⟨x, hx, rfl⟩
   ·have := h z hz; omega
   ·have := h x hx; simp; omega) y hy
  simp only [List.length_cons]; omega
theorem fold_left (n : Nat) (a b c : Int) (hc : 0 ≤ c) : ∀ (l : List (Nat × Int)) (E : List Ent), (∀ p ∈ l, 0 ≤ p.2 ∧ p.2 ≤ c) → (∀ y ∈ E, a ≤ y.left ∧ y.left ≤ b) → ∀ y ∈ l.foldl (takeE n) E, a - c * l.length ≤ y.left ∧ y.left ≤ b := by
 intro l
 induction l generalizing a with
 | nil => exact fun E _ h y hy => by have := h y hy; simpa using this
 | cons p l ih =>
  intro E hp h y hy
  have hp0 := hp p (by simp)
  have := ih (a - c) (takeE n E p) (fun q hq => hp q (by simp [hq])) (fun z hz => by
   rcases takeE_mem hz with hz | ⟨x, hx, rfl⟩
   ·have := h z hz; omega
   ·have := h x hx; simp only; omega) y hy
  have e : c * ((p :: l).length : Int) = c + c * (l.length : Int) := by
   rw [List.length_cons, Int.natCast_succ, Int.mul_add, Int.mul_one, Int.add_comm]
  rw [e]; omega
theorem offE_succ {B : Bk} {s : Stm} {ins : List Nat} {k : Nat} {j : Nat} {q : Int} (hj : ins[k]? = some j) (hq : (s.inputs.map (·.2))[k]? = some q) : offE B s ins (k + 1) = takeE B.ents.length (offE B s ins k) (j, q) := by
 unfold offE
 rw [List.take_add_one, List.getElem?_zip_eq_some (z := (j, q)) |>.2 ⟨hj, hq⟩, List.foldl_append]
 rfl
theorem offE_alike (B : Bk) (s : Stm) (ins : List Nat) (k : Nat) : Alike (B.ents ++ [newE B s ins]) (offE B s ins k) := fold_alike _ _ _
end Av
end Go.Proofs.YtnkepmfgmfeabaaGreatDoor
set_option linter.unusedVariables false
set_option linter.unusedSimpArgs false
namespace Go.Proofs.YtnkepmfgmfeabaaGreatDoor
open Go Go.RowKit
namespace Av
attribute [local irreducible] AW AOps AHOps

/-- one input taken off: its entry's box and its row of followers -/
theorem off_put {H' H3 : AHeap} {Y2 : Lay} {B2 : Bk} {j n p : Nat} {e : ELay} {x x' : Ent} {row' : OR} (h : BookAt H' Y2 B2) (he : Y2.L[j]? = some e) (hx : B2.ents[j]? = some x) (hst : x'.st = x.st) (hsg : x'.sgn = x.sgn) (hnx : x'.next = x.next ++ [n]) (hjn : j < n) (hnl : n < Y2.L.length) (hep : Y2.eb n = p)
  (hsame : ∀ l o, H'[l]? = some o → l ≠ e.b → (∀ a, e.row = some a → l ≠ a.1) → H3[l]? = some o) (hbox : H3[e.b]? = some (.box 79 (entC x' (slA row' x'.next.length)))) (hrow : RowAt H3 row' ((x.next.map fun j => [.ptr (Y2.eb j) 0]) ++ [[.ptr p 0]])) (hnew : row' = e.row ∨ ∃ a, row' = some a ∧ H'.length ≤ a.1) :
  BookAt H3 (Y2.put j ⟨e.b, row'⟩) { B2 with ents := B2.ents.set j x' } := by
 refine h.upd he hx hst hsg hsame hbox ?_ (fun i hi => ?_) hnew
 ·rw [hnx, List.map_append]
  simpa [hep] using hrow
 ·rw [hnx] at hi
  rcases List.mem_append.1 hi with hi | hi
  ·exact (h.ent j e x he hx).2.2 i hi
  ·simp at hi; subst hi; exact ⟨hjn, hnl⟩
/-- the state at the head of a round -/
structure OffAt (H K1 : AHeap) (Y Y1 : Lay) (B : Bk) (s : Stm) (ins : List Nat) (p k : Nat) (Y2 : Lay) (H' : AHeap) : Prop where
 bk : BookAt H' Y2 { B with ents := offE B s ins k }
 bl : Y2.bl = Y.bl
 n1 : Y2.n1 = B.ents.length
 n2 : Y2.n2 = B.ents.length
 n3 : Y2.n3 = B.ents.length
 eb : ∀ j, Y2.eb j = Y1.eb j
 last : Y2.L[B.ents.length]? = some ⟨p, none⟩
 rows : ∀ (j : Nat) e, Y2.L[j]? = some e → ∀ a, e.row = some a → a.1 < H.length ∨ K1.length ≤ a.1
 len : K1.length ≤ H'.length
 keep : ∀ (l : Nat) (o : AObj), K1[l]? = some o → (l < H.length → otherO o = true) → l ≠ p → H'[l]? = some o
set_option maxRecDepth 100000 in
set_option maxHeartbeats 4000000 in
theorem add_end {base : World} {N : Nat} {H K : AHeap} {Y : Lay} {B : Bk} {s : Stm} {ins : List Nat} {cl sl : Nat} {od : OR} (h : Book H Y B) {G0 : AHeap} (hK : K = H ++ G0) (hc : CandAt K cl Y B s ins od) (hsl : K[sl]? = some (.box 27 (stA s))) (hod : ∀ a, od = some a → H.length ≤ a.1)
  (hsl0 : H.length ≤ sl) (hcl0 : H.length ≤ cl) (hil : ins.length = s.inputs.length) (hid : ∀ y ∈ B.ents, y.st.id ≠ s.id) (hus : usedB B (signerR B ins) s.idx = false) (hn : B.ents.length ≤ 1000000) (hli : ins.length ≤ 1000000) (hnx : ∀ x ∈ B.ents, x.next.length ≤ 1000000)
  (hl : ∀ x ∈ B.ents, -1000000000000000000 ≤ x.left ∧ x.left ≤ 1000000000000000000) (hq : 0 ≤ s.q ∧ s.q ≤ 1000000000) (hqi : ∀ y ∈ s.inputs, 0 ≤ y.2 ∧ y.2 ≤ 1000000000) :
  (Tryz.f21.body.bind (restC 8)).elim False fun c => AW ⟨Tryz.prog, tt, base, N⟩ c (retA tt [.tmp 4] fun r H' => r = iA 0 ∧ ∃ Y', Y'.bl = Y.bl ∧ Book H' Y' (finalB B s ins) ∧ KeepO H H')
   (.ptr Y.bl 0 :: .undef :: .undef :: .ptr sl 0 :: iA 0 :: .ptr cl 0 :: List.replicate 167 .undef) K := by
 show AW _ _ _ _ _
 have hbk : Book K Y B := by rw [hK]; exact h.app G0
 have hb := hc.box
 have m1 := lt_of_get hb
 have m2 := lt_of_get hsl
 have hsl' := hsl
 simp only [stA] at hsl'
 simp only [List.replicate, iA]
 repeat refine aw_seq ?_
 refine aw_draw 8 ttOk mixed (by kernel_rfl) (by kernel_rfl) (by kernel_rfl) ?_
 repeat (refine ahops_cons ?_; first | (apply ahops_o; rfl; simp only [hstep, avs, tts, Nat.reduceAdd, Nat.reduceMul, Nat.reduceSub, Nat.reduceEqDiff, Nat.reduceLT, Nat.reduceLeDiff, Int.reduceToNat, Int.reduceLE, Int.reduceLT, Int.toNat_natCast, reduceCtorEq, hsl', hb, m1, m2] <;> (first | with_reducible rfl | rfl); first | trivial | omega) | (refine ahops_grd rfl (by simp only [avs] <;> rfl) (by rfl) ?_; first | refine hgrd_on ?_ | refine hgrd_off (by simp only [avs] <;> rfl) ?_))
 refine ahops_read rfl (by simp only [avs] <;> rfl) (fun Hx hx => signer_a (hbk.on fun l o ho => by rw [hx l (.inl (lt_of_get ho))]; exact ho) (hc.on fun l o ho => by rw [hx l (.inl (lt_of_get ho))]; exact ho) hli) (by simp [AV.bel]) (by simp only [avs] <;> rfl) ?_
 repeat (refine ahops_cons ?_; first | (apply ahops_o; rfl; simp only [hstep, avs, tts, Nat.reduceAdd, Nat.reduceMul, Nat.reduceSub, Nat.reduceEqDiff, Nat.reduceLT, Nat.reduceLeDiff, Int.reduceToNat, Int.reduceLE, Int.reduceLT, Int.toNat_natCast, reduceCtorEq, hsl', hb, m1, m2, strsP, inpsP] <;> (first | with_reducible rfl | rfl); first | trivial | omega) | (refine ahops_grd rfl (by simp only [avs] <;> rfl) (by rfl) ?_; first | refine hgrd_on ?_ | refine hgrd_off (by simp only [avs] <;> rfl) ?_))
 refine ahops_nil ?_
 repeat (refine aops_cons ?_; first | (apply aops_o; rfl; simp only [estep, avs, tts, Nat.reduceAdd, Nat.reduceMul, Nat.reduceSub, Nat.reduceEqDiff, Nat.reduceLT, Nat.reduceLeDiff, Int.reduceToNat, Int.reduceLE, Int.reduceLT, Int.toNat_natCast, reduceCtorEq] <;> (first | with_reducible rfl | rfl)) | (refine aops_grd rfl (by simp only [avs] <;> rfl) (by rfl) ?_; first | refine grd_on ?_ | refine grd_off (by simp only [avs] <;> rfl) ?_))
 refine aops_nil ?_
 have hx0 : BookAt (K ++ [AObj.box 79 (entC (newE B s ins) nilS)]) { Y with L := Y.L ++ [⟨K.length, none⟩] } { B with ents := B.ents ++ [newE B s ins] } :=
  hbk.toBookAt.addE rfl (Nat.le_refl _) (fun l o ho => got ho _) (H_get0 _ _) (by rw [hbk.n1, hbk.len]; exact Nat.le_refl _) (by rw [hbk.n2, hbk.len]; exact Nat.le_refl _) (by rw [hbk.n3, hbk.len]; exact Nat.le_refl _)
 refine aw_goes (env' := .ptr Y.bl 0 :: .undef :: .undef :: .ptr sl 0 :: iA 0 :: .ptr cl 0 :: .undef :: .undef :: .undef :: .undef :: .undef :: .ptr K.length 0 :: List.replicate 161 .undef) (H' := K ++ [.box 79 (entC (newE B s ins) nilS)]) ⟨by simp [EnvLe, List.replicate, iA], .inl rfl⟩ ?_
 have hK1 : ∀ (l : Nat) (o : AObj), K[l]? = some o → (K ++ [AObj.box 79 (entC (newE B s ins) nilS)])[l]? = some o := fun l o ho => got ho _
 have hlen1 : (K ++ [AObj.box 79 (entC (newE B s ins) nilS)]).length = K.length + 1 := by simp
 have hHK : H.length ≤ K.length := by rw [hK]; simp
 have hHo : ∀ (l : Nat) (o : AObj), H[l]? = some o → K[l]? = some o := fun l o ho => by rw [hK]; exact got ho _
 generalize hp : K.length = p at hx0 hlen1 ⊢
 generalize K ++ [AObj.box 79 (entC (newE B s ins) nilS)] = K1 at hx0 hK1 hlen1 ⊢
 rw [hp] at hHK
 have hcb := hK1 _ _ hb
 have hLn : Y.L.length = B.ents.length := h.len
 have hBn : ∀ k, (offE B s ins k).length = B.ents.length + 1 := fun k => by rw [(offE_alike B s ins k).1]; simp
 have hinl : ∀ pr ∈ ins.zip (s.inputs.map (·.2)), pr.1 < B.ents.length := fun pr hpr => hc.lt _ (List.of_mem_zip hpr).1
 have hlast : ∀ k, (offE B s ins k)[B.ents.length]? = some (newE B s ins) := fun k => by
  unfold offE
  rw [fold_at _ _ _ _ fun q hq => by have := hinl q (List.mem_of_mem_take hq); omega]
  simp
 -- the end
 have fin : ∀ (H' : AHeap) (Y2 : Lay) (k : Nat), OffAt H K1 Y { Y with L := Y.L ++ [⟨p, none⟩] } B s ins p k Y2 H' → offE B s ins k = (finalB B s ins).ents →
   (Tryz.f21.body.bind (restC 10)).elim False fun c => AW ⟨Tryz.prog, tt, base, N⟩ c (retA tt [.tmp 4] fun r H' => r = iA 0 ∧ ∃ Y', Y'.bl = Y.bl ∧ Book H' Y' (finalB B s ins) ∧ KeepO H H')
   (.ptr Y.bl 0 :: .undef :: .undef :: .ptr sl 0 :: iA 0 :: .undef :: .undef :: .undef :: .undef :: .undef :: .undef :: .ptr p 0 :: List.replicate 161 .undef) H' := by
  intro H' Y2 k ho hk
  have hal := offE_alike B s ins k
  have hold : ∀ y ∈ (offE B s ins k).take B.ents.length, ∃ x ∈ B.ents, y.st = x.st ∧ y.sgn = x.sgn := fun y hy => by
   obtain ⟨i, hi, rfl⟩ := List.mem_iff_getElem.1 hy
   simp only [List.length_take] at hi
   have hi1 : i < B.ents.length := by omega
   obtain ⟨l, nx, h1⟩ := hal.2 i B.ents[i] (by rw [List.getElem?_append_left hi1, List.getElem?_eq_getElem hi1])
   rw [List.getElem_take]
   rw [List.getElem?_eq_getElem (by rw [hBn]; omega)] at h1
   rw [Option.some.inj h1]
   exact ⟨_, List.getElem_mem hi1, rfl, rfl⟩
  have hslp : sl ≠ p := fun e => by rw [e, ← hp] at m2; omega
  have h4 := add_fin (base := base) (N := N) ho.bk (n := B.ents.length) (p := p) (sl := sl) (s := s) (x := newE B s ins) (hBn k) ho.n1 ho.n2 ho.n3 ho.last (hlast k) rfl (ho.keep _ _ (hK1 _ _ hsl) (fun hlt => by omega) hslp)
   (fun y hy => by obtain ⟨x, hx, e1, _⟩ := hold y hy; rw [e1]; exact hid x hx)
   (fun y hy ⟨q1, q2⟩ => by
    obtain ⟨x, hx, e1, e2⟩ := hold y hy
    have : usedB B (signerR B ins) s.idx = true := by
     unfold usedB
     rw [List.any_eq_true]
     exact ⟨x, hx, by rw [← e2, ← e1, ← q1, q2]; simp [newE]⟩
    rw [hus] at this; cases this) hn
  rw [ho.bl] at h4
  refine AW.mono h4 (retA_mono fun r H'' ⟨q1, Y', q2, q3, q4⟩ => ⟨q1, Y', q2, ?_, fun l o hl hx => q4 l o (ho.keep l o (hK1 _ _ (hHo _ _ hl)) (fun _ => hx) fun e => ?_) hx⟩)
  ·rw [hk] at q3; exact q3
  ·have := lt_of_get hl; omega
 have hO0 : OffAt H K1 Y { Y with L := Y.L ++ [⟨p, none⟩] } B s ins p 0 { Y with L := Y.L ++ [⟨p, none⟩] } K1 := by
  refine ⟨hx0, rfl, h.n1, h.n2, h.n3, fun _ => rfl, by simp [← hLn], fun j e he a ha => ?_, Nat.le_refl _, fun l o ho _ _ => ho⟩
  rcases snoc_get he with he | ⟨_, rfl⟩
  ·obtain ⟨x, hx⟩ : ∃ x, B.ents[j]? = some x := ⟨_, List.getElem?_eq_getElem (by rw [← hLn]; exact (List.getElem?_eq_some_iff.1 he).1)⟩
   have h5 := (h.ent j e x he hx).2.1
   rw [ha] at h5
   exact .inl (lt_of_get (show H[a.1]? = _ from h5))
  ·cases ha
 simp only [List.replicate, iA]
 rcases od with _ | ⟨ol, ov⟩
 ·have hE : ins = [] := by simpa [RowAt] using hc.row
  repeat refine aw_seq ?_
  refine aw_region ttOk (by kernel_rfl) ?_
  repeat (refine aops_cons ?_; first | (apply aops_o; rfl; simp only [estep, avs, tts, Nat.reduceAdd, Nat.reduceMul, Nat.reduceSub, Nat.reduceEqDiff, Nat.reduceLT, Nat.reduceLeDiff, Int.reduceToNat, Int.reduceLE, Int.reduceLT, Int.toNat_natCast, reduceCtorEq, hcb, slA, nilS] <;> (first | with_reducible rfl | rfl)) | (refine aops_grd rfl (by simp only [avs] <;> rfl) (by rfl) ?_; first | refine grd_on ?_ | refine grd_off (by simp only [avs] <;> rfl) ?_))
  refine aops_nil ?_
  refine aw_block (aw_loop (fun m env H' => m = 0 ∧ H' = K1 ∧ env = .ptr Y.bl 0 :: .undef :: .undef :: .ptr sl 0 :: iA 0 :: .undef :: .undef :: .undef :: .undef :: .undef :: .undef :: .ptr p 0 :: List.replicate 102 .undef ++ iA 0 :: iA 0 :: List.replicate 57 .undef) ?_ ⟨rfl, rfl, rfl⟩ ?_)
  ·simp [Goes, EnvLe, iA, List.replicate]
  rintro m env H' ⟨rfl, rfl, rfl⟩ hN
  simp only [List.replicate, List.cons_append, List.nil_append, iA]
  repeat refine aw_seq ?_
  refine aw_region ttOk (by kernel_rfl) ?_
  repeat (refine aops_cons ?_; first | (apply aops_o; rfl; simp only [estep, avs, tts, Nat.reduceAdd, Nat.reduceMul, Nat.reduceSub, Nat.reduceEqDiff, Nat.reduceLT, Nat.reduceLeDiff, Int.reduceToNat, Int.reduceLE, Int.reduceLT, Int.toNat_natCast, reduceCtorEq] <;> (first | with_reducible rfl | rfl)) | (refine aops_grd rfl (by simp only [avs] <;> rfl) (by rfl) ?_; first | refine grd_on ?_ | refine grd_off (by simp only [avs] <;> rfl) ?_))
  refine aops_nil ?_
  repeat refine aw_seq ?_
  refine aw_cond rfl rfl (fun hb => ?_) fun hb => ?_
  ·cases hb
  refine aw_exit ?_
  refine aw_goes (env' := .ptr Y.bl 0 :: .undef :: .undef :: .ptr sl 0 :: iA 0 :: .undef :: .undef :: .undef :: .undef :: .undef :: .undef :: .ptr p 0 :: List.replicate 161 .undef) (H' := _) ⟨by simp [EnvLe, List.replicate, iA], .inl rfl⟩ ?_
  exact fin _ _ 0 hO0 (by rw [hE]; rfl)
 have hro : K1[ol]? = some (.row 77 1 ov (ins.map fun j => [.ptr (Y.eb j) 0])) := hK1 _ _ hc.row
 have hol0 : H.length ≤ ol := hod _ rfl
 have holp : ol ≠ p := fun e => by have := lt_of_get hc.row; rw [hp] at this; omega
 have hslp : sl ≠ p := fun e => by rw [e, ← hp] at m2; omega
 repeat refine aw_seq ?_
 refine aw_region ttOk (by kernel_rfl) ?_
 repeat (refine aops_cons ?_; first | (apply aops_o; rfl; simp only [estep, avs, tts, Nat.reduceAdd, Nat.reduceMul, Nat.reduceSub, Nat.reduceEqDiff, Nat.reduceLT, Nat.reduceLeDiff, Int.reduceToNat, Int.reduceLE, Int.reduceLT, Int.toNat_natCast, reduceCtorEq, hcb, hro, slA] <;> (first | with_reducible rfl | rfl)) | (refine aops_grd rfl (by simp only [avs] <;> rfl) (by rfl) ?_; first | refine grd_on ?_ | refine grd_off (by simp only [avs] <;> rfl) ?_))
 refine aops_nil ?_
 refine aw_block (aw_loop (fun m env H' => ∃ k Y2, m = ins.length - k ∧ k ≤ ins.length ∧ OffAt H K1 Y { Y with L := Y.L ++ [⟨p, none⟩] } B s ins p k Y2 H' ∧ env = .ptr Y.bl 0 :: .undef :: .undef :: .ptr sl 0 :: iA 0 :: .undef :: .undef :: .undef :: .undef :: .undef :: .undef :: .ptr p 0 :: List.replicate 101 .undef ++ .ms ol ov ins.length :: iA ins.length :: iA k :: List.replicate 57 .undef) ?_ ⟨0, _, rfl, Nat.zero_le _, hO0, rfl⟩ ?_)
 ·simp [Goes, EnvLe, iA, List.replicate]
 rintro m env H' ⟨k, Y2, rfl, hk, ho, rfl⟩ hN
 simp only [List.replicate, List.cons_append, List.nil_append, iA]
 repeat refine aw_seq ?_
 refine aw_region ttOk (by kernel_rfl) ?_
 repeat (refine aops_cons ?_; first | (apply aops_o; rfl; simp only [estep, avs, tts, Nat.reduceAdd, Nat.reduceMul, Nat.reduceSub, Nat.reduceEqDiff, Nat.reduceLT, Nat.reduceLeDiff, Int.reduceToNat, Int.reduceLE, Int.reduceLT, Int.toNat_natCast, reduceCtorEq] <;> (first | with_reducible rfl | rfl)) | (refine aops_grd rfl (by simp only [avs] <;> rfl) (by rfl) ?_; first | refine grd_on ?_ | refine grd_off (by simp only [avs] <;> rfl) ?_))
 refine aops_nil ?_
 repeat refine aw_seq ?_
 refine aw_cond rfl rfl (fun hb => ?_) fun hb => ?_
 ·have hlt : k < ins.length := by simpa using hb
  have hlt2 : k < s.inputs.length := by omega
  have hix : (0 : Int) ≤ (k : Int) := by omega
  obtain ⟨j, hj⟩ : ∃ j, ins[k]? = some j := ⟨_, List.getElem?_eq_getElem hlt⟩
  have hjn : j < B.ents.length := hc.lt _ (List.mem_of_getElem? hj)
  have hgd : (ins.map fun j => [AV.ptr (Y.eb j) 0]).getD k [] = [.ptr (Y.eb j) 0] := by simp [List.getD, hj]
  have hgd2 : (s.inputs.map fun x => [PD.v (.string x.1), PD.v (.int .i64 x.2)]).getD k [] = [.v (.string s.inputs[k].1), .v (.int .i64 s.inputs[k].2)] := by simp [hlt2]
  obtain ⟨x, hx⟩ : ∃ x, (offE B s ins k)[j]? = some x := ⟨_, List.getElem?_eq_getElem (by rw [hBn]; omega)⟩
  obtain ⟨e, he, heb⟩ := ho.bk.lay (i := j) (x := x) hx
  have heb1 : e.b = Y.eb j := by rw [← heb, ho.eb, eb_snoc (by rw [hLn]; exact hjn)]
  have hE := ho.bk.ent j e x he hx
  have hbx := hE.1
  rw [heb1] at hbx
  have hro' : H'[ol]? = some (.row 77 1 ov (ins.map fun j => [.ptr (Y.eb j) 0])) := ho.keep _ _ hro (fun h => by omega) holp
  have hsl2 : H'[sl]? = some (.box 27 (stA s)) := ho.keep _ _ (hK1 _ _ hsl) (fun h => by omega) hslp
  simp only [stA] at hsl2
  have hebH : Y.eb j < H.length := by
   obtain ⟨x0, hx0⟩ : ∃ x0, B.ents[j]? = some x0 := ⟨_, List.getElem?_eq_getElem hjn⟩
   obtain ⟨nx, h5⟩ := h.box hx0
   exact lt_of_get h5
  have l1 := lt_of_get hbx
  have l2 := lt_of_get hsl2
  have hxm := List.mem_of_getElem? hx
  have hzl : (ins.zip (s.inputs.map (·.2))).take k = (ins.zip (s.inputs.map (·.2))).take k := rfl
  have hlf : -1000000000000000000 - 1000000000 * (1000000 : Int) ≤ x.left ∧ x.left ≤ 1000000000000000000 := by
   have := fold_left B.ents.length (-1000000000000000000) 1000000000000000000 1000000000 (by decide) ((ins.zip (s.inputs.map (·.2))).take k) (B.ents ++ [newE B s ins]) (fun pr hpr => by
    have h5 := (List.of_mem_zip (List.mem_of_mem_take hpr)).2
    obtain ⟨y, hy, e1⟩ := List.mem_map.1 h5
    rw [← e1]; exact hqi y hy) (fun y hy => by
    rcases List.mem_append.1 hy with hy | hy
    ·exact hl y hy
    ·simp at hy; subst hy; show _ ≤ s.q ∧ s.q ≤ _; omega) x hxm
   have hlen : ((ins.zip (s.inputs.map (·.2))).take k).length ≤ 1000000 := by rw [List.length_take]; omega
   omega
  have hnl : x.next.length ≤ 2000000 := by
   have := fold_next B.ents.length 1000000 ((ins.zip (s.inputs.map (·.2))).take k) (B.ents ++ [newE B s ins]) (fun y hy => by
    rcases List.mem_append.1 hy with hy | hy
    ·exact hnx y hy
    ·simp at hy; subst hy; simp [newE]) x hxm
   have hlen : ((ins.zip (s.inputs.map (·.2))).take k).length ≤ 1000000 := by rw [List.length_take]; omega
   omega
  have hqk := hqi _ (List.getElem_mem hlt2)
  have hw : IntKind.i64.wrap (x.left - s.inputs[k].2) = x.left - s.inputs[k].2 := by rw [IntKind.wrap_i64]; omega
  refine aw_skip ?_
  repeat refine aw_seq ?_
  refine aw_block ?_
  repeat refine aw_seq ?_
  refine aw_region ttOk (by kernel_rfl) ?_
  repeat (refine aops_cons ?_; first | (apply aops_o; rfl; simp only [estep, avs, tts, Nat.reduceAdd, Nat.reduceMul, Nat.reduceSub, Nat.reduceEqDiff, Nat.reduceLT, Nat.reduceLeDiff, Int.reduceToNat, Int.reduceLE, Int.reduceLT, Int.toNat_natCast, reduceCtorEq, hro', hgd, hlt, hix] <;> (first | with_reducible rfl | rfl)) | (refine aops_grd rfl (by simp only [avs] <;> rfl) (by rfl) ?_; first | refine grd_on ?_ | refine grd_off (by simp only [avs] <;> rfl) ?_))
  refine aops_nil ?_
  repeat refine aw_seq ?_
  refine aw_draw 13 ttOk mixed (by kernel_rfl) (by kernel_rfl) (by kernel_rfl) ?_
  repeat (refine ahops_cons ?_; first | (apply ahops_o; rfl; simp only [hstep, avs, tts, Nat.reduceAdd, Nat.reduceMul, Nat.reduceSub, Nat.reduceEqDiff, Nat.reduceLT, Nat.reduceLeDiff, Int.reduceToNat, Int.reduceLE, Int.reduceLT, Int.toNat_natCast, reduceCtorEq, hbx, hsl2, l1, l2, entC, inpsP, hgd2, hlt2, hix, hw] <;> (first | with_reducible rfl | rfl); first | trivial | omega) | (refine ahops_grd rfl (by simp only [avs] <;> rfl) (by rfl) ?_; first | refine hgrd_on ?_ | refine hgrd_off (by simp only [avs] <;> rfl) ?_))
  refine ahops_nil ?_
  repeat (refine aops_cons ?_; first | (apply aops_o; rfl; simp only [estep, avs, tts, Nat.reduceAdd, Nat.reduceMul, Nat.reduceSub, Nat.reduceEqDiff, Nat.reduceLT, Nat.reduceLeDiff, Int.reduceToNat, Int.reduceLE, Int.reduceLT, Int.toNat_natCast, reduceCtorEq, hbx, hsl2, l1, l2, entC, inpsP, hgd2, hlt2, hix, hw] <;> (first | with_reducible rfl | rfl)) | (refine aops_grd rfl (by simp only [avs] <;> rfl) (by rfl) ?_; first | refine grd_on ?_ | refine grd_off (by simp only [avs] <;> rfl) ?_))
  refine aops_nil ?_
  refine aw_goes (env' := .ptr Y.bl 0 :: .undef :: .undef :: .ptr sl 0 :: iA 0 :: .undef :: .undef :: .undef :: .undef :: .undef :: .undef :: .ptr p 0 :: .undef :: .ptr (Y.eb j) 0 :: List.replicate 99 .undef ++ .ms ol ov ins.length :: iA ins.length :: iA k :: List.replicate 57 .undef) (H' := H'.set (Y.eb j) (.box 79 (entC { x with left := x.left - s.inputs[k].2 } (slA e.row x.next.length)))) ⟨by simp [EnvLe, List.replicate, iA], .inl rfl⟩ ?_
  have hlen2 : (H'.set (Y.eb j) (.box 79 (entC { x with left := x.left - s.inputs[k].2 } (slA e.row x.next.length)))).length = H'.length := List.length_set
  have hbx2 : (H'.set (Y.eb j) (.box 79 (entC { x with left := x.left - s.inputs[k].2 } (slA e.row x.next.length))))[Y.eb j]? = some (.box 79 (entC { x with left := x.left - s.inputs[k].2 } (slA e.row x.next.length))) := get_set_same l1
  have hs2 : ∀ (l : Nat) (o : AObj), H'[l]? = some o → l ≠ Y.eb j → (H'.set (Y.eb j) (.box 79 (entC { x with left := x.left - s.inputs[k].2 } (slA e.row x.next.length))))[l]? = some o := fun l o hl h1 => by rw [get_set_ne h1]; exact hl
  generalize H'.set (Y.eb j) (.box 79 (entC { x with left := x.left - s.inputs[k].2 } (slA e.row x.next.length))) = G2 at hlen2 hbx2 hs2 ⊢
  have hqs : (s.inputs.map (·.2))[k]? = some s.inputs[k].2 := by simp [hlt2]
  have hep : Y2.eb B.ents.length = p := by
   unfold Lay.eb; rw [ho.last]; rfl
  have hoff : offE B s ins (k + 1) = (offE B s ins k).set j { x with left := x.left - s.inputs[k].2, next := x.next ++ [B.ents.length] } := by
   rw [offE_succ hj hqs, takeE_some (p := (j, s.inputs[k].2)) hx]
  -- the state behind the round
  have next : ∀ (H3 : AHeap) (row' : OR), H'.length ≤ H3.length → (∀ (l : Nat) (o : AObj), H'[l]? = some o → l ≠ e.b → (∀ a, e.row = some a → l ≠ a.1) → H3[l]? = some o) → H3[e.b]? = some (.box 79 (entC { x with left := x.left - s.inputs[k].2, next := x.next ++ [B.ents.length] } (slA row' (x.next.length + 1)))) →
    RowAt H3 row' ((x.next.map fun j => [.ptr (Y2.eb j) 0]) ++ [[.ptr p 0]]) → (row' = e.row ∨ ∃ a, row' = some a ∧ H'.length ≤ a.1) → OffAt H K1 Y { Y with L := Y.L ++ [⟨p, none⟩] } B s ins p (k + 1) (Y2.put j ⟨e.b, row'⟩) H3 := by
   intro H3 row' hl3 hsame hbox hrow hnew
   have hne : j ≠ B.ents.length := by omega
   refine ⟨?_, ho.bl, ho.n1, ho.n2, ho.n3, fun i => (eb_put (f := ⟨e.b, row'⟩) he rfl i).trans (ho.eb i), ?_, ?_, by have := ho.len; omega, ?_⟩
   ·rw [hoff]
    exact off_put ho.bk he hx (x' := { x with left := x.left - s.inputs[k].2, next := x.next ++ [B.ents.length] }) rfl rfl rfl hjn (by rw [ho.bk.len]; show _ < (offE B s ins k).length; rw [hBn]; omega) hep hsame (by simpa using hbox) hrow hnew
   ·show (Y2.L.set j _)[B.ents.length]? = _
    rw [List.getElem?_set_ne hne]; exact ho.last
   ·intro i f hf a ha
    rcases set_get hf with ⟨rfl, rfl⟩ | ⟨_, hf⟩
    ·rcases hnew with hn | ⟨c, hc', hl'⟩
     ·exact ho.rows _ e he a (by rw [← hn]; exact ha)
     ·rw [show row' = some a from ha] at hc'; cases hc'
      exact .inr (Nat.le_trans ho.len hl')
    ·exact ho.rows i f hf a ha
   ·intro l o hl1 hx1 hlp
    have h5 := ho.keep l o hl1 hx1 hlp
    refine hsame l o h5 (fun e1 => ?_) fun a ha e1 => ?_
    ·rw [e1, heb1] at h5 hx1
     rw [hbx] at h5; cases h5
     have := hx1 hebH
     cases this
    ·have h6 := hE.2.1
     rw [ha] at h6
     have h6' : H'[a.1]? = _ := h6
     rw [e1, h6'] at h5
     cases h5
     rcases ho.rows j e he a ha with h7 | h7
     ·rw [e1] at hx1
      have := hx1 h7
      cases this
     ·have := lt_of_get hl1; omega
  simp only [List.replicate, List.cons_append, List.nil_append, iA]
  rcases hrw : e.row with _ | ⟨rl, rv⟩
  ·rw [hrw] at hbx2
   have hne := hE.2.1
   rw [hrw] at hne
   have hnx0 : x.next = [] := by simpa [RowAt] using hne
   rw [hnx0] at hbx2
   have hbx3 := got hbx2
   repeat refine aw_seq ?_
   refine aw_region ttOk (by kernel_rfl) ?_
   repeat (refine aops_cons ?_; first | (apply aops_o; rfl; simp only [estep, avs, tts, Nat.reduceAdd, Nat.reduceMul, Nat.reduceSub, Nat.reduceEqDiff, Nat.reduceLT, Nat.reduceLeDiff, Int.reduceToNat, Int.reduceLE, Int.reduceLT, Int.toNat_natCast, reduceCtorEq, hbx2, hbx3, entC, slA, nilS] <;> (first | with_reducible rfl | rfl)) | (refine aops_grd rfl (by simp only [avs] <;> rfl) (by rfl) ?_; first | refine grd_on ?_ | refine grd_off (by simp only [avs] <;> rfl) ?_))
   refine aops_nil ?_
   repeat refine aw_seq ?_
   refine aw_region ttOk (by kernel_rfl) ?_
   repeat (refine aops_cons ?_; first | (apply aops_o; rfl; simp only [estep, avs, tts, Nat.reduceAdd, Nat.reduceMul, Nat.reduceSub, Nat.reduceEqDiff, Nat.reduceLT, Nat.reduceLeDiff, Int.reduceToNat, Int.reduceLE, Int.reduceLT, Int.toNat_natCast, reduceCtorEq, wrap_succ hlt (by omega : ins.length ≤ 9223372036854775807)] <;> (first | with_reducible rfl | rfl)) | (refine aops_grd rfl (by simp only [avs] <;> rfl) (by rfl) ?_; first | refine grd_on ?_ | refine grd_off (by simp only [avs] <;> rfl) ?_))
   refine aops_nil ?_
   refine ⟨ins.length - (k + 1), _, _, by omega, ⟨?_, .inl rfl⟩, k + 1, _, rfl, hlt, next _ (some (G2.length + 1, 0)) ?_ (fun l o hl h1 _ => ?_) ?_ ?_ (.inr ⟨_, rfl, ?_⟩), rfl⟩
   ·simp [EnvLe, iA, List.replicate]
   ·simp; omega
   ·rw [heb1] at h1
    rw [get_set_ne h1]; exact got (hs2 l o hl h1) _
   ·rw [heb1, get_set_same (by have := lt_of_get hbx2; simp; omega), hnx0]; rfl
   ·show _ = _
    rw [get_set_ne (by have := lt_of_get hbx2; show G2.length + 1 ≠ Y.eb j; omega), H_get, hnx0]; rfl
   ·show _ ≤ G2.length + 1; omega
  ·rw [hrw] at hbx2
   have hne := hE.2.1
   rw [hrw] at hne
   have hrr : H'[rl]? = some (.row 77 1 rv (x.next.map fun j => [.ptr (Y2.eb j) 0])) := hne
   have hrn : rl ≠ Y.eb j := ne_of_get hrr hbx (by simp)
   have hrr2 := hs2 _ _ hrr hrn
   have hbx3 := got hbx2
   have hrr3 := got hrr2
   have hbx4 := got_set hbx2 hrn.symm
   have b1 : x.next.length ≤ 9223372036854775806 := by omega
   have b2 : (x.next.length + 1) * 8 ≤ 140737488355328 := by omega
   repeat refine aw_seq ?_
   refine aw_region ttOk (by kernel_rfl) ?_
   repeat (refine aops_cons ?_; first | (apply aops_o; rfl; simp only [estep, avs, tts, Nat.reduceAdd, Nat.reduceMul, Nat.reduceSub, Nat.reduceEqDiff, Nat.reduceLT, Nat.reduceLeDiff, Int.reduceToNat, Int.reduceLE, Int.reduceLT, Int.toNat_natCast, reduceCtorEq, hbx2, hbx3, hbx4, hrr2, hrr3, entC, slA, b1, b2] <;> (first | with_reducible rfl | rfl)) | (refine aops_grd rfl (by simp only [avs] <;> rfl) (by rfl) ?_; first | refine grd_on ?_ | refine grd_off (by simp only [avs] <;> rfl) ?_))
   refine aops_nil ?_
   repeat refine aw_seq ?_
   refine aw_region ttOk (by kernel_rfl) ?_
   repeat (refine aops_cons ?_; first | (apply aops_o; rfl; simp only [estep, avs, tts, Nat.reduceAdd, Nat.reduceMul, Nat.reduceSub, Nat.reduceEqDiff, Nat.reduceLT, Nat.reduceLeDiff, Int.reduceToNat, Int.reduceLE, Int.reduceLT, Int.toNat_natCast, reduceCtorEq, wrap_succ hlt (by omega : ins.length ≤ 9223372036854775807)] <;> (first | with_reducible rfl | rfl)) | (refine aops_grd rfl (by simp only [avs] <;> rfl) (by rfl) ?_; first | refine grd_on ?_ | refine grd_off (by simp only [avs] <;> rfl) ?_))
   refine aops_nil ?_
   refine ⟨ins.length - (k + 1), _, _, by omega, ⟨?_, .inl rfl⟩, k + 1, _, rfl, hlt, next _ (some (rl, rv)) ?_ (fun l o hl h1 h2 => ?_) ?_ ?_ (.inl hrw.symm), rfl⟩
   ·simp [EnvLe, iA, List.replicate]
   ·simp; omega
   ·rw [heb1] at h1
    rw [get_set_ne h1, get_set_ne (h2 _ hrw)]; exact got (hs2 l o hl h1) _
   ·rw [heb1, get_set_same (by have := lt_of_get hbx2; simp; omega)]; rfl
   ·show _ = _
    rw [get_set_ne hrn]
    exact got_self hrr2 _ _
 ·refine aw_exit ?_
  have hkl : k = ins.length := by simp at hb; omega
  refine aw_goes (env' := .ptr Y.bl 0 :: .undef :: .undef :: .ptr sl 0 :: iA 0 :: .undef :: .undef :: .undef :: .undef :: .undef :: .undef :: .ptr p 0 :: List.replicate 161 .undef) (H' := _) ⟨by simp [EnvLe, List.replicate, iA], .inl rfl⟩ ?_
  exact fin _ _ k ho (by
   unfold finalB
   simp only
   rw [List.length_zip, List.length_map, ← hil, Nat.min_self, hkl])
end Av
end Go.Proofs.YtnkepmfgmfeabaaGreatDoor
