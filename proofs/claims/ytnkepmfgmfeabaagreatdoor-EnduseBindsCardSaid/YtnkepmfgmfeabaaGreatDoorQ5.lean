import Derived.Test.YtnkepmfgmfeabaaGreatDoorQ4
import Derived.Test.YtnkepmfgmfeabaaGreatDoorQ2
import Derived.Test.YtnkepmfgmfeabaaGreatDoorQ3
import Derived.Test.YtnkepmfgmfeabaaGreatDoorQ1
import Derived.ChangeArms
import Derived.OpenShut
import Derived.Deep.Strs
import Derived.KernelRfl
set_option linter.unusedVariables false
set_option linter.unusedSimpArgs false
namespace Go.Proofs.YtnkepmfgmfeabaaGreatDoor
open Go Go.RowKit
namespace Av

/-! A statement that asks to be added. -/
def stA (s : Stm) : List AV := [.d (.v (.string s.id)), .d (.v (.string s.prod)), .d (.v (.int .i64 s.q)), .d (.v (.string s.holder)), .d (strsP s.uses), .d (inpsP s.inputs), .d (.v (.int .i64 s.idx)), .d (strsP s.sig), .d (strsP s.path)]
structure CandAt (H : AHeap) (cl : Nat) (Y : Lay) (B : Bk) (s : Stm) (ins : List Nat) (od : OR) : Prop where
 box : H[cl]? = some (.box 87 [.ptr Y.bl 0, .d (.v (.string s.id)), .d (.v (.string s.prod)), .d (.v (.int .i64 s.q)), .d (.v (.string s.holder)), .d (strsP s.uses), .d (inpsP s.inputs), .d (.v (.int .i64 s.idx)), .d (strsP s.sig), .d (strsP s.path), slA od ins.length])
 row : RowAt H od (ins.map fun j => [.ptr (Y.eb j) 0])
 lt : ∀ j ∈ ins, j < B.ents.length
theorem CandAt.app {H : AHeap} {cl : Nat} {Y : Lay} {B : Bk} {s : Stm} {ins : List Nat} {od : OR} (h : CandAt H cl Y B s ins od) (G : AHeap) : CandAt (H ++ G) cl Y B s ins od := ⟨got h.box G, h.row.app G, h.lt⟩
def anyP (p : Nat → Nat → Bool) (ins : List Nat) : Bool := (List.range ins.length).any fun i => p i (ins.getD i 0)
theorem any_yes {p : Nat → Nat → Bool} {ins : List Nat} {i j : Nat} (h : ins[i]? = some j) (hp : p i j = true) : anyP p ins = true := by
 unfold anyP
 rw [List.any_eq_true]
 exact ⟨i, by simpa using (List.getElem?_eq_some_iff.1 h).1, by simpa [List.getD, h] using hp⟩
theorem any_no {p : Nat → Nat → Bool} {ins : List Nat} (h : ∀ i j, ins[i]? = some j → p i j = false) : anyP p ins = false := by
 unfold anyP
 rw [List.any_eq_false]
 intro i hi
 have hi : i < ins.length := by simpa using hi
 have := h i ins[i] (List.getElem?_eq_getElem hi)
 simpa [List.getD, hi] using this
theorem any_a {base : World} {H : AHeap} {cl : Nat} {Y : Lay} {B : Bk} {s : Stm} {ins : List Nat} {od : OR} (h : CandAt H cl Y B s ins od) (hn : ins.length ≤ 1000000) (code : Int) (p : Nat → Nat → Bool) (g : Nat) (first caps : List AV)
  (hg : ∀ i j : Nat, ins[i]? = some j → ReadA Tryz.prog base g (first ++ [iA (i : Int), .ptr (Y.eb j) 0] ++ caps) H (bA (p i j))) :
  ReadA Tryz.prog base 69 [.ptr cl 0, iA code, .fn (.func g) first caps] H (iA (if anyP p ins then code else 0)) := by
 refine read_enter ttOk Tryz.call69 Tryz.func69 rfl fun hB hb hF => ?_
 rw [Tryz.results69, Tryz.ntmps69]
 simp only [arr_list, List.length_cons, List.length_nil, List.replicate, List.cons_append, List.nil_append, Nat.reduceAdd, Nat.reduceSub]
 have h1 := h.box
 have h2 := h.row
 repeat refine aw_seq ?_
 refine aw_run ttOk (by kernel_rfl) (by simp only [erun, eall, estep, avs, tts, Nat.reduceAdd, Nat.reduceMul, Nat.reduceSub, Nat.reduceEqDiff, Nat.reduceLT, Nat.reduceLeDiff, Int.reduceToNat, Int.reduceLE, Int.reduceLT, Int.toNat_natCast, reduceCtorEq] <;> first | with_reducible rfl | rfl) ?_
 rcases od with _ | ⟨ol, ov⟩
 ·have hE : ins = [] := by simpa [RowAt] using h2
  rw [hE] at h1
  repeat refine aw_seq ?_
  refine aw_run ttOk (by kernel_rfl) (by simp only [erun, eall, estep, avs, tts, Nat.reduceAdd, Nat.reduceMul, Nat.reduceSub, Nat.reduceEqDiff, Nat.reduceLT, Nat.reduceLeDiff, Int.reduceToNat, Int.reduceLE, Int.reduceLT, Int.toNat_natCast, reduceCtorEq, h1, slA, nilS, iA] <;> first | with_reducible rfl | rfl) ?_
  refine aw_block (aw_loop (fun m env H' => m = 0 ∧ H' = H ∧ env = .undef :: .undef :: .undef :: .undef :: .undef :: .undef :: .undef :: .undef :: .undef :: .undef :: .undef :: .undef :: .undef :: iA 0 :: iA 0 :: List.replicate 10 .undef) ?_ ⟨rfl, rfl, rfl⟩ ?_)
  ·simp [Goes, EnvLe, iA, List.replicate]
  rintro m env H' ⟨rfl, rfl, rfl⟩ hN
  simp only [List.replicate, List.cons_append, List.nil_append, iA]
  repeat refine aw_seq ?_
  refine aw_run ttOk (by kernel_rfl) (by simp only [erun, eall, estep, avs, tts, Nat.reduceAdd, Nat.reduceMul, Nat.reduceSub, Nat.reduceEqDiff, Nat.reduceLT, Nat.reduceLeDiff, Int.reduceToNat, Int.reduceLE, Int.reduceLT, Int.toNat_natCast, reduceCtorEq] <;> first | with_reducible rfl | rfl) ?_
  repeat refine aw_seq ?_
  refine aw_cond rfl rfl (fun hb => ?_) fun hb => ?_
  ·cases hb
  refine aw_exit ?_
  repeat refine aw_seq ?_
  refine aw_run ttOk (by kernel_rfl) (by simp only [erun, eall, estep, avs, tts, Nat.reduceAdd, Nat.reduceMul, Nat.reduceSub, Nat.reduceEqDiff, Nat.reduceLT, Nat.reduceLeDiff, Int.reduceToNat, Int.reduceLE, Int.reduceLT, Int.toNat_natCast, reduceCtorEq] <;> first | with_reducible rfl | rfl) ?_
  exact aw_ret ⟨_, rfl, [], by simp, by rw [hE]; rfl⟩
 have hrow : H[ol]? = some (.row 77 1 ov (ins.map fun j => [.ptr (Y.eb j) 0])) := h2
 repeat refine aw_seq ?_
 refine aw_run ttOk (by kernel_rfl) (by simp only [erun, eall, estep, avs, tts, Nat.reduceAdd, Nat.reduceMul, Nat.reduceSub, Nat.reduceEqDiff, Nat.reduceLT, Nat.reduceLeDiff, Int.reduceToNat, Int.reduceLE, Int.reduceLT, Int.toNat_natCast, reduceCtorEq, h1, slA, hrow, iA] <;> first | with_reducible rfl | rfl) ?_
 refine aw_block (aw_loop (fun m env H' => ∃ k, m = ins.length - k ∧ k ≤ ins.length ∧ H' = H ∧ (∀ i j, i < k → ins[i]? = some j → p i j = false) ∧ env = .undef :: iA code :: .fn (.func g) first caps :: .undef :: .undef :: .undef :: .undef :: .undef :: .undef :: .undef :: .undef :: .undef :: .ms ol ov ins.length :: iA ins.length :: iA k :: List.replicate 10 .undef) ?_ ⟨0, rfl, Nat.zero_le _, rfl, fun i j hi => by omega, rfl⟩ ?_)
 ·simp [Goes, EnvLe, iA, List.replicate]
 rintro m env H' ⟨k, rfl, hk, rfl, hj, rfl⟩ hN
 simp only [List.replicate, List.cons_append, List.nil_append, iA]
 repeat refine aw_seq ?_
 refine aw_run ttOk (by kernel_rfl) (by simp only [erun, eall, estep, avs, tts, Nat.reduceAdd, Nat.reduceMul, Nat.reduceSub, Nat.reduceEqDiff, Nat.reduceLT, Nat.reduceLeDiff, Int.reduceToNat, Int.reduceLE, Int.reduceLT, Int.toNat_natCast, reduceCtorEq] <;> first | with_reducible rfl | rfl) ?_
 repeat refine aw_seq ?_
 refine aw_cond rfl rfl (fun hb => ?_) fun hb => ?_
 ·have hlt : k < ins.length := by simpa using hb
  have hix : (0 : Int) ≤ (k : Int) := by omega
  obtain ⟨j, hjk⟩ : ∃ j, ins[k]? = some j := ⟨_, List.getElem?_eq_getElem hlt⟩
  have hgd : (ins.map fun j => [AV.ptr (Y.eb j) 0]).getD k [] = [.ptr (Y.eb j) 0] := by simp [List.getD, hjk]
  refine aw_skip ?_
  repeat refine aw_seq ?_
  refine aw_block ?_
  repeat refine aw_seq ?_
  refine aw_run ttOk (by kernel_rfl) (by simp only [erun, eall, estep, avs, tts, Nat.reduceAdd, Nat.reduceMul, Nat.reduceSub, Nat.reduceEqDiff, Nat.reduceLT, Nat.reduceLeDiff, Int.reduceToNat, Int.reduceLE, Int.reduceLT, Int.toNat_natCast, reduceCtorEq, hrow, hgd, hlt, hix] <;> first | with_reducible rfl | rfl) ?_
  repeat refine aw_seq ?_
  repeat refine aw_seq ?_
  refine aw_region ttOk (by kernel_rfl) ?_
  refine aops_run 3 (by simp only [erun, eall, estep, avs, tts, Nat.reduceAdd, Nat.reduceMul, Nat.reduceSub, Nat.reduceEqDiff, Nat.reduceLT, Nat.reduceLeDiff, Int.reduceToNat, Int.reduceLE, Int.reduceLT, Int.toNat_natCast, reduceCtorEq] <;> first | with_reducible rfl | rfl) ?_
  refine aops_read rfl (by simp only [avs] <;> rfl) (hg k j hjk) (by simp only [avs] <;> rfl) ?_
  refine aops_nil ?_
  unfold bA
  repeat refine aw_seq ?_
  refine aw_cond rfl rfl (fun hb => ?_) fun hb => ?_
  ·repeat refine aw_seq ?_
   refine aw_run ttOk (by kernel_rfl) (by simp only [erun, eall, estep, avs, tts, Nat.reduceAdd, Nat.reduceMul, Nat.reduceSub, Nat.reduceEqDiff, Nat.reduceLT, Nat.reduceLeDiff, Int.reduceToNat, Int.reduceLE, Int.reduceLT, Int.toNat_natCast, reduceCtorEq] <;> first | with_reducible rfl | rfl) ?_
   exact aw_ret ⟨_, rfl, [], by simp, by rw [any_yes hjk hb]; rfl⟩
  ·refine aw_skip ?_
   repeat refine aw_seq ?_
   refine aw_run ttOk (by kernel_rfl) (by simp only [erun, eall, estep, avs, tts, Nat.reduceAdd, Nat.reduceMul, Nat.reduceSub, Nat.reduceEqDiff, Nat.reduceLT, Nat.reduceLeDiff, Int.reduceToNat, Int.reduceLE, Int.reduceLT, Int.toNat_natCast, reduceCtorEq, wrap_succ hlt (by omega : ins.length ≤ 9223372036854775807)] <;> first | with_reducible rfl | rfl) ?_
   refine ⟨ins.length - (k + 1), _, _, by omega, ⟨?_, .inl rfl⟩, k + 1, rfl, hlt, rfl, fun i j' hi hij => ?_, rfl⟩
   ·simp [EnvLe, iA, List.replicate]
   ·rcases Nat.lt_succ_iff_lt_or_eq.1 hi with h1 | rfl
    ·exact hj i j' h1 hij
    ·rw [hjk] at hij; cases hij; exact hb
 ·refine aw_exit ?_
  repeat refine aw_seq ?_
  refine aw_run ttOk (by kernel_rfl) (by simp only [erun, eall, estep, avs, tts, Nat.reduceAdd, Nat.reduceMul, Nat.reduceSub, Nat.reduceEqDiff, Nat.reduceLT, Nat.reduceLeDiff, Int.reduceToNat, Int.reduceLE, Int.reduceLT, Int.toNat_natCast, reduceCtorEq] <;> first | with_reducible rfl | rfl) ?_
  have hkL : k = ins.length := by simp at hb; omega
  exact aw_ret ⟨_, rfl, [], by simp, by rw [any_no fun i j hij => hj i j (by rw [hkL]; exact (List.getElem?_eq_some_iff.1 hij).1) hij]; rfl⟩
end Av
end Go.Proofs.YtnkepmfgmfeabaaGreatDoor
set_option linter.unusedVariables false
set_option linter.unusedSimpArgs false
namespace Go.Proofs.YtnkepmfgmfeabaaGreatDoor
open Go Go.RowKit
namespace Av
def onE (B : Bk) (f : Ent → Bool) (j : Nat) : Bool := match B.ents[j]? with
 | some x => f x
 | none => false
theorem onE_eq {B : Bk} {f : Ent → Bool} {j : Nat} {x : Ent} (h : B.ents[j]? = some x) : onE B f j = f x := by unfold onE; rw [h]
def pRev (B : Bk) : Nat → Nat → Bool := fun _ j => onE B (fun x => x.rev) j
def pProd (B : Bk) (s : Stm) : Nat → Nat → Bool := fun _ j => onE B (fun x => !decide (x.st.prod = s.prod)) j
def pQuota (B : Bk) (s : Stm) : Nat → Nat → Bool := fun i j => onE B (fun x => decide (x.left < (s.inputs.getD i nilInp).2)) j
def pUses (B : Bk) (s : Stm) : Nat → Nat → Bool := fun _ j => onE B (fun x => s.uses.any fun u => !(x.st.uses.any fun y => decide (u = y))) j
def pSgn (B : Bk) (g : ByteArray) : Nat → Nat → Bool := fun _ j => onE B (fun x => !decide (x.st.holder = g)) j
section
variable {base : World} {H : AHeap} {cl : Nat} {Y : Lay} {B : Bk} {s : Stm} {ins : List Nat} {od : OR}
theorem CandAt.ex (h : CandAt H cl Y B s ins od) {i j : Nat} (hj : ins[i]? = some j) : ∃ x, B.ents[j]? = some x := ⟨_, List.getElem?_eq_getElem (h.lt j (List.mem_of_getElem? hj))⟩
theorem state1_a (hk : Book H Y B) (i : Int) {j : Nat} {x : Ent} (hx : B.ents[j]? = some x) : ReadA Tryz.prog base 70 [iA i, .ptr (Y.eb j) 0] H (bA x.rev) := by
 refine read_enter ttOk Tryz.call70 Tryz.func70 rfl fun hB hb hF => ?_
 rw [Tryz.results70, Tryz.ntmps70]
 simp only [arr_list, List.length_cons, List.length_nil, List.replicate, List.cons_append, List.nil_append, Nat.reduceAdd, Nat.reduceSub]
 obtain ⟨nx, hn⟩ := hk.box hx
 repeat refine aw_seq ?_
 refine aw_run ttOk (by kernel_rfl) (by simp only [erun, eall, estep, avs, tts, Nat.reduceAdd, Nat.reduceMul, Nat.reduceSub, Nat.reduceEqDiff, Nat.reduceLT, Nat.reduceLeDiff, Int.reduceToNat, Int.reduceLE, Int.reduceLT, Int.toNat_natCast, reduceCtorEq, iA] <;> first | with_reducible rfl | rfl) ?_
 repeat refine aw_seq ?_
 refine aw_run ttOk (by kernel_rfl) (by simp only [erun, eall, estep, avs, tts, Nat.reduceAdd, Nat.reduceMul, Nat.reduceSub, Nat.reduceEqDiff, Nat.reduceLT, Nat.reduceLeDiff, Int.reduceToNat, Int.reduceLE, Int.reduceLT, Int.toNat_natCast, reduceCtorEq, hn, entC] <;> first | with_reducible rfl | rfl) ?_
 exact aw_ret ⟨_, rfl, [], by simp, rfl⟩
theorem state_a (hk : Book H Y B) (hc : CandAt H cl Y B s ins od) (hn : ins.length ≤ 1000000) : ReadA Tryz.prog base 44 [.ptr cl 0] H (iA (if anyP (pRev B) ins then 12 else 0)) := by
 refine read_enter ttOk Tryz.call44 Tryz.func44 rfl fun hB hb hF => ?_
 rw [Tryz.results44, Tryz.ntmps44]
 simp only [arr_list, List.length_cons, List.length_nil, List.replicate, List.cons_append, List.nil_append, Nat.reduceAdd, Nat.reduceSub]
 repeat refine aw_seq ?_
 refine aw_run ttOk (by kernel_rfl) (by simp only [erun, eall, estep, avs, tts, Nat.reduceAdd, Nat.reduceMul, Nat.reduceSub, Nat.reduceEqDiff, Nat.reduceLT, Nat.reduceLeDiff, Int.reduceToNat, Int.reduceLE, Int.reduceLT, Int.toNat_natCast, reduceCtorEq] <;> first | with_reducible rfl | rfl) ?_
 repeat refine aw_seq ?_
 refine aw_region ttOk (by kernel_rfl) ?_
 refine aops_run 1 (by simp only [erun, eall, estep, avs, tts, Nat.reduceAdd, Nat.reduceMul, Nat.reduceSub, Nat.reduceEqDiff, Nat.reduceLT, Nat.reduceLeDiff, Int.reduceToNat, Int.reduceLE, Int.reduceLT, Int.toNat_natCast, reduceCtorEq] <;> first | with_reducible rfl | rfl) ?_
 refine aops_read rfl (by simp only [avs] <;> rfl) (any_a hc hn 12 (pRev B) 70 [] [] fun i j hj => by obtain ⟨x, hx⟩ := hc.ex hj; rw [show pRev B i j = _ from onE_eq hx]; exact state1_a hk i hx) (by simp only [avs] <;> rfl) ?_
 refine aops_run 1 (by simp only [erun, eall, estep, avs, tts, Nat.reduceAdd, Nat.reduceMul, Nat.reduceSub, Nat.reduceEqDiff, Nat.reduceLT, Nat.reduceLeDiff, Int.reduceToNat, Int.reduceLE, Int.reduceLT, Int.toNat_natCast, reduceCtorEq] <;> first | with_reducible rfl | rfl) ?_
 refine aops_nil ?_
 exact aw_ret ⟨_, rfl, [], by simp, rfl⟩
theorem product1_a (hk : Book H Y B) (hc : CandAt H cl Y B s ins od) {vl : Nat} (hv : H[vl]? = some (.box 85 [.ptr cl 0])) (i : Int) {j : Nat} {x : Ent} (hx : B.ents[j]? = some x) :
  ReadA Tryz.prog base 71 [iA i, .ptr (Y.eb j) 0, .ptr vl 0] H (bA (!decide (x.st.prod = s.prod))) := by
 refine read_enter ttOk Tryz.call71 Tryz.func71 rfl fun hB hb hF => ?_
 rw [Tryz.results71, Tryz.ntmps71]
 simp only [arr_list, List.length_cons, List.length_nil, List.replicate, List.cons_append, List.nil_append, Nat.reduceAdd, Nat.reduceSub]
 obtain ⟨nx, hn⟩ := hk.box hx
 have h1 := hc.box
 repeat refine aw_seq ?_
 refine aw_run ttOk (by kernel_rfl) (by simp only [erun, eall, estep, avs, tts, Nat.reduceAdd, Nat.reduceMul, Nat.reduceSub, Nat.reduceEqDiff, Nat.reduceLT, Nat.reduceLeDiff, Int.reduceToNat, Int.reduceLE, Int.reduceLT, Int.toNat_natCast, reduceCtorEq, iA] <;> first | with_reducible rfl | rfl) ?_
 have l1 := lt_of_get hn
 have l2 := lt_of_get h1
 repeat refine aw_seq ?_
 refine aw_drun 12 ttOk mixed (by kernel_rfl) (by kernel_rfl) (by kernel_rfl) (by simp only [hrun, hstep, avs, tts, Nat.reduceAdd, Nat.reduceMul, Nat.reduceSub, Nat.reduceEqDiff, Nat.reduceLT, Nat.reduceLeDiff, Int.reduceToNat, Int.reduceLE, Int.reduceLT, Int.toNat_natCast, reduceCtorEq, hn, entC, hv, h1, l1, l2] <;> first | with_reducible rfl | rfl) (by simp only [erun, eall, estep, avs, tts, Nat.reduceAdd, Nat.reduceMul, Nat.reduceSub, Nat.reduceEqDiff, Nat.reduceLT, Nat.reduceLeDiff, Int.reduceToNat, Int.reduceLE, Int.reduceLT, Int.toNat_natCast, reduceCtorEq, hn, entC, hv, h1, l1, l2] <;> first | with_reducible rfl | rfl) ?_
 exact aw_ret ⟨_, rfl, [], by simp, rfl⟩
theorem product_a (hk : Book H Y B) (hc : CandAt H cl Y B s ins od) (hn : ins.length ≤ 1000000) : ReadA Tryz.prog base 45 [.ptr cl 0] H (iA (if anyP (pProd B s) ins then 8 else 0)) := by
 refine read_enter ttOk Tryz.call45 Tryz.func45 rfl fun hB hb hF => ?_
 rw [Tryz.results45, Tryz.ntmps45]
 simp only [arr_list, List.length_cons, List.length_nil, List.replicate, List.cons_append, List.nil_append, Nat.reduceAdd, Nat.reduceSub]
 repeat refine aw_seq ?_
 refine aw_run ttOk (by kernel_rfl) (by simp only [erun, eall, estep, avs, tts, Nat.reduceAdd, Nat.reduceMul, Nat.reduceSub, Nat.reduceEqDiff, Nat.reduceLT, Nat.reduceLeDiff, Int.reduceToNat, Int.reduceLE, Int.reduceLT, Int.toNat_natCast, reduceCtorEq] <;> first | with_reducible rfl | rfl) ?_
 repeat refine aw_seq ?_
 refine aw_region ttOk (by kernel_rfl) ?_
 refine aops_run 2 (by simp only [erun, eall, estep, avs, tts, Nat.reduceAdd, Nat.reduceMul, Nat.reduceSub, Nat.reduceEqDiff, Nat.reduceLT, Nat.reduceLeDiff, Int.reduceToNat, Int.reduceLE, Int.reduceLT, Int.toNat_natCast, reduceCtorEq] <;> first | with_reducible rfl | rfl) ?_
 refine aops_read rfl (by simp only [avs] <;> rfl) (any_a (hc.app _) hn 8 (pProd B s) 71 [] [.ptr H.length 0] fun i j hj => by obtain ⟨x, hx⟩ := hc.ex hj; rw [show pProd B s i j = _ from onE_eq hx]; exact product1_a (hk.app _) (hc.app _) (H_get0 _ _) i hx) (by simp only [avs] <;> rfl) ?_
 refine aops_run 1 (by simp only [erun, eall, estep, avs, tts, Nat.reduceAdd, Nat.reduceMul, Nat.reduceSub, Nat.reduceEqDiff, Nat.reduceLT, Nat.reduceLeDiff, Int.reduceToNat, Int.reduceLE, Int.reduceLT, Int.toNat_natCast, reduceCtorEq] <;> first | with_reducible rfl | rfl) ?_
 refine aops_nil ?_
 exact aw_ret ⟨_, rfl, _, rfl, rfl⟩
theorem quota1_a (hk : Book H Y B) (hc : CandAt H cl Y B s ins od) {vl : Nat} (hv : H[vl]? = some (.box 85 [.ptr cl 0])) {i : Nat} (hi : i < s.inputs.length) {j : Nat} {x : Ent} (hx : B.ents[j]? = some x) :
  ReadA Tryz.prog base 72 [iA i, .ptr (Y.eb j) 0, .ptr vl 0] H (bA (decide (x.left < (s.inputs.getD i nilInp).2))) := by
 refine read_enter ttOk Tryz.call72 Tryz.func72 rfl fun hB hb hF => ?_
 rw [Tryz.results72, Tryz.ntmps72]
 simp only [arr_list, List.length_cons, List.length_nil, List.replicate, List.cons_append, List.nil_append, Nat.reduceAdd, Nat.reduceSub]
 obtain ⟨nx, hn⟩ := hk.box hx
 have h1 := hc.box
 have hix : (0 : Int) ≤ (i : Int) := by omega
 have hgd : (s.inputs.map fun x => [PD.v (.string x.1), PD.v (.int .i64 x.2)]).getD i [] = [.v (.string (s.inputs.getD i nilInp).1), .v (.int .i64 (s.inputs.getD i nilInp).2)] := by simp [List.getD, hi]
 repeat refine aw_seq ?_
 refine aw_run ttOk (by kernel_rfl) (by simp only [erun, eall, estep, avs, tts, Nat.reduceAdd, Nat.reduceMul, Nat.reduceSub, Nat.reduceEqDiff, Nat.reduceLT, Nat.reduceLeDiff, Int.reduceToNat, Int.reduceLE, Int.reduceLT, Int.toNat_natCast, reduceCtorEq, iA] <;> first | with_reducible rfl | rfl) ?_
 have l1 := lt_of_get hn
 have l2 := lt_of_get h1
 repeat refine aw_seq ?_
 refine aw_drun 15 ttOk mixed (by kernel_rfl) (by kernel_rfl) (by kernel_rfl) (by simp only [hrun, hstep, avs, tts, Nat.reduceAdd, Nat.reduceMul, Nat.reduceSub, Nat.reduceEqDiff, Nat.reduceLT, Nat.reduceLeDiff, Int.reduceToNat, Int.reduceLE, Int.reduceLT, Int.toNat_natCast, reduceCtorEq, hn, entC, hv, h1, inpsP, hix, hi, hgd, l1, l2] <;> first | with_reducible rfl | rfl) (by simp only [erun, eall, estep, avs, tts, Nat.reduceAdd, Nat.reduceMul, Nat.reduceSub, Nat.reduceEqDiff, Nat.reduceLT, Nat.reduceLeDiff, Int.reduceToNat, Int.reduceLE, Int.reduceLT, Int.toNat_natCast, reduceCtorEq, hn, entC, hv, h1, inpsP, hix, hi, hgd, l1, l2] <;> first | with_reducible rfl | rfl) ?_
 exact aw_ret ⟨_, rfl, [], by simp, rfl⟩
theorem quota_a (hk : Book H Y B) (hc : CandAt H cl Y B s ins od) (hn : ins.length ≤ 1000000) (hi : ins.length ≤ s.inputs.length) : ReadA Tryz.prog base 47 [.ptr cl 0] H (iA (if anyP (pQuota B s) ins then 19 else 0)) := by
 refine read_enter ttOk Tryz.call47 Tryz.func47 rfl fun hB hb hF => ?_
 rw [Tryz.results47, Tryz.ntmps47]
 simp only [arr_list, List.length_cons, List.length_nil, List.replicate, List.cons_append, List.nil_append, Nat.reduceAdd, Nat.reduceSub]
 repeat refine aw_seq ?_
 refine aw_run ttOk (by kernel_rfl) (by simp only [erun, eall, estep, avs, tts, Nat.reduceAdd, Nat.reduceMul, Nat.reduceSub, Nat.reduceEqDiff, Nat.reduceLT, Nat.reduceLeDiff, Int.reduceToNat, Int.reduceLE, Int.reduceLT, Int.toNat_natCast, reduceCtorEq] <;> first | with_reducible rfl | rfl) ?_
 repeat refine aw_seq ?_
 refine aw_region ttOk (by kernel_rfl) ?_
 refine aops_run 2 (by simp only [erun, eall, estep, avs, tts, Nat.reduceAdd, Nat.reduceMul, Nat.reduceSub, Nat.reduceEqDiff, Nat.reduceLT, Nat.reduceLeDiff, Int.reduceToNat, Int.reduceLE, Int.reduceLT, Int.toNat_natCast, reduceCtorEq] <;> first | with_reducible rfl | rfl) ?_
 refine aops_read rfl (by simp only [avs] <;> rfl) (any_a (hc.app _) hn 19 (pQuota B s) 72 [] [.ptr H.length 0] fun i j hj => by obtain ⟨x, hx⟩ := hc.ex hj; rw [show pQuota B s i j = _ from onE_eq hx]; exact quota1_a (hk.app _) (hc.app _) (H_get0 _ _) (by have := (List.getElem?_eq_some_iff.1 hj).1; omega) hx) (by simp only [avs] <;> rfl) ?_
 refine aops_run 1 (by simp only [erun, eall, estep, avs, tts, Nat.reduceAdd, Nat.reduceMul, Nat.reduceSub, Nat.reduceEqDiff, Nat.reduceLT, Nat.reduceLeDiff, Int.reduceToNat, Int.reduceLE, Int.reduceLT, Int.toNat_natCast, reduceCtorEq] <;> first | with_reducible rfl | rfl) ?_
 refine aops_nil ?_
 exact aw_ret ⟨_, rfl, _, rfl, rfl⟩
theorem allowed11_a (hk : Book H Y B) {bx : Nat} {j : Nat} {x : Ent} (hx : B.ents[j]? = some x) (hv : H[bx]? = some (.box 77 [.ptr (Y.eb j) 0])) (u : ByteArray) :
  ReadA Tryz.prog base 75 [.d (.v (.string u)), .ptr bx 0] H (bA (!(x.st.uses.any fun y => decide (u = y)))) := by
 refine read_enter ttOk Tryz.call75 Tryz.func75 rfl fun hB hb hF => ?_
 rw [Tryz.results75, Tryz.ntmps75]
 simp only [arr_list, List.length_cons, List.length_nil, List.replicate, List.cons_append, List.nil_append, Nat.reduceAdd, Nat.reduceSub]
 obtain ⟨nx, hn⟩ := hk.box hx
 repeat refine aw_seq ?_
 refine aw_run ttOk (by kernel_rfl) (by simp only [erun, eall, estep, avs, tts, Nat.reduceAdd, Nat.reduceMul, Nat.reduceSub, Nat.reduceEqDiff, Nat.reduceLT, Nat.reduceLeDiff, Int.reduceToNat, Int.reduceLE, Int.reduceLT, Int.toNat_natCast, reduceCtorEq] <;> first | with_reducible rfl | rfl) ?_
 repeat refine aw_seq ?_
 refine aw_region ttOk (by kernel_rfl) ?_
 refine aops_run 6 (by simp only [erun, eall, estep, avs, tts, Nat.reduceAdd, Nat.reduceMul, Nat.reduceSub, Nat.reduceEqDiff, Nat.reduceLT, Nat.reduceLeDiff, Int.reduceToNat, Int.reduceLE, Int.reduceLT, Int.toNat_natCast, reduceCtorEq, hn, entC, hv] <;> first | with_reducible rfl | rfl) ?_
 refine aops_pure rfl (by simp only [avs] <;> rfl) (contains_a base x.st.uses u) (by simp only [avs] <;> rfl) ?_
 refine aops_run 2 (by simp only [erun, eall, estep, avs, tts, Nat.reduceAdd, Nat.reduceMul, Nat.reduceSub, Nat.reduceEqDiff, Nat.reduceLT, Nat.reduceLeDiff, Int.reduceToNat, Int.reduceLE, Int.reduceLT, Int.toNat_natCast, reduceCtorEq, bA] <;> first | with_reducible rfl | rfl) ?_
 refine aops_nil ?_
 exact aw_ret ⟨_, rfl, [], by simp, rfl⟩
theorem allowed1_a (hk : Book H Y B) (hc : CandAt H cl Y B s ins od) {vl : Nat} (hv : H[vl]? = some (.box 85 [.ptr cl 0])) (i : Int) {j : Nat} {x : Ent} (hx : B.ents[j]? = some x) :
  ReadA Tryz.prog base 73 [iA i, .ptr (Y.eb j) 0, .ptr vl 0] H (bA (s.uses.any fun u => !(x.st.uses.any fun y => decide (u = y)))) := by
 refine read_enter ttOk Tryz.call73 Tryz.func73 rfl fun hB hb hF => ?_
 rw [Tryz.results73, Tryz.ntmps73]
 simp only [arr_list, List.length_cons, List.length_nil, List.replicate, List.cons_append, List.nil_append, Nat.reduceAdd, Nat.reduceSub]
 have h1 := got hc.box
 have hv' := got hv
 repeat refine aw_seq ?_
 refine aw_run ttOk (by kernel_rfl) (by simp only [erun, eall, estep, avs, tts, Nat.reduceAdd, Nat.reduceMul, Nat.reduceSub, Nat.reduceEqDiff, Nat.reduceLT, Nat.reduceLeDiff, Int.reduceToNat, Int.reduceLE, Int.reduceLT, Int.toNat_natCast, reduceCtorEq, iA] <;> first | with_reducible rfl | rfl) ?_
 repeat refine aw_seq ?_
 refine aw_region ttOk (by kernel_rfl) ?_
 refine aops_run 6 (by simp only [erun, eall, estep, avs, tts, Nat.reduceAdd, Nat.reduceMul, Nat.reduceSub, Nat.reduceEqDiff, Nat.reduceLT, Nat.reduceLeDiff, Int.reduceToNat, Int.reduceLE, Int.reduceLT, Int.toNat_natCast, reduceCtorEq, hv', h1] <;> first | with_reducible rfl | rfl) ?_
 refine aops_read rfl (by simp only [avs] <;> rfl) (containsf_a s.uses (fun u => !(x.st.uses.any fun y => decide (u = y))) 75 [] [.ptr H.length 0] fun u _ => allowed11_a (hk.app _) hx (H_get0 _ _) u) (by simp only [avs] <;> rfl) ?_
 refine aops_run 1 (by simp only [erun, eall, estep, avs, tts, Nat.reduceAdd, Nat.reduceMul, Nat.reduceSub, Nat.reduceEqDiff, Nat.reduceLT, Nat.reduceLeDiff, Int.reduceToNat, Int.reduceLE, Int.reduceLT, Int.toNat_natCast, reduceCtorEq] <;> first | with_reducible rfl | rfl) ?_
 refine aops_nil ?_
 exact aw_ret ⟨_, rfl, _, rfl, rfl⟩
theorem allowed_a (hk : Book H Y B) (hc : CandAt H cl Y B s ins od) (hn : ins.length ≤ 1000000) : ReadA Tryz.prog base 48 [.ptr cl 0] H (iA (if anyP (pUses B s) ins then 7 else 0)) := by
 refine read_enter ttOk Tryz.call48 Tryz.func48 rfl fun hB hb hF => ?_
 rw [Tryz.results48, Tryz.ntmps48]
 simp only [arr_list, List.length_cons, List.length_nil, List.replicate, List.cons_append, List.nil_append, Nat.reduceAdd, Nat.reduceSub]
 repeat refine aw_seq ?_
 refine aw_run ttOk (by kernel_rfl) (by simp only [erun, eall, estep, avs, tts, Nat.reduceAdd, Nat.reduceMul, Nat.reduceSub, Nat.reduceEqDiff, Nat.reduceLT, Nat.reduceLeDiff, Int.reduceToNat, Int.reduceLE, Int.reduceLT, Int.toNat_natCast, reduceCtorEq] <;> first | with_reducible rfl | rfl) ?_
 repeat refine aw_seq ?_
 refine aw_region ttOk (by kernel_rfl) ?_
 refine aops_run 2 (by simp only [erun, eall, estep, avs, tts, Nat.reduceAdd, Nat.reduceMul, Nat.reduceSub, Nat.reduceEqDiff, Nat.reduceLT, Nat.reduceLeDiff, Int.reduceToNat, Int.reduceLE, Int.reduceLT, Int.toNat_natCast, reduceCtorEq] <;> first | with_reducible rfl | rfl) ?_
 refine aops_read rfl (by simp only [avs] <;> rfl) (any_a (hc.app _) hn 7 (pUses B s) 73 [] [.ptr H.length 0] fun i j hj => by obtain ⟨x, hx⟩ := hc.ex hj; rw [show pUses B s i j = _ from onE_eq hx]; exact allowed1_a (hk.app _) (hc.app _) (H_get0 _ _) i hx) (by simp only [avs] <;> rfl) ?_
 refine aops_run 1 (by simp only [erun, eall, estep, avs, tts, Nat.reduceAdd, Nat.reduceMul, Nat.reduceSub, Nat.reduceEqDiff, Nat.reduceLT, Nat.reduceLeDiff, Int.reduceToNat, Int.reduceLE, Int.reduceLT, Int.toNat_natCast, reduceCtorEq] <;> first | with_reducible rfl | rfl) ?_
 refine aops_nil ?_
 exact aw_ret ⟨_, rfl, _, rfl, rfl⟩
end
end Av
end Go.Proofs.YtnkepmfgmfeabaaGreatDoor
set_option linter.unusedVariables false
set_option linter.unusedSimpArgs false
namespace Go.Proofs.YtnkepmfgmfeabaaGreatDoor
open Go Go.RowKit
namespace Av
def sumQ (l : List (ByteArray × Int)) : Int := (l.map (·.2)).sum
theorem sumQ_succ {l : List (ByteArray × Int)} {k : Nat} (h : k < l.length) : sumQ (l.take (k + 1)) = sumQ (l.take k) + l[k].2 := by
 unfold sumQ
 rw [List.take_succ_eq_append_getElem h, List.map_append, List.sum_append]
 simp
theorem sumQ_bound {l : List (ByteArray × Int)} (h : ∀ x ∈ l, 0 ≤ x.2 ∧ x.2 ≤ 1000000000) : 0 ≤ sumQ l ∧ sumQ l ≤ 1000000000 * l.length := by
 induction l with
 | nil => exact ⟨Int.le_refl _, Int.le_refl _⟩
 | cons x l ih =>
  have h1 := h x (by simp)
  have h2 := ih fun y hy => h y (by simp [hy])
  unfold sumQ at h2 ⊢
  simp only [List.map_cons, List.sum_cons, List.length_cons]
  omega
def signerR (B : Bk) (ins : List Nat) : ByteArray := match ins with
 | [] => B.issuer
 | j :: _ => match B.ents[j]? with
  | some x => x.st.holder
  | none => B.issuer
section
variable {base : World} {H : AHeap} {cl : Nat} {Y : Lay} {B : Bk} {s : Stm} {ins : List Nat} {od : OR}
theorem sum_a (hc : CandAt H cl Y B s ins od) (hn : s.inputs.length ≤ 1000000) (hq : ∀ x ∈ s.inputs, 0 ≤ x.2 ∧ x.2 ≤ 1000000000) : ReadA Tryz.prog base 46 [.ptr cl 0] H (iA (if decide (0 < s.inputs.length) && !decide (sumQ s.inputs = s.q) then 10 else 0)) := by
 refine read_enter ttOk Tryz.call46 Tryz.func46 rfl fun hB hb hF => ?_
 rw [Tryz.results46, Tryz.ntmps46]
 simp only [arr_list, List.length_cons, List.length_nil, List.replicate, List.cons_append, List.nil_append, Nat.reduceAdd, Nat.reduceSub]
 have h1 := hc.box
 have h1' := got h1
 repeat refine aw_seq ?_
 refine aw_run ttOk (by kernel_rfl) (by simp only [erun, eall, estep, avs, tts, Nat.reduceAdd, Nat.reduceMul, Nat.reduceSub, Nat.reduceEqDiff, Nat.reduceLT, Nat.reduceLeDiff, Int.reduceToNat, Int.reduceLE, Int.reduceLT, Int.toNat_natCast, reduceCtorEq] <;> first | with_reducible rfl | rfl) ?_
 repeat refine aw_seq ?_
 refine aw_run ttOk (by kernel_rfl) (by simp only [erun, eall, estep, avs, tts, Nat.reduceAdd, Nat.reduceMul, Nat.reduceSub, Nat.reduceEqDiff, Nat.reduceLT, Nat.reduceLeDiff, Int.reduceToNat, Int.reduceLE, Int.reduceLT, Int.toNat_natCast, reduceCtorEq] <;> first | with_reducible rfl | rfl) ?_
 repeat refine aw_seq ?_
 refine aw_run ttOk (by kernel_rfl) (by simp only [erun, eall, estep, avs, tts, Nat.reduceAdd, Nat.reduceMul, Nat.reduceSub, Nat.reduceEqDiff, Nat.reduceLT, Nat.reduceLeDiff, Int.reduceToNat, Int.reduceLE, Int.reduceLT, Int.toNat_natCast, reduceCtorEq, h1, inpsP] <;> first | with_reducible rfl | rfl) ?_
 refine aw_block (aw_loop (fun m env H' => ∃ k, m = s.inputs.length - k ∧ k ≤ s.inputs.length ∧ H' = H ∧ env = .ptr cl 0 :: .undef :: .undef :: iA (sumQ (s.inputs.take k)) :: .undef :: .undef :: .undef :: .undef :: .undef :: .undef :: .d (inpsP s.inputs) :: iA s.inputs.length :: iA k :: List.replicate 24 .undef) ?_ ⟨0, rfl, Nat.zero_le _, rfl, rfl⟩ ?_)
 ·simp [Goes, EnvLe, iA, List.replicate, inpsP, sumQ]
 rintro m env H' ⟨k, rfl, hk, rfl, rfl⟩ hN
 simp only [List.replicate, List.cons_append, List.nil_append, iA]
 repeat refine aw_seq ?_
 refine aw_run ttOk (by kernel_rfl) (by simp only [erun, eall, estep, avs, tts, Nat.reduceAdd, Nat.reduceMul, Nat.reduceSub, Nat.reduceEqDiff, Nat.reduceLT, Nat.reduceLeDiff, Int.reduceToNat, Int.reduceLE, Int.reduceLT, Int.toNat_natCast, reduceCtorEq] <;> first | with_reducible rfl | rfl) ?_
 repeat refine aw_seq ?_
 refine aw_cond rfl rfl (fun hb => ?_) fun hb => ?_
 ·have hlt : k < s.inputs.length := by simpa using hb
  have hix : (0 : Int) ≤ (k : Int) := by omega
  have hgd : (s.inputs.map fun x => [PD.v (.string x.1), PD.v (.int .i64 x.2)]).getD k [] = [.v (.string s.inputs[k].1), .v (.int .i64 s.inputs[k].2)] := by simp [hlt]
  have hs1 := sumQ_succ hlt
  have hs2 := sumQ_bound (l := s.inputs.take (k + 1)) fun x hx => hq x (List.mem_of_mem_take hx)
  have hs3 : (s.inputs.take (k + 1)).length ≤ 1000000 := by rw [List.length_take]; omega
  have hw : IntKind.i64.wrap (sumQ (s.inputs.take k) + s.inputs[k].2) = sumQ (s.inputs.take (k + 1)) := by rw [← hs1, IntKind.wrap_i64]; omega
  refine aw_skip ?_
  repeat refine aw_seq ?_
  refine aw_block ?_
  repeat refine aw_seq ?_
  refine aw_run ttOk (by kernel_rfl) (by simp only [erun, eall, estep, avs, tts, Nat.reduceAdd, Nat.reduceMul, Nat.reduceSub, Nat.reduceEqDiff, Nat.reduceLT, Nat.reduceLeDiff, Int.reduceToNat, Int.reduceLE, Int.reduceLT, Int.toNat_natCast, reduceCtorEq, inpsP, hgd, hix, hlt] <;> first | with_reducible rfl | rfl) ?_
  repeat refine aw_seq ?_
  refine aw_run ttOk (by kernel_rfl) (by simp only [erun, eall, estep, avs, tts, Nat.reduceAdd, Nat.reduceMul, Nat.reduceSub, Nat.reduceEqDiff, Nat.reduceLT, Nat.reduceLeDiff, Int.reduceToNat, Int.reduceLE, Int.reduceLT, Int.toNat_natCast, reduceCtorEq, hw] <;> first | with_reducible rfl | rfl) ?_
  repeat refine aw_seq ?_
  refine aw_run ttOk (by kernel_rfl) (by simp only [erun, eall, estep, avs, tts, Nat.reduceAdd, Nat.reduceMul, Nat.reduceSub, Nat.reduceEqDiff, Nat.reduceLT, Nat.reduceLeDiff, Int.reduceToNat, Int.reduceLE, Int.reduceLT, Int.toNat_natCast, reduceCtorEq, wrap_succ hlt (by omega : s.inputs.length ≤ 9223372036854775807)] <;> first | with_reducible rfl | rfl) ?_
  refine ⟨s.inputs.length - (k + 1), _, _, by omega, ⟨?_, .inr ⟨by simp, ?_, hB, ⟨_, rfl⟩⟩⟩, k + 1, rfl, hlt, rfl, rfl⟩
  ·simp [EnvLe, iA, List.replicate, inpsP]
  ·simp [belL, AV.bel, List.replicate, iA, lt_of_get h1]
 ·refine aw_exit ?_
  have hkl : k = s.inputs.length := by simp at hb; omega
  subst hkl
  rw [List.take_length]
  by_cases h0 : 0 < s.inputs.length
  ·have e0 : decide ((0 : Int) < (s.inputs.length : Int)) = true := by simpa using h0
   repeat refine aw_seq ?_
   refine aw_run ttOk (by kernel_rfl) (by simp only [erun, eall, estep, avs, tts, Nat.reduceAdd, Nat.reduceMul, Nat.reduceSub, Nat.reduceEqDiff, Nat.reduceLT, Nat.reduceLeDiff, Int.reduceToNat, Int.reduceLE, Int.reduceLT, Int.toNat_natCast, reduceCtorEq, h1, inpsP, e0] <;> first | with_reducible rfl | rfl) ?_
   repeat refine aw_seq ?_
   refine aw_cond rfl rfl (fun hb => ?_) fun hb => ?_
   ·repeat refine aw_seq ?_
    refine aw_run ttOk (by kernel_rfl) (by simp only [erun, eall, estep, avs, tts, Nat.reduceAdd, Nat.reduceMul, Nat.reduceSub, Nat.reduceEqDiff, Nat.reduceLT, Nat.reduceLeDiff, Int.reduceToNat, Int.reduceLE, Int.reduceLT, Int.toNat_natCast, reduceCtorEq] <;> first | with_reducible rfl | rfl) ?_
    exact aw_ret ⟨_, rfl, [], by simp, by simp only [h0, decide_true, Bool.true_and]; rw [if_pos hb]; rfl⟩
   ·refine aw_skip ?_
    repeat refine aw_seq ?_
    refine aw_run ttOk (by kernel_rfl) (by simp only [erun, eall, estep, avs, tts, Nat.reduceAdd, Nat.reduceMul, Nat.reduceSub, Nat.reduceEqDiff, Nat.reduceLT, Nat.reduceLeDiff, Int.reduceToNat, Int.reduceLE, Int.reduceLT, Int.toNat_natCast, reduceCtorEq] <;> first | with_reducible rfl | rfl) ?_
    exact aw_ret ⟨_, rfl, [], by simp, by simp only [h0, decide_true, Bool.true_and]; rw [hb]; rfl⟩
  ·have e0 : decide ((0 : Int) < (s.inputs.length : Int)) = false := by simpa using h0
   repeat refine aw_seq ?_
   refine aw_run ttOk (by kernel_rfl) (by simp only [erun, eall, estep, avs, tts, Nat.reduceAdd, Nat.reduceMul, Nat.reduceSub, Nat.reduceEqDiff, Nat.reduceLT, Nat.reduceLeDiff, Int.reduceToNat, Int.reduceLE, Int.reduceLT, Int.toNat_natCast, reduceCtorEq, h1, inpsP, e0] <;> first | with_reducible rfl | rfl) ?_
   repeat refine aw_seq ?_
   refine aw_cond rfl rfl (fun hb => ?_) fun hb => ?_
   ·cases hb
   ·refine aw_skip ?_
    repeat refine aw_seq ?_
    refine aw_run ttOk (by kernel_rfl) (by simp only [erun, eall, estep, avs, tts, Nat.reduceAdd, Nat.reduceMul, Nat.reduceSub, Nat.reduceEqDiff, Nat.reduceLT, Nat.reduceLeDiff, Int.reduceToNat, Int.reduceLE, Int.reduceLT, Int.toNat_natCast, reduceCtorEq] <;> first | with_reducible rfl | rfl) ?_
    exact aw_ret ⟨_, rfl, [], by simp, by simp only [h0, decide_false, Bool.false_and]; rfl⟩
theorem signer_a (hk : Book H Y B) (hc : CandAt H cl Y B s ins od) (hn : ins.length ≤ 1000000) : ReadA Tryz.prog base 50 [.ptr cl 0] H (.d (.v (.string (signerR B ins)))) := by
 refine read_enter ttOk Tryz.call50 Tryz.func50 rfl fun hB hb hF => ?_
 rw [Tryz.results50, Tryz.ntmps50]
 simp only [arr_list, List.length_cons, List.length_nil, List.replicate, List.cons_append, List.nil_append, Nat.reduceAdd, Nat.reduceSub]
 have h1 := hc.box
 have h2 := hc.row
 have h3 := hk.book
 repeat refine aw_seq ?_
 refine aw_run ttOk (by kernel_rfl) (by simp only [erun, eall, estep, avs, tts, Nat.reduceAdd, Nat.reduceMul, Nat.reduceSub, Nat.reduceEqDiff, Nat.reduceLT, Nat.reduceLeDiff, Int.reduceToNat, Int.reduceLE, Int.reduceLT, Int.toNat_natCast, reduceCtorEq] <;> first | with_reducible rfl | rfl) ?_
 cases ins with
 | nil =>
  rcases od with _ | ⟨ol, ov⟩
  ·repeat refine aw_seq ?_
   refine aw_run ttOk (by kernel_rfl) (by simp only [erun, eall, estep, avs, tts, Nat.reduceAdd, Nat.reduceMul, Nat.reduceSub, Nat.reduceEqDiff, Nat.reduceLT, Nat.reduceLeDiff, Int.reduceToNat, Int.reduceLE, Int.reduceLT, Int.toNat_natCast, reduceCtorEq, h1, slA, nilS] <;> first | with_reducible rfl | rfl) ?_
   repeat refine aw_seq ?_
   refine aw_cond rfl rfl (fun hb => ?_) fun hb => ?_
   ·repeat refine aw_seq ?_
    refine aw_run ttOk (by kernel_rfl) (by simp only [erun, eall, estep, avs, tts, Nat.reduceAdd, Nat.reduceMul, Nat.reduceSub, Nat.reduceEqDiff, Nat.reduceLT, Nat.reduceLeDiff, Int.reduceToNat, Int.reduceLE, Int.reduceLT, Int.toNat_natCast, reduceCtorEq, h1, h3] <;> first | with_reducible rfl | rfl) ?_
    exact aw_ret ⟨_, rfl, [], by simp, rfl⟩
   ·cases hb
  ·have hrow : H[ol]? = some (.row 77 1 ov []) := h2
   repeat refine aw_seq ?_
   refine aw_run ttOk (by kernel_rfl) (by simp only [erun, eall, estep, avs, tts, Nat.reduceAdd, Nat.reduceMul, Nat.reduceSub, Nat.reduceEqDiff, Nat.reduceLT, Nat.reduceLeDiff, Int.reduceToNat, Int.reduceLE, Int.reduceLT, Int.toNat_natCast, reduceCtorEq, h1, slA, hrow] <;> first | with_reducible rfl | rfl) ?_
   repeat refine aw_seq ?_
   refine aw_cond rfl rfl (fun hb => ?_) fun hb => ?_
   ·repeat refine aw_seq ?_
    refine aw_run ttOk (by kernel_rfl) (by simp only [erun, eall, estep, avs, tts, Nat.reduceAdd, Nat.reduceMul, Nat.reduceSub, Nat.reduceEqDiff, Nat.reduceLT, Nat.reduceLeDiff, Int.reduceToNat, Int.reduceLE, Int.reduceLT, Int.toNat_natCast, reduceCtorEq, h1, h3] <;> first | with_reducible rfl | rfl) ?_
    exact aw_ret ⟨_, rfl, [], by simp, rfl⟩
   ·cases hb
 | cons j t =>
  rcases od with _ | ⟨ol, ov⟩
  ·simp [RowAt] at h2
  ·have hrow : H[ol]? = some (.row 77 1 ov ([.ptr (Y.eb j) 0] :: t.map fun j => [.ptr (Y.eb j) 0])) := h2
   obtain ⟨x, hx⟩ := hc.ex (i := 0) (j := j) rfl
   obtain ⟨nx, hbx⟩ := hk.box hx
   have hs : signerR B (j :: t) = x.st.holder := by
    show (match B.ents[j]? with | some x => x.st.holder | none => B.issuer) = _
    rw [hx]
   have e0 : (((t.length + 1 : Nat) : Int) = 0) = False := by simp; omega
   repeat refine aw_seq ?_
   refine aw_run ttOk (by kernel_rfl) (by simp only [erun, eall, estep, avs, tts, Nat.reduceAdd, Nat.reduceMul, Nat.reduceSub, Nat.reduceEqDiff, Nat.reduceLT, Nat.reduceLeDiff, Int.reduceToNat, Int.reduceLE, Int.reduceLT, Int.toNat_natCast, reduceCtorEq, h1, slA, hrow, e0] <;> first | with_reducible rfl | rfl) ?_
   repeat refine aw_seq ?_
   refine aw_cond rfl rfl (fun hb => ?_) fun hb => ?_
   ·exfalso
    simp at hb
   ·refine aw_skip ?_
    repeat refine aw_seq ?_
    refine aw_run ttOk (by kernel_rfl) (by simp only [erun, eall, estep, avs, tts, Nat.reduceAdd, Nat.reduceMul, Nat.reduceSub, Nat.reduceEqDiff, Nat.reduceLT, Nat.reduceLeDiff, Int.reduceToNat, Int.reduceLE, Int.reduceLT, Int.toNat_natCast, reduceCtorEq, h1, slA, hrow, hbx, entC] <;> first | with_reducible rfl | rfl) ?_
    exact aw_ret ⟨_, rfl, [], by simp, by rw [hs]; rfl⟩
theorem signed1_a (hk : Book H Y B) {g : ByteArray} {vl : Nat} (hv : H[vl]? = some (.box 9 [.d (.v (.string g))])) (i : Int) {j : Nat} {x : Ent} (hx : B.ents[j]? = some x) :
  ReadA Tryz.prog base 77 [iA i, .ptr (Y.eb j) 0, .ptr vl 0] H (bA (!decide (x.st.holder = g))) := by
 refine read_enter ttOk Tryz.call77 Tryz.func77 rfl fun hB hb hF => ?_
 rw [Tryz.results77, Tryz.ntmps77]
 simp only [arr_list, List.length_cons, List.length_nil, List.replicate, List.cons_append, List.nil_append, Nat.reduceAdd, Nat.reduceSub]
 obtain ⟨nx, hn⟩ := hk.box hx
 have l1 := lt_of_get hn
 repeat refine aw_seq ?_
 refine aw_run ttOk (by kernel_rfl) (by simp only [erun, eall, estep, avs, tts, Nat.reduceAdd, Nat.reduceMul, Nat.reduceSub, Nat.reduceEqDiff, Nat.reduceLT, Nat.reduceLeDiff, Int.reduceToNat, Int.reduceLE, Int.reduceLT, Int.toNat_natCast, reduceCtorEq, iA] <;> first | with_reducible rfl | rfl) ?_
 repeat refine aw_seq ?_
 refine aw_drun 8 ttOk mixed (by kernel_rfl) (by kernel_rfl) (by kernel_rfl) (by simp only [hrun, hstep, avs, tts, Nat.reduceAdd, Nat.reduceMul, Nat.reduceSub, Nat.reduceEqDiff, Nat.reduceLT, Nat.reduceLeDiff, Int.reduceToNat, Int.reduceLE, Int.reduceLT, Int.toNat_natCast, reduceCtorEq, hn, entC, hv, l1] <;> first | with_reducible rfl | rfl) (by simp only [erun, eall, estep, avs, tts, Nat.reduceAdd, Nat.reduceMul, Nat.reduceSub, Nat.reduceEqDiff, Nat.reduceLT, Nat.reduceLeDiff, Int.reduceToNat, Int.reduceLE, Int.reduceLT, Int.toNat_natCast, reduceCtorEq, hn, entC, hv, l1] <;> first | with_reducible rfl | rfl) ?_
 exact aw_ret ⟨_, rfl, [], by simp, rfl⟩
def usedB (B : Bk) (g : ByteArray) (n : Int) : Bool := B.ents.any fun x => decide (g = x.sgn) && decide (n = x.st.idx)
theorem Book.usedGet (h : Book H Y B) (g : ByteArray) (n : Int) : Av.mget (usE Y B) (.agg #[.string g, .int .i64 n]) = if usedB B g n then some (bA true) else none := by
 unfold usE usedB
 rw [h.n3, List.take_length]
 generalize B.ents = l
 induction l with
 | nil => rfl
 | cons x l ih =>
  have e : keyEq (.agg #[.string g, .int .i64 n]) (.agg #[.string x.sgn, .int .i64 x.st.idx]) = (decide (g = x.sgn) && decide (n = x.st.idx)) := by
   simp [keyEq, eqL, eqV]
  unfold Av.mget at ih ⊢
  simp only [List.map_cons, List.find?_cons, List.any_cons, e]
  by_cases hh : (decide (g = x.sgn) && decide (n = x.st.idx)) = true
  ·simp only [hh, Bool.true_or]; rfl
  ·simp only [Bool.not_eq_true] at hh
   simp only [hh, Bool.false_or]; exact ih
def signedR (B : Bk) (s : Stm) (ins : List Nat) : Int := if anyP (pSgn B (signerR B ins)) ins then 16 else if !verT (signerR B ins) (messT s) s.idx s.sig s.path || usedB B (signerR B ins) s.idx then 16 else 0
theorem ksh_si (a : ByteArray) (n : Int) : keyShape (.flat [.str, .int .i64]) (.agg #[.string a, .int .i64 n]) = true := rfl
theorem messT_size (s : Stm) : (messT s).size = 16 := sumS_size _
attribute [local irreducible] messT verT
/-- what a statement must keep to, to be walked -/
structure Fits (s : Stm) : Prop where
 q : 0 ≤ s.q
 qi : ∀ y ∈ s.inputs, 0 ≤ y.2 ∧ y.2 ≤ 1000000000
 lu : s.uses.length ≤ 1000000
 li : s.inputs.length ≤ 1000000
 J : (joinB (fieldsT s)).length ≤ 140737488355328
 ss : ∀ t ∈ s.sig, t.size ≤ 1099511627776
 ps : ∀ t ∈ s.path, t.size ≤ 1099511627776
set_option maxHeartbeats 4000000 in
theorem signed_a (hT : Tabs base) (hk : Book H Y B) (hc : CandAt H cl Y B s ins od) (hf : Fits s) (hn : ins.length ≤ 1000000) (hg : (signerR B ins).size ≤ 1099511627776) : ReadA Tryz.prog base 49 [.ptr cl 0] H (iA (signedR B s ins)) := by
 refine read_enter ttOk Tryz.call49 Tryz.func49 rfl fun hB hb hF => ?_
 rw [Tryz.results49, Tryz.ntmps49]
 simp only [arr_list, List.length_cons, List.length_nil, List.replicate, List.cons_append, List.nil_append, Nat.reduceAdd, Nat.reduceSub]
 have h1 := got hc.box
 have h2 := got hk.book
 have h3 := got hk.used
 have h4 := hk.usedGet (signerR B ins) s.idx
 have hm : (messT s).size ≤ 1099511627776 := by
  have := messT_size s
  omega
 repeat refine aw_seq ?_
 refine aw_run ttOk (by kernel_rfl) (by simp only [erun, eall, estep, avs, tts, Nat.reduceAdd, Nat.reduceMul, Nat.reduceSub, Nat.reduceEqDiff, Nat.reduceLT, Nat.reduceLeDiff, Int.reduceToNat, Int.reduceLE, Int.reduceLT, Int.toNat_natCast, reduceCtorEq] <;> first | with_reducible rfl | rfl) ?_
 repeat refine aw_seq ?_
 refine aw_region ttOk (by kernel_rfl) ?_
 refine aops_run 1 (by simp only [erun, eall, estep, avs, tts, Nat.reduceAdd, Nat.reduceMul, Nat.reduceSub, Nat.reduceEqDiff, Nat.reduceLT, Nat.reduceLeDiff, Int.reduceToNat, Int.reduceLE, Int.reduceLT, Int.toNat_natCast, reduceCtorEq] <;> first | with_reducible rfl | rfl) ?_
 refine aops_read rfl (by simp only [avs] <;> rfl) (signer_a hk hc hn) (by simp only [avs] <;> rfl) ?_
 refine aops_run 2 (by simp only [erun, eall, estep, avs, tts, Nat.reduceAdd, Nat.reduceMul, Nat.reduceSub, Nat.reduceEqDiff, Nat.reduceLT, Nat.reduceLeDiff, Int.reduceToNat, Int.reduceLE, Int.reduceLT, Int.toNat_natCast, reduceCtorEq] <;> first | with_reducible rfl | rfl) ?_
 refine aops_nil ?_
 repeat refine aw_seq ?_
 refine aw_region ttOk (by kernel_rfl) ?_
 refine aops_run 2 (by simp only [erun, eall, estep, avs, tts, Nat.reduceAdd, Nat.reduceMul, Nat.reduceSub, Nat.reduceEqDiff, Nat.reduceLT, Nat.reduceLeDiff, Int.reduceToNat, Int.reduceLE, Int.reduceLT, Int.toNat_natCast, reduceCtorEq] <;> first | with_reducible rfl | rfl) ?_
 refine aops_read rfl (by simp only [avs] <;> rfl) (any_a (hc.app _) hn 16 (pSgn B (signerR B ins)) 77 [] [.ptr H.length 0] fun i j hj => by obtain ⟨x, hx⟩ := hc.ex hj; rw [show pSgn B (signerR B ins) i j = _ from onE_eq hx]; exact signed1_a (hk.app _) (H_get0 _ _) i hx) (by simp only [avs] <;> rfl) ?_
 refine aops_run 1 (by simp only [erun, eall, estep, avs, tts, Nat.reduceAdd, Nat.reduceMul, Nat.reduceSub, Nat.reduceEqDiff, Nat.reduceLT, Nat.reduceLeDiff, Int.reduceToNat, Int.reduceLE, Int.reduceLT, Int.toNat_natCast, reduceCtorEq] <;> first | with_reducible rfl | rfl) ?_
 refine aops_nil ?_
 unfold signedR
 cases hp : anyP (pSgn B (signerR B ins)) ins with
 | true =>
  repeat refine aw_seq ?_
  refine aw_run ttOk (by kernel_rfl) (by simp only [erun, eall, estep, avs, tts, Nat.reduceAdd, Nat.reduceMul, Nat.reduceSub, Nat.reduceEqDiff, Nat.reduceLT, Nat.reduceLeDiff, Int.reduceToNat, Int.reduceLE, Int.reduceLT, Int.toNat_natCast, reduceCtorEq, iA] <;> first | with_reducible rfl | rfl) ?_
  repeat refine aw_seq ?_
  refine aw_cond rfl rfl (fun hb => ?_) fun hb => ?_
  ·repeat refine aw_seq ?_
   refine aw_run ttOk (by kernel_rfl) (by simp only [erun, eall, estep, avs, tts, Nat.reduceAdd, Nat.reduceMul, Nat.reduceSub, Nat.reduceEqDiff, Nat.reduceLT, Nat.reduceLeDiff, Int.reduceToNat, Int.reduceLE, Int.reduceLT, Int.toNat_natCast, reduceCtorEq] <;> first | with_reducible rfl | rfl) ?_
   exact aw_ret ⟨_, rfl, _, rfl, rfl⟩
  ·cases hb
 | false =>
  repeat refine aw_seq ?_
  refine aw_run ttOk (by kernel_rfl) (by simp only [erun, eall, estep, avs, tts, Nat.reduceAdd, Nat.reduceMul, Nat.reduceSub, Nat.reduceEqDiff, Nat.reduceLT, Nat.reduceLeDiff, Int.reduceToNat, Int.reduceLE, Int.reduceLT, Int.toNat_natCast, reduceCtorEq, iA] <;> first | with_reducible rfl | rfl) ?_
  repeat refine aw_seq ?_
  refine aw_cond rfl rfl (fun hb => ?_) fun hb => ?_
  ·cases hb
  refine aw_skip ?_
  have l1 := lt_of_get hc.box
  have l1' : cl < H.length + 1 := by omega
  have l2 := lt_of_get hk.book
  have l2' : Y.bl < H.length + 1 := by omega
  have l3 : Y.ul < H.length + 1 := by have := lt_of_get hk.used; omega
  cases hv : verT (signerR B ins) (messT s) s.idx s.sig s.path with
  | false =>
   repeat refine aw_seq ?_
   refine aw_draw 31 ttOk mixed (by kernel_rfl) (by kernel_rfl) (by kernel_rfl) ?_
   refine ahops_runT 5 (by simp only [hrun, hstep, avs, tts, Nat.reduceAdd, Nat.reduceMul, Nat.reduceSub, Nat.reduceEqDiff, Nat.reduceLT, Nat.reduceLeDiff, Int.reduceToNat, Int.reduceLE, Int.reduceLT, Int.toNat_natCast, reduceCtorEq, h1, l1, l1'] <;> first | with_reducible rfl | rfl) ?_
   refine ahops_pure rfl (by simp only [avs] <;> rfl) (message_a hT s hf.q (fun y hy => (hf.qi y hy).1) hf.lu hf.li hf.J) trivial (by simp only [avs] <;> rfl) ?_
   refine ahops_runT 5 (by simp only [hrun, hstep, avs, tts, Nat.reduceAdd, Nat.reduceMul, Nat.reduceSub, Nat.reduceEqDiff, Nat.reduceLT, Nat.reduceLeDiff, Int.reduceToNat, Int.reduceLE, Int.reduceLT, Int.toNat_natCast, reduceCtorEq, h1, l1, l1'] <;> first | with_reducible rfl | rfl) ?_
   refine ahops_pure rfl (by simp only [avs] <;> rfl) (verify_a hT (signerR B ins) (messT s) s.idx s.sig s.path hg hm hf.ss hf.ps) trivial (by simp only [avs] <;> rfl) ?_
   refine ahops_runT 19 (by simp only [hrun, hstep, avs, tts, Nat.reduceAdd, Nat.reduceMul, Nat.reduceSub, Nat.reduceEqDiff, Nat.reduceLT, Nat.reduceLeDiff, Int.reduceToNat, Int.reduceLE, Int.reduceLT, Int.toNat_natCast, reduceCtorEq, h1, h2, h3, h4, l1, l1', l2, l2', hv, Bool.not_false, Bool.not_true, ksh_si, l3] <;> first | with_reducible rfl | rfl) ?_
   refine ahops_nil ?_
   refine aops_run 0 (by simp only [erun, eall, estep, avs, tts, Nat.reduceAdd, Nat.reduceMul, Nat.reduceSub, Nat.reduceEqDiff, Nat.reduceLT, Nat.reduceLeDiff, Int.reduceToNat, Int.reduceLE, Int.reduceLT, Int.toNat_natCast, reduceCtorEq] <;> first | with_reducible rfl | rfl) ?_
   refine aops_nil ?_
   repeat refine aw_seq ?_
   refine aw_cond rfl rfl (fun hb => ?_) fun hb => ?_
   ·repeat refine aw_seq ?_
    refine aw_run ttOk (by kernel_rfl) (by simp only [erun, eall, estep, avs, tts, Nat.reduceAdd, Nat.reduceMul, Nat.reduceSub, Nat.reduceEqDiff, Nat.reduceLT, Nat.reduceLeDiff, Int.reduceToNat, Int.reduceLE, Int.reduceLT, Int.toNat_natCast, reduceCtorEq] <;> first | with_reducible rfl | rfl) ?_
    exact aw_ret ⟨_, rfl, _, rfl, rfl⟩
   ·cases hb
  | true =>
   cases hu : usedB B (signerR B ins) s.idx
   all_goals rw [hu] at h4
   all_goals simp only [if_true, if_false, Bool.false_eq_true, bA] at h4
   ·repeat refine aw_seq ?_
    refine aw_draw 31 ttOk mixed (by kernel_rfl) (by kernel_rfl) (by kernel_rfl) ?_
    refine ahops_runT 5 (by simp only [hrun, hstep, avs, tts, Nat.reduceAdd, Nat.reduceMul, Nat.reduceSub, Nat.reduceEqDiff, Nat.reduceLT, Nat.reduceLeDiff, Int.reduceToNat, Int.reduceLE, Int.reduceLT, Int.toNat_natCast, reduceCtorEq, h1, l1, l1'] <;> first | with_reducible rfl | rfl) ?_
    refine ahops_pure rfl (by simp only [avs] <;> rfl) (message_a hT s hf.q (fun y hy => (hf.qi y hy).1) hf.lu hf.li hf.J) trivial (by simp only [avs] <;> rfl) ?_
    refine ahops_runT 5 (by simp only [hrun, hstep, avs, tts, Nat.reduceAdd, Nat.reduceMul, Nat.reduceSub, Nat.reduceEqDiff, Nat.reduceLT, Nat.reduceLeDiff, Int.reduceToNat, Int.reduceLE, Int.reduceLT, Int.toNat_natCast, reduceCtorEq, h1, l1, l1'] <;> first | with_reducible rfl | rfl) ?_
    refine ahops_pure rfl (by simp only [avs] <;> rfl) (verify_a hT (signerR B ins) (messT s) s.idx s.sig s.path hg hm hf.ss hf.ps) trivial (by simp only [avs] <;> rfl) ?_
    refine ahops_runT 19 (by simp only [hrun, hstep, avs, tts, Nat.reduceAdd, Nat.reduceMul, Nat.reduceSub, Nat.reduceEqDiff, Nat.reduceLT, Nat.reduceLeDiff, Int.reduceToNat, Int.reduceLE, Int.reduceLT, Int.toNat_natCast, reduceCtorEq, h1, h2, h3, h4, l1, l1', l2, l2', hv, Bool.not_false, Bool.not_true, ksh_si, l3] <;> first | with_reducible rfl | rfl) ?_
    refine ahops_nil ?_
    refine aops_run 0 (by simp only [erun, eall, estep, avs, tts, Nat.reduceAdd, Nat.reduceMul, Nat.reduceSub, Nat.reduceEqDiff, Nat.reduceLT, Nat.reduceLeDiff, Int.reduceToNat, Int.reduceLE, Int.reduceLT, Int.toNat_natCast, reduceCtorEq] <;> first | with_reducible rfl | rfl) ?_
    refine aops_nil ?_
    repeat refine aw_seq ?_
    refine aw_cond rfl rfl (fun hb => ?_) fun hb => ?_
    ·cases hb
    refine aw_skip ?_
    repeat refine aw_seq ?_
    refine aw_run ttOk (by kernel_rfl) (by simp only [erun, eall, estep, avs, tts, Nat.reduceAdd, Nat.reduceMul, Nat.reduceSub, Nat.reduceEqDiff, Nat.reduceLT, Nat.reduceLeDiff, Int.reduceToNat, Int.reduceLE, Int.reduceLT, Int.toNat_natCast, reduceCtorEq] <;> first | with_reducible rfl | rfl) ?_
    exact aw_ret ⟨_, rfl, _, rfl, rfl⟩
   ·repeat refine aw_seq ?_
    refine aw_draw 31 ttOk mixed (by kernel_rfl) (by kernel_rfl) (by kernel_rfl) ?_
    refine ahops_runT 5 (by simp only [hrun, hstep, avs, tts, Nat.reduceAdd, Nat.reduceMul, Nat.reduceSub, Nat.reduceEqDiff, Nat.reduceLT, Nat.reduceLeDiff, Int.reduceToNat, Int.reduceLE, Int.reduceLT, Int.toNat_natCast, reduceCtorEq, h1, l1, l1'] <;> first | with_reducible rfl | rfl) ?_
    refine ahops_pure rfl (by simp only [avs] <;> rfl) (message_a hT s hf.q (fun y hy => (hf.qi y hy).1) hf.lu hf.li hf.J) trivial (by simp only [avs] <;> rfl) ?_
    refine ahops_runT 5 (by simp only [hrun, hstep, avs, tts, Nat.reduceAdd, Nat.reduceMul, Nat.reduceSub, Nat.reduceEqDiff, Nat.reduceLT, Nat.reduceLeDiff, Int.reduceToNat, Int.reduceLE, Int.reduceLT, Int.toNat_natCast, reduceCtorEq, h1, l1, l1'] <;> first | with_reducible rfl | rfl) ?_
    refine ahops_pure rfl (by simp only [avs] <;> rfl) (verify_a hT (signerR B ins) (messT s) s.idx s.sig s.path hg hm hf.ss hf.ps) trivial (by simp only [avs] <;> rfl) ?_
    refine ahops_runT 19 (by simp only [hrun, hstep, avs, tts, Nat.reduceAdd, Nat.reduceMul, Nat.reduceSub, Nat.reduceEqDiff, Nat.reduceLT, Nat.reduceLeDiff, Int.reduceToNat, Int.reduceLE, Int.reduceLT, Int.toNat_natCast, reduceCtorEq, h1, h2, h3, h4, l1, l1', l2, l2', hv, Bool.not_false, Bool.not_true, ksh_si, l3] <;> first | with_reducible rfl | rfl) ?_
    refine ahops_nil ?_
    refine aops_run 0 (by simp only [erun, eall, estep, avs, tts, Nat.reduceAdd, Nat.reduceMul, Nat.reduceSub, Nat.reduceEqDiff, Nat.reduceLT, Nat.reduceLeDiff, Int.reduceToNat, Int.reduceLE, Int.reduceLT, Int.toNat_natCast, reduceCtorEq] <;> first | with_reducible rfl | rfl) ?_
    refine aops_nil ?_
    repeat refine aw_seq ?_
    refine aw_cond rfl rfl (fun hb => ?_) fun hb => ?_
    ·repeat refine aw_seq ?_
     refine aw_run ttOk (by kernel_rfl) (by simp only [erun, eall, estep, avs, tts, Nat.reduceAdd, Nat.reduceMul, Nat.reduceSub, Nat.reduceEqDiff, Nat.reduceLT, Nat.reduceLeDiff, Int.reduceToNat, Int.reduceLE, Int.reduceLT, Int.toNat_natCast, reduceCtorEq] <;> first | with_reducible rfl | rfl) ?_
     exact aw_ret ⟨_, rfl, _, rfl, rfl⟩
    ·cases hb
end
end Av
end Go.Proofs.YtnkepmfgmfeabaaGreatDoor
set_option linter.unusedVariables false
set_option linter.unusedSimpArgs false
namespace Go.Proofs.YtnkepmfgmfeabaaGreatDoor
open Go Go.RowKit
namespace Av
def newY (n : Nat) : Lay := ⟨n + 2, n, n + 1, none, [], 0, 0, 0⟩
theorem book_new (H : AHeap) (issuer : ByteArray) : Book (H ++ [.mp 9 77 (.one .str) [], .mp 92 4 (.flat [.str, .int .i64]) [], .box 76 [.d (.v (.string issuer)), nilS, .mp H.length, .mp (H.length + 1)]]) (newY H.length) ⟨issuer, []⟩ where
 len := rfl
 book := H_get H _ 2
 ord := rfl
 byId := H_get0 H _
 used := H_get H _ 1
 ent := fun i e x he => by simp [newY] at he
 dbox := fun i j e f he => by simp [newY] at he
 drow := fun i j e f he => by simp [newY] at he
 dord := fun i e he => by simp [newY] at he
 n1 := rfl
 n2 := rfl
 n3 := rfl
theorem new_a {base : World} {H : AHeap} (issuer : ByteArray) (hi : issuer.size ≤ 4611686018427387904) : CallsA Tryz.prog base 14 [.d (.v (.string issuer))] H fun r H' =>
  (isS issuer = true ∧ r = .tup [.ptr (newY H.length).bl 0, iA 0] ∧ (∃ G, H' = H ++ G) ∧ Book H' (newY H.length) ⟨issuer, []⟩) ∨ (isS issuer = false ∧ r = .tup [nilP, iA 1] ∧ H' = H) := by
 refine callsA_enter ttOk Tryz.call14 Tryz.func14 rfl fun hB hb hF => ?_
 rw [Tryz.results14, Tryz.ntmps14]
 simp only [arr_list, List.length_cons, List.length_nil, List.replicate, List.cons_append, List.nil_append, Nat.reduceAdd, Nat.reduceSub]
 repeat refine aw_seq ?_
 refine aw_run ttOk (by kernel_rfl) (by simp only [erun, eall, estep, avs, tts, Nat.reduceAdd, Nat.reduceMul, Nat.reduceSub, Nat.reduceEqDiff, Nat.reduceLT, Nat.reduceLeDiff, Int.reduceToNat, Int.reduceLE, Int.reduceLT, Int.toNat_natCast, reduceCtorEq] <;> first | with_reducible rfl | rfl) ?_
 repeat refine aw_seq ?_
 refine aw_region ttOk (by kernel_rfl) ?_
 refine aops_run 1 (by simp only [erun, eall, estep, avs, tts, Nat.reduceAdd, Nat.reduceMul, Nat.reduceSub, Nat.reduceEqDiff, Nat.reduceLT, Nat.reduceLeDiff, Int.reduceToNat, Int.reduceLE, Int.reduceLT, Int.toNat_natCast, reduceCtorEq] <;> first | with_reducible rfl | rfl) ?_
 refine aops_pure rfl (by simp only [avs] <;> rfl) (is_a base issuer hi) (by simp only [avs] <;> rfl) ?_
 refine aops_run 1 (by simp only [erun, eall, estep, avs, tts, Nat.reduceAdd, Nat.reduceMul, Nat.reduceSub, Nat.reduceEqDiff, Nat.reduceLT, Nat.reduceLeDiff, Int.reduceToNat, Int.reduceLE, Int.reduceLT, Int.toNat_natCast, reduceCtorEq] <;> first | with_reducible rfl | rfl) ?_
 refine aops_nil ?_
 repeat refine aw_seq ?_
 refine aw_cond rfl rfl (fun hb => ?_) fun hb => ?_
 ·repeat refine aw_seq ?_
  refine aw_run ttOk (by kernel_rfl) (by simp only [erun, eall, estep, avs, tts, Nat.reduceAdd, Nat.reduceMul, Nat.reduceSub, Nat.reduceEqDiff, Nat.reduceLT, Nat.reduceLeDiff, Int.reduceToNat, Int.reduceLE, Int.reduceLT, Int.toNat_natCast, reduceCtorEq] <;> first | with_reducible rfl | rfl) ?_
  exact aw_ret ⟨_, rfl, .inr ⟨by simpa using hb, rfl, rfl⟩⟩
 ·refine aw_skip ?_
  repeat refine aw_seq ?_
  refine aw_run ttOk (by kernel_rfl) (by simp only [erun, eall, estep, avs, tts, Nat.reduceAdd, Nat.reduceMul, Nat.reduceSub, Nat.reduceEqDiff, Nat.reduceLT, Nat.reduceLeDiff, Int.reduceToNat, Int.reduceLE, Int.reduceLT, Int.toNat_natCast, reduceCtorEq] <;> first | with_reducible rfl | rfl) ?_
  refine aw_ret ⟨_, rfl, .inl ⟨by simpa using hb, rfl, ⟨_, rfl⟩, book_new H issuer⟩⟩
end Av
end Go.Proofs.YtnkepmfgmfeabaaGreatDoor
set_option linter.unusedVariables false
set_option linter.unusedSimpArgs false
namespace Go.Proofs.YtnkepmfgmfeabaaGreatDoor
open Go Go.RowKit
namespace Av

/-! How the book's changes show in what is said of its heap. -/
def Lay.put (Y : Lay) (i : Nat) (e : ELay) : Lay := { Y with L := Y.L.set i e }
theorem eb_put {Y : Lay} {i : Nat} {e f : ELay} (he : Y.L[i]? = some e) (hb : f.b = e.b) (j : Nat) : (Y.put i f).eb j = Y.eb j := by
 unfold Lay.eb Lay.put
 simp only
 by_cases h : i = j
 ·subst h
  have hi := (List.getElem?_eq_some_iff.1 he).1
  rw [List.getElem?_set_self hi, he]
  simp [hb]
 ·rw [List.getElem?_set_ne h]
theorem set_get {α : Type} {l : List α} {i j : Nat} {a x : α} (h : (l.set i a)[j]? = some x) : (i = j ∧ x = a) ∨ (i ≠ j ∧ l[j]? = some x) := by
 by_cases e : i = j
 ·subst e
  have hi : i < l.length := by have := (List.getElem?_eq_some_iff.1 h).1; simpa using this
  rw [List.getElem?_set_self hi] at h
  cases h
  exact .inl ⟨rfl, rfl⟩
 ·rw [List.getElem?_set_ne e] at h
  exact .inr ⟨e, h⟩
theorem zip_set {α β γ : Type} {f : α × β → γ} {l : List α} {m : List β} {i : Nat} {a a' : α} {b b' : β} (ha : l[i]? = some a) (hb : m[i]? = some b) (h : f (a', b') = f (a, b)) : ((l.set i a').zip (m.set i b')).map f = (l.zip m).map f := by
 induction l generalizing m i with
 | nil => simp at ha
 | cons x l ih =>
  cases m with
  | nil => simp at hb
  | cons y m =>
   cases i with
   | zero =>
    simp only [List.getElem?_cons_zero, Option.some.injEq] at ha hb
    subst ha hb
    simp [h]
   | succ i =>
    simp only [List.getElem?_cons_succ] at ha hb
    simp [ih ha hb]
theorem map_set {α γ : Type} {f : α → γ} {l : List α} {i : Nat} {a a' : α} (ha : l[i]? = some a) (h : f a' = f a) : (l.set i a').map f = l.map f := by
 induction l generalizing i with
 | nil => simp at ha
 | cons x l ih =>
  cases i with
  | zero =>
   simp only [List.getElem?_cons_zero, Option.some.injEq] at ha
   subst ha
   simp [h]
  | succ i =>
   simp only [List.getElem?_cons_succ] at ha
   simp [ih ha]
theorem BookAt.upd {H H2 : AHeap} {Y : Lay} {B : Bk} (h : BookAt H Y B) {i : Nat} {e : ELay} {x x' : Ent} {row' : OR} (he : Y.L[i]? = some e) (hx : B.ents[i]? = some x) (hst : x'.st = x.st) (hsg : x'.sgn = x.sgn)
  (hsame : ∀ l o, H[l]? = some o → l ≠ e.b → (∀ a, e.row = some a → l ≠ a.1) → H2[l]? = some o)
  (hbox : H2[e.b]? = some (.box 79 (entC x' (slA row' x'.next.length)))) (hrow : RowAt H2 row' (x'.next.map fun j => [.ptr (Y.eb j) 0])) (hlt : ∀ j ∈ x'.next, i < j ∧ j < Y.L.length)
  (hnew : row' = e.row ∨ ∃ a, row' = some a ∧ H.length ≤ a.1) : BookAt H2 (Y.put i ⟨e.b, row'⟩) { B with ents := B.ents.set i x' } := by
 have hE := h.ent i e x he hx
 have eb := eb_put (f := ⟨e.b, row'⟩) he rfl
 -- what stays
 have keep : ∀ (l : Nat) (o : AObj), H[l]? = some o → (∀ cs, o ≠ .box 79 cs) → (∀ v its, o ≠ .row 77 1 v its) → H2[l]? = some o := fun l o ho h1 h2 => by
  refine hsame l o ho (fun e1 => ?_) fun a ha e1 => ?_
  ·subst e1; rw [hE.1] at ho; cases ho; exact h1 _ rfl
  ·subst e1
   have := hE.2.1
   rw [ha] at this
   rw [show H[a.1]? = _ from this] at ho; cases ho; exact h2 _ _ rfl
 have keepRow : ∀ (o : OR) items, RowAt H o items → (∀ c, o = some c → ∀ a, e.row = some a → c.1 ≠ a.1) → RowAt H2 o items := fun o items hr hne => by
  cases o with
  | none => exact hr
  | some c =>
   refine hsame c.1 _ hr (fun e1 => ?_) fun a ha => hne c rfl a ha
   have := hE.1
   rw [← e1, show H[c.1]? = _ from hr] at this
   cases this
 have rowLt : ∀ (o : OR) items c, RowAt H o items → o = some c → c.1 < H.length := fun o items c hr hc => by
  subst hc; exact lt_of_get (show H[c.1]? = _ from hr)
 refine ⟨by simp [Lay.put, h.len], keep _ _ h.book (fun _ => by simp) (fun _ _ => by simp), ?_, ?_, ?_, ?_, ?_, ?_, ?_⟩
 ·have := keepRow Y.od _ h.ord fun c hc a ha => (h.dord i e he a c ha hc).symm
  have e2 : ((Y.L.set i ⟨e.b, row'⟩).take Y.n1).map (fun e => [AV.ptr e.b 0]) = (Y.L.take Y.n1).map fun e => [AV.ptr e.b 0] := by
   rw [List.map_take, List.map_take, map_set (f := fun e : ELay => [AV.ptr e.b 0]) (a' := ⟨e.b, row'⟩) he rfl]
  show RowAt H2 Y.od (((Y.L.set i ⟨e.b, row'⟩).take Y.n1).map fun e => [AV.ptr e.b 0])
  rw [e2]; exact this
 ·have e2 : idE (Y.put i ⟨e.b, row'⟩) { B with ents := B.ents.set i x' } = idE Y B := by
   unfold idE Lay.put
   simp only
   rw [List.map_take, List.map_take, zip_set he hx (by simp [hst])]
  rw [e2]
  exact keep _ _ h.byId (fun _ => by simp) (fun _ _ => by simp)
 ·have e2 : usE (Y.put i ⟨e.b, row'⟩) { B with ents := B.ents.set i x' } = usE Y B := by
   unfold usE Lay.put
   simp only
   rw [List.map_take, List.map_take, map_set hx (by simp [hst, hsg])]
  rw [e2]
  exact keep _ _ h.used (fun _ => by simp) (fun _ _ => by simp)
 ·intro j f y hf hy
  simp only [eb]
  have hlen : (Y.put i ⟨e.b, row'⟩).L.length = Y.L.length := by simp [Lay.put]
  rw [hlen]
  rcases set_get hf with ⟨rfl, rfl⟩ | ⟨hne, hf⟩
  ·rcases set_get hy with ⟨_, rfl⟩ | ⟨hne, _⟩
   ·exact ⟨hbox, hrow, hlt⟩
   ·exact absurd rfl hne
  ·rcases set_get hy with ⟨h1, _⟩ | ⟨_, hy⟩
   ·exact absurd h1 hne
   have hJ := h.ent j f y hf hy
   refine ⟨hsame _ _ hJ.1 (fun e1 => hne (h.dbox i j e f he hf e1.symm)) fun a ha e1 => ?_, keepRow _ _ hJ.2.1 fun c hc a ha e1 => hne (h.drow i j e f he hf a c ha hc e1.symm), hJ.2.2⟩
   have h5 := hE.2.1
   rw [ha] at h5
   rw [e1, show H[a.1]? = _ from h5] at hJ
   cases hJ.1
 ·intro a b f g hf hg hfg
  rcases set_get hf with ⟨rfl, rfl⟩ | ⟨h1, hf⟩
  ·rcases set_get hg with ⟨rfl, rfl⟩ | ⟨h2, hg⟩
   ·rfl
   ·exact h.dbox _ _ e g he hg hfg
  ·rcases set_get hg with ⟨rfl, rfl⟩ | ⟨h2, hg⟩
   ·exact h.dbox _ _ f e hf he hfg
   ·exact h.dbox _ _ f g hf hg hfg
 ·intro a b f g hf hg p q hp hq hpq
  have far : ∀ c g' q', Y.L[c]? = some g' → g'.row = some q' → ∀ p', row' = some p' → p'.1 = q'.1 → i = c := fun c g' q' hg' hq' p' hp' hpq' => by
   have hl : q'.1 < H.length := by
    obtain ⟨y, hy⟩ : ∃ y, B.ents[c]? = some y := ⟨_, List.getElem?_eq_getElem (by rw [← h.len]; exact (List.getElem?_eq_some_iff.1 hg').1)⟩
    exact rowLt _ _ _ (h.ent c g' y hg' hy).2.1 hq'
   rcases hnew with hn | ⟨a', ha', hl'⟩
   ·exact h.drow _ _ e g' he hg' p' q' (by rw [← hn]; exact hp') hq' hpq'
   ·rw [hp'] at ha'; cases ha'; omega
  rcases set_get hf with ⟨rfl, rfl⟩ | ⟨h1, hf⟩
  ·rcases set_get hg with ⟨rfl, rfl⟩ | ⟨h2, hg⟩
   ·rfl
   ·exact far b g q hg hq p hp hpq
  ·rcases set_get hg with ⟨rfl, rfl⟩ | ⟨h2, hg⟩
   ·exact (far a f p hf hp q hq hpq.symm).symm
   ·exact h.drow _ _ f g hf hg p q hp hq hpq
 ·intro a f hf p q hp hq hpq
  rcases set_get hf with ⟨rfl, rfl⟩ | ⟨h1, hf⟩
  ·rcases hnew with hn | ⟨a', ha', hl'⟩
   ·exact h.dord _ e he p q (by rw [← hn]; exact hp) hq hpq
   ·have hq' : Y.od = some q := hq
    have := rowLt _ _ _ h.ord hq'
    rw [show row' = some p from hp] at ha'
    cases ha'
    omega
  ·exact h.dord _ f hf p q hp hq hpq
theorem snoc_get {α : Type} {l : List α} {j : Nat} {a x : α} (h : (l ++ [a])[j]? = some x) : l[j]? = some x ∨ (j = l.length ∧ x = a) := by
 rcases Nat.lt_trichotomy j l.length with h1 | h1 | h1
 ·rw [List.getElem?_append_left h1] at h; exact .inl h
 ·subst h1; simp at h; exact .inr ⟨rfl, h.symm⟩
 ·rw [List.getElem?_eq_none (by simp; omega)] at h; cases h
theorem eb_snoc {Y : Lay} {e : ELay} {j : Nat} (h : j < Y.L.length) : ({ Y with L := Y.L ++ [e] } : Lay).eb j = Y.eb j := by
 unfold Lay.eb
 simp only
 rw [List.getElem?_append_left h]
theorem RowAt.on {H H2 : AHeap} {o : OR} {items : List (List AV)} (h : RowAt H o items) (hs : ∀ a, o = some a → ∀ x, H[a.1]? = some x → H2[a.1]? = some x) : RowAt H2 o items := by
 cases o with
 | none => exact h
 | some c => exact hs c rfl _ h
theorem BookAt.addE {H H2 : AHeap} {Y : Lay} {B : Bk} (h : BookAt H Y B) {p : Nat} {x : Ent} (hx : x.next = []) (hp : H.length ≤ p) (hsame : ∀ (l : Nat) (o : AObj), H[l]? = some o → H2[l]? = some o) (hbox : H2[p]? = some (.box 79 (entC x nilS)))
  (h1 : Y.n1 ≤ Y.L.length) (h2 : Y.n2 ≤ Y.L.length) (h3 : Y.n3 ≤ Y.L.length) : BookAt H2 { Y with L := Y.L ++ [⟨p, none⟩] } { B with ents := B.ents ++ [x] } := by
 have far : ∀ (j : Nat) (f : ELay), Y.L[j]? = some f → f.b ≠ p := fun j f hf e => by
  obtain ⟨y, hy⟩ : ∃ y, B.ents[j]? = some y := ⟨_, List.getElem?_eq_getElem (by rw [← h.len]; exact (List.getElem?_eq_some_iff.1 hf).1)⟩
  have := lt_of_get (h.ent j f y hf hy).1
  omega
 refine ⟨by simp [h.len], hsame _ _ h.book, ?_, ?_, ?_, ?_, ?_, ?_, ?_⟩
 ·show RowAt H2 Y.od (((Y.L ++ [(⟨p, none⟩ : ELay)]).take Y.n1).map fun e : ELay => [AV.ptr e.b 0])
  rw [List.take_append_of_le_length h1]
  exact h.ord.on fun a _ o => hsame _ o
 ·have e2 : idE { Y with L := Y.L ++ [⟨p, none⟩] } { B with ents := B.ents ++ [x] } = idE Y B := by
   unfold idE
   simp only
   rw [List.zip_append h.len, List.take_append_of_le_length (by rw [List.length_zip, h.len]; have := h.len; omega)]
  rw [e2]
  exact hsame _ _ h.byId
 ·have e2 : usE { Y with L := Y.L ++ [⟨p, none⟩] } { B with ents := B.ents ++ [x] } = usE Y B := by
   unfold usE
   simp only
   rw [List.take_append_of_le_length (by have := h.len; omega)]
  rw [e2]
  exact hsame _ _ h.used
 ·intro j f y hf hy
  rcases snoc_get hf with hf | ⟨rfl, rfl⟩
  ·have hjl := (List.getElem?_eq_some_iff.1 hf).1
   rcases snoc_get hy with hy | ⟨e, _⟩
   ·have hE := h.ent j f y hf hy
    refine ⟨hsame _ _ hE.1, ?_, fun k hk => ?_⟩
    ·have e3 : (y.next.map fun j => [AV.ptr (({ Y with L := Y.L ++ [⟨p, none⟩] } : Lay).eb j) 0]) = y.next.map fun j => [AV.ptr (Y.eb j) 0] := List.map_congr_left fun k hk => by rw [eb_snoc (hE.2.2 k hk).2]
     rw [e3]
     exact hE.2.1.on fun a _ o => hsame _ o
    ·have := hE.2.2 k hk
     simp only [List.length_append, List.length_cons, List.length_nil]
     omega
   ·have := h.len; omega
  ·rcases snoc_get hy with hy | ⟨_, rfl⟩
   ·have := (List.getElem?_eq_some_iff.1 hy).1; have := h.len; omega
   ·rw [hx]
    exact ⟨by simpa [hx, slA] using hbox, rfl, fun k hk => by cases hk⟩
 ·intro a b f g hf hg hfg
  rcases snoc_get hf with hf | ⟨rfl, rfl⟩
  ·rcases snoc_get hg with hg | ⟨rfl, rfl⟩
   ·exact h.dbox a b f g hf hg hfg
   ·exact absurd hfg (far a f hf)
  ·rcases snoc_get hg with hg | ⟨rfl, rfl⟩
   ·exact absurd hfg.symm (far b g hg)
   ·rfl
 ·intro a b f g hf hg q r hq hr hqr
  rcases snoc_get hf with hf | ⟨rfl, rfl⟩
  ·rcases snoc_get hg with hg | ⟨rfl, rfl⟩
   ·exact h.drow a b f g hf hg q r hq hr hqr
   ·cases hr
  ·cases hq
 ·intro a f hf q r hq hr hqr
  rcases snoc_get hf with hf | ⟨rfl, rfl⟩
  ·exact h.dord a f hf q r hq hr hqr
  ·cases hq
theorem BookAt.addO {H H2 : AHeap} {Y : Lay} {B : Bk} (h : BookAt H Y B) {od' : OR} (hsame : ∀ (l : Nat) (o : AObj), H[l]? = some o → l ≠ Y.bl → (∀ a, Y.od = some a → l ≠ a.1) → H2[l]? = some o)
  (hbook : H2[Y.bl]? = some (.box 76 [.d (.v (.string B.issuer)), slA od' (Y.n1 + 1), .mp Y.ml, .mp Y.ul])) (hrow : RowAt H2 od' ((Y.L.take (Y.n1 + 1)).map fun e => [.ptr e.b 0])) (hnew : od' = Y.od ∨ ∃ a, od' = some a ∧ H.length ≤ a.1) :
  BookAt H2 { Y with od := od', n1 := Y.n1 + 1 } B := by
 have odT : ∀ a, Y.od = some a → ∃ v its, H[a.1]? = some (.row 77 1 v its) := fun a ha => by
  have := h.ord
  rw [ha] at this
  exact ⟨_, _, this⟩
 have keep : ∀ (l : Nat) (o : AObj), H[l]? = some o → (∀ cs, o ≠ .box 76 cs) → (∀ v its, o ≠ .row 77 1 v its) → H2[l]? = some o := fun l o ho h1 h2 => by
  refine hsame l o ho (fun e1 => ?_) fun a ha e1 => ?_
  ·subst e1; rw [h.book] at ho; cases ho; exact h1 _ rfl
  ·subst e1
   obtain ⟨v, its, hv⟩ := odT a ha
   rw [hv] at ho; cases ho; exact h2 _ _ rfl
 refine ⟨h.len, hbook, hrow, keep _ _ h.byId (fun _ => by simp) (fun _ _ => by simp), keep _ _ h.used (fun _ => by simp) (fun _ _ => by simp), ?_, h.dbox, h.drow, ?_⟩
 ·intro j f y hf hy
  have hE := h.ent j f y hf hy
  refine ⟨keep _ _ hE.1 (fun _ => by simp) (fun _ _ => by simp), ?_, hE.2.2⟩
  refine hE.2.1.on fun a ha o ho => hsame _ o ho (fun e1 => ?_) fun c hc => h.dord j f hf a c ha hc
  have h5 := hE.2.1
  rw [ha] at h5
  have h6 : H[a.1]? = _ := h5
  rw [e1, h.book] at h6
  cases h6
 ·intro a f hf q r hq hr hqr
  rcases hnew with hn | ⟨c, hc, hl⟩
  ·exact h.dord a f hf q r hq (by rw [← hn]; exact hr) hqr
  ·rw [show od' = some r from hr] at hc
   cases hc
   obtain ⟨y, hy⟩ : ∃ y, B.ents[a]? = some y := ⟨_, List.getElem?_eq_getElem (by rw [← h.len]; exact (List.getElem?_eq_some_iff.1 hf).1)⟩
   have h5 := (h.ent a f y hf hy).2.1
   rw [hq] at h5
   have := lt_of_get (show H[q.1]? = _ from h5)
   omega
theorem BookAt.addI {H H2 : AHeap} {Y : Lay} {B : Bk} (h : BookAt H Y B) (hsame : ∀ (l : Nat) (o : AObj), H[l]? = some o → l ≠ Y.ml → H2[l]? = some o) (hm : H2[Y.ml]? = some (.mp 9 77 (.one .str) (idE { Y with n2 := Y.n2 + 1 } B))) : BookAt H2 { Y with n2 := Y.n2 + 1 } B := by
 have keep : ∀ (l : Nat) (o : AObj), H[l]? = some o → (∀ es, o ≠ .mp 9 77 (.one .str) es) → H2[l]? = some o := fun l o ho h1 => hsame l o ho fun e1 => by
  subst e1; rw [h.byId] at ho; cases ho; exact h1 _ rfl
 refine ⟨h.len, keep _ _ h.book (fun _ => by simp), h.ord.on fun a ha o ho => ?_, hm, keep _ _ h.used (fun _ => by simp), fun j f y hf hy => ?_, h.dbox, h.drow, h.dord⟩
 ·have := h.ord
  rw [ha] at this
  rw [show H[a.1]? = _ from this] at ho
  cases ho
  exact keep _ _ (show H[a.1]? = _ from this) (fun _ => by simp)
 ·have hE := h.ent j f y hf hy
  refine ⟨keep _ _ hE.1 (fun _ => by simp), hE.2.1.on fun a ha o ho => ?_, hE.2.2⟩
  have := hE.2.1
  rw [ha] at this
  rw [show H[a.1]? = _ from this] at ho
  cases ho
  exact keep _ _ (show H[a.1]? = _ from this) (fun _ => by simp)
theorem BookAt.addU {H H2 : AHeap} {Y : Lay} {B : Bk} (h : BookAt H Y B) (hsame : ∀ (l : Nat) (o : AObj), H[l]? = some o → l ≠ Y.ul → H2[l]? = some o) (hm : H2[Y.ul]? = some (.mp 92 4 (.flat [.str, .int .i64]) (usE { Y with n3 := Y.n3 + 1 } B))) : BookAt H2 { Y with n3 := Y.n3 + 1 } B := by
 have keep : ∀ (l : Nat) (o : AObj), H[l]? = some o → (∀ es, o ≠ .mp 92 4 (.flat [.str, .int .i64]) es) → H2[l]? = some o := fun l o ho h1 => hsame l o ho fun e1 => by
  subst e1; rw [h.used] at ho; cases ho; exact h1 _ rfl
 refine ⟨h.len, keep _ _ h.book (fun _ => by simp), h.ord.on fun a ha o ho => ?_, keep _ _ h.byId (fun _ => by simp), hm, fun j f y hf hy => ?_, h.dbox, h.drow, h.dord⟩
 ·have := h.ord
  rw [ha] at this
  rw [show H[a.1]? = _ from this] at ho
  cases ho
  exact keep _ _ (show H[a.1]? = _ from this) (fun _ => by simp)
 ·have hE := h.ent j f y hf hy
  refine ⟨keep _ _ hE.1 (fun _ => by simp), hE.2.1.on fun a ha o ho => ?_, hE.2.2⟩
  have := hE.2.1
  rw [ha] at this
  rw [show H[a.1]? = _ from this] at ho
  cases ho
  exact keep _ _ (show H[a.1]? = _ from this) (fun _ => by simp)
end Av
end Go.Proofs.YtnkepmfgmfeabaaGreatDoor
set_option linter.unusedVariables false
set_option linter.unusedSimpArgs false
namespace Go.Proofs.YtnkepmfgmfeabaaGreatDoor
open Go Go.RowKit
namespace Av

/-! Revoking: what follows is marked too. -/
def visit : Nat → Nat → List Ent → List Ent
 | 0, _, E => E
 | f + 1, i, E => match E[i]? with
  | none => E
  | some x => if x.rev then E else x.next.foldl (fun E j => visit f j E) (E.set i { x with rev := true })
/-- nothing but marks differs -/
def Frm (E E' : List Ent) : Prop := E'.length = E.length ∧ ∀ (i : Nat) x, E[i]? = some x → ∃ r, E'[i]? = some { x with rev := r }
theorem Frm.refl (E : List Ent) : Frm E E := ⟨rfl, fun i x h => ⟨x.rev, h⟩⟩
theorem Frm.trans {A B C : List Ent} (h : Frm A B) (k : Frm B C) : Frm A C := ⟨k.1.trans h.1, fun i x hx => by
 obtain ⟨r, h1⟩ := h.2 i x hx
 obtain ⟨r', h2⟩ := k.2 i _ h1
 exact ⟨r', h2⟩⟩
theorem Frm.mark {E : List Ent} {i : Nat} {x : Ent} (h : E[i]? = some x) (r : Bool) : Frm E (E.set i { x with rev := r }) := ⟨by simp, fun j y hy => by
 by_cases e : i = j
 ·subst e
  rw [h] at hy; cases hy
  exact ⟨r, List.getElem?_set_self (List.getElem?_eq_some_iff.1 h).1⟩
 ·exact ⟨y.rev, by rw [List.getElem?_set_ne e]; exact hy⟩⟩
theorem visit_frm : ∀ (f i : Nat) (E : List Ent), Frm E (visit f i E)
 | 0, i, E => .refl E
 | f + 1, i, E => by
  unfold visit
  split
  ·exact .refl E
  ·rename_i x hx
   split
   ·exact .refl E
   ·have go : ∀ (l : List Nat) (E : List Ent), Frm E (l.foldl (fun E j => visit f j E) E) := by
     intro l
     induction l with
     | nil => exact fun E => .refl E
     | cons j l ih => exact fun E => (visit_frm f j E).trans (ih _)
    exact (Frm.mark hx true).trans (go _ _)
theorem Frm.next {E E' : List Ent} (h : Frm E E') (hn : ∀ x ∈ E, x.next.length ≤ 1000000) : ∀ x ∈ E', x.next.length ≤ 1000000 := by
 intro x hx
 obtain ⟨i, hi, rfl⟩ := List.mem_iff_getElem.1 hx
 have hi' : i < E.length := by rw [← h.1]; exact hi
 obtain ⟨r, h1⟩ := h.2 i _ (List.getElem?_eq_getElem hi')
 rw [List.getElem?_eq_getElem hi] at h1
 rw [Option.some.inj h1]
 exact hn E[i] (List.getElem_mem hi')
theorem fold_frm (f : Nat) : ∀ (l : List Nat) (E : List Ent), Frm E (l.foldl (fun E j => visit f j E) E)
 | [], E => .refl E
 | j :: l, E => (visit_frm f j E).trans (fold_frm f l _)
/-- only entries' marks are written -/
def VKeep (H H' : AHeap) : Prop := H'.length = H.length ∧ ∀ (l : Nat) (o : AObj), H[l]? = some o → (∀ cs, o ≠ .box 79 cs) → H'[l]? = some o
theorem VKeep.refl (H : AHeap) : VKeep H H := ⟨rfl, fun _ _ h _ => h⟩
theorem VKeep.trans {A B C : AHeap} (h : VKeep A B) (k : VKeep B C) : VKeep A C := ⟨k.1.trans h.1, fun l o ho hn => k.2 l o (h.2 l o ho hn) hn⟩
theorem put_self {Y : Lay} {i : Nat} {e : ELay} (he : Y.L[i]? = some e) : Y.put i ⟨e.b, e.row⟩ = Y := by
 unfold Lay.put
 have : Y.L.set i ⟨e.b, e.row⟩ = Y.L := by
  apply List.ext_getElem?
  intro j
  by_cases h : i = j
  ·subst h; rw [List.getElem?_set_self (List.getElem?_eq_some_iff.1 he).1, he]
  ·rw [List.getElem?_set_ne h]
 rw [this]
theorem visit_a {base : World} (fl : Nat) : ∀ (f : Nat) {H : AHeap} {Y : Lay} {B : Bk} (h : Book H Y B) (hn : B.ents.length ≤ 1000000) (hnx : ∀ x ∈ B.ents, x.next.length ≤ 1000000) (i : Nat) (hi : i < B.ents.length) (hf : B.ents.length - i ≤ f) (hfl : H[fl]? = some (.box 95 [.fn (.func 52) [] [.ptr fl 0]])),
  CallsA Tryz.prog base 52 [.ptr (Y.eb i) 0, .ptr fl 0] H fun r H' => r = .tup [] ∧ Book H' Y { B with ents := visit f i B.ents } ∧ VKeep H H'
 | 0, H, Y, B, h, hn, hnx, i, hi, hf, hfl => by omega
 | f + 1, H, Y, B, h, hn, hnx, i, hi, hf, hfl => by
  obtain ⟨x, hx⟩ : ∃ x, B.ents[i]? = some x := ⟨_, List.getElem?_eq_getElem hi⟩
  obtain ⟨e, he, heb⟩ := h.lay hx
  have hE := h.ent i e x he hx
  have hbx := hE.1
  rw [heb]
  refine callsA_enter ttOk Tryz.call52 Tryz.func52 rfl fun hB hb hF => ?_
  rw [Tryz.results52, Tryz.ntmps52]
  simp only [arr_list, List.length_cons, List.length_nil, List.replicate, List.cons_append, List.nil_append, Nat.reduceAdd, Nat.reduceSub]
  repeat refine aw_seq ?_
  refine aw_run ttOk (by kernel_rfl) (by simp only [erun, eall, estep, avs, tts, Nat.reduceAdd, Nat.reduceMul, Nat.reduceSub, Nat.reduceEqDiff, Nat.reduceLT, Nat.reduceLeDiff, Int.reduceToNat, Int.reduceLE, Int.reduceLT, Int.toNat_natCast, reduceCtorEq, hbx, entC] <;> first | with_reducible rfl | rfl) ?_
  repeat refine aw_seq ?_
  refine aw_cond rfl rfl (fun hb => ?_) fun hb => ?_
  ·refine aw_ret ⟨_, rfl, rfl, ?_, .refl H⟩
   have : visit (f + 1) i B.ents = B.ents := by unfold visit; rw [hx]; simp only; rw [if_pos hb]
   rw [this]
   exact h
  refine aw_skip ?_
  repeat refine aw_seq ?_
  refine aw_run ttOk (by kernel_rfl) (by simp only [erun, eall, estep, avs, tts, Nat.reduceAdd, Nat.reduceMul, Nat.reduceSub, Nat.reduceEqDiff, Nat.reduceLT, Nat.reduceLeDiff, Int.reduceToNat, Int.reduceLE, Int.reduceLT, Int.toNat_natCast, reduceCtorEq, hbx, entC] <;> first | with_reducible rfl | rfl) ?_
  have hB1 : Book (H.set e.b (.box 79 (entC { x with rev := true } (slA e.row x.next.length)))) Y { B with ents := B.ents.set i { x with rev := true } } := by
   have hl := lt_of_get hbx
   have h1 := h.toBookAt.upd (H2 := H.set e.b (.box 79 (entC { x with rev := true } (slA e.row x.next.length)))) he hx (x' := { x with rev := true }) (row' := e.row) rfl rfl (fun l o ho hne _ => by rw [get_set_ne hne]; exact ho) (get_set_same hl) (hE.2.1.on fun a ha o ho => by
    rw [get_set_ne]
    ·exact ho
    ·intro e1
     have h5 := hE.2.1
     rw [ha] at h5
     have h6 : H[a.1]? = _ := h5
     rw [e1, hbx] at h6
     cases h6) hE.2.2 (.inl rfl)
   rw [put_self he] at h1
   exact ⟨h1, by simp [h.n1], by simp [h.n2], by simp [h.n3]⟩
  have hV1 : VKeep H (H.set e.b (.box 79 (entC { x with rev := true } (slA e.row x.next.length)))) := ⟨by simp, fun l o ho hn => by
   rw [get_set_ne]
   ·exact ho
   ·intro e1; rw [e1, hbx] at ho; cases ho; exact hn _ rfl⟩
  have hbx1 : (H.set e.b (.box 79 (entC { x with rev := true } (slA e.row x.next.length))))[e.b]? = some (.box 79 (entC { x with rev := true } (slA e.row x.next.length))) := get_set_same (lt_of_get hbx)
  have hvis : visit (f + 1) i B.ents = x.next.foldl (fun E j => visit f j E) (B.ents.set i { x with rev := true }) := by
   conv => lhs; unfold visit
   rw [hx]
   simp only
   rw [if_neg (by rw [hb]; simp)]
  refine aw_goes (env' := .ptr e.b 0 :: .ptr fl 0 :: List.replicate 23 .undef) (H' := H.set e.b (.box 79 (entC { x with rev := true } (slA e.row x.next.length)))) ⟨by simp [EnvLe, List.replicate], .inl rfl⟩ ?_
  rw [hvis]
  generalize hH1 : H.set e.b (.box 79 (entC { x with rev := true } (slA e.row x.next.length))) = H1 at hB1 hV1 hbx1 ⊢
  have hE1x : ∀ y ∈ B.ents.set i { x with rev := true }, y.next.length ≤ 1000000 := (Frm.mark hx true).next hnx
  generalize hE1 : B.ents.set i { x with rev := true } = E1 at hB1 hE1x ⊢
  have hE1n : E1.length = B.ents.length := by rw [← hE1]; simp
  simp only [List.replicate]
  rcases hro : e.row with _ | ⟨ol, ov⟩
  ·rw [hro] at hbx1
   have hE' := hE.2.1
   rw [hro] at hE'
   have hnx : x.next = [] := by simpa [RowAt] using hE'
   rw [hnx] at hbx1 ⊢
   repeat refine aw_seq ?_
   refine aw_run ttOk (by kernel_rfl) (by simp only [erun, eall, estep, avs, tts, Nat.reduceAdd, Nat.reduceMul, Nat.reduceSub, Nat.reduceEqDiff, Nat.reduceLT, Nat.reduceLeDiff, Int.reduceToNat, Int.reduceLE, Int.reduceLT, Int.toNat_natCast, reduceCtorEq, hbx1, entC, slA, nilS] <;> first | with_reducible rfl | rfl) ?_
   refine aw_block (aw_loop (fun m env H' => m = 0 ∧ H' = H1 ∧ env = .undef :: .undef :: .undef :: .undef :: .undef :: .undef :: .undef :: .undef :: .undef :: .undef :: .undef :: .undef :: .undef :: .undef :: .undef :: .undef :: iA 0 :: iA 0 :: List.replicate 7 .undef) ?_ ⟨rfl, rfl, rfl⟩ ?_)
   ·simp [Goes, EnvLe, iA, List.replicate]
   rintro m env H' ⟨rfl, rfl, rfl⟩ hN
   simp only [List.replicate, iA]
   repeat refine aw_seq ?_
   refine aw_run ttOk (by kernel_rfl) (by simp only [erun, eall, estep, avs, tts, Nat.reduceAdd, Nat.reduceMul, Nat.reduceSub, Nat.reduceEqDiff, Nat.reduceLT, Nat.reduceLeDiff, Int.reduceToNat, Int.reduceLE, Int.reduceLT, Int.toNat_natCast, reduceCtorEq] <;> first | with_reducible rfl | rfl) ?_
   repeat refine aw_seq ?_
   refine aw_cond rfl rfl (fun hb => ?_) fun hb => ?_
   ·cases hb
   refine aw_exit ?_
   exact ⟨_, rfl, rfl, hB1, hV1⟩
  rw [hro] at hbx1
  have hrow0 : H[ol]? = some (.row 77 1 ov (x.next.map fun j => [.ptr (Y.eb j) 0])) := by
   have hE' := hE.2.1
   rw [hro] at hE'
   exact hE'
  have hrow := hV1.2 _ _ hrow0 (fun _ => by simp)
  have hnl : x.next.length ≤ 9223372036854775807 := by have := hnx x (List.mem_of_getElem? hx); omega
  repeat refine aw_seq ?_
  refine aw_run ttOk (by kernel_rfl) (by simp only [erun, eall, estep, avs, tts, Nat.reduceAdd, Nat.reduceMul, Nat.reduceSub, Nat.reduceEqDiff, Nat.reduceLT, Nat.reduceLeDiff, Int.reduceToNat, Int.reduceLE, Int.reduceLT, Int.toNat_natCast, reduceCtorEq, hbx1, entC, slA, hrow] <;> first | with_reducible rfl | rfl) ?_
  refine aw_block (aw_loop (fun m env H' => ∃ k, m = x.next.length - k ∧ k ≤ x.next.length ∧ Book H' Y { B with ents := (x.next.take k).foldl (fun E j => visit f j E) E1 } ∧ VKeep H H' ∧ env = .undef :: .ptr fl 0 :: .undef :: .undef :: .undef :: .undef :: .undef :: .undef :: .undef :: .undef :: .undef :: .undef :: .undef :: .undef :: .undef :: .ms ol ov x.next.length :: iA x.next.length :: iA k :: List.replicate 7 .undef) ?_ ⟨0, rfl, Nat.zero_le _, hB1, hV1, rfl⟩ ?_)
  ·simp [Goes, EnvLe, iA, List.replicate]
  rintro m env H' ⟨k, rfl, hk, hBk, hVk, rfl⟩ hN
  simp only [List.replicate, iA]
  repeat refine aw_seq ?_
  refine aw_run ttOk (by kernel_rfl) (by simp only [erun, eall, estep, avs, tts, Nat.reduceAdd, Nat.reduceMul, Nat.reduceSub, Nat.reduceEqDiff, Nat.reduceLT, Nat.reduceLeDiff, Int.reduceToNat, Int.reduceLE, Int.reduceLT, Int.toNat_natCast, reduceCtorEq] <;> first | with_reducible rfl | rfl) ?_
  repeat refine aw_seq ?_
  refine aw_cond rfl rfl (fun hb => ?_) fun hb => ?_
  ·have hlt : k < x.next.length := by simpa using hb
   have hix : (0 : Int) ≤ (k : Int) := by omega
   have hgd : (x.next.map fun j => [AV.ptr (Y.eb j) 0]).getD k [] = [.ptr (Y.eb x.next[k]) 0] := by simp [hlt]
   have hrk := hVk.2 _ _ hrow0 (fun _ => by simp)
   have hfk := hVk.2 _ _ hfl (fun _ => by simp)
   have hjn := hE.2.2 _ (List.getElem_mem hlt)
   rw [h.len] at hjn
   have hfr : ∀ (l : List Nat) (E : List Ent), (l.foldl (fun E j => visit f j E) E).length = E.length := fun l E => (fold_frm f l E).1
   refine aw_skip ?_
   repeat refine aw_seq ?_
   refine aw_block ?_
   repeat refine aw_seq ?_
   refine aw_run ttOk (by kernel_rfl) (by simp only [erun, eall, estep, avs, tts, Nat.reduceAdd, Nat.reduceMul, Nat.reduceSub, Nat.reduceEqDiff, Nat.reduceLT, Nat.reduceLeDiff, Int.reduceToNat, Int.reduceLE, Int.reduceLT, Int.toNat_natCast, reduceCtorEq, hrk, hgd, hix, hlt] <;> first | with_reducible rfl | rfl) ?_
   repeat refine aw_seq ?_
   refine aw_region ttOk (by kernel_rfl) ?_
   refine aops_run 2 (by simp only [erun, eall, estep, avs, tts, Nat.reduceAdd, Nat.reduceMul, Nat.reduceSub, Nat.reduceEqDiff, Nat.reduceLT, Nat.reduceLeDiff, Int.reduceToNat, Int.reduceLE, Int.reduceLT, Int.toNat_natCast, reduceCtorEq, hfk] <;> first | with_reducible rfl | rfl) ?_
   refine aops_call rfl (by simp only [avs, tts] <;> rfl) ⟨_, visit_a fl f hBk (by simp only [hfr, hE1n]; exact hn) ((fold_frm f _ E1).next hE1x) x.next[k] (by simp only [hfr, hE1n]; exact hjn.2) (by simp only [hfr, hE1n]; omega) hfk, ?_⟩
   rintro r H'' ⟨rfl, hB2, hV2⟩ hl2
   refine aops_nil ?_
   repeat refine aw_seq ?_
   refine aw_run ttOk (by kernel_rfl) (by simp only [erun, eall, estep, avs, tts, Nat.reduceAdd, Nat.reduceMul, Nat.reduceSub, Nat.reduceEqDiff, Nat.reduceLT, Nat.reduceLeDiff, Int.reduceToNat, Int.reduceLE, Int.reduceLT, Int.toNat_natCast, reduceCtorEq, wrap_succ hlt hnl] <;> first | with_reducible rfl | rfl) ?_
   refine ⟨x.next.length - (k + 1), _, _, by omega, ⟨?_, .inl rfl⟩, k + 1, rfl, hlt, ?_, hVk.trans hV2, rfl⟩
   ·simp [EnvLe, iA, List.replicate]
   ·rw [List.take_succ_eq_append_getElem hlt, List.foldl_append]
    exact hB2
  ·refine aw_exit ?_
   have hkl : k = x.next.length := by simp at hb; omega
   rw [hkl, List.take_length] at hBk
   exact ⟨_, rfl, rfl, hBk, hVk⟩
/-- Revoke -/
def revokeR (B : Bk) (id : ByteArray) : Int × Bk := match findB B id with
 | none => (11, B)
 | some i => match B.ents[i]? with
  | none => (11, B)
  | some x => if x.rev then (12, B) else (0, { B with ents := visit B.ents.length i B.ents })
theorem revoke_a {base : World} {H : AHeap} {Y : Lay} {B : Bk} (h : Book H Y B) (hn : B.ents.length ≤ 1000000) (hnx : ∀ x ∈ B.ents, x.next.length ≤ 1000000) (id : ByteArray) :
  CallsA Tryz.prog base 24 [.ptr Y.bl 0, .d (.v (.string id))] H fun r H' => r = iA (revokeR B id).1 ∧ Book H' Y (revokeR B id).2 ∧ ∀ (l : Nat) (o : AObj), H[l]? = some o → (∀ cs, o ≠ .box 79 cs) → H'[l]? = some o := by
 refine callsA_enter ttOk Tryz.call24 Tryz.func24 rfl fun hB hb hF => ?_
 rw [Tryz.results24, Tryz.ntmps24]
 simp only [arr_list, List.length_cons, List.length_nil, List.replicate, List.cons_append, List.nil_append, Nat.reduceAdd, Nat.reduceSub]
 repeat refine aw_seq ?_
 refine aw_run ttOk (by kernel_rfl) (by simp only [erun, eall, estep, avs, tts, Nat.reduceAdd, Nat.reduceMul, Nat.reduceSub, Nat.reduceEqDiff, Nat.reduceLT, Nat.reduceLeDiff, Int.reduceToNat, Int.reduceLE, Int.reduceLT, Int.toNat_natCast, reduceCtorEq] <;> first | with_reducible rfl | rfl) ?_
 repeat refine aw_seq ?_
 refine aw_region ttOk (by kernel_rfl) ?_
 refine aops_run 2 (by simp only [erun, eall, estep, avs, tts, Nat.reduceAdd, Nat.reduceMul, Nat.reduceSub, Nat.reduceEqDiff, Nat.reduceLT, Nat.reduceLeDiff, Int.reduceToNat, Int.reduceLE, Int.reduceLT, Int.toNat_natCast, reduceCtorEq] <;> first | with_reducible rfl | rfl) ?_
 refine aops_read rfl (by simp only [avs] <;> rfl) (find_a h id) (by simp only [avs] <;> rfl) ?_
 refine aops_run 1 (by simp only [erun, eall, estep, avs, tts, Nat.reduceAdd, Nat.reduceMul, Nat.reduceSub, Nat.reduceEqDiff, Nat.reduceLT, Nat.reduceLeDiff, Int.reduceToNat, Int.reduceLE, Int.reduceLT, Int.toNat_natCast, reduceCtorEq] <;> first | with_reducible rfl | rfl) ?_
 refine aops_nil ?_
 unfold revokeR
 cases hf : findB B id with
 | none =>
  rw [findA_none hf]
  repeat refine aw_seq ?_
  refine aw_run ttOk (by kernel_rfl) (by simp only [erun, eall, estep, avs, tts, Nat.reduceAdd, Nat.reduceMul, Nat.reduceSub, Nat.reduceEqDiff, Nat.reduceLT, Nat.reduceLeDiff, Int.reduceToNat, Int.reduceLE, Int.reduceLT, Int.toNat_natCast, reduceCtorEq, nilP] <;> first | with_reducible rfl | rfl) ?_
  repeat refine aw_seq ?_
  refine aw_cond rfl rfl (fun hb => ?_) fun hb => ?_
  ·repeat refine aw_seq ?_
   refine aw_run ttOk (by kernel_rfl) (by simp only [erun, eall, estep, avs, tts, Nat.reduceAdd, Nat.reduceMul, Nat.reduceSub, Nat.reduceEqDiff, Nat.reduceLT, Nat.reduceLeDiff, Int.reduceToNat, Int.reduceLE, Int.reduceLT, Int.toNat_natCast, reduceCtorEq] <;> first | with_reducible rfl | rfl) ?_
   exact aw_ret ⟨_, rfl, rfl, h, fun _ _ ho _ => ho⟩
  ·cases hb
 | some i =>
  obtain ⟨x, hx, _⟩ := findB_some hf
  obtain ⟨nx, hbx⟩ := h.box hx
  rw [findA_some hf]
  simp only [hx]
  repeat refine aw_seq ?_
  refine aw_run ttOk (by kernel_rfl) (by simp only [erun, eall, estep, avs, tts, Nat.reduceAdd, Nat.reduceMul, Nat.reduceSub, Nat.reduceEqDiff, Nat.reduceLT, Nat.reduceLeDiff, Int.reduceToNat, Int.reduceLE, Int.reduceLT, Int.toNat_natCast, reduceCtorEq, nilP] <;> first | with_reducible rfl | rfl) ?_
  repeat refine aw_seq ?_
  refine aw_cond rfl rfl (fun hb => ?_) fun hb => ?_
  ·cases hb
  refine aw_skip ?_
  repeat refine aw_seq ?_
  refine aw_run ttOk (by kernel_rfl) (by simp only [erun, eall, estep, avs, tts, Nat.reduceAdd, Nat.reduceMul, Nat.reduceSub, Nat.reduceEqDiff, Nat.reduceLT, Nat.reduceLeDiff, Int.reduceToNat, Int.reduceLE, Int.reduceLT, Int.toNat_natCast, reduceCtorEq, hbx, entC] <;> first | with_reducible rfl | rfl) ?_
  repeat refine aw_seq ?_
  refine aw_cond rfl rfl (fun hb => ?_) fun hb => ?_
  ·repeat refine aw_seq ?_
   refine aw_run ttOk (by kernel_rfl) (by simp only [erun, eall, estep, avs, tts, Nat.reduceAdd, Nat.reduceMul, Nat.reduceSub, Nat.reduceEqDiff, Nat.reduceLT, Nat.reduceLeDiff, Int.reduceToNat, Int.reduceLE, Int.reduceLT, Int.toNat_natCast, reduceCtorEq] <;> first | with_reducible rfl | rfl) ?_
   exact aw_ret ⟨_, rfl, by rw [if_pos hb]; rfl, by rw [if_pos hb]; exact h, fun _ _ ho _ => ho⟩
  refine aw_skip ?_
  repeat refine aw_seq ?_
  refine aw_run ttOk (by kernel_rfl) (by simp only [erun, eall, estep, avs, tts, Nat.reduceAdd, Nat.reduceMul, Nat.reduceSub, Nat.reduceEqDiff, Nat.reduceLT, Nat.reduceLeDiff, Int.reduceToNat, Int.reduceLE, Int.reduceLT, Int.toNat_natCast, reduceCtorEq] <;> first | with_reducible rfl | rfl) ?_
  repeat refine aw_seq ?_
  refine aw_run ttOk (by kernel_rfl) (by simp only [erun, eall, estep, avs, tts, Nat.reduceAdd, Nat.reduceMul, Nat.reduceSub, Nat.reduceEqDiff, Nat.reduceLT, Nat.reduceLeDiff, Int.reduceToNat, Int.reduceLE, Int.reduceLT, Int.toNat_natCast, reduceCtorEq] <;> first | with_reducible rfl | rfl) ?_
  repeat refine aw_seq ?_
  refine aw_region ttOk (by kernel_rfl) ?_
  refine aops_run 2 (by simp only [erun, eall, estep, avs, tts, Nat.reduceAdd, Nat.reduceMul, Nat.reduceSub, Nat.reduceEqDiff, Nat.reduceLT, Nat.reduceLeDiff, Int.reduceToNat, Int.reduceLE, Int.reduceLT, Int.toNat_natCast, reduceCtorEq] <;> first | with_reducible rfl | rfl) ?_
  have hi := (List.getElem?_eq_some_iff.1 hx).1
  refine aops_call rfl (by simp only [avs, tts] <;> rfl) ⟨_, visit_a H.length B.ents.length (h.app _) hn hnx i hi (by omega) (H_get0 _ _), ?_⟩
  rintro r H'' ⟨rfl, hB2, hV2⟩ hl2
  refine aops_nil ?_
  repeat refine aw_seq ?_
  refine aw_run ttOk (by kernel_rfl) (by simp only [erun, eall, estep, avs, tts, Nat.reduceAdd, Nat.reduceMul, Nat.reduceSub, Nat.reduceEqDiff, Nat.reduceLT, Nat.reduceLeDiff, Int.reduceToNat, Int.reduceLE, Int.reduceLT, Int.toNat_natCast, reduceCtorEq] <;> first | with_reducible rfl | rfl) ?_
  refine aw_ret ⟨_, rfl, by rw [if_neg (by rw [hb]; simp)]; rfl, by rw [if_neg (by rw [hb]; simp)]; exact hB2, fun l o ho hne => hV2.2 l o (got ho _) hne⟩
end Av
end Go.Proofs.YtnkepmfgmfeabaaGreatDoor
set_option linter.unusedVariables false
set_option linter.unusedSimpArgs false
namespace Go.Proofs.YtnkepmfgmfeabaaGreatDoor
open Go Go.RowKit
namespace Av

/-! Operations one by one. -/
section
variable {P : Program} {tt : TTab} {base : World} {ops : Array Oper} {N0 : Nat} {K : List AV → AHeap → Prop} {o : Oper} {rest : List Oper} {env env' : List AV} {H H' : AHeap} {r : AV}
end
end Av
end Go.Proofs.YtnkepmfgmfeabaaGreatDoor
set_option linter.unusedVariables false
set_option linter.unusedSimpArgs false
namespace Go.Proofs.YtnkepmfgmfeabaaGreatDoor
open Go Go.RowKit
namespace Av

/-! Guarded operations, whichever way the guard falls. -/
section
variable {P : Program} {tt : TTab} {base : World} {ops : Array Oper} {N0 : Nat} {K : List AV → AHeap → Prop} {o : Oper} {rest : List Oper} {env env' : List AV} {H H' : AHeap} {r : AV}
def AOpsC (P : Program) (tt : TTab) (base : World) (ops : Array Oper) (o : Oper) (rest : List Oper) (env : List AV) (H : AHeap) (K : List AV → AHeap → Prop) : Bool → Prop
 | true => AOps P tt base ops ({ o with guard := none } :: rest) env H K
 | false => AOps P tt base ops rest (aput env o.dst skipV) H K
theorem aops_grd {j : Nat} {want c : Bool} {y : Option Bool} (hg : o.guard = some (j, want)) (hy : yieldedA ops env j = some y) (hc : wantB y want = c) (k : AOpsC P tt base ops o rest env H K c) : AOps P tt base ops (o :: rest) env H K := by
 subst hc
 cases h : wantB y want with
 | true =>
  rw [h] at k
  have e : y = some want := by rw [wantB_eq] at h; simpa using h
  subst e
  exact aops_on hg hy k
 | false =>
  rw [h] at k
  simp only [AOps, AGuard, hg, hy, h, Bool.false_eq_true, if_false]
  exact k
theorem grd_on (k : AOps P tt base ops ({ o with guard := none } :: rest) env H K) : AOpsC P tt base ops o rest env H K true := k
theorem grd_off (he : aput env o.dst skipV = env') (k : AOps P tt base ops rest env' H K) : AOpsC P tt base ops o rest env H K false := by subst he; exact k
def AHOpsC (P : Program) (tt : TTab) (base : World) (N0 : Nat) (ops : Array Oper) (o : Oper) (rest : List Oper) (env : List AV) (H : AHeap) (K : List AV → AHeap → Prop) : Bool → Prop
 | true => AHOps P tt base N0 ops ({ o with guard := none } :: rest) env H K
 | false => AHOps P tt base N0 ops rest (aput env o.dst skipV) H K
theorem ahops_grd {j : Nat} {want c : Bool} {y : Option Bool} (hg : o.guard = some (j, want)) (hy : yieldedA ops env j = some y) (hc : wantB y want = c) (k : AHOpsC P tt base N0 ops o rest env H K c) : AHOps P tt base N0 ops (o :: rest) env H K := by
 subst hc
 cases h : wantB y want with
 | true =>
  rw [h] at k
  have e : y = some want := by rw [wantB_eq] at h; simpa using h
  subst e
  exact ahops_on hg hy k
 | false =>
  rw [h] at k
  simp only [AHOps, AGuard, hg, hy, h, Bool.false_eq_true, if_false]
  exact k
theorem hgrd_on (k : AHOps P tt base N0 ops ({ o with guard := none } :: rest) env H K) : AHOpsC P tt base N0 ops o rest env H K true := k
theorem hgrd_off (he : aput env o.dst skipV = env') (k : AHOps P tt base N0 ops rest env' H K) : AHOpsC P tt base N0 ops o rest env H K false := by subst he; exact k
end
end Av
end Go.Proofs.YtnkepmfgmfeabaaGreatDoor
set_option linter.unusedVariables false
set_option linter.unusedSimpArgs false
namespace Go.Proofs.YtnkepmfgmfeabaaGreatDoor
open Go Go.RowKit
namespace Av

/-! One operation, one premise. -/
section
variable {P : Program} {tt : TTab} {base : World} {ops : Array Oper} {N0 : Nat} {K : List AV → AHeap → Prop} {o : Oper} {rest : List Oper} {env env' : List AV} {H H' : AHeap} {C : Prop}
theorem aops_cons (k : AOps P tt base ops (o :: rest) env H K) : AOps P tt base ops (o :: rest) env H K := k
theorem ahops_cons (k : AHOps P tt base N0 ops (o :: rest) env H K) : AHOps P tt base N0 ops (o :: rest) env H K := k
theorem aops_o (hc : acall env o.op = none) (h : estep tt ops o (some (env, H)) = some (env', H')) (k : AOps P tt base ops rest env' H' K) : AOps P tt base ops (o :: rest) env H K :=
 aops_run 1 (l := o :: rest) (by simp only [erun, Option.map_some, Option.getD_some, hc]; exact h) k
theorem ahops_o (hc : acall env o.op = none) (h : hstep tt ops o (some (env, H, True)) = some (env', H', C)) (hC : C) (k : AHOps P tt base N0 ops rest env' H' K) : AHOps P tt base N0 ops (o :: rest) env H K :=
 ahops_run 1 (l := o :: rest) (C := True) (C' := C) (by simp only [hrun, Option.map_some, Option.getD_some, hc]; exact h) hC k
end
end Av
end Go.Proofs.YtnkepmfgmfeabaaGreatDoor
set_option linter.unusedVariables false
set_option linter.unusedSimpArgs false
namespace Go.Proofs.YtnkepmfgmfeabaaGreatDoor
open Go Go.RowKit
namespace Av
attribute [local irreducible] AW AOps AHOps

/-! Add, its end: the order and both maps grow. -/
/-- what follows the n-th part of a body -/
def restC : Nat → Code → Option Code
 | 0, c => some c
 | n + 1, .seq _ b => restC n b
 | _ + 1, _ => none
theorem ne_of_get {H : AHeap} {a b : Nat} {o o' : AObj} (h : H[a]? = some o) (k : H[b]? = some o') (hne : o ≠ o') : a ≠ b := fun e => by
 subst e; rw [h] at k; exact hne (Option.some.inj k)
theorem got_set {H : AHeap} {l m : Nat} {o : AObj} (h : H[l]? = some o) (hne : l ≠ m) : ∀ (G : AHeap) (x : AObj), ((H ++ G).set m x)[l]? = some o := fun G x => by rw [get_set_ne hne]; exact got h G
theorem got_self {H : AHeap} {m : Nat} {o : AObj} (h : H[m]? = some o) : ∀ (G : AHeap) (x : AObj), ((H ++ G).set m x)[m]? = some x := fun G x => get_set_same (by have := lt_of_get h; simp; omega)
theorem mset_new {es : List (Value × AV)} {key : Value} {v : AV} (h : mget es key = none) : mset es key v = es ++ [(key, v)] := by
 unfold mset
 have : mfind es key = none := by
  unfold mfind
  unfold mget at h
  simp only [Option.map_eq_none_iff, List.find?_eq_none] at h
  rw [List.findIdx?_eq_none_iff]
  intro x hx
  simpa using h x hx
 rw [this]
theorem ksh_s (a : ByteArray) : keyShape (.one .str) (.string a) = true := rfl
/-- objects that are not a book's -/
def otherO : AObj → Bool
 | .box ty _ => ty != 76 && ty != 79
 | .row ty _ _ _ => ty != 77
 | .mp kt _ _ _ => kt != 9 && kt != 92
 | _ => false
def KeepO (H H' : AHeap) : Prop := ∀ (l : Nat) (o : AObj), H[l]? = some o → otherO o = true → H'[l]? = some o
theorem KeepO.app (H G : AHeap) : KeepO H (H ++ G) := fun l o h _ => got h G
theorem KeepO.refl (H : AHeap) : KeepO H H := fun l o h _ => h
theorem KeepO.trans {A B C : AHeap} (h : KeepO A B) (k : KeepO B C) : KeepO A C := fun l o ho hx => k l o (h l o ho hx) hx
theorem KeepO.set {H H' : AHeap} {l : Nat} {o o' : AObj} (h : KeepO H H') (ho : H[l]? = some o) (hx : otherO o = false) : KeepO H (H'.set l o') := fun m x hm hxx => by
 have hne : m ≠ l := fun e => by subst e; rw [ho] at hm; cases hm; rw [hx] at hxx; cases hxx
 rw [get_set_ne hne]
 exact h m x hm hxx
theorem mget_none {es : List (Value × AV)} {key : Value} (h : ∀ p ∈ es, keyEq key p.1 = false) : mget es key = none := by
 unfold mget
 simp only [Option.map_eq_none_iff, List.find?_eq_none]
 intro x hx
 rw [h x hx]; simp
theorem zip_take {α β : Type} {L : List α} {E : List β} {n : Nat} {e : α × β} (h : e ∈ (L.zip E).take n) : e.2 ∈ E.take n := by
 obtain ⟨i, hi, rfl⟩ := List.mem_iff_getElem.1 h
 simp only [List.length_take, List.length_zip] at hi
 rw [List.getElem_take, List.getElem_zip]
 exact List.mem_take_iff_getElem.2 ⟨i, by omega, rfl⟩
set_option maxRecDepth 100000 in
set_option maxHeartbeats 4000000 in
theorem add_fin2 {base : World} {N : Nat} {K : AHeap} {Y : Lay} {B : Bk} (h : BookAt K Y B) {n p sl : Nat} {x : Ent} {s : Stm} (hn : B.ents.length = n + 1) (n1 : Y.n1 = n + 1) (n2 : Y.n2 = n) (n3 : Y.n3 = n) (hp : Y.L[n]? = some ⟨p, none⟩) (hx : B.ents[n]? = some x) (hxs : x.st = s) (hsl : K[sl]? = some (.box 27 (stA s)))
  (hid : ∀ y ∈ B.ents.take n, y.st.id ≠ s.id) (hus : ∀ y ∈ B.ents.take n, ¬ (x.sgn = y.sgn ∧ s.idx = y.st.idx)) :
  (Tryz.f21.body.bind (restC 11)).elim False fun c => AW ⟨Tryz.prog, tt, base, N⟩ c (retA tt [.tmp 4] fun r H' => r = iA 0 ∧ ∃ Y', Y'.bl = Y.bl ∧ Book H' Y' B ∧ KeepO K H')
   (.ptr Y.bl 0 :: .undef :: .undef :: .ptr sl 0 :: iA 0 :: .undef :: .undef :: .undef :: .undef :: .undef :: .undef :: .ptr p 0 :: List.replicate 161 .undef) K := by
 show AW _ _ _ _ _
 have hb := h.book
 have hm := h.byId
 have hu := h.used
 have hLn : Y.L.length = n + 1 := by rw [h.len, hn]
 have hpe : K[p]? = some (.box 79 (entC x (slA none x.next.length))) := (h.ent n _ x hp hx).1
 have hmg : mget (idE Y B) (.string s.id) = none := by
  apply mget_none
  intro q hq
  unfold idE at hq
  obtain ⟨e, he, rfl⟩ := List.mem_map.1 hq
  rw [n2] at he
  have := hid e.2 (zip_take he)
  simp only [keyEq, eqV]
  simpa using fun e => this e.symm
 have hug : mget (usE Y B) (.agg #[.string x.sgn, .int .i64 s.idx]) = none := by
  apply mget_none
  intro q hq
  unfold usE at hq
  obtain ⟨e, he, rfl⟩ := List.mem_map.1 hq
  rw [n3] at he
  have := hus e he
  simp only [keyEq, eqL, eqV]
  simpa using this
 have e1 : idE { Y with n2 := Y.n2 + 1 } B = mset (idE Y B) (.string s.id) (.ptr p 0) := by
  rw [mset_new hmg]
  unfold idE
  simp only [n2]
  have hz : (Y.L.zip B.ents)[n]? = some (⟨p, none⟩, x) := by rw [List.getElem?_zip_eq_some]; exact ⟨hp, hx⟩
  rw [List.take_add_one, hz, List.map_append]
  simp [hxs]
 have h2 := h.addI (H2 := K.set Y.ml (.mp 9 77 (.one .str) (mset (idE Y B) (.string s.id) (.ptr p 0)))) (fun l o ho hne => by rw [get_set_ne hne]; exact ho) (by rw [e1]; exact get_set_same (lt_of_get hm))
 have hb2 := h2.book
 have hu2 := h2.used
 have hpe2 : (K.set Y.ml (.mp 9 77 (.one .str) (mset (idE Y B) (.string s.id) (.ptr p 0))))[p]? = some (.box 79 (entC x (slA none x.next.length))) := (h2.ent n _ x hp hx).1
 have hsl2 : (K.set Y.ml (.mp 9 77 (.one .str) (mset (idE Y B) (.string s.id) (.ptr p 0))))[sl]? = some (.box 27 (stA s)) := by rw [get_set_ne (ne_of_get hsl hm (by simp))]; exact hsl
 have e2 : usE { Y with n2 := Y.n2 + 1, n3 := Y.n3 + 1 } B = mset (usE Y B) (.agg #[.string x.sgn, .int .i64 s.idx]) (bA true) := by
  rw [mset_new hug]
  unfold usE
  simp only [n3]
  rw [List.take_add_one, hx, List.map_append]
  simp [hxs, bA]
 have h3 := h2.addU (H2 := (K.set Y.ml (.mp 9 77 (.one .str) (mset (idE Y B) (.string s.id) (.ptr p 0)))).set Y.ul (.mp 92 4 (.flat [.str, .int .i64]) (mset (usE Y B) (.agg #[.string x.sgn, .int .i64 s.idx]) (bA true)))) (fun l o ho hne => by rw [get_set_ne hne]; exact ho) (by rw [e2]; exact get_set_same (lt_of_get hu2))
 simp only [List.replicate, iA, stA] at hsl hsl2 ⊢
 have l1 := lt_of_get hb
 have l2 := lt_of_get hm
 have l3 := lt_of_get hsl
 have l4 := lt_of_get hpe
 have l5 := lt_of_get hu
 repeat refine aw_seq ?_
 refine aw_draw 7 ttOk mixed (by kernel_rfl) (by kernel_rfl) (by kernel_rfl) ?_
 repeat (refine ahops_cons ?_; first | (apply ahops_o; rfl; simp only [hstep, avs, tts, Nat.reduceAdd, Nat.reduceMul, Nat.reduceSub, Nat.reduceEqDiff, Nat.reduceLT, Nat.reduceLeDiff, Int.reduceToNat, Int.reduceLE, Int.reduceLT, Int.toNat_natCast, reduceCtorEq, hb, hm, hsl, l1, l2, l3, l4, ksh_s] <;> (first | with_reducible rfl | rfl); first | trivial | omega) | (refine ahops_grd rfl (by simp only [avs] <;> rfl) (by rfl) ?_; first | refine hgrd_on ?_ | refine hgrd_off (by simp only [avs] <;> rfl) ?_))
 refine ahops_nil ?_
 repeat (refine aops_cons ?_; first | (apply aops_o; rfl; simp only [estep, avs, tts, Nat.reduceAdd, Nat.reduceMul, Nat.reduceSub, Nat.reduceEqDiff, Nat.reduceLT, Nat.reduceLeDiff, Int.reduceToNat, Int.reduceLE, Int.reduceLT, Int.toNat_natCast, reduceCtorEq, hb, hm, hsl, l1, l2, l3, l4, ksh_s] <;> (first | with_reducible rfl | rfl)) | (refine aops_grd rfl (by simp only [avs] <;> rfl) (by rfl) ?_; first | refine grd_on ?_ | refine grd_off (by simp only [avs] <;> rfl) ?_))
 refine aops_nil ?_
 repeat refine aw_seq ?_
 refine aw_draw 12 ttOk mixed (by kernel_rfl) (by kernel_rfl) (by kernel_rfl) ?_
 repeat (refine ahops_cons ?_; first | (apply ahops_o; rfl; simp only [hstep, avs, tts, Nat.reduceAdd, Nat.reduceMul, Nat.reduceSub, Nat.reduceEqDiff, Nat.reduceLT, Nat.reduceLeDiff, Int.reduceToNat, Int.reduceLE, Int.reduceLT, Int.toNat_natCast, reduceCtorEq, hb2, hu2, hsl2, hpe2, l1, l2, l3, l4, l5, ksh_si, List.length_set, entC] <;> (first | with_reducible rfl | rfl); first | trivial | omega) | (refine ahops_grd rfl (by simp only [avs] <;> rfl) (by rfl) ?_; first | refine hgrd_on ?_ | refine hgrd_off (by simp only [avs] <;> rfl) ?_))
 refine ahops_nil ?_
 repeat (refine aops_cons ?_; first | (apply aops_o; rfl; simp only [estep, avs, tts, Nat.reduceAdd, Nat.reduceMul, Nat.reduceSub, Nat.reduceEqDiff, Nat.reduceLT, Nat.reduceLeDiff, Int.reduceToNat, Int.reduceLE, Int.reduceLT, Int.toNat_natCast, reduceCtorEq, hb2, hu2, hsl2, hpe2, l1, l2, l3, l4, l5, ksh_si, List.length_set, entC] <;> (first | with_reducible rfl | rfl)) | (refine aops_grd rfl (by simp only [avs] <;> rfl) (by rfl) ?_; first | refine grd_on ?_ | refine grd_off (by simp only [avs] <;> rfl) ?_))
 refine aops_nil ?_
 repeat refine aw_seq ?_
 refine aw_region ttOk (by kernel_rfl) ?_
 repeat (refine aops_cons ?_; first | (apply aops_o; rfl; simp only [estep, avs, tts, Nat.reduceAdd, Nat.reduceMul, Nat.reduceSub, Nat.reduceEqDiff, Nat.reduceLT, Nat.reduceLeDiff, Int.reduceToNat, Int.reduceLE, Int.reduceLT, Int.toNat_natCast, reduceCtorEq] <;> (first | with_reducible rfl | rfl)) | (refine aops_grd rfl (by simp only [avs] <;> rfl) (by rfl) ?_; first | refine grd_on ?_ | refine grd_off (by simp only [avs] <;> rfl) ?_))
 refine aops_nil ?_
 refine aw_ret ⟨_, rfl, rfl, { Y with n2 := Y.n2 + 1, n3 := Y.n3 + 1 }, rfl, ⟨h3, ?_, ?_, ?_⟩, ?_⟩
 ·show Y.n1 = _; rw [n1, hn]
 ·show Y.n2 + 1 = _; rw [n2, hn]
 ·show Y.n3 + 1 = _; rw [n3, hn]
 ·exact ((KeepO.refl K).set hm rfl).set hu rfl
end Av
end Go.Proofs.YtnkepmfgmfeabaaGreatDoor
set_option linter.unusedVariables false
set_option linter.unusedSimpArgs false
namespace Go.Proofs.YtnkepmfgmfeabaaGreatDoor
open Go Go.RowKit
namespace Av
attribute [local irreducible] AW AOps AHOps
theorem retA_mono {tt : TTab} {rs : List ResultVar} {R R' : AV → AHeap → Prop} (h : ∀ r H, R r H → R' r H) : ∀ x env H, retA tt rs R x env H → retA tt rs R' x env H := by
 intro x env H hq
 cases x with
 | normal => obtain ⟨r, h1, h2⟩ := hq; exact ⟨r, h1, h _ _ h2⟩
 | ret => obtain ⟨r, h1, h2⟩ := hq; exact ⟨r, h1, h _ _ h2⟩
 | _ => exact hq
set_option maxRecDepth 100000 in
set_option maxHeartbeats 4000000 in
theorem add_fin {base : World} {N : Nat} {K : AHeap} {Y : Lay} {B : Bk} (h : BookAt K Y B) {n p sl : Nat} {x : Ent} {s : Stm} (hn : B.ents.length = n + 1) (n1 : Y.n1 = n) (n2 : Y.n2 = n) (n3 : Y.n3 = n) (hp : Y.L[n]? = some ⟨p, none⟩) (hx : B.ents[n]? = some x) (hxs : x.st = s) (hsl : K[sl]? = some (.box 27 (stA s)))
  (hid : ∀ y ∈ B.ents.take n, y.st.id ≠ s.id) (hus : ∀ y ∈ B.ents.take n, ¬ (x.sgn = y.sgn ∧ s.idx = y.st.idx)) (hn6 : n ≤ 1000000) :
  (Tryz.f21.body.bind (restC 10)).elim False fun c => AW ⟨Tryz.prog, tt, base, N⟩ c (retA tt [.tmp 4] fun r H' => r = iA 0 ∧ ∃ Y', Y'.bl = Y.bl ∧ Book H' Y' B ∧ KeepO K H')
   (.ptr Y.bl 0 :: .undef :: .undef :: .ptr sl 0 :: iA 0 :: .undef :: .undef :: .undef :: .undef :: .undef :: .undef :: .ptr p 0 :: List.replicate 161 .undef) K := by
 show AW _ _ _ _ _
 have hb := h.book
 rw [n1] at hb
 have hb' := got hb
 have hLn : Y.L.length = n + 1 := by rw [h.len, hn]
 have hord := h.ord
 have hL1 : (Y.L.take (n + 1)).map (fun e : ELay => [AV.ptr e.b 0]) = (Y.L.take n).map (fun e : ELay => [AV.ptr e.b 0]) ++ [[AV.ptr p 0]] := by
  rw [List.take_add_one, hp, List.map_append]; rfl
 have hLt : ((Y.L.take n).map fun e : ELay => [AV.ptr e.b 0]).length = n := by rw [List.length_map, List.length_take]; omega
 simp only [List.replicate, iA]
 rcases hod : Y.od with _ | ⟨ol, ov⟩
 ·rw [hod] at hord hb hb'
  have hn0 : n = 0 := by
   have : (Y.L.take n).map (fun e : ELay => [AV.ptr e.b 0]) = [] := by rw [n1] at hord; exact hord
   rw [← hLt, this]; rfl
  repeat refine aw_seq ?_
  refine aw_region ttOk (by kernel_rfl) ?_
  repeat (refine aops_cons ?_; first | (apply aops_o; rfl; simp only [estep, avs, tts, Nat.reduceAdd, Nat.reduceMul, Nat.reduceSub, Nat.reduceEqDiff, Nat.reduceLT, Nat.reduceLeDiff, Int.reduceToNat, Int.reduceLE, Int.reduceLT, Int.toNat_natCast, reduceCtorEq, hb, hb', slA, nilS] <;> (first | with_reducible rfl | rfl)) | (refine aops_grd rfl (by simp only [avs] <;> rfl) (by rfl) ?_; first | refine grd_on ?_ | refine grd_off (by simp only [avs] <;> rfl) ?_))
  refine aops_nil ?_
  refine aw_goes (env' := .ptr Y.bl 0 :: .undef :: .undef :: .ptr sl 0 :: iA 0 :: .undef :: .undef :: .undef :: .undef :: .undef :: .undef :: .ptr p 0 :: List.replicate 161 .undef) (H' := (K ++ [AObj.row 77 1 0 [[AV.ptr p 0]], AObj.row 77 1 0 [[AV.ptr p 0]]]).set Y.bl (AObj.box 76 [.d (.v (.string B.issuer)), .ms (K.length + 1) 0 1, .mp Y.ml, .mp Y.ul])) ⟨by simp [EnvLe, List.replicate, iA], .inl rfl⟩ ?_
  have h3 : BookAt ((K ++ [AObj.row 77 1 0 [[AV.ptr p 0]], AObj.row 77 1 0 [[AV.ptr p 0]]]).set Y.bl (AObj.box 76 [.d (.v (.string B.issuer)), .ms (K.length + 1) 0 1, .mp Y.ml, .mp Y.ul])) { Y with od := some (K.length + 1, 0), n1 := Y.n1 + 1 } B := by
   refine h.addO (fun l o ho h1 _ => by rw [get_set_ne h1]; exact got ho _) (by rw [n1, hn0]; exact got_self hb _ _) ?_ (.inr ⟨_, rfl, by simp⟩)
   show _ = _
   rw [n1, hL1, get_set_ne (by have := lt_of_get hb; show K.length + 1 ≠ Y.bl; omega), H_get]
   rw [n1] at hord
   rw [show (Y.L.take n).map (fun e : ELay => [AV.ptr e.b 0]) = [] from hord]
   rfl
  have h4 := add_fin2 (base := base) (N := N) h3 (n := n) (sl := sl) (s := s) hn (by show Y.n1 + 1 = _; rw [n1]) n2 n3 hp hx hxs (by rw [get_set_ne (ne_of_get hsl hb (by simp))]; exact got hsl _) hid hus
  exact AW.mono h4 (retA_mono fun r H' ⟨q1, Y', q2, q3, q4⟩ => ⟨q1, Y', q2, q3, ((KeepO.app K _).set hb rfl).trans q4⟩)
 ·rw [hod] at hord hb hb'
  have hro : K[ol]? = some (.row 77 1 ov ((Y.L.take n).map fun e : ELay => [AV.ptr e.b 0])) := by rw [n1] at hord; exact hord
  have hro' := got hro
  have hbs := got_set hb (ne_of_get hb hro (by simp))
  have b1 : n ≤ 9223372036854775806 := by omega
  have b2 : (n + 1) * 8 ≤ 140737488355328 := by omega
  repeat refine aw_seq ?_
  refine aw_region ttOk (by kernel_rfl) ?_
  repeat (refine aops_cons ?_; first | (apply aops_o; rfl; simp only [estep, avs, tts, Nat.reduceAdd, Nat.reduceMul, Nat.reduceSub, Nat.reduceEqDiff, Nat.reduceLT, Nat.reduceLeDiff, Int.reduceToNat, Int.reduceLE, Int.reduceLT, Int.toNat_natCast, reduceCtorEq, hb, hb', hbs, hro', slA, hLt, b1, b2] <;> (first | with_reducible rfl | rfl)) | (refine aops_grd rfl (by simp only [avs] <;> rfl) (by rfl) ?_; first | refine grd_on ?_ | refine grd_off (by simp only [avs] <;> rfl) ?_))
  refine aops_nil ?_
  refine aw_goes (env' := .ptr Y.bl 0 :: .undef :: .undef :: .ptr sl 0 :: iA 0 :: .undef :: .undef :: .undef :: .undef :: .undef :: .undef :: .ptr p 0 :: List.replicate 161 .undef) (H' := ((K ++ [AObj.row 77 1 0 [[AV.ptr p 0]]]).set ol (AObj.row 77 1 ov ((Y.L.take n).map (fun e : ELay => [AV.ptr e.b 0]) ++ [[AV.ptr p 0]]))).set Y.bl (.box 76 [.d (.v (.string B.issuer)), .ms ol ov (n + 1), .mp Y.ml, .mp Y.ul])) ⟨by simp [EnvLe, List.replicate, iA], .inl rfl⟩ ?_
  have hne : ol ≠ Y.bl := ne_of_get hro hb (by simp)
  have h3 : BookAt (((K ++ [AObj.row 77 1 0 [[AV.ptr p 0]]]).set ol (AObj.row 77 1 ov ((Y.L.take n).map (fun e : ELay => [AV.ptr e.b 0]) ++ [[AV.ptr p 0]]))).set Y.bl (.box 76 [.d (.v (.string B.issuer)), .ms ol ov (n + 1), .mp Y.ml, .mp Y.ul])) { Y with od := some (ol, ov), n1 := Y.n1 + 1 } B := by
   refine h.addO (fun l o ho h1 h2 => by rw [get_set_ne h1, get_set_ne (h2 _ hod)]; exact got ho _) (by rw [n1]; exact get_set_same (by have := lt_of_get hb; simp; omega)) ?_ (.inl hod.symm)
   show _ = _
   rw [n1, hL1, get_set_ne hne]
   exact got_self hro _ _
  have h4 := add_fin2 (base := base) (N := N) h3 (n := n) (sl := sl) (s := s) hn (by show Y.n1 + 1 = _; rw [n1]) n2 n3 hp hx hxs (by rw [get_set_ne (ne_of_get hsl hb (by simp)), get_set_ne (ne_of_get hsl hro (by simp))]; exact got hsl _) hid hus
  exact AW.mono h4 (retA_mono fun r H' ⟨q1, Y', q2, q3, q4⟩ => ⟨q1, Y', q2, q3, (((KeepO.app K _).set hro rfl).set hb rfl).trans q4⟩)
end Av
end Go.Proofs.YtnkepmfgmfeabaaGreatDoor
set_option linter.unusedVariables false
set_option linter.unusedSimpArgs false
namespace Go.Proofs.YtnkepmfgmfeabaaGreatDoor
open Go Go.RowKit
namespace Av

/-! Add, behind the checks: the new entry, what is left of its inputs. -/
theorem BookAt.on {H H2 : AHeap} {Y : Lay} {B : Bk} (h : BookAt H Y B) (hs : ∀ (l : Nat) (o : AObj), H[l]? = some o → H2[l]? = some o) : BookAt H2 Y B :=
 ⟨h.len, hs _ _ h.book, h.ord.on fun a _ o ho => hs _ o ho, hs _ _ h.byId, hs _ _ h.used, fun i e x he hx => ⟨hs _ _ (h.ent i e x he hx).1, (h.ent i e x he hx).2.1.on fun a _ o ho => hs _ o ho, (h.ent i e x he hx).2.2⟩, h.dbox, h.drow, h.dord⟩
theorem Book.on {H H2 : AHeap} {Y : Lay} {B : Bk} (h : Book H Y B) (hs : ∀ (l : Nat) (o : AObj), H[l]? = some o → H2[l]? = some o) : Book H2 Y B := ⟨h.toBookAt.on hs, h.n1, h.n2, h.n3⟩
theorem CandAt.on {H H2 : AHeap} {cl : Nat} {Y : Lay} {B : Bk} {s : Stm} {ins : List Nat} {od : OR} (h : CandAt H cl Y B s ins od) (hs : ∀ (l : Nat) (o : AObj), H[l]? = some o → H2[l]? = some o) : CandAt H2 cl Y B s ins od :=
 ⟨hs _ _ h.box, h.row.on fun a _ o ho => hs _ o ho, h.lt⟩
def takeE (n : Nat) (E : List Ent) (p : Nat × Int) : List Ent := match E[p.1]? with
 | none => E
 | some x => E.set p.1 { x with left := x.left - p.2, next := x.next ++ [n] }
def newE (B : Bk) (s : Stm) (ins : List Nat) : Ent := ⟨s, s.q, signerR B ins, false, []⟩
/-- the entries, when k inputs have been taken off -/
def offE (B : Bk) (s : Stm) (ins : List Nat) (k : Nat) : List Ent := ((ins.zip (s.inputs.map (·.2))).take k).foldl (takeE B.ents.length) (B.ents ++ [newE B s ins])
def finalB (B : Bk) (s : Stm) (ins : List Nat) : Bk := { B with ents := offE B s ins (ins.zip (s.inputs.map (·.2))).length }
theorem takeE_some {n : Nat} {E : List Ent} {p : Nat × Int} {x : Ent} (h : E[p.1]? = some x) : takeE n E p = E.set p.1 { x with left := x.left - p.2, next := x.next ++ [n] } := by unfold takeE; rw [h]
/-- but for what is left and what follows, the entries are the same -/
def Alike (E E' : List Ent) : Prop := E'.length = E.length ∧ ∀ (i : Nat) x, E[i]? = some x → ∃ l nx, E'[i]? = some { x with left := l, next := nx }
theorem Alike.refl (E : List Ent) : Alike E E := ⟨rfl, fun i x h => ⟨x.left, x.next, h⟩⟩
theorem Alike.trans {A B C : List Ent} (h : Alike A B) (k : Alike B C) : Alike A C := ⟨k.1.trans h.1, fun i x hx => by
 obtain ⟨l, nx, h1⟩ := h.2 i x hx
 obtain ⟨l', nx', h2⟩ := k.2 i _ h1
 exact ⟨l', nx', h2⟩⟩
theorem takeE_alike (n : Nat) (E : List Ent) (p : Nat × Int) : Alike E (takeE n E p) := by
 unfold takeE
 split
 ·exact .refl E
 ·rename_i x hx
  refine ⟨by simp, fun i y hy => ?_⟩
  by_cases e : p.1 = i
  ·subst e
   rw [hx] at hy; cases hy
   exact ⟨_, _, List.getElem?_set_self (List.getElem?_eq_some_iff.1 hx).1⟩
  ·exact ⟨y.left, y.next, by rw [List.getElem?_set_ne e]; exact hy⟩
theorem fold_alike (n : Nat) : ∀ (l : List (Nat × Int)) (E : List Ent), Alike E (l.foldl (takeE n) E)
 | [], E => .refl E
 | p :: l, E => (takeE_alike n E p).trans (fold_alike n l _)
theorem fold_at (n m : Nat) : ∀ (l : List (Nat × Int)) (E : List Ent), (∀ p ∈ l, p.1 ≠ m) → (l.foldl (takeE n) E)[m]? = E[m]?
 | [], E, _ => rfl
 | p :: l, E, h => by
  rw [List.foldl_cons, fold_at n m l _ fun q hq => h q (by simp [hq])]
  unfold takeE
  split
  ·rfl
  ·rw [List.getElem?_set_ne (h p (by simp))]
theorem takeE_mem {n : Nat} {E : List Ent} {p : Nat × Int} {y : Ent} (h : y ∈ takeE n E p) : y ∈ E ∨ ∃ x ∈ E, y = { x with left := x.left - p.2, next := x.next ++ [n] } := by
 unfold takeE at h
 split at h
 ·exact .inl h
 ·rename_i x hx
  rcases List.mem_or_eq_of_mem_set h with h | h
  ·exact .inl h
  ·exact .inr ⟨x, List.mem_of_getElem? hx, h⟩
theorem fold_next (n a : Nat) : ∀ (l : List (Nat × Int)) (E : List Ent), (∀ y ∈ E, y.next.length ≤ a) → ∀ y ∈ l.foldl (takeE n) E, y.next.length ≤ a + l.length := by
 intro l
 induction l generalizing a with
 | nil => exact fun E h y hy => h y hy
 | cons p l ih =>
  intro E h y hy
  have := ih (a + 1) (takeE n E p) (fun z hz => by
   rcases takeE_mem hz with hz | ⟨x, hx, rfl⟩
   ·have := h z hz; omega
   ·have := h x hx; simp; omega) y hy
  simp only [List.length_cons]; omega
theorem fold_left (n : Nat) (a b c : Int) (hc : 0 ≤ c) : ∀ (l : List (Nat × Int)) (E : List Ent), (∀ p ∈ l, 0 ≤ p.2 ∧ p.2 ≤ c) → (∀ y ∈ E, a ≤ y.left ∧ y.left ≤ b) → ∀ y ∈ l.foldl (takeE n) E, a - c * l.length ≤ y.left ∧ y.left ≤ b := by
 intro l
 induction l generalizing a with
 | nil => exact fun E _ h y hy => by have := h y hy; simpa using this
 | cons p l ih =>
  intro E hp h y hy
  have hp0 := hp p (by simp)
  have := ih (a - c) (takeE n E p) (fun q hq => hp q (by simp [hq])) (fun z hz => by
   rcases takeE_mem hz with hz | ⟨x, hx, rfl⟩
   ·have := h z hz; omega
   ·have := h x hx; simp only; omega) y hy
  have e : c * ((p :: l).length : Int) = c + c * (l.length : Int) := by
   rw [List.length_cons, Int.natCast_succ, Int.mul_add, Int.mul_one, Int.add_comm]
  rw [e]; omega
theorem offE_succ {B : Bk} {s : Stm} {ins : List Nat} {k : Nat} {j : Nat} {q : Int} (hj : ins[k]? = some j) (hq : (s.inputs.map (·.2))[k]? = some q) : offE B s ins (k + 1) = takeE B.ents.length (offE B s ins k) (j, q) := by
 unfold offE
 rw [List.take_add_one, List.getElem?_zip_eq_some (z := (j, q)) |>.2 ⟨hj, hq⟩, List.foldl_append]
 rfl
theorem offE_alike (B : Bk) (s : Stm) (ins : List Nat) (k : Nat) : Alike (B.ents ++ [newE B s ins]) (offE B s ins k) := fold_alike _ _ _
end Av
end Go.Proofs.YtnkepmfgmfeabaaGreatDoor
set_option linter.unusedVariables false
set_option linter.unusedSimpArgs false
namespace Go.Proofs.YtnkepmfgmfeabaaGreatDoor
open Go Go.RowKit
namespace Av
attribute [local irreducible] AW AOps AHOps

/-- one input taken off: its entry's box and its row of followers -/
theorem off_put {H' H3 : AHeap} {Y2 : Lay} {B2 : Bk} {j n p : Nat} {e : ELay} {x x' : Ent} {row' : OR} (h : BookAt H' Y2 B2) (he : Y2.L[j]? = some e) (hx : B2.ents[j]? = some x) (hst : x'.st = x.st) (hsg : x'.sgn = x.sgn) (hnx : x'.next = x.next ++ [n]) (hjn : j < n) (hnl : n < Y2.L.length) (hep : Y2.eb n = p)
  (hsame : ∀ l o, H'[l]? = some o → l ≠ e.b → (∀ a, e.row = some a → l ≠ a.1) → H3[l]? = some o) (hbox : H3[e.b]? = some (.box 79 (entC x' (slA row' x'.next.length)))) (hrow : RowAt H3 row' ((x.next.map fun j => [.ptr (Y2.eb j) 0]) ++ [[.ptr p 0]])) (hnew : row' = e.row ∨ ∃ a, row' = some a ∧ H'.length ≤ a.1) :
  BookAt H3 (Y2.put j ⟨e.b, row'⟩) { B2 with ents := B2.ents.set j x' } := by
 refine h.upd he hx hst hsg hsame hbox ?_ (fun i hi => ?_) hnew
 ·rw [hnx, List.map_append]
  simpa [hep] using hrow
 ·rw [hnx] at hi
  rcases List.mem_append.1 hi with hi | hi
  ·exact (h.ent j e x he hx).2.2 i hi
  ·simp at hi; subst hi; exact ⟨hjn, hnl⟩
/-- the state at the head of a round -/
structure OffAt (H K1 : AHeap) (Y Y1 : Lay) (B : Bk) (s : Stm) (ins : List Nat) (p k : Nat) (Y2 : Lay) (H' : AHeap) : Prop where
 bk : BookAt H' Y2 { B with ents := offE B s ins k }
 bl : Y2.bl = Y.bl
 n1 : Y2.n1 = B.ents.length
 n2 : Y2.n2 = B.ents.length
 n3 : Y2.n3 = B.ents.length
 eb : ∀ j, Y2.eb j = Y1.eb j
 last : Y2.L[B.ents.length]? = some ⟨p, none⟩
 rows : ∀ (j : Nat) e, Y2.L[j]? = some e → ∀ a, e.row = some a → a.1 < H.length ∨ K1.length ≤ a.1
 len : K1.length ≤ H'.length
 keep : ∀ (l : Nat) (o : AObj), K1[l]? = some o → (l < H.length → otherO o = true) → l ≠ p → H'[l]? = some o
set_option maxRecDepth 100000 in
set_option maxHeartbeats 4000000 in
theorem add_end {base : World} {N : Nat} {H K : AHeap} {Y : Lay} {B : Bk} {s : Stm} {ins : List Nat} {cl sl : Nat} {od : OR} (h : Book H Y B) {G0 : AHeap} (hK : K = H ++ G0) (hc : CandAt K cl Y B s ins od) (hsl : K[sl]? = some (.box 27 (stA s))) (hod : ∀ a, od = some a → H.length ≤ a.1)
  (hsl0 : H.length ≤ sl) (hcl0 : H.length ≤ cl) (hil : ins.length = s.inputs.length) (hid : ∀ y ∈ B.ents, y.st.id ≠ s.id) (hus : usedB B (signerR B ins) s.idx = false) (hn : B.ents.length ≤ 1000000) (hli : ins.length ≤ 1000000) (hnx : ∀ x ∈ B.ents, x.next.length ≤ 1000000)
  (hl : ∀ x ∈ B.ents, -1000000000000000000 ≤ x.left ∧ x.left ≤ 1000000000000000000) (hq : 0 ≤ s.q ∧ s.q ≤ 1000000000) (hqi : ∀ y ∈ s.inputs, 0 ≤ y.2 ∧ y.2 ≤ 1000000000) :
  (Tryz.f21.body.bind (restC 8)).elim False fun c => AW ⟨Tryz.prog, tt, base, N⟩ c (retA tt [.tmp 4] fun r H' => r = iA 0 ∧ ∃ Y', Y'.bl = Y.bl ∧ Book H' Y' (finalB B s ins) ∧ KeepO H H')
   (.ptr Y.bl 0 :: .undef :: .undef :: .ptr sl 0 :: iA 0 :: .ptr cl 0 :: List.replicate 167 .undef) K := by
 show AW _ _ _ _ _
 have hbk : Book K Y B := by rw [hK]; exact h.app G0
 have hb := hc.box
 have m1 := lt_of_get hb
 have m2 := lt_of_get hsl
 have hsl' := hsl
 simp only [stA] at hsl'
 simp only [List.replicate, iA]
 repeat refine aw_seq ?_
 refine aw_draw 8 ttOk mixed (by kernel_rfl) (by kernel_rfl) (by kernel_rfl) ?_
 repeat (refine ahops_cons ?_; first | (apply ahops_o; rfl; simp only [hstep, avs, tts, Nat.reduceAdd, Nat.reduceMul, Nat.reduceSub, Nat.reduceEqDiff, Nat.reduceLT, Nat.reduceLeDiff, Int.reduceToNat, Int.reduceLE, Int.reduceLT, Int.toNat_natCast, reduceCtorEq, hsl', hb, m1, m2] <;> (first | with_reducible rfl | rfl); first | trivial | omega) | (refine ahops_grd rfl (by simp only [avs] <;> rfl) (by rfl) ?_; first | refine hgrd_on ?_ | refine hgrd_off (by simp only [avs] <;> rfl) ?_))
 refine ahops_read rfl (by simp only [avs] <;> rfl) (fun Hx hx => signer_a (hbk.on fun l o ho => by rw [hx l (.inl (lt_of_get ho))]; exact ho) (hc.on fun l o ho => by rw [hx l (.inl (lt_of_get ho))]; exact ho) hli) (by simp [AV.bel]) (by simp only [avs] <;> rfl) ?_
 repeat (refine ahops_cons ?_; first | (apply ahops_o; rfl; simp only [hstep, avs, tts, Nat.reduceAdd, Nat.reduceMul, Nat.reduceSub, Nat.reduceEqDiff, Nat.reduceLT, Nat.reduceLeDiff, Int.reduceToNat, Int.reduceLE, Int.reduceLT, Int.toNat_natCast, reduceCtorEq, hsl', hb, m1, m2, strsP, inpsP] <;> (first | with_reducible rfl | rfl); first | trivial | omega) | (refine ahops_grd rfl (by simp only [avs] <;> rfl) (by rfl) ?_; first | refine hgrd_on ?_ | refine hgrd_off (by simp only [avs] <;> rfl) ?_))
 refine ahops_nil ?_
 repeat (refine aops_cons ?_; first | (apply aops_o; rfl; simp only [estep, avs, tts, Nat.reduceAdd, Nat.reduceMul, Nat.reduceSub, Nat.reduceEqDiff, Nat.reduceLT, Nat.reduceLeDiff, Int.reduceToNat, Int.reduceLE, Int.reduceLT, Int.toNat_natCast, reduceCtorEq] <;> (first | with_reducible rfl | rfl)) | (refine aops_grd rfl (by simp only [avs] <;> rfl) (by rfl) ?_; first | refine grd_on ?_ | refine grd_off (by simp only [avs] <;> rfl) ?_))
 refine aops_nil ?_
 have hx0 : BookAt (K ++ [AObj.box 79 (entC (newE B s ins) nilS)]) { Y with L := Y.L ++ [⟨K.length, none⟩] } { B with ents := B.ents ++ [newE B s ins] } :=
  hbk.toBookAt.addE rfl (Nat.le_refl _) (fun l o ho => got ho _) (H_get0 _ _) (by rw [hbk.n1, hbk.len]; exact Nat.le_refl _) (by rw [hbk.n2, hbk.len]; exact Nat.le_refl _) (by rw [hbk.n3, hbk.len]; exact Nat.le_refl _)
 refine aw_goes (env' := .ptr Y.bl 0 :: .undef :: .undef :: .ptr sl 0 :: iA 0 :: .ptr cl 0 :: .undef :: .undef :: .undef :: .undef :: .undef :: .ptr K.length 0 :: List.replicate 161 .undef) (H' := K ++ [.box 79 (entC (newE B s ins) nilS)]) ⟨by simp [EnvLe, List.replicate, iA], .inl rfl⟩ ?_
 have hK1 : ∀ (l : Nat) (o : AObj), K[l]? = some o → (K ++ [AObj.box 79 (entC (newE B s ins) nilS)])[l]? = some o := fun l o ho => got ho _
 have hlen1 : (K ++ [AObj.box 79 (entC (newE B s ins) nilS)]).length = K.length + 1 := by simp
 have hHK : H.length ≤ K.length := by rw [hK]; simp
 have hHo : ∀ (l : Nat) (o : AObj), H[l]? = some o → K[l]? = some o := fun l o ho => by rw [hK]; exact got ho _
 generalize hp : K.length = p at hx0 hlen1 ⊢
 generalize K ++ [AObj.box 79 (entC (newE B s ins) nilS)] = K1 at hx0 hK1 hlen1 ⊢
 rw [hp] at hHK
 have hcb := hK1 _ _ hb
 have hLn : Y.L.length = B.ents.length := h.len
 have hBn : ∀ k, (offE B s ins k).length = B.ents.length + 1 := fun k => by rw [(offE_alike B s ins k).1]; simp
 have hinl : ∀ pr ∈ ins.zip (s.inputs.map (·.2)), pr.1 < B.ents.length := fun pr hpr => hc.lt _ (List.of_mem_zip hpr).1
 have hlast : ∀ k, (offE B s ins k)[B.ents.length]? = some (newE B s ins) := fun k => by
  unfold offE
  rw [fold_at _ _ _ _ fun q hq => by have := hinl q (List.mem_of_mem_take hq); omega]
  simp
 -- the end
 have fin : ∀ (H' : AHeap) (Y2 : Lay) (k : Nat), OffAt H K1 Y { Y with L := Y.L ++ [⟨p, none⟩] } B s ins p k Y2 H' → offE B s ins k = (finalB B s ins).ents →
   (Tryz.f21.body.bind (restC 10)).elim False fun c => AW ⟨Tryz.prog, tt, base, N⟩ c (retA tt [.tmp 4] fun r H' => r = iA 0 ∧ ∃ Y', Y'.bl = Y.bl ∧ Book H' Y' (finalB B s ins) ∧ KeepO H H')
   (.ptr Y.bl 0 :: .undef :: .undef :: .ptr sl 0 :: iA 0 :: .undef :: .undef :: .undef :: .undef :: .undef :: .undef :: .ptr p 0 :: List.replicate 161 .undef) H' := by
  intro H' Y2 k ho hk
  have hal := offE_alike B s ins k
  have hold : ∀ y ∈ (offE B s ins k).take B.ents.length, ∃ x ∈ B.ents, y.st = x.st ∧ y.sgn = x.sgn := fun y hy => by
   obtain ⟨i, hi, rfl⟩ := List.mem_iff_getElem.1 hy
   simp only [List.length_take] at hi
   have hi1 : i < B.ents.length := by omega
   obtain ⟨l, nx, h1⟩ := hal.2 i B.ents[i] (by rw [List.getElem?_append_left hi1, List.getElem?_eq_getElem hi1])
   rw [List.getElem_take]
   rw [List.getElem?_eq_getElem (by rw [hBn]; omega)] at h1
   rw [Option.some.inj h1]
   exact ⟨_, List.getElem_mem hi1, rfl, rfl⟩
  have hslp : sl ≠ p := fun e => by rw [e, ← hp] at m2; omega
  have h4 := add_fin (base := base) (N := N) ho.bk (n := B.ents.length) (p := p) (sl := sl) (s := s) (x := newE B s ins) (hBn k) ho.n1 ho.n2 ho.n3 ho.last (hlast k) rfl (ho.keep _ _ (hK1 _ _ hsl) (fun hlt => by omega) hslp)
   (fun y hy => by obtain ⟨x, hx, e1, _⟩ := hold y hy; rw [e1]; exact hid x hx)
   (fun y hy ⟨q1, q2⟩ => by
    obtain ⟨x, hx, e1, e2⟩ := hold y hy
    have : usedB B (signerR B ins) s.idx = true := by
     unfold usedB
     rw [List.any_eq_true]
     exact ⟨x, hx, by rw [← e2, ← e1, ← q1, q2]; simp [newE]⟩
    rw [hus] at this; cases this) hn
  rw [ho.bl] at h4
  refine AW.mono h4 (retA_mono fun r H'' ⟨q1, Y', q2, q3, q4⟩ => ⟨q1, Y', q2, ?_, fun l o hl hx => q4 l o (ho.keep l o (hK1 _ _ (hHo _ _ hl)) (fun _ => hx) fun e => ?_) hx⟩)
  ·rw [hk] at q3; exact q3
  ·have := lt_of_get hl; omega
 have hO0 : OffAt H K1 Y { Y with L := Y.L ++ [⟨p, none⟩] } B s ins p 0 { Y with L := Y.L ++ [⟨p, none⟩] } K1 := by
  refine ⟨hx0, rfl, h.n1, h.n2, h.n3, fun _ => rfl, by simp [← hLn], fun j e he a ha => ?_, Nat.le_refl _, fun l o ho _ _ => ho⟩
  rcases snoc_get he with he | ⟨_, rfl⟩
  ·obtain ⟨x, hx⟩ : ∃ x, B.ents[j]? = some x := ⟨_, List.getElem?_eq_getElem (by rw [← hLn]; exact (List.getElem?_eq_some_iff.1 he).1)⟩
   have h5 := (h.ent j e x he hx).2.1
   rw [ha] at h5
   exact .inl (lt_of_get (show H[a.1]? = _ from h5))
  ·cases ha
 simp only [List.replicate, iA]
 rcases od with _ | ⟨ol, ov⟩
 ·have hE : ins = [] := by simpa [RowAt] using hc.row
  repeat refine aw_seq ?_
  refine aw_region ttOk (by kernel_rfl) ?_
  repeat (refine aops_cons ?_; first | (apply aops_o; rfl; simp only [estep, avs, tts, Nat.reduceAdd, Nat.reduceMul, Nat.reduceSub, Nat.reduceEqDiff, Nat.reduceLT, Nat.reduceLeDiff, Int.reduceToNat, Int.reduceLE, Int.reduceLT, Int.toNat_natCast, reduceCtorEq, hcb, slA, nilS] <;> (first | with_reducible rfl | rfl)) | (refine aops_grd rfl (by simp only [avs] <;> rfl) (by rfl) ?_; first | refine grd_on ?_ | refine grd_off (by simp only [avs] <;> rfl) ?_))
  refine aops_nil ?_
  refine aw_block (aw_loop (fun m env H' => m = 0 ∧ H' = K1 ∧ env = .ptr Y.bl 0 :: .undef :: .undef :: .ptr sl 0 :: iA 0 :: .undef :: .undef :: .undef :: .undef :: .undef :: .undef :: .ptr p 0 :: List.replicate 102 .undef ++ iA 0 :: iA 0 :: List.replicate 57 .undef) ?_ ⟨rfl, rfl, rfl⟩ ?_)
  ·simp [Goes, EnvLe, iA, List.replicate]
  rintro m env H' ⟨rfl, rfl, rfl⟩ hN
  simp only [List.replicate, List.cons_append, List.nil_append, iA]
  repeat refine aw_seq ?_
  refine aw_region ttOk (by kernel_rfl) ?_
  repeat (refine aops_cons ?_; first | (apply aops_o; rfl; simp only [estep, avs, tts, Nat.reduceAdd, Nat.reduceMul, Nat.reduceSub, Nat.reduceEqDiff, Nat.reduceLT, Nat.reduceLeDiff, Int.reduceToNat, Int.reduceLE, Int.reduceLT, Int.toNat_natCast, reduceCtorEq] <;> (first | with_reducible rfl | rfl)) | (refine aops_grd rfl (by simp only [avs] <;> rfl) (by rfl) ?_; first | refine grd_on ?_ | refine grd_off (by simp only [avs] <;> rfl) ?_))
  refine aops_nil ?_
  repeat refine aw_seq ?_
  refine aw_cond rfl rfl (fun hb => ?_) fun hb => ?_
  ·cases hb
  refine aw_exit ?_
  refine aw_goes (env' := .ptr Y.bl 0 :: .undef :: .undef :: .ptr sl 0 :: iA 0 :: .undef :: .undef :: .undef :: .undef :: .undef :: .undef :: .ptr p 0 :: List.replicate 161 .undef) (H' := _) ⟨by simp [EnvLe, List.replicate, iA], .inl rfl⟩ ?_
  exact fin _ _ 0 hO0 (by rw [hE]; rfl)
 have hro : K1[ol]? = some (.row 77 1 ov (ins.map fun j => [.ptr (Y.eb j) 0])) := hK1 _ _ hc.row
 have hol0 : H.length ≤ ol := hod _ rfl
 have holp : ol ≠ p := fun e => by have := lt_of_get hc.row; rw [hp] at this; omega
 have hslp : sl ≠ p := fun e => by rw [e, ← hp] at m2; omega
 repeat refine aw_seq ?_
 refine aw_region ttOk (by kernel_rfl) ?_
 repeat (refine aops_cons ?_; first | (apply aops_o; rfl; simp only [estep, avs, tts, Nat.reduceAdd, Nat.reduceMul, Nat.reduceSub, Nat.reduceEqDiff, Nat.reduceLT, Nat.reduceLeDiff, Int.reduceToNat, Int.reduceLE, Int.reduceLT, Int.toNat_natCast, reduceCtorEq, hcb, hro, slA] <;> (first | with_reducible rfl | rfl)) | (refine aops_grd rfl (by simp only [avs] <;> rfl) (by rfl) ?_; first | refine grd_on ?_ | refine grd_off (by simp only [avs] <;> rfl) ?_))
 refine aops_nil ?_
 refine aw_block (aw_loop (fun m env H' => ∃ k Y2, m = ins.length - k ∧ k ≤ ins.length ∧ OffAt H K1 Y { Y with L := Y.L ++ [⟨p, none⟩] } B s ins p k Y2 H' ∧ env = .ptr Y.bl 0 :: .undef :: .undef :: .ptr sl 0 :: iA 0 :: .undef :: .undef :: .undef :: .undef :: .undef :: .undef :: .ptr p 0 :: List.replicate 101 .undef ++ .ms ol ov ins.length :: iA ins.length :: iA k :: List.replicate 57 .undef) ?_ ⟨0, _, rfl, Nat.zero_le _, hO0, rfl⟩ ?_)
 ·simp [Goes, EnvLe, iA, List.replicate]
 rintro m env H' ⟨k, Y2, rfl, hk, ho, rfl⟩ hN
 simp only [List.replicate, List.cons_append, List.nil_append, iA]
 repeat refine aw_seq ?_
 refine aw_region ttOk (by kernel_rfl) ?_
 repeat (refine aops_cons ?_; first | (apply aops_o; rfl; simp only [estep, avs, tts, Nat.reduceAdd, Nat.reduceMul, Nat.reduceSub, Nat.reduceEqDiff, Nat.reduceLT, Nat.reduceLeDiff, Int.reduceToNat, Int.reduceLE, Int.reduceLT, Int.toNat_natCast, reduceCtorEq] <;> (first | with_reducible rfl | rfl)) | (refine aops_grd rfl (by simp only [avs] <;> rfl) (by rfl) ?_; first | refine grd_on ?_ | refine grd_off (by simp only [avs] <;> rfl) ?_))
 refine aops_nil ?_
 repeat refine aw_seq ?_
 refine aw_cond rfl rfl (fun hb => ?_) fun hb => ?_
 ·have hlt : k < ins.length := by simpa using hb
  have hlt2 : k < s.inputs.length := by omega
  have hix : (0 : Int) ≤ (k : Int) := by omega
  obtain ⟨j, hj⟩ : ∃ j, ins[k]? = some j := ⟨_, List.getElem?_eq_getElem hlt⟩
  have hjn : j < B.ents.length := hc.lt _ (List.mem_of_getElem? hj)
  have hgd : (ins.map fun j => [AV.ptr (Y.eb j) 0]).getD k [] = [.ptr (Y.eb j) 0] := by simp [List.getD, hj]
  have hgd2 : (s.inputs.map fun x => [PD.v (.string x.1), PD.v (.int .i64 x.2)]).getD k [] = [.v (.string s.inputs[k].1), .v (.int .i64 s.inputs[k].2)] := by simp [hlt2]
  obtain ⟨x, hx⟩ : ∃ x, (offE B s ins k)[j]? = some x := ⟨_, List.getElem?_eq_getElem (by rw [hBn]; omega)⟩
  obtain ⟨e, he, heb⟩ := ho.bk.lay (i := j) (x := x) hx
  have heb1 : e.b = Y.eb j := by rw [← heb, ho.eb, eb_snoc (by rw [hLn]; exact hjn)]
  have hE := ho.bk.ent j e x he hx
  have hbx := hE.1
  rw [heb1] at hbx
  have hro' : H'[ol]? = some (.row 77 1 ov (ins.map fun j => [.ptr (Y.eb j) 0])) := ho.keep _ _ hro (fun h => by omega) holp
  have hsl2 : H'[sl]? = some (.box 27 (stA s)) := ho.keep _ _ (hK1 _ _ hsl) (fun h => by omega) hslp
  simp only [stA] at hsl2
  have hebH : Y.eb j < H.length := by
   obtain ⟨x0, hx0⟩ : ∃ x0, B.ents[j]? = some x0 := ⟨_, List.getElem?_eq_getElem hjn⟩
   obtain ⟨nx, h5⟩ := h.box hx0
   exact lt_of_get h5
  have l1 := lt_of_get hbx
  have l2 := lt_of_get hsl2
  have hxm := List.mem_of_getElem? hx
  have hzl : (ins.zip (s.inputs.map (·.2))).take k = (ins.zip (s.inputs.map (·.2))).take k := rfl
  have hlf : -1000000000000000000 - 1000000000 * (1000000 : Int) ≤ x.left ∧ x.left ≤ 1000000000000000000 := by
   have := fold_left B.ents.length (-1000000000000000000) 1000000000000000000 1000000000 (by decide) ((ins.zip (s.inputs.map (·.2))).take k) (B.ents ++ [newE B s ins]) (fun pr hpr => by
    have h5 := (List.of_mem_zip (List.mem_of_mem_take hpr)).2
    obtain ⟨y, hy, e1⟩ := List.mem_map.1 h5
    rw [← e1]; exact hqi y hy) (fun y hy => by
    rcases List.mem_append.1 hy with hy | hy
    ·exact hl y hy
    ·simp at hy; subst hy; show _ ≤ s.q ∧ s.q ≤ _; omega) x hxm
   have hlen : ((ins.zip (s.inputs.map (·.2))).take k).length ≤ 1000000 := by rw [List.length_take]; omega
   omega
  have hnl : x.next.length ≤ 2000000 := by
   have := fold_next B.ents.length 1000000 ((ins.zip (s.inputs.map (·.2))).take k) (B.ents ++ [newE B s ins]) (fun y hy => by
    rcases List.mem_append.1 hy with hy | hy
    ·exact hnx y hy
    ·simp at hy; subst hy; simp [newE]) x hxm
   have hlen : ((ins.zip (s.inputs.map (·.2))).take k).length ≤ 1000000 := by rw [List.length_take]; omega
   omega
  have hqk := hqi _ (List.getElem_mem hlt2)
  have hw : IntKind.i64.wrap (x.left - s.inputs[k].2) = x.left - s.inputs[k].2 := by rw [IntKind.wrap_i64]; omega
  refine aw_skip ?_
  repeat refine aw_seq ?_
  refine aw_block ?_
  repeat refine aw_seq ?_
  refine aw_region ttOk (by kernel_rfl) ?_
  repeat (refine aops_cons ?_; first | (apply aops_o; rfl; simp only [estep, avs, tts, Nat.reduceAdd, Nat.reduceMul, Nat.reduceSub, Nat.reduceEqDiff, Nat.reduceLT, Nat.reduceLeDiff, Int.reduceToNat, Int.reduceLE, Int.reduceLT, Int.toNat_natCast, reduceCtorEq, hro', hgd, hlt, hix] <;> (first | with_reducible rfl | rfl)) | (refine aops_grd rfl (by simp only [avs] <;> rfl) (by rfl) ?_; first | refine grd_on ?_ | refine grd_off (by simp only [avs] <;> rfl) ?_))
  refine aops_nil ?_
  repeat refine aw_seq ?_
  refine aw_draw 13 ttOk mixed (by kernel_rfl) (by kernel_rfl) (by kernel_rfl) ?_
  repeat (refine ahops_cons ?_; first | (apply ahops_o; rfl; simp only [hstep, avs, tts, Nat.reduceAdd, Nat.reduceMul, Nat.reduceSub, Nat.reduceEqDiff, Nat.reduceLT, Nat.reduceLeDiff, Int.reduceToNat, Int.reduceLE, Int.reduceLT, Int.toNat_natCast, reduceCtorEq, hbx, hsl2, l1, l2, entC, inpsP, hgd2, hlt2, hix, hw] <;> (first | with_reducible rfl | rfl); first | trivial | omega) | (refine ahops_grd rfl (by simp only [avs] <;> rfl) (by rfl) ?_; first | refine hgrd_on ?_ | refine hgrd_off (by simp only [avs] <;> rfl) ?_))
  refine ahops_nil ?_
  repeat (refine aops_cons ?_; first | (apply aops_o; rfl; simp only [estep, avs, tts, Nat.reduceAdd, Nat.reduceMul, Nat.reduceSub, Nat.reduceEqDiff, Nat.reduceLT, Nat.reduceLeDiff, Int.reduceToNat, Int.reduceLE, Int.reduceLT, Int.toNat_natCast, reduceCtorEq, hbx, hsl2, l1, l2, entC, inpsP, hgd2, hlt2, hix, hw] <;> (first | with_reducible rfl | rfl)) | (refine aops_grd rfl (by simp only [avs] <;> rfl) (by rfl) ?_; first | refine grd_on ?_ | refine grd_off (by simp only [avs] <;> rfl) ?_))
  refine aops_nil ?_
  refine aw_goes (env' := .ptr Y.bl 0 :: .undef :: .undef :: .ptr sl 0 :: iA 0 :: .undef :: .undef :: .undef :: .undef :: .undef :: .undef :: .ptr p 0 :: .undef :: .ptr (Y.eb j) 0 :: List.replicate 99 .undef ++ .ms ol ov ins.length :: iA ins.length :: iA k :: List.replicate 57 .undef) (H' := H'.set (Y.eb j) (.box 79 (entC { x with left := x.left - s.inputs[k].2 } (slA e.row x.next.length)))) ⟨by simp [EnvLe, List.replicate, iA], .inl rfl⟩ ?_
  have hlen2 : (H'.set (Y.eb j) (.box 79 (entC { x with left := x.left - s.inputs[k].2 } (slA e.row x.next.length)))).length = H'.length := List.length_set
  have hbx2 : (H'.set (Y.eb j) (.box 79 (entC { x with left := x.left - s.inputs[k].2 } (slA e.row x.next.length))))[Y.eb j]? = some (.box 79 (entC { x with left := x.left - s.inputs[k].2 } (slA e.row x.next.length))) := get_set_same l1
  have hs2 : ∀ (l : Nat) (o : AObj), H'[l]? = some o → l ≠ Y.eb j → (H'.set (Y.eb j) (.box 79 (entC { x with left := x.left - s.inputs[k].2 } (slA e.row x.next.length))))[l]? = some o := fun l o hl h1 => by rw [get_set_ne h1]; exact hl
  generalize H'.set (Y.eb j) (.box 79 (entC { x with left := x.left - s.inputs[k].2 } (slA e.row x.next.length))) = G2 at hlen2 hbx2 hs2 ⊢
  have hqs : (s.inputs.map (·.2))[k]? = some s.inputs[k].2 := by simp [hlt2]
  have hep : Y2.eb B.ents.length = p := by
   unfold Lay.eb; rw [ho.last]; rfl
  have hoff : offE B s ins (k + 1) = (offE B s ins k).set j { x with left := x.left - s.inputs[k].2, next := x.next ++ [B.ents.length] } := by
   rw [offE_succ hj hqs, takeE_some (p := (j, s.inputs[k].2)) hx]
  -- the state behind the round
  have next : ∀ (H3 : AHeap) (row' : OR), H'.length ≤ H3.length → (∀ (l : Nat) (o : AObj), H'[l]? = some o → l ≠ e.b → (∀ a, e.row = some a → l ≠ a.1) → H3[l]? = some o) → H3[e.b]? = some (.box 79 (entC { x with left := x.left - s.inputs[k].2, next := x.next ++ [B.ents.length] } (slA row' (x.next.length + 1)))) →
    RowAt H3 row' ((x.next.map fun j => [.ptr (Y2.eb j) 0]) ++ [[.ptr p 0]]) → (row' = e.row ∨ ∃ a, row' = some a ∧ H'.length ≤ a.1) → OffAt H K1 Y { Y with L := Y.L ++ [⟨p, none⟩] } B s ins p (k + 1) (Y2.put j ⟨e.b, row'⟩) H3 := by
   intro H3 row' hl3 hsame hbox hrow hnew
   have hne : j ≠ B.ents.length := by omega
   refine ⟨?_, ho.bl, ho.n1, ho.n2, ho.n3, fun i => (eb_put (f := ⟨e.b, row'⟩) he rfl i).trans (ho.eb i), ?_, ?_, by have := ho.len; omega, ?_⟩
   ·rw [hoff]
    exact off_put ho.bk he hx (x' := { x with left := x.left - s.inputs[k].2, next := x.next ++ [B.ents.length] }) rfl rfl rfl hjn (by rw [ho.bk.len]; show _ < (offE B s ins k).length; rw [hBn]; omega) hep hsame (by simpa using hbox) hrow hnew
   ·show (Y2.L.set j _)[B.ents.length]? = _
    rw [List.getElem?_set_ne hne]; exact ho.last
   ·intro i f hf a ha
    rcases set_get hf with ⟨rfl, rfl⟩ | ⟨_, hf⟩
    ·rcases hnew with hn | ⟨c, hc', hl'⟩
     ·exact ho.rows _ e he a (by rw [← hn]; exact ha)
     ·rw [show row' = some a from ha] at hc'; cases hc'
      exact .inr (Nat.le_trans ho.len hl')
    ·exact ho.rows i f hf a ha
   ·intro l o hl1 hx1 hlp
    have h5 := ho.keep l o hl1 hx1 hlp
    refine hsame l o h5 (fun e1 => ?_) fun a ha e1 => ?_
    ·rw [e1, heb1] at h5 hx1
     rw [hbx] at h5; cases h5
     have := hx1 hebH
     cases this
    ·have h6 := hE.2.1
     rw [ha] at h6
     have h6' : H'[a.1]? = _ := h6
     rw [e1, h6'] at h5
     cases h5
     rcases ho.rows j e he a ha with h7 | h7
     ·rw [e1] at hx1
      have := hx1 h7
      cases this
     ·have := lt_of_get hl1; omega
  simp only [List.replicate, List.cons_append, List.nil_append, iA]
  rcases hrw : e.row with _ | ⟨rl, rv⟩
  ·rw [hrw] at hbx2
   have hne := hE.2.1
   rw [hrw] at hne
   have hnx0 : x.next = [] := by simpa [RowAt] using hne
   rw [hnx0] at hbx2
   have hbx3 := got hbx2
   repeat refine aw_seq ?_
   refine aw_region ttOk (by kernel_rfl) ?_
   repeat (refine aops_cons ?_; first | (apply aops_o; rfl; simp only [estep, avs, tts, Nat.reduceAdd, Nat.reduceMul, Nat.reduceSub, Nat.reduceEqDiff, Nat.reduceLT, Nat.reduceLeDiff, Int.reduceToNat, Int.reduceLE, Int.reduceLT, Int.toNat_natCast, reduceCtorEq, hbx2, hbx3, entC, slA, nilS] <;> (first | with_reducible rfl | rfl)) | (refine aops_grd rfl (by simp only [avs] <;> rfl) (by rfl) ?_; first | refine grd_on ?_ | refine grd_off (by simp only [avs] <;> rfl) ?_))
   refine aops_nil ?_
   repeat refine aw_seq ?_
   refine aw_region ttOk (by kernel_rfl) ?_
   repeat (refine aops_cons ?_; first | (apply aops_o; rfl; simp only [estep, avs, tts, Nat.reduceAdd, Nat.reduceMul, Nat.reduceSub, Nat.reduceEqDiff, Nat.reduceLT, Nat.reduceLeDiff, Int.reduceToNat, Int.reduceLE, Int.reduceLT, Int.toNat_natCast, reduceCtorEq, wrap_succ hlt (by omega : ins.length ≤ 9223372036854775807)] <;> (first | with_reducible rfl | rfl)) | (refine aops_grd rfl (by simp only [avs] <;> rfl) (by rfl) ?_; first | refine grd_on ?_ | refine grd_off (by simp only [avs] <;> rfl) ?_))
   refine aops_nil ?_
   refine ⟨ins.length - (k + 1), _, _, by omega, ⟨?_, .inl rfl⟩, k + 1, _, rfl, hlt, next _ (some (G2.length + 1, 0)) ?_ (fun l o hl h1 _ => ?_) ?_ ?_ (.inr ⟨_, rfl, ?_⟩), rfl⟩
   ·simp [EnvLe, iA, List.replicate]
   ·simp; omega
   ·rw [heb1] at h1
    rw [get_set_ne h1]; exact got (hs2 l o hl h1) _
   ·rw [heb1, get_set_same (by have := lt_of_get hbx2; simp; omega), hnx0]; rfl
   ·show _ = _
    rw [get_set_ne (by have := lt_of_get hbx2; show G2.length + 1 ≠ Y.eb j; omega), H_get, hnx0]; rfl
   ·show _ ≤ G2.length + 1; omega
  ·rw [hrw] at hbx2
   have hne := hE.2.1
   rw [hrw] at hne
   have hrr : H'[rl]? = some (.row 77 1 rv (x.next.map fun j => [.ptr (Y2.eb j) 0])) := hne
   have hrn : rl ≠ Y.eb j := ne_of_get hrr hbx (by simp)
   have hrr2 := hs2 _ _ hrr hrn
   have hbx3 := got hbx2
   have hrr3 := got hrr2
   have hbx4 := got_set hbx2 hrn.symm
   have b1 : x.next.length ≤ 9223372036854775806 := by omega
   have b2 : (x.next.length + 1) * 8 ≤ 140737488355328 := by omega
   repeat refine aw_seq ?_
   refine aw_region ttOk (by kernel_rfl) ?_
   repeat (refine aops_cons ?_; first | (apply aops_o; rfl; simp only [estep, avs, tts, Nat.reduceAdd, Nat.reduceMul, Nat.reduceSub, Nat.reduceEqDiff, Nat.reduceLT, Nat.reduceLeDiff, Int.reduceToNat, Int.reduceLE, Int.reduceLT, Int.toNat_natCast, reduceCtorEq, hbx2, hbx3, hbx4, hrr2, hrr3, entC, slA, b1, b2] <;> (first | with_reducible rfl | rfl)) | (refine aops_grd rfl (by simp only [avs] <;> rfl) (by rfl) ?_; first | refine grd_on ?_ | refine grd_off (by simp only [avs] <;> rfl) ?_))
   refine aops_nil ?_
   repeat refine aw_seq ?_
   refine aw_region ttOk (by kernel_rfl) ?_
   repeat (refine aops_cons ?_; first | (apply aops_o; rfl; simp only [estep, avs, tts, Nat.reduceAdd, Nat.reduceMul, Nat.reduceSub, Nat.reduceEqDiff, Nat.reduceLT, Nat.reduceLeDiff, Int.reduceToNat, Int.reduceLE, Int.reduceLT, Int.toNat_natCast, reduceCtorEq, wrap_succ hlt (by omega : ins.length ≤ 9223372036854775807)] <;> (first | with_reducible rfl | rfl)) | (refine aops_grd rfl (by simp only [avs] <;> rfl) (by rfl) ?_; first | refine grd_on ?_ | refine grd_off (by simp only [avs] <;> rfl) ?_))
   refine aops_nil ?_
   refine ⟨ins.length - (k + 1), _, _, by omega, ⟨?_, .inl rfl⟩, k + 1, _, rfl, hlt, next _ (some (rl, rv)) ?_ (fun l o hl h1 h2 => ?_) ?_ ?_ (.inl hrw.symm), rfl⟩
   ·simp [EnvLe, iA, List.replicate]
   ·simp; omega
   ·rw [heb1] at h1
    rw [get_set_ne h1, get_set_ne (h2 _ hrw)]; exact got (hs2 l o hl h1) _
   ·rw [heb1, get_set_same (by have := lt_of_get hbx2; simp; omega)]; rfl
   ·show _ = _
    rw [get_set_ne hrn]
    exact got_self hrr2 _ _
 ·refine aw_exit ?_
  have hkl : k = ins.length := by simp at hb; omega
  refine aw_goes (env' := .ptr Y.bl 0 :: .undef :: .undef :: .ptr sl 0 :: iA 0 :: .undef :: .undef :: .undef :: .undef :: .undef :: .undef :: .ptr p 0 :: List.replicate 161 .undef) (H' := _) ⟨by simp [EnvLe, List.replicate, iA], .inl rfl⟩ ?_
  exact fin _ _ k ho (by
   unfold finalB
   simp only
   rw [List.length_zip, List.length_map, ← hil, Nat.min_self, hkl])
end Av
end Go.Proofs.YtnkepmfgmfeabaaGreatDoor
set_option linter.unusedVariables false
set_option linter.unusedSimpArgs false
namespace Go.Proofs.YtnkepmfgmfeabaaGreatDoor
open Go Go.RowKit
namespace Av
attribute [local irreducible] AW AOps AHOps

/-! Add, the six checks. -/
def resolve (B : Bk) : List (ByteArray × Int) → Option (List Nat)
 | [] => some []
 | y :: r => match findB B y.1 with
  | none => none
  | some i => (resolve B r).map (i :: ·)
theorem resolve_snoc (B : Bk) (l : List (ByteArray × Int)) (y : ByteArray × Int) : resolve B (l ++ [y]) = (resolve B l).bind fun ins => (findB B y.1).map fun i => ins ++ [i] := by
 induction l with
 | nil => simp only [List.nil_append, resolve]; cases findB B y.1 <;> rfl
 | cons z l ih =>
  simp only [List.cons_append, resolve]
  cases findB B z.1 with
  | none => rfl
  | some i =>
   simp only [ih]
   cases resolve B l with
   | none => rfl
   | some ins => cases findB B y.1 <;> rfl
theorem resolve_none {B : Bk} {l : List (ByteArray × Int)} {k : Nat} (h : k < l.length) (hn : findB B l[k].1 = none) : resolve B l = none := by
 induction l generalizing k with
 | nil => cases h
 | cons z l ih =>
  cases k with
  | zero => simp only [List.getElem_cons_zero] at hn; simp only [resolve, hn]
  | succ k =>
   simp only [List.getElem_cons_succ] at hn
   simp only [resolve]
   cases findB B z.1 with
   | none => rfl
   | some i => simp only [ih (by simpa using h) hn]; rfl
theorem resolve_len {B : Bk} {l : List (ByteArray × Int)} {ins : List Nat} (h : resolve B l = some ins) : ins.length = l.length := by
 induction l generalizing ins with
 | nil => simp only [resolve, Option.some.injEq] at h; subst h; rfl
 | cons z l ih =>
  simp only [resolve] at h
  cases hz : findB B z.1 with
  | none => rw [hz] at h; cases h
  | some i =>
   rw [hz] at h
   simp only [Option.map_eq_some_iff] at h
   obtain ⟨t, h1, rfl⟩ := h
   simp [ih h1]
def codesR (B : Bk) (s : Stm) (ins : List Nat) : List Int := [if anyP (pRev B) ins then 12 else 0, if anyP (pProd B s) ins then 8 else 0, if decide (0 < s.inputs.length) && !decide (sumQ s.inputs = s.q) then 10 else 0, if anyP (pQuota B s) ins then 19 else 0, if anyP (pUses B s) ins then 7 else 0, signedR B s ins]
def firstNZ : List Int → Int
 | [] => 0
 | c :: r => if c = 0 then firstNZ r else c
theorem firstNZ_at {l : List Int} {k : Nat} (h : k < l.length) (h0 : ∀ i, i < k → l.getD i 0 = 0) (hk : l.getD k 0 ≠ 0) : firstNZ l = l.getD k 0 := by
 induction l generalizing k with
 | nil => cases h
 | cons c l ih =>
  cases k with
  | zero => simp only [List.getD_cons_zero] at hk ⊢; simp only [firstNZ, if_neg hk]
  | succ k =>
   have hc := h0 0 (by omega)
   simp only [List.getD_cons_zero] at hc
   simp only [firstNZ, hc, if_true, List.getD_cons_succ] at hk ⊢
   exact ih (by simpa using h) (fun i hi => by have := h0 (i + 1) (by omega); simpa using this) hk
theorem firstNZ_zero {l : List Int} (h0 : ∀ i, i < l.length → l.getD i 0 = 0) : firstNZ l = 0 := by
 induction l with
 | nil => rfl
 | cons c l ih =>
  have hc := h0 0 (by simp)
  simp only [List.getD_cons_zero] at hc
  simp only [firstNZ, hc, if_true]
  exact ih fun i hi => by have := h0 (i + 1) (by simpa using hi); simpa using this
def checkF : List Nat := [44, 45, 46, 47, 48, 49]
theorem signer_size {B : Bk} {ins : List Nat} (hi : B.issuer.size ≤ 1099511627776) (hh : ∀ x ∈ B.ents, x.st.holder.size ≤ 1099511627776) : (signerR B ins).size ≤ 1099511627776 := by
 unfold signerR
 split
 ·exact hi
 ·split
  ·rename_i x hx; exact hh x (List.mem_of_getElem? hx)
  ·exact hi
theorem check_a {base : World} (hT : Tabs base) {K : AHeap} {Y : Lay} {B : Bk} {s : Stm} {ins : List Nat} {cl : Nat} {od : OR} (hbk : Book K Y B) (hc : CandAt K cl Y B s ins od) (hf : Fits s) (hil : ins.length = s.inputs.length) (hsz : (signerR B ins).size ≤ 1099511627776) (k : Nat) (hk : k < 6) :
  ReadA Tryz.prog base (checkF.getD k 0) [.ptr cl 0] K (iA ((codesR B s ins).getD k 0)) := by
 have hli : ins.length ≤ 1000000 := by have := hf.li; omega
 match k, hk with
 | 0, _ => exact state_a hbk hc hli
 | 1, _ => exact product_a hbk hc hli
 | 2, _ => exact sum_a hc hf.li hf.qi
 | 3, _ => exact quota_a hbk hc hli (by omega)
 | 4, _ => exact allowed_a hbk hc hli
 | 5, _ => exact signed_a hT hbk hc hf hli hsz
attribute [local irreducible] messT verT
set_option maxRecDepth 100000 in
set_option maxHeartbeats 4000000 in
theorem add_checks {base : World} (hT : Tabs base) {N : Nat} {H K : AHeap} {Y : Lay} {B : Bk} {s : Stm} {ins : List Nat} {cl sl : Nat} {od : OR} (h : Book H Y B) {G0 : AHeap} (hK : K = H ++ G0) (hc : CandAt K cl Y B s ins od) (hsl : K[sl]? = some (.box 27 (stA s))) (hod : ∀ a, od = some a → H.length ≤ a.1)
  (hsl0 : H.length ≤ sl) (hcl0 : H.length ≤ cl) (hf : Fits s) (hil : ins.length = s.inputs.length) (hid : ∀ y ∈ B.ents, y.st.id ≠ s.id) (hn : B.ents.length ≤ 1000000) (hnx : ∀ x ∈ B.ents, x.next.length ≤ 1000000)
  (hl : ∀ x ∈ B.ents, -1000000000000000000 ≤ x.left ∧ x.left ≤ 1000000000000000000) (hq : 0 ≤ s.q ∧ s.q ≤ 1000000000) (hsz : (signerR B ins).size ≤ 1099511627776) :
  (Tryz.f21.body.bind (restC 7)).elim False fun c => AW ⟨Tryz.prog, tt, base, N⟩ c (retA tt [.tmp 4] fun r H' => r = iA (firstNZ (codesR B s ins)) ∧ ∃ Y', Y'.bl = Y.bl ∧ Book H' Y' (if firstNZ (codesR B s ins) = 0 then finalB B s ins else B) ∧ KeepO H H')
   (.ptr Y.bl 0 :: .undef :: .undef :: .ptr sl 0 :: iA 0 :: .ptr cl 0 :: List.replicate 167 .undef) K := by
 show AW _ _ _ _ _
 have hbk : Book K Y B := by rw [hK]; exact h.app G0
 have hli : ins.length ≤ 1000000 := by have := hf.li; omega
 have hcl : (codesR B s ins).length = 6 := rfl
 have hck := fun k hk => check_a hT hbk hc hf hil hsz k hk
 have hck' := fun G k hk => check_a hT (hbk.app G) (hc.app G) hf hil hsz k hk
 have hs5 : (codesR B s ins).getD 5 0 = signedR B s ins := rfl
 generalize codesR B s ins = cs at hcl hck hck' hs5 ⊢
 simp only [List.replicate, iA]
 repeat refine aw_seq ?_
 refine aw_region ttOk (by kernel_rfl) ?_
 repeat (refine aops_cons ?_; first | (apply aops_o; rfl; simp only [estep, avs, tts, Nat.reduceAdd, Nat.reduceMul, Nat.reduceSub, Nat.reduceEqDiff, Nat.reduceLT, Nat.reduceLeDiff, Int.reduceToNat, Int.reduceLE, Int.reduceLT, Int.toNat_natCast, reduceCtorEq] <;> (first | with_reducible rfl | rfl)) | (refine aops_grd rfl (by simp only [avs] <;> rfl) (by rfl) ?_; first | refine grd_on ?_ | refine grd_off (by simp only [avs] <;> rfl) ?_))
 refine aops_nil ?_
 refine aw_block (aw_loop (fun m env H' => ∃ k, m = 6 - k ∧ k ≤ 6 ∧ (∀ i, i < k → cs.getD i 0 = 0) ∧ H' = K ++ [.row 88 1 0 (checkF.map fun f => [.fn (.func f) [.ptr cl 0] []])] ∧ env = .ptr Y.bl 0 :: .undef :: .undef :: .ptr sl 0 :: iA 0 :: .ptr cl 0 :: List.replicate 85 .undef ++ .ms K.length 0 6 :: iA 6 :: iA k :: List.replicate 79 .undef) ?_ ⟨0, rfl, Nat.zero_le _, fun i hi => by omega, rfl, rfl⟩ ?_)
 ·exact ⟨by simp [EnvLe, iA, List.replicate], .inl rfl⟩
 rintro m env H' ⟨k, rfl, hk, hz, rfl, rfl⟩ hN
 simp only [List.replicate, List.cons_append, List.nil_append, iA]
 repeat refine aw_seq ?_
 refine aw_region ttOk (by kernel_rfl) ?_
 repeat (refine aops_cons ?_; first | (apply aops_o; rfl; simp only [estep, avs, tts, Nat.reduceAdd, Nat.reduceMul, Nat.reduceSub, Nat.reduceEqDiff, Nat.reduceLT, Nat.reduceLeDiff, Int.reduceToNat, Int.reduceLE, Int.reduceLT, Int.toNat_natCast, reduceCtorEq] <;> (first | with_reducible rfl | rfl)) | (refine aops_grd rfl (by simp only [avs] <;> rfl) (by rfl) ?_; first | refine grd_on ?_ | refine grd_off (by simp only [avs] <;> rfl) ?_))
 refine aops_nil ?_
 repeat refine aw_seq ?_
 refine aw_cond rfl rfl (fun hb => ?_) fun hb => ?_
 ·have hlt : k < 6 := by have h5 := of_decide_eq_true hb; omega
  have hix : (0 : Int) ≤ (k : Int) := by omega
  have hgd : (checkF.map fun f => [AV.fn (.func f) [.ptr cl 0] []]).getD k [] = [.fn (.func (checkF.getD k 0)) [.ptr cl 0] []] := by
   match k, hlt with
   | 0, _ => rfl
   | 1, _ => rfl
   | 2, _ => rfl
   | 3, _ => rfl
   | 4, _ => rfl
   | 5, _ => rfl
  have hln : (checkF.map fun f => [AV.fn (.func f) [.ptr cl 0] []]).length = 6 := rfl
  generalize hrw : (checkF.map fun f => [AV.fn (.func f) [.ptr cl 0] []]) = rw0 at hgd hln ⊢
  refine aw_skip ?_
  repeat refine aw_seq ?_
  refine aw_block ?_
  repeat refine aw_seq ?_
  refine aw_region ttOk (by kernel_rfl) ?_
  repeat (refine aops_cons ?_; first | (apply aops_o; rfl; simp only [estep, avs, tts, Nat.reduceAdd, Nat.reduceMul, Nat.reduceSub, Nat.reduceEqDiff, Nat.reduceLT, Nat.reduceLeDiff, Int.reduceToNat, Int.reduceLE, Int.reduceLT, Int.toNat_natCast, reduceCtorEq, hgd, hlt, hix, hln] <;> (first | with_reducible rfl | rfl)) | (refine aops_grd rfl (by simp only [avs] <;> rfl) (by rfl) ?_; first | refine grd_on ?_ | refine grd_off (by simp only [avs] <;> rfl) ?_))
  refine aops_nil ?_
  repeat refine aw_seq ?_
  refine aw_region ttOk (by kernel_rfl) ?_
  repeat (refine aops_cons ?_; first | (apply aops_o; rfl; simp only [estep, avs, tts, Nat.reduceAdd, Nat.reduceMul, Nat.reduceSub, Nat.reduceEqDiff, Nat.reduceLT, Nat.reduceLeDiff, Int.reduceToNat, Int.reduceLE, Int.reduceLT, Int.toNat_natCast, reduceCtorEq] <;> (first | with_reducible rfl | rfl)) | (refine aops_grd rfl (by simp only [avs] <;> rfl) (by rfl) ?_; first | refine grd_on ?_ | refine grd_off (by simp only [avs] <;> rfl) ?_))
  refine aops_read rfl (by simp only [avs] <;> rfl) (hck' _ k hlt) (by simp only [avs] <;> rfl) ?_
  repeat (refine aops_cons ?_; first | (apply aops_o; rfl; simp only [estep, avs, tts, Nat.reduceAdd, Nat.reduceMul, Nat.reduceSub, Nat.reduceEqDiff, Nat.reduceLT, Nat.reduceLeDiff, Int.reduceToNat, Int.reduceLE, Int.reduceLT, Int.toNat_natCast, reduceCtorEq] <;> (first | with_reducible rfl | rfl)) | (refine aops_grd rfl (by simp only [avs] <;> rfl) (by rfl) ?_; first | refine grd_on ?_ | refine grd_off (by simp only [avs] <;> rfl) ?_))
  refine aops_nil ?_
  repeat refine aw_seq ?_
  refine aw_region ttOk (by kernel_rfl) ?_
  repeat (refine aops_cons ?_; first | (apply aops_o; rfl; simp only [estep, avs, tts, Nat.reduceAdd, Nat.reduceMul, Nat.reduceSub, Nat.reduceEqDiff, Nat.reduceLT, Nat.reduceLeDiff, Int.reduceToNat, Int.reduceLE, Int.reduceLT, Int.toNat_natCast, reduceCtorEq, iA] <;> (first | with_reducible rfl | rfl)) | (refine aops_grd rfl (by simp only [avs] <;> rfl) (by rfl) ?_; first | refine grd_on ?_ | refine grd_off (by simp only [avs] <;> rfl) ?_))
  refine aops_nil ?_
  repeat refine aw_seq ?_
  refine aw_cond rfl rfl (fun hb => ?_) fun hb => ?_
  ·have hne : cs.getD k 0 ≠ 0 := by simpa using hb
   have hfn := firstNZ_at (by rw [hcl]; exact hlt) hz hne
   repeat refine aw_seq ?_
   refine aw_region ttOk (by kernel_rfl) ?_
   repeat (refine aops_cons ?_; first | (apply aops_o; rfl; simp only [estep, avs, tts, Nat.reduceAdd, Nat.reduceMul, Nat.reduceSub, Nat.reduceEqDiff, Nat.reduceLT, Nat.reduceLeDiff, Int.reduceToNat, Int.reduceLE, Int.reduceLT, Int.toNat_natCast, reduceCtorEq] <;> (first | with_reducible rfl | rfl)) | (refine aops_grd rfl (by simp only [avs] <;> rfl) (by rfl) ?_; first | refine grd_on ?_ | refine grd_off (by simp only [avs] <;> rfl) ?_))
   refine aops_nil ?_
   refine aw_ret ⟨_, rfl, by rw [hfn]; rfl, Y, rfl, ?_, ?_⟩
   ·rw [hfn, if_neg hne]; exact hbk.app _
   ·rw [hK, List.append_assoc]; exact .app H _
  ·refine aw_skip ?_
   have hze : cs.getD k 0 = 0 := by simpa using hb
   repeat refine aw_seq ?_
   refine aw_region ttOk (by kernel_rfl) ?_
   repeat (refine aops_cons ?_; first | (apply aops_o; rfl; simp only [estep, avs, tts, Nat.reduceAdd, Nat.reduceMul, Nat.reduceSub, Nat.reduceEqDiff, Nat.reduceLT, Nat.reduceLeDiff, Int.reduceToNat, Int.reduceLE, Int.reduceLT, Int.toNat_natCast, reduceCtorEq, wrap_succ hlt (by decide : 6 ≤ 9223372036854775807)] <;> (first | with_reducible rfl | rfl)) | (refine aops_grd rfl (by simp only [avs] <;> rfl) (by rfl) ?_; first | refine grd_on ?_ | refine grd_off (by simp only [avs] <;> rfl) ?_))
   refine aops_nil ?_
   refine ⟨6 - (k + 1), _, _, by omega, ⟨?_, .inl rfl⟩, k + 1, rfl, hlt, fun i hi => ?_, rfl, rfl⟩
   ·simp [EnvLe, iA, List.replicate]
   ·rcases Nat.lt_succ_iff_lt_or_eq.1 hi with h1 | rfl
    ·exact hz i h1
    ·exact hze
 ·refine aw_exit ?_
  have hk6 : k = 6 := by simp at hb; omega
  have hfz : firstNZ cs = 0 := firstNZ_zero fun i hi => hz i (by rw [hcl] at hi; omega)
  have hs0 : signedR B s ins = 0 := by rw [← hs5]; exact hz 5 (by omega)
  have hus : usedB B (signerR B ins) s.idx = false := by
   unfold signedR at hs0
   split at hs0
   ·cases hs0
   ·split at hs0
    ·cases hs0
    ·rename_i h5
     simp only [Bool.or_eq_true, not_or, Bool.not_eq_true] at h5
     exact h5.2
  refine aw_goes (env' := .ptr Y.bl 0 :: .undef :: .undef :: .ptr sl 0 :: iA 0 :: .ptr cl 0 :: List.replicate 167 .undef) (H' := _) ⟨by simp [EnvLe, List.replicate, iA], .inl rfl⟩ ?_
  have h5 := add_end (base := base) (N := N) h (show K ++ [.row 88 1 0 (checkF.map fun f => [.fn (.func f) [.ptr cl 0] []])] = H ++ (G0 ++ [.row 88 1 0 (checkF.map fun f => [.fn (.func f) [.ptr cl 0] []])]) by rw [hK, List.append_assoc]) (hc.app _) (got hsl _) hod hsl0 hcl0 hil hid hus hn hli hnx hl hq hf.qi
  refine AW.mono h5 (retA_mono fun r H' ⟨q1, Y', q2, q3, q4⟩ => ⟨by rw [q1, hfz]; rfl, Y', q2, by rw [if_pos hfz]; exact q3, q4⟩)
end Av
end Go.Proofs.YtnkepmfgmfeabaaGreatDoor
set_option linter.unusedVariables false
set_option linter.unusedSimpArgs false
namespace Go.Proofs.YtnkepmfgmfeabaaGreatDoor
open Go Go.RowKit
namespace Av
attribute [local irreducible] AW AOps AHOps
attribute [local irreducible] messT verT

/-! Add. -/
def addR (B : Bk) (s : Stm) : Int × Bk :=
 if !properB s then (1, B) else if (findB B s.id).isSome then (9, B) else if 400 ≤ B.ents.length then (28, B) else match resolve B s.inputs with
  | none => (11, B)
  | some ins => (firstNZ (codesR B s ins), if firstNZ (codesR B s ins) = 0 then finalB B s ins else B)
theorem findB_none {B : Bk} {id : ByteArray} (h : findB B id = none) : ∀ y ∈ B.ents, y.st.id ≠ id := by
 unfold findB at h
 rw [List.findIdx?_eq_none_iff] at h
 intro y hy
 simpa using h y hy
set_option maxRecDepth 100000 in
set_option maxHeartbeats 1000000 in
theorem add_a {base : World} (hT : Tabs base) {H : AHeap} {Y : Lay} {B : Bk} {s : Stm} (h : Book H Y B) (hf' : properB s = true → Fits s) (hZ : s.Sized 4611686018427387904) (hn : B.ents.length ≤ 1000000) (hnx : ∀ x ∈ B.ents, x.next.length ≤ 1000000) (hl : ∀ x ∈ B.ents, -1000000000000000000 ≤ x.left ∧ x.left ≤ 1000000000000000000) (hi : B.issuer.size ≤ 1099511627776) (hh : ∀ x ∈ B.ents, x.st.holder.size ≤ 1099511627776) :
  CallsA Tryz.prog base 21 [.ptr Y.bl 0, .agg ((stmC s).map .d)] H fun r H' => r = iA (addR B s).1 ∧ ∃ Y', Y'.bl = Y.bl ∧ Book H' Y' (addR B s).2 ∧ KeepO H H' := by
 refine callsA_enter ttOk Tryz.call21 Tryz.func21 rfl fun hB hb hF => ?_
 rw [Tryz.results21, Tryz.ntmps21]
 simp only [arr_list, List.length_cons, List.length_nil, List.replicate, List.cons_append, List.nil_append, Nat.reduceAdd, Nat.reduceSub]
 have h1 := got h.book
 have h2 := got h.byId
 have l1 := lt_of_get h.book
 have l1' : Y.bl < H.length + 1 := by omega
 have l2' : Y.ml < H.length + 1 := by have := lt_of_get h.byId; omega
 repeat refine aw_seq ?_
 refine aw_run ttOk (by kernel_rfl) (by simp only [erun, eall, estep, avs, tts, Nat.reduceAdd, Nat.reduceMul, Nat.reduceSub, Nat.reduceEqDiff, Nat.reduceLT, Nat.reduceLeDiff, Int.reduceToNat, Int.reduceLE, Int.reduceLT, Int.toNat_natCast, reduceCtorEq, stmC] <;> first | with_reducible rfl | rfl) ?_
 repeat refine aw_seq ?_
 refine aw_region ttOk (by kernel_rfl) ?_
 refine aops_run 4 (by simp only [erun, eall, estep, avs, tts, Nat.reduceAdd, Nat.reduceMul, Nat.reduceSub, Nat.reduceEqDiff, Nat.reduceLT, Nat.reduceLeDiff, Int.reduceToNat, Int.reduceLE, Int.reduceLT, Int.toNat_natCast, reduceCtorEq] <;> first | with_reducible rfl | rfl) ?_
 refine aops_on rfl (by simp only [avs] <;> rfl) ?_
 refine aops_pure rfl (by simp only [avs] <;> rfl) (proper_a base s hZ) (by simp only [avs] <;> rfl) ?_
 refine aops_run 2 (by simp only [erun, eall, estep, avs, tts, Nat.reduceAdd, Nat.reduceMul, Nat.reduceSub, Nat.reduceEqDiff, Nat.reduceLT, Nat.reduceLeDiff, Int.reduceToNat, Int.reduceLE, Int.reduceLT, Int.toNat_natCast, reduceCtorEq] <;> first | with_reducible rfl | rfl) ?_
 refine aops_nil ?_
 unfold addR
 cases hp : properB s with
 | false =>
  repeat refine aw_seq ?_
  refine aw_cond rfl rfl (fun hb => ?_) fun hb => ?_
  ·repeat refine aw_seq ?_
   refine aw_run ttOk (by kernel_rfl) (by simp only [erun, eall, estep, avs, tts, Nat.reduceAdd, Nat.reduceMul, Nat.reduceSub, Nat.reduceEqDiff, Nat.reduceLT, Nat.reduceLeDiff, Int.reduceToNat, Int.reduceLE, Int.reduceLT, Int.toNat_natCast, reduceCtorEq] <;> first | with_reducible rfl | rfl) ?_
   exact aw_ret ⟨_, rfl, rfl, Y, rfl, h.app _, .app H _⟩
  ·cases hb
 | true =>
 have hf := hf' hp
 repeat refine aw_seq ?_
 refine aw_cond rfl rfl (fun hb => ?_) fun hb => ?_
 ·cases hb
 refine aw_skip ?_
 have h3 := h.mget s.id
 cases hfi : findB B s.id with
 | some i =>
  rw [hfi] at h3
  obtain ⟨x, hx, _⟩ := findB_some hfi
  obtain ⟨nx, hbx⟩ := h.box hx
  have l4 : Y.eb i < H.length + 1 := by have := lt_of_get hbx; omega
  repeat refine aw_seq ?_
  refine aw_drun 8 ttOk mixed (by kernel_rfl) (by kernel_rfl) (by kernel_rfl) (by simp only [hrun, hstep, avs, tts, Nat.reduceAdd, Nat.reduceMul, Nat.reduceSub, Nat.reduceEqDiff, Nat.reduceLT, Nat.reduceLeDiff, Int.reduceToNat, Int.reduceLE, Int.reduceLT, Int.toNat_natCast, reduceCtorEq, h1, h2, h3, l1', l2', l4, Option.map_some, ksh_s] <;> first | with_reducible rfl | rfl) (by simp only [erun, eall, estep, avs, tts, Nat.reduceAdd, Nat.reduceMul, Nat.reduceSub, Nat.reduceEqDiff, Nat.reduceLT, Nat.reduceLeDiff, Int.reduceToNat, Int.reduceLE, Int.reduceLT, Int.toNat_natCast, reduceCtorEq, h1, h2, h3, l1', l2', l4, Option.map_some, ksh_s] <;> first | with_reducible rfl | rfl) ?_
  repeat refine aw_seq ?_
  refine aw_cond rfl rfl (fun hb => ?_) fun hb => ?_
  ·repeat refine aw_seq ?_
   refine aw_run ttOk (by kernel_rfl) (by simp only [erun, eall, estep, avs, tts, Nat.reduceAdd, Nat.reduceMul, Nat.reduceSub, Nat.reduceEqDiff, Nat.reduceLT, Nat.reduceLeDiff, Int.reduceToNat, Int.reduceLE, Int.reduceLT, Int.toNat_natCast, reduceCtorEq] <;> first | with_reducible rfl | rfl) ?_
   exact aw_ret ⟨_, rfl, rfl, Y, rfl, h.app _, .app H _⟩
  ·cases hb
 | none =>
 rw [hfi] at h3
 repeat refine aw_seq ?_
 refine aw_drun 8 ttOk mixed (by kernel_rfl) (by kernel_rfl) (by kernel_rfl) (by simp only [hrun, hstep, avs, tts, Nat.reduceAdd, Nat.reduceMul, Nat.reduceSub, Nat.reduceEqDiff, Nat.reduceLT, Nat.reduceLeDiff, Int.reduceToNat, Int.reduceLE, Int.reduceLT, Int.toNat_natCast, reduceCtorEq, h1, h2, h3, l1', l2', Option.map_none, ksh_s] <;> first | with_reducible rfl | rfl) (by simp only [erun, eall, estep, avs, tts, Nat.reduceAdd, Nat.reduceMul, Nat.reduceSub, Nat.reduceEqDiff, Nat.reduceLT, Nat.reduceLeDiff, Int.reduceToNat, Int.reduceLE, Int.reduceLT, Int.toNat_natCast, reduceCtorEq, h1, h2, h3, l1', l2', Option.map_none, ksh_s] <;> first | with_reducible rfl | rfl) ?_
 repeat refine aw_seq ?_
 refine aw_cond rfl rfl (fun hb => ?_) fun hb => ?_
 ·cases hb
 refine aw_skip ?_
 have hLn := h.len
 have hrw := h.row
 rw [h.n1] at h1
 repeat refine aw_seq ?_
 refine aw_mid (env0 := .ptr Y.bl 0 :: .undef :: .undef :: .ptr H.length 0 :: iA 0 :: List.replicate 29 .undef ++ bA (decide ((400 : Int) ≤ (B.ents.length : Int))) :: List.replicate 138 .undef) (H0 := H ++ [.box 27 (stA s)]) ?_ ?_
 ·rcases hrw with ⟨ho, hE⟩ | ⟨ol, ov, ho, hrow⟩
  ·rw [ho] at h1
   repeat refine aw_seq ?_
   refine aw_run ttOk (by kernel_rfl) (by simp only [erun, eall, estep, avs, tts, Nat.reduceAdd, Nat.reduceMul, Nat.reduceSub, Nat.reduceEqDiff, Nat.reduceLT, Nat.reduceLeDiff, Int.reduceToNat, Int.reduceLE, Int.reduceLT, Int.toNat_natCast, reduceCtorEq, h1, slA, nilS] <;> first | with_reducible rfl | rfl) ?_
   refine ⟨rfl, ?_, .inl rfl⟩
   simp [EnvLe, List.replicate, iA, bA, hE]
  ·rw [ho] at h1
   have hrow' := got hrow
   repeat refine aw_seq ?_
   refine aw_run ttOk (by kernel_rfl) (by simp only [erun, eall, estep, avs, tts, Nat.reduceAdd, Nat.reduceMul, Nat.reduceSub, Nat.reduceEqDiff, Nat.reduceLT, Nat.reduceLeDiff, Int.reduceToNat, Int.reduceLE, Int.reduceLT, Int.toNat_natCast, reduceCtorEq, h1, slA, hrow', hLn] <;> first | with_reducible rfl | rfl) ?_
   refine ⟨rfl, ?_, .inl rfl⟩
   simp [EnvLe, List.replicate, iA, bA]
 simp only [List.replicate, List.cons_append, List.nil_append, iA, bA, stA]
 repeat refine aw_seq ?_
 refine aw_cond rfl rfl (fun hb => ?_) fun hb => ?_
 ·have h4 : 400 ≤ B.ents.length := by have := of_decide_eq_true hb; omega
  repeat refine aw_seq ?_
  refine aw_run ttOk (by kernel_rfl) (by simp only [erun, eall, estep, avs, tts, Nat.reduceAdd, Nat.reduceMul, Nat.reduceSub, Nat.reduceEqDiff, Nat.reduceLT, Nat.reduceLeDiff, Int.reduceToNat, Int.reduceLE, Int.reduceLT, Int.toNat_natCast, reduceCtorEq] <;> first | with_reducible rfl | rfl) ?_
  refine aw_ret ⟨_, rfl, ?_, Y, rfl, ?_, .app H _⟩
  ·simp [h4, iA]
  ·simp [h4]
   exact h.app _
 have h4 : ¬ 400 ≤ B.ents.length := by have := of_decide_eq_false hb; omega
 refine aw_skip ?_
 repeat refine aw_seq ?_
 refine aw_draw 7 ttOk mixed (by kernel_rfl) (by kernel_rfl) (by kernel_rfl) ?_
 refine ahops_runT 2 (by simp only [hrun, hstep, avs, tts, Nat.reduceAdd, Nat.reduceMul, Nat.reduceSub, Nat.reduceEqDiff, Nat.reduceLT, Nat.reduceLeDiff, Int.reduceToNat, Int.reduceLE, Int.reduceLT, Int.toNat_natCast, reduceCtorEq] <;> first | with_reducible rfl | rfl) ?_
 refine ahops_pure rfl (by simp only [avs] <;> rfl) (clones_a base s.uses hf.lu) trivial (by simp only [avs] <;> rfl) ?_
 refine ahops_runT 2 (by simp only [hrun, hstep, avs, tts, Nat.reduceAdd, Nat.reduceMul, Nat.reduceSub, Nat.reduceEqDiff, Nat.reduceLT, Nat.reduceLeDiff, Int.reduceToNat, Int.reduceLE, Int.reduceLT, Int.toNat_natCast, reduceCtorEq] <;> first | with_reducible rfl | rfl) ?_
 refine ahops_pure rfl (by simp only [avs] <;> rfl) (clonei_a base s.inputs hf.li) trivial (by simp only [avs] <;> rfl) ?_
 refine ahops_runT 1 (by simp only [hrun, hstep, avs, tts, Nat.reduceAdd, Nat.reduceMul, Nat.reduceSub, Nat.reduceEqDiff, Nat.reduceLT, Nat.reduceLeDiff, Int.reduceToNat, Int.reduceLE, Int.reduceLT, Int.toNat_natCast, reduceCtorEq] <;> first | with_reducible rfl | rfl) ?_
 refine ahops_nil ?_
 refine aops_run 3 (by simp only [erun, eall, estep, avs, tts, Nat.reduceAdd, Nat.reduceMul, Nat.reduceSub, Nat.reduceEqDiff, Nat.reduceLT, Nat.reduceLeDiff, Int.reduceToNat, Int.reduceLE, Int.reduceLT, Int.toNat_natCast, reduceCtorEq, strsP, inpsP] <;> first | with_reducible rfl | rfl) ?_
 refine aops_nil ?_
 repeat refine aw_seq ?_
 refine aw_run ttOk (by kernel_rfl) (by simp only [erun, eall, estep, avs, tts, Nat.reduceAdd, Nat.reduceMul, Nat.reduceSub, Nat.reduceEqDiff, Nat.reduceLT, Nat.reduceLeDiff, Int.reduceToNat, Int.reduceLE, Int.reduceLT, Int.toNat_natCast, reduceCtorEq] <;> first | with_reducible rfl | rfl) ?_
 refine aw_goes (env' := .ptr Y.bl 0 :: .undef :: .undef :: .ptr H.length 0 :: iA 0 :: .ptr (H.length + 1) 0 :: List.replicate 167 .undef) (H' := H ++ [.box 27 (stA s), .box 87 [.ptr Y.bl 0, .d (.v (.string s.id)), .d (.v (.string s.prod)), .d (.v (.int .i64 s.q)), .d (.v (.string s.holder)), .d (strsP s.uses), .d (inpsP s.inputs), .d (.v (.int .i64 s.idx)), .d (strsP s.sig), .d (strsP s.path), nilS]]) ⟨by simp [EnvLe, List.replicate, iA], .inl rfl⟩ ?_
 simp only [List.replicate, iA, stA]
 repeat refine aw_seq ?_
 refine aw_run ttOk (by kernel_rfl) (by simp only [erun, eall, estep, avs, tts, Nat.reduceAdd, Nat.reduceMul, Nat.reduceSub, Nat.reduceEqDiff, Nat.reduceLT, Nat.reduceLeDiff, Int.reduceToNat, Int.reduceLE, Int.reduceLT, Int.toNat_natCast, reduceCtorEq, inpsP] <;> first | with_reducible rfl | rfl) ?_
 refine aw_block (aw_loop (H0 := H ++ [.box 27 (stA s), .box 87 [.ptr Y.bl 0, .d (.v (.string s.id)), .d (.v (.string s.prod)), .d (.v (.int .i64 s.q)), .d (.v (.string s.holder)), .d (strsP s.uses), .d (inpsP s.inputs), .d (.v (.int .i64 s.idx)), .d (strsP s.sig), .d (strsP s.path), nilS]]) (fun m env K => ∃ k ins od cl, cl = H.length + 1 ∧ m = s.inputs.length - k ∧ k ≤ s.inputs.length ∧ resolve B (s.inputs.take k) = some ins ∧ (∃ G, K = H ++ G) ∧ K[H.length]? = some (.box 27 (stA s)) ∧ CandAt K cl Y B s ins od ∧ (∀ a, od = some a → H.length + 2 ≤ a.1) ∧ env = .ptr Y.bl 0 :: .undef :: .undef :: .ptr H.length 0 :: iA 0 :: .ptr cl 0 :: List.replicate 42 .undef ++ .d (inpsP s.inputs) :: iA s.inputs.length :: iA k :: List.replicate 122 .undef) ?_ ⟨0, [], none, H.length + 1, rfl, rfl, Nat.zero_le _, rfl, ⟨_, rfl⟩, H_get0 _ _, ⟨H_get H _ 1, rfl, fun j hj => by cases hj⟩, (fun a ha => by cases ha), rfl⟩ ?_)
 ·refine ⟨by simp [EnvLe, iA, List.replicate, inpsP], .inl rfl⟩
 rintro m env K ⟨k, ins, od, cl, hcl, rfl, hk, hres, ⟨G0, hK⟩, hst, hc, hod, rfl⟩ hN
 have hbk : Book K Y B := by rw [hK]; exact h.app G0
 have hko : KeepO H K := by rw [hK]; exact .app H G0
 simp only [List.replicate, List.cons_append, List.nil_append, iA]
 repeat refine aw_seq ?_
 refine aw_run ttOk (by kernel_rfl) (by simp only [erun, eall, estep, avs, tts, Nat.reduceAdd, Nat.reduceMul, Nat.reduceSub, Nat.reduceEqDiff, Nat.reduceLT, Nat.reduceLeDiff, Int.reduceToNat, Int.reduceLE, Int.reduceLT, Int.toNat_natCast, reduceCtorEq] <;> first | with_reducible rfl | rfl) ?_
 repeat refine aw_seq ?_
 refine aw_cond rfl rfl (fun hb => ?_) fun hb => ?_
 ·have hlt : k < s.inputs.length := by simpa using hb
  have hix : (0 : Int) ≤ (k : Int) := by omega
  have hgd : (s.inputs.map fun x => [PD.v (.string x.1), PD.v (.int .i64 x.2)]).getD k [] = [.v (.string s.inputs[k].1), .v (.int .i64 s.inputs[k].2)] := by simp [hlt]
  have g1 := got hbk.book
  have g2 := got hbk.byId
  have g3 := hbk.mget s.inputs[k].1
  have g4 := got hc.box
  have m1 : Y.bl < K.length + 1 := by have := lt_of_get hbk.book; omega
  have m2 : Y.ml < K.length + 1 := by have := lt_of_get hbk.byId; omega
  have m3 : cl < K.length + 1 := by have := lt_of_get hc.box; omega
  refine aw_skip ?_
  repeat refine aw_seq ?_
  refine aw_block ?_
  repeat refine aw_seq ?_
  refine aw_run ttOk (by kernel_rfl) (by simp only [erun, eall, estep, avs, tts, Nat.reduceAdd, Nat.reduceMul, Nat.reduceSub, Nat.reduceEqDiff, Nat.reduceLT, Nat.reduceLeDiff, Int.reduceToNat, Int.reduceLE, Int.reduceLT, Int.toNat_natCast, reduceCtorEq, inpsP, hgd, hix, hlt] <;> first | with_reducible rfl | rfl) ?_
  cases hfk : findB B s.inputs[k].1 with
  | none =>
   rw [hfk] at g3
   repeat refine aw_seq ?_
   refine aw_drun 8 ttOk mixed (by kernel_rfl) (by kernel_rfl) (by kernel_rfl) (by simp only [hrun, hstep, avs, tts, Nat.reduceAdd, Nat.reduceMul, Nat.reduceSub, Nat.reduceEqDiff, Nat.reduceLT, Nat.reduceLeDiff, Int.reduceToNat, Int.reduceLE, Int.reduceLT, Int.toNat_natCast, reduceCtorEq, g1, g2, g3, m1, m2, Option.map_none, ksh_s] <;> first | with_reducible rfl | rfl) (by simp only [erun, eall, estep, avs, tts, Nat.reduceAdd, Nat.reduceMul, Nat.reduceSub, Nat.reduceEqDiff, Nat.reduceLT, Nat.reduceLeDiff, Int.reduceToNat, Int.reduceLE, Int.reduceLT, Int.toNat_natCast, reduceCtorEq, g1, g2, g3, m1, m2, Option.map_none, ksh_s] <;> first | with_reducible rfl | rfl) ?_
   repeat refine aw_seq ?_
   refine aw_cond rfl rfl (fun hb => ?_) fun hb => ?_
   ·repeat refine aw_seq ?_
    refine aw_run ttOk (by kernel_rfl) (by simp only [erun, eall, estep, avs, tts, Nat.reduceAdd, Nat.reduceMul, Nat.reduceSub, Nat.reduceEqDiff, Nat.reduceLT, Nat.reduceLeDiff, Int.reduceToNat, Int.reduceLE, Int.reduceLT, Int.toNat_natCast, reduceCtorEq] <;> first | with_reducible rfl | rfl) ?_
    refine aw_ret ⟨_, rfl, ?_, Y, rfl, ?_, ?_⟩
    ·simp [h4, resolve_none hlt hfk, iA]
    ·simp only [h4, resolve_none hlt hfk]
     exact hbk.app _
    ·exact fun l o ho hx => got (hko l o ho hx) _
   ·cases hb
  | some i =>
   rw [hfk] at g3
   obtain ⟨x, hx, _⟩ := findB_some hfk
   obtain ⟨nx, hbx⟩ := hbk.box hx
   have m4 : Y.eb i < K.length + 1 := by have := lt_of_get hbx; omega
   repeat refine aw_seq ?_
   refine aw_drun 8 ttOk mixed (by kernel_rfl) (by kernel_rfl) (by kernel_rfl) (by simp only [hrun, hstep, avs, tts, Nat.reduceAdd, Nat.reduceMul, Nat.reduceSub, Nat.reduceEqDiff, Nat.reduceLT, Nat.reduceLeDiff, Int.reduceToNat, Int.reduceLE, Int.reduceLT, Int.toNat_natCast, reduceCtorEq, g1, g2, g3, m1, m2, m4, Option.map_some, ksh_s] <;> first | with_reducible rfl | rfl) (by simp only [erun, eall, estep, avs, tts, Nat.reduceAdd, Nat.reduceMul, Nat.reduceSub, Nat.reduceEqDiff, Nat.reduceLT, Nat.reduceLeDiff, Int.reduceToNat, Int.reduceLE, Int.reduceLT, Int.toNat_natCast, reduceCtorEq, g1, g2, g3, m1, m2, m4, Option.map_some, ksh_s] <;> first | with_reducible rfl | rfl) ?_
   repeat refine aw_seq ?_
   refine aw_cond rfl rfl (fun hb => ?_) fun hb => ?_
   ·cases hb
   refine aw_skip ?_
   have hinl : ins.length = k := by rw [resolve_len hres, List.length_take]; omega
   have hres' : resolve B (s.inputs.take (k + 1)) = some (ins ++ [i]) := by
    rw [List.take_succ_eq_append_getElem hlt, resolve_snoc, hres]
    simp [hfk]
   have hil : i < B.ents.length := (List.getElem?_eq_some_iff.1 hx).1
   have hlt' : ∀ j ∈ ins ++ [i], j < B.ents.length := fun j hj => by
    rcases List.mem_append.1 hj with hj | hj
    ·exact hc.lt j hj
    ·simp at hj; omega
   have hkm : k ≤ 1000000 := by have := hf.li; omega
   have b1 : ins.length ≤ 9223372036854775806 := by omega
   have b2 : (ins.length + 1) * 8 ≤ 140737488355328 := by omega
   have hKc : ∀ (G : AHeap) (o : AObj), (K ++ G).set cl o = H ++ ((G0 ++ G).set 1 o) := fun G o => by rw [hK, hcl, List.append_assoc, H_set]
   have hncl : H.length ≠ cl := by omega
   rcases od with _ | ⟨ol, ov⟩
   ·have hE : ins = [] := by simpa [RowAt] using hc.row
    repeat refine aw_seq ?_
    refine aw_drawK 13 [0] ttOk mixed (by kernel_rfl) (by kernel_rfl) (by kernel_rfl) (by kernel_rfl) ?_
    repeat (refine ahops_cons ?_; first | (apply ahops_o; rfl; simp only [hstep, avs, tts, Nat.reduceAdd, Nat.reduceMul, Nat.reduceSub, Nat.reduceEqDiff, Nat.reduceLT, Nat.reduceLeDiff, Int.reduceToNat, Int.reduceLE, Int.reduceLT, Int.toNat_natCast, reduceCtorEq, g1, g2, g3, g4, m1, m2, m3, m4, Option.map_some, ksh_s, slA, nilS] <;> (first | with_reducible rfl | rfl); first | trivial | omega) | (refine ahops_grd rfl (by simp only [avs] <;> rfl) (by rfl) ?_; first | refine hgrd_on ?_ | refine hgrd_off (by simp only [avs] <;> rfl) ?_))
    refine ahops_nil ?_
    repeat (refine aops_cons ?_; first | (apply aops_o; rfl; simp only [estep, avs, tts, Nat.reduceAdd, Nat.reduceMul, Nat.reduceSub, Nat.reduceEqDiff, Nat.reduceLT, Nat.reduceLeDiff, Int.reduceToNat, Int.reduceLE, Int.reduceLT, Int.toNat_natCast, reduceCtorEq, g4, slA, nilS] <;> (first | with_reducible rfl | rfl)) | (refine aops_grd rfl (by simp only [avs] <;> rfl) (by rfl) ?_; first | refine grd_on ?_ | refine grd_off (by simp only [avs] <;> rfl) ?_))
    refine aops_nil ?_
    repeat refine aw_seq ?_
    refine aw_region ttOk (by kernel_rfl) ?_
    repeat (refine aops_cons ?_; first | (apply aops_o; rfl; simp only [estep, avs, tts, Nat.reduceAdd, Nat.reduceMul, Nat.reduceSub, Nat.reduceEqDiff, Nat.reduceLT, Nat.reduceLeDiff, Int.reduceToNat, Int.reduceLE, Int.reduceLT, Int.toNat_natCast, reduceCtorEq, wrap_succ hlt (by have := hf.li; omega : s.inputs.length ≤ 9223372036854775807)] <;> (first | with_reducible rfl | rfl)) | (refine aops_grd rfl (by simp only [avs] <;> rfl) (by rfl) ?_; first | refine grd_on ?_ | refine grd_off (by simp only [avs] <;> rfl) ?_))
    refine aops_nil ?_
    refine ⟨s.inputs.length - (k + 1), _, _, by omega, ⟨?_, .inl rfl⟩, k + 1, [i], some (K.length + 2, 0), cl, hcl, rfl, hlt, ?_, ⟨_, hKc _ _⟩, ?_, ⟨?_, ?_, ?_⟩, ?_, rfl⟩
    ·simp [EnvLe, iA, List.replicate, inpsP]
    ·rw [hres', hE]; try rfl
    ·rw [get_set_ne hncl]; exact got hst _
    ·exact got_self hc.box _ _
    ·show _ = _
     rw [get_set_ne (by have := lt_of_get hc.box; show K.length + 2 ≠ cl; omega), H_get]
     rfl
    ·intro j hj; simp at hj; omega
    ·intro a ha; cases ha; show H.length + 2 ≤ K.length + 2; have h7 : H.length ≤ K.length := (by rw [hK]; simp); omega
   ·have hro : K[ol]? = some (.row 77 1 ov (ins.map fun j => [.ptr (Y.eb j) 0])) := hc.row
    have g5 := got hro
    have hon := hod _ rfl
    have hno : ol ≠ cl := ne_of_get hro hc.box (by simp)
    have g6 := got_set hc.box hno.symm
    have m5 : ol < K.length + 1 := by have := lt_of_get hro; omega
    repeat refine aw_seq ?_
    refine aw_drawK 13 [0] ttOk mixed (by kernel_rfl) (by kernel_rfl) (by kernel_rfl) (by kernel_rfl) ?_
    repeat (refine ahops_cons ?_; first | (apply ahops_o; rfl; simp only [hstep, avs, tts, Nat.reduceAdd, Nat.reduceMul, Nat.reduceSub, Nat.reduceEqDiff, Nat.reduceLT, Nat.reduceLeDiff, Int.reduceToNat, Int.reduceLE, Int.reduceLT, Int.toNat_natCast, reduceCtorEq, g1, g2, g3, g4, m1, m2, m3, m4, m5, Option.map_some, ksh_s, slA] <;> (first | with_reducible rfl | rfl); first | trivial | omega) | (refine ahops_grd rfl (by simp only [avs] <;> rfl) (by rfl) ?_; first | refine hgrd_on ?_ | refine hgrd_off (by simp only [avs] <;> rfl) ?_))
    refine ahops_nil ?_
    repeat (refine aops_cons ?_; first | (apply aops_o; rfl; simp only [estep, avs, tts, Nat.reduceAdd, Nat.reduceMul, Nat.reduceSub, Nat.reduceEqDiff, Nat.reduceLT, Nat.reduceLeDiff, Int.reduceToNat, Int.reduceLE, Int.reduceLT, Int.toNat_natCast, reduceCtorEq, g4, g5, g6, slA, b1, b2] <;> (first | with_reducible rfl | rfl)) | (refine aops_grd rfl (by simp only [avs] <;> rfl) (by rfl) ?_; first | refine grd_on ?_ | refine grd_off (by simp only [avs] <;> rfl) ?_))
    refine aops_nil ?_
    repeat refine aw_seq ?_
    refine aw_region ttOk (by kernel_rfl) ?_
    repeat (refine aops_cons ?_; first | (apply aops_o; rfl; simp only [estep, avs, tts, Nat.reduceAdd, Nat.reduceMul, Nat.reduceSub, Nat.reduceEqDiff, Nat.reduceLT, Nat.reduceLeDiff, Int.reduceToNat, Int.reduceLE, Int.reduceLT, Int.toNat_natCast, reduceCtorEq, wrap_succ hlt (by have := hf.li; omega : s.inputs.length ≤ 9223372036854775807)] <;> (first | with_reducible rfl | rfl)) | (refine aops_grd rfl (by simp only [avs] <;> rfl) (by rfl) ?_; first | refine grd_on ?_ | refine grd_off (by simp only [avs] <;> rfl) ?_))
    refine aops_nil ?_
    refine ⟨s.inputs.length - (k + 1), _, _, by omega, ⟨?_, .inl rfl⟩, k + 1, ins ++ [i], some (ol, ov), cl, hcl, rfl, hlt, hres', ?_, ?_, ⟨?_, ?_, hlt'⟩, ?_, rfl⟩
    ·simp [EnvLe, iA, List.replicate, inpsP]
    ·obtain ⟨d, hd⟩ : ∃ d, ol = H.length + d := ⟨ol - H.length, by have : H.length + 2 ≤ ol := hon; omega⟩
     have hset : ∀ (A C : AHeap) (o1 o2 : AObj), ((H ++ A ++ C).set (H.length + d) o1).set (H.length + 1) o2 = H ++ (((A ++ C).set d o1).set 1 o2) := fun A C o1 o2 => by rw [List.append_assoc, H_set, H_set]
     rw [hK, hcl, hd]
     exact ⟨_, hset _ _ _ _⟩
    ·rw [get_set_ne hncl, get_set_ne (by have : H.length + 2 ≤ ol := hon; omega)]; exact got hst _
    ·rw [List.length_append]
     exact get_set_same (by have := lt_of_get hc.box; simp; omega)
    ·show _ = _
     rw [get_set_ne hno, List.map_append]
     exact got_self hro _ _
    ·exact fun a ha => hod a ha
 ·have hkl : k = s.inputs.length := by simp at hb; omega
  rw [hkl, List.take_length] at hres
  refine aw_exit ?_
  refine aw_goes (env' := .ptr Y.bl 0 :: .undef :: .undef :: .ptr H.length 0 :: iA 0 :: .ptr cl 0 :: List.replicate 167 .undef) (H' := K) ⟨by simp [EnvLe, List.replicate, iA, inpsP], .inl rfl⟩ ?_
  have hq : 0 ≤ s.q ∧ s.q ≤ 1000000000 := by
   unfold properB quantB at hp
   simp only [Bool.and_eq_true, decide_eq_true_eq] at hp
   have := hf.q
   omega
  have h5 := add_checks (base := base) hT (N := H.length) (sl := H.length) h hK hc hst (fun a ha => by have := hod a ha; omega) (Nat.le_refl _) (by omega) hf (resolve_len hres) (findB_none hfi) hn hnx hl hq (signer_size hi hh)
  refine AW.mono h5 (retA_mono fun r H' ⟨q1, Y', q2, q3, q4⟩ => ?_)
  simp only [h4, hres, if_false]
  exact ⟨q1, Y', q2, q3, q4⟩
end Av
end Go.Proofs.YtnkepmfgmfeabaaGreatDoor
set_option linter.unusedVariables false
namespace Go.Proofs.YtnkepmfgmfeabaaGreatDoor
open Go Go.RowKit

section
variable {P : Program} {ops : Array Oper} {md : Region.Mode}
theorem rkinds_anyF {n : Nat} {κ : Nat → (Nat → Value) → FKind} {cons : Nat → Nat → Bool} {Res : Nat → Nat → Prop} {a0 : Act} {B : Nat} {w0 : World} {Q : Exit → Act → World → Prop} (hR : ResFacts n B w0 Res) (hF : KindFacts md ops n) (hCo : ConsFacts md ops n cons) (hT : tailB md ops n = true)
  (hst : ∀ i u, i < n → KStable B cons Res (κ i u)) (hcg : ∀ i u u2, i < n → (∀ k, k < n → depOn ops i k = true → u k = u2 k) → κ i u = κ i u2)
  (hops : ∀ j o, j < n → ops[j]? = some o → RKindOp md P ops n B w0 κ cons Res (fun u => lexFrame ops a0 u j) j o)
  (hend : ∀ (u : Nat → Value) (w : World), Below B w0 w → (∀ b, b < w0.heap.size → (∀ j, j < n → ¬ Res j b) → w.heap[b]? = w0.heap[b]?) → (∀ i, i < n → (∀ j, j < n → cons j i = false) → (κ i u).φ w (u i)) → (∀ i, i < n → (∀ j, j < n → cons j i = false) → ∀ b, (κ i u).fp (u i) b → B ≤ b ∧ b < w.heap.size) → (∀ i k, i < n → k < n → i ≠ k → (∀ j, j < n → cons j i = false) → (∀ j, j < n → cons j k = false) → ∀ b, (κ i u).fp (u i) b → ¬ (κ k u).fp (u k) b) → wpAny P md ops Q (ops.size - n) (headL ops n) (lexFrame ops a0 u n) w) :
  ∀ (m : Nat) (L : Array Bool) (u : Nat → Value) (a : Act) (w : World), unl L n = m → HeadInv md ops n L → FrameAt ops a0 u (fun i => i < n ∧ L.getD i false = true) a →
   Below B w0 w → B ≤ w.heap.size →
   (∀ i, i < n → L.getD i false = true → (∀ j, j < n → L.getD j false = true → cons j i = false) → (κ i u).φ w (u i) ∧ ∀ b, (κ i u).fp (u i) b → B ≤ b ∧ b < w.heap.size) →
   (∀ i k, i < n → k < n → i ≠ k → L.getD i false = true → L.getD k false = true → (∀ j, j < n → L.getD j false = true → cons j i = false) → (∀ j, j < n → L.getD j false = true → cons j k = false) → ∀ b, (κ i u).fp (u i) b → ¬ (κ k u).fp (u k) b) →
   (∀ j b, j < n → L.getD j false = false → Res j b → w.heap[b]? = w0.heap[b]?) →
   (∀ i j, i < n → j < n → L.getD i false = true → L.getD j false = false → (∀ k, k < n → L.getD k false = true → cons k i = false) → ∀ b, (κ i u).fp (u i) b → ¬ Res j b) →
   (∀ i, i < n → L.getD i false = true → (∀ k, k < n → L.getD k false = true → cons k i = false) → ∀ b, (κ i u).fp (u i) b → b < w0.heap.size → ∃ j, j < n ∧ Res j b) →
   (∀ b, b < w0.heap.size → (∀ j, j < n → ¬ Res j b) → w.heap[b]? = w0.heap[b]?) →
   wpAny P md ops Q (m + (ops.size - n)) L a w := by
 simp only [tailB, Bool.and_eq_true, Bool.or_eq_true, beq_iff_eq] at hT
 obtain ⟨hT1, hT2⟩ := hT
 intro m
 induction m with
 | zero =>
  intro L u a w hm inv hf hw hBw hφ hdis hru hrd hro hkp
  have hall := unl_zero L n hm
  have hle := hF.le
  have hL : L = headL ops n := by
   apply Array.ext
   ·rw [inv.size]; simp [headL]
   ·intro i h1 h2
    by_cases hin : i < n
    ·have := hall i hin
     simp [h1] at this
     simp [headL, hin, this]
    ·have := inv.tail i (by omega) (by rw [← inv.size]; exact h1)
     simp [h1] at this
     simp [headL, hin, this]
  have ht : ∀ i, i < n → L.getD i false = true := fun i hi => by
   have h1 := hall i hi
   have : i < L.size := by rw [inv.size]; omega
   simp [this] at h1 ⊢
   exact h1
  have ha : a = lexFrame ops a0 u n := hf.eq (lexFrame_at hF a0 u n (Nat.le_refl _)) fun i => ⟨fun h => h.1, fun h => ⟨h, ht i h⟩⟩
  rw [Nat.zero_add, ha, hL]
  exact hend u w hw hkp (fun i hi hc => (hφ i hi (ht i hi) fun j hj _ => hc j hj).1) (fun i hi hc => (hφ i hi (ht i hi) fun j hj _ => hc j hj).2) (fun i k hi hk hne ci ck => hdis i k hi hk hne (ht i hi) (ht k hk) (fun j hj _ => ci j hj) (fun j hj _ => ck j hj))
 | succ m ih =>
  intro L u a w hm inv hf hw hBw hφ hdis hru hrd hro hkp
  have hle := hF.le
  obtain ⟨i0, hi0, hu0, hlow⟩ : ∃ i, i < n ∧ L.getD i true = false ∧ ∀ k, k < i → L.getD k true = true := by
   rcases listed_count n L n (Nat.le_refl _) with h | h
   ·exfalso
    have : ∀ k, k ≤ n → unl L k = 0 := by
     intro k
     induction k with
     | zero => intro _; rfl
     | succ k ihk => intro hk; rw [unl, ihk (by omega), h k (by omega)]; rfl
    rw [this n (Nat.le_refl _)] at hm
    omega
   ·exact h
  have hready : i0 ∈ Region.ready md ops L := by
   have ho : ops[i0]? = some ops[i0] := Array.getElem?_eq_getElem (by omega)
   refine mem_ready.2 ⟨hu0, _, ho, fun e he hb => ?_⟩
   have h1 := hF.edge i0 _ hi0 ho e he hb
   have h2 := hlow e.on h1
   have : e.on < L.size := by rw [inv.size]; omega
   simp [this] at h2 ⊢
   exact h2
  rw [show m + 1 + (ops.size - n) = (m + (ops.size - n)) + 1 by omega]
  refine ⟨fun h0 => (by rw [h0] at hready; cases hready), fun j hj => ?_⟩
  have hjn : j < n := by
   obtain ⟨_, oj, hoj, _⟩ := mem_ready.1 hj
   have hjs := (Array.getElem?_eq_some_iff.1 hoj).1
   rcases hT1 with h | h
   ·omega
   ·rcases Nat.lt_or_ge j n with h' | h'
    ·exact h'
    ·exact absurd hj (tail_waits h.1 h.2 (by omega) inv _ i0 rfl hi0 hu0 j h')
  obtain ⟨hjun, oj, hoj, hall⟩ := mem_ready.1 hj
  have hj0 : ¬ L.getD j false = true := by rw [getD_both hjun]; simp
  have hwait : ∀ i, Region.waitsFor md ops j i = true → L.getD i false = true := fun i hi => by
   obtain ⟨o', ho', e, he, hb, hon⟩ := Region.waitsFor_spec hi
   have : o' = oj := Option.some.inj (ho'.symm.trans hoj)
   subst this
   rw [← hon]
   exact hall e he hb
  have hclosed : ∀ k i, L.getD k false = true → Region.waitsFor md ops k i = true → L.getD i false = true := fun k i hk hi => by
   obtain ⟨o', ho', e, he, hb, hon⟩ := Region.waitsFor_spec hi
   rw [← hon]
   exact inv.closed k o' ho' hk e he hb
  have hlex := lexFrame_at hF a0 u j (by omega)
  have hsame : ∀ d, d ∈ oj.looksAt ops → a.tmps[d]? = (lexFrame ops a0 u j).tmps[d]? := fun d hd => by
   by_cases hx : ∃ i, i < n ∧ dstOf ops i = some d
   ·obtain ⟨i, hi, hid⟩ := hx
    have h1 := hF.look i j hi hjn d oj hid hoj hd
    have h2 := hwait i h1.2
    rw [hf.new i d ⟨hi, h2⟩ hid, hlex.new i d h1.1 hid]
   ·rw [hf.old d fun i hi hid => hx ⟨i, hi.1, hid⟩, hlex.old d fun i hi hid => hx ⟨i, by omega, hid⟩]
  have hsel := Region.noSelect_spec hF.sel j
  have hex : execOp a.eval oj = execOp (lexFrame ops a0 u j).eval oj := exec_congr (ops := ops) (fun cs b => hsel oj cs b hoj) hsame
  have hwa : Region.wanted oj (yielded ops a.tmps) = Region.wanted oj (yielded ops (lexFrame ops a0 u j).tmps) := wanted_congr hsame
  have hlive : ∀ i, i < n → depB ops oj i = true → ∀ k, k < n → L.getD k false = true → cons k i = false := fun i hi hd k hk hLk => by
   cases hc : cons k i with
   | false => rfl
   | true =>
    exfalso
    by_cases e : j = k
    ·subst e; exact hj0 hLk
    ·exact hj0 (hclosed k j hLk (hCo.look i k j oj hi hk hjn hc e hoj hd))
  have hop := hops j oj hjn hoj u w hw hBw fun i hi hd => by
   have hdep : ∃ d, dstOf ops i = some d ∧ d ∈ oj.looksAt ops := by
    have hd' := hd
    unfold depB at hd'
    split at hd'
    ·rename_i d hd''
     exact ⟨d, hd'', by simpa using hd'⟩
    ·cases hd'
   obtain ⟨d, hd1, hd2⟩ := hdep
   exact (hφ i hi (hwait i (hF.look i j hi hjn d oj hd1 hoj hd2).2) (hlive i hi hd)).1
  have hop := hop (fun k b hk hor hb => hru k b hk (by
   rcases hor with rfl | h
   ·exact getD_both hjun
   ·cases hLk : L.getD k false with
    | false => rfl
    | true => exact absurd (hclosed k j hLk h) hj0) hb)
  have hcl : ∀ i, i < n → cons j i = true → L.getD i false = true ∧ ∀ k, k < n → L.getD k false = true → cons k i = false := fun i hi hc => by
   refine ⟨hwait i (hCo.wait i j hi hjn hc), fun k hk hLk => ?_⟩
   cases hck : cons k i with
   | false => rfl
   | true => have := hCo.one i j k hi hjn hk hc hck; subst this; exact absurd hLk hj0
  have hnext : ∀ v w', FOut B (fun b => (∃ i, i < n ∧ cons j i = true ∧ (κ i u).fp (u i) b) ∨ Res j b) (κ j u) w w' v → wpAny P md ops Q (m + (ops.size - n)) (L.setIfInBounds j true) (a.put oj.dst v) w' := fun v w' hv => by
   obtain ⟨hfr, hvφ, hvf⟩ := hv
   have hu' := unl_set L j hjun n
   have hjf : L.getD j false = false := getD_both hjun
   have hCB : ∀ b, ((∃ i, i < n ∧ cons j i = true ∧ (κ i u).fp (u i) b) ∨ Res j b) → B ≤ b := fun b h => by
    rcases h with ⟨i, hi, hc, hf⟩ | h
    ·have h1 := hcl i hi hc
     exact ((hφ i hi h1.1 h1.2).2 b hf).1
    ·exact (hR.old j b hjn h).1
   have hbel : Below B w w' := hfr.below hBw hCB
   have hLne : ∀ i, i ≠ j → (L.setIfInBounds j true).getD i false = L.getD i false := fun i hne => getD_set_ne false (Ne.symm hne)
   have hjs : j < L.size := by rw [inv.size]; omega
   have hLj : (L.setIfInBounds j true).getD j false = true := by simp [hjs]
   have hold : ∀ i, i < n → i ≠ j → (L.setIfInBounds j true).getD i false = true → (∀ k, k < n → (L.setIfInBounds j true).getD k false = true → cons k i = false) →
     L.getD i false = true ∧ (∀ k, k < n → L.getD k false = true → cons k i = false) ∧ cons j i = false := fun i hi hne hLi hc => by
    refine ⟨by rw [← hLne i hne]; exact hLi, fun k hk hLk => hc k hk ?_, hc j hjn hLj⟩
    by_cases e : k = j
    ·subst e; exact hLj
    ·rw [hLne k e]; exact hLk
   have hup : ∀ i, i < n → (L.setIfInBounds j true).getD i false = true → κ i (upd u j v) = κ i u := fun i hi hLi => by
    refine hcg i _ _ hi fun k hk hd => ?_
    refine upd_ne u v fun e => ?_
    subst e
    unfold depOn at hd
    cases ho : ops[i]? with
    | none => rw [ho] at hd; cases hd
    | some oi =>
     rw [ho] at hd
     have hdep : ∃ d, dstOf ops k = some d ∧ d ∈ oi.looksAt ops := by
      have hd' : depB ops oi k = true := hd
      unfold depB at hd'
      split at hd'
      ·rename_i d hd''
       exact ⟨d, hd'', by simpa using hd'⟩
      ·cases hd'
     obtain ⟨d, hd1, hd2⟩ := hdep
     have hwt := (hF.look k i hk hi d oi hd1 ho hd2).2
     by_cases e : i = k
     ·subst e
      exact hj0 (hwait i hwt)
     ·rw [hLne i e] at hLi
      exact hj0 (hclosed i k hLi hwt)
   refine ih (L.setIfInBounds j true) (upd u j v) (a.put oj.dst v) w' (by have := hu'.1 hjn; omega) (inv.set hj hjn) ?_ (hw.trans hbel) (Nat.le_trans hBw hfr.size) (fun i hi hLi hc => ?_) (fun i k hi hk hik hLi hLk hci hck b hbi hbk => ?_) (fun k b hk hLk hb => ?_) (fun i k hi hk hLi hLk hci b hbi hbk => ?_) (fun i hi hLi hci b hbi hlt => ?_) (fun b hlt hno => ?_)
   ·have h1 : FrameAt ops a0 (upd u j v) (fun i => i < n ∧ L.getD i false = true) a := hf.congr fun i hi => by
     rw [upd_ne u v fun e => hj0 (by rw [← e]; exact hi.2)]
    have h2 := h1.put (T := fun i => i < n ∧ (L.setIfInBounds j true).getD i false = true) j (fun i hi d hd => fun e => hF.apart i j hi.1 hjn (fun e' => hj0 (by rw [← e']; exact hi.2)) d e hd) (fun i => by
     by_cases e : j = i
     ·subst e
      simp [hjs, hjn]
     ·rw [getD_set_ne false e]
      constructor
      ·exact fun h => .inl h
      ·rintro (h | h)
       ·exact h
       ·exact absurd h.symm e)
    rw [upd_same, dstOf_some hoj] at h2
    exact h2
   ·rw [hup i hi hLi]
    by_cases e : i = j
    ·subst e
     rw [upd_same]
     refine ⟨hvφ, fun b hb => ⟨?_, (hvf b hb).2⟩⟩
     rcases (hvf b hb).1 with h | h
     ·omega
     ·exact hCB b h
    ·rw [upd_ne u v e]
     obtain ⟨h1, h2, h3⟩ := hold i hi e hLi hc
     have h4 := hφ i hi h1 h2
     refine ⟨?_, fun b hb => ⟨(h4.2 b hb).1, Nat.lt_of_lt_of_le (h4.2 b hb).2 hfr.size⟩⟩
     rcases hst i u hi with hst | ⟨hst, hidle⟩
     rotate_left
     ·exact hst w w' _ ⟨hfr.os, hfr.tape, hfr.output, hfr.size, fun b hb => hfr.block b hb fun hC => hC.elim (fun ⟨i', _, hc', _⟩ => by rw [hidle.1] at hc'; cases hc') (hidle.2 j b)⟩ h4.1
     refine hst w w' _ hbel (fun b hb => ?_) h4.1
     refine hfr.block b (h4.2 b hb).2 fun hC => ?_
     rcases hC with ⟨i', hi', hc', hf'⟩ | hC
     rotate_left
     ·exact hrd i j hi hjn h1 hjf h2 b hb hC
     have h5 := hcl i' hi' hc'
     exact hdis i i' hi hi' (fun e => by subst e; rw [h3] at hc'; cases hc') h1 h5.1 h2 h5.2 b hb hf'
   ·rw [hup i hi hLi] at hbi
    rw [hup k hk hLk] at hbk
    by_cases ei : i = j
    ·subst ei
     have ek : k ≠ i := Ne.symm hik
     rw [upd_same] at hbi
     rw [upd_ne u v ek] at hbk
     obtain ⟨h1, h2, h3⟩ := hold k hk ek hLk hck
     have h4 := hφ k hk h1 h2
     rcases (hvf b hbi).1 with h | ⟨i', hi', hc', hf'⟩ | h
     ·have := (h4.2 b hbk).2; omega
     rotate_left
     ·exact hrd k i hk hjn h1 hjf h2 b hbk h
     ·have h5 := hcl i' hi' hc'
      exact hdis i' k hi' hk (fun e => by subst e; rw [h3] at hc'; cases hc') h5.1 h1 h5.2 h2 b hf' hbk
    ·by_cases ek : k = j
     ·subst ek
      rw [upd_same] at hbk
      rw [upd_ne u v ei] at hbi
      obtain ⟨h1, h2, h3⟩ := hold i hi ei hLi hci
      have h4 := hφ i hi h1 h2
      rcases (hvf b hbk).1 with h | ⟨i', hi', hc', hf'⟩ | h
      ·have := (h4.2 b hbi).2; omega
      rotate_left
      ·exact hrd i k hi hjn h1 hjf h2 b hbi h
      ·have h5 := hcl i' hi' hc'
       exact hdis i' i hi' hi (fun e => by subst e; rw [h3] at hc'; cases hc') h5.1 h1 h5.2 h2 b hf' hbi
     ·rw [upd_ne u v ei] at hbi
      rw [upd_ne u v ek] at hbk
      obtain ⟨h1, h2, _⟩ := hold i hi ei hLi hci
      obtain ⟨h3, h4, _⟩ := hold k hk ek hLk hck
      exact hdis i k hi hk hik h1 h3 h2 h4 b hbi hbk
   ·have hkj : k ≠ j := fun e => by subst e; rw [hLj] at hLk; cases hLk
    rw [hLne k hkj] at hLk
    have h1 := hru k b hk hLk hb
    have h2 := hR.old k b hk hb
    refine (hfr.block b (Nat.lt_of_lt_of_le h2.2 hw.size) fun hC => ?_).trans h1
    rcases hC with ⟨i', hi', hc', hf'⟩ | hC
    ·have h5 := hcl i' hi' hc'
     exact hrd i' k hi' hk h5.1 hLk h5.2 b hf' hb
    ·exact hkj (hR.one k j b hk hjn hb hC)
   ·have hkj : k ≠ j := fun e => by subst e; rw [hLj] at hLk; cases hLk
    rw [hLne k hkj] at hLk
    have h2 := hR.old k b hk hbk
    rw [hup i hi hLi] at hbi
    by_cases ei : i = j
    ·subst ei
     rw [upd_same] at hbi
     rcases (hvf b hbi).1 with h | ⟨i', hi', hc', hf'⟩ | h
     ·have := hw.size; omega
     ·have h5 := hcl i' hi' hc'
      exact hrd i' k hi' hk h5.1 hLk h5.2 b hf' hbk
     ·exact hkj (hR.one k i b hk hjn hbk h)
    ·rw [upd_ne u v ei] at hbi
     obtain ⟨h1, h3, _⟩ := hold i hi ei hLi hci
     exact hrd i k hi hk h1 hLk h3 b hbi hbk
   ·rw [hup i hi hLi] at hbi
    by_cases ei : i = j
    ·subst ei
     rw [upd_same] at hbi
     rcases (hvf b hbi).1 with h | ⟨i', hi', hc', hf'⟩ | h
     ·have := hw.size; omega
     ·have h5 := hcl i' hi' hc'
      exact hro i' hi' h5.1 h5.2 b hf' hlt
     ·exact ⟨i, hjn, h⟩
    ·rw [upd_ne u v ei] at hbi
     obtain ⟨h1, h3, _⟩ := hold i hi ei hLi hci
     exact hro i hi h1 h3 b hbi hlt
   ·refine (hfr.block b (Nat.lt_of_lt_of_le hlt hw.size) fun hC => ?_).trans (hkp b hlt hno)
    rcases hC with ⟨i', hi', hc', hf'⟩ | hC
    ·have h5 := hcl i' hi' hc'
     obtain ⟨k, hk, hr⟩ := hro i' hi' h5.1 h5.2 b hf' hlt
     exact hno k hk hr
    ·exact hno j hjn hC
  show wpOp P ops Q j _ a w
  unfold wpOp
  rw [hoj]
  simp only
  rw [hwa]
  split
  ·rename_i hwt
   rw [if_pos hwt] at hop
   left
   refine wp_of_fkindAt (κ := κ j u) ?_ fun v w' h1 => hnext v w' h1
   unfold fkindAt at hop ⊢
   rw [hex]
   exact hop
  ·rename_i hwt
   rw [if_neg hwt] at hop
   exact hnext undef w ⟨Fr.of_ext (Ext.refl w), hop.1, fun b hb => absurd hb (hop.2 b)⟩
theorem any_resF {Q : Exit → Act → World → Prop} {a : Act} {w : World} {l : List Oper} (n B : Nat) (κ : Nat → (Nat → Value) → FKind) (cons : Nat → Nat → Bool) (Res : Nat → Nat → Prop)
  (hB : kindB .any l.toArray n = true) (hT : tailB .any l.toArray n = true) (hC : consB .any l.toArray n cons = true) (hR : roomB l.toArray n a.tmps.size = true) (hBw : B ≤ w.heap.size) (hst : ∀ i u, i < n → KStable B cons Res (κ i u)) (hcg : ∀ i u u2, i < n → (∀ k, k < n → depOn l.toArray i k = true → u k = u2 k) → κ i u = κ i u2) (hRes : ResFacts n B w Res)
  (hops : RKOps .any P l.toArray n B w.drew a κ cons Res 0 (l.take n))
  (hend : ∀ (u : Nat → Value) (w' : World), Below B w.drew w' → (∀ b, b < w.heap.size → (∀ j, j < n → ¬ Res j b) → w'.heap[b]? = w.heap[b]?) → (∀ i, i < n → (∀ j, j < n → cons j i = false) → (κ i u).φ w' (u i)) → (∀ i, i < n → (∀ j, j < n → cons j i = false) → ∀ b, (κ i u).fp (u i) b → B ≤ b ∧ b < w'.heap.size) → (∀ i k, i < n → k < n → i ≠ k → (∀ j, j < n → cons j i = false) → (∀ j, j < n → cons j k = false) → ∀ b, (κ i u).fp (u i) b → ¬ (κ k u).fp (u k) b) → wpList P l.toArray Q (l.drop n) (lexPut u 0 (l.take n) a) w') :
  wpAny P .any l.toArray Q l.toArray.size (Array.replicate l.toArray.size false) a w.drew := by
 have hF := kindB_facts hB
 have hle : n ≤ l.length := by have := hF.le; simpa using this
 have h0 : unl (Array.replicate l.toArray.size false) n = n := unl_new _ n hF.le
 have hRes' : ResFacts n B w.drew Res := ⟨hRes.old, hRes.one⟩
 have h1 := rkinds_anyF (P := P) (md := .any) (Q := Q) (a0 := a) (B := B) (w0 := w.drew) (κ := κ) (cons := cons) (Res := Res) hRes' hF (consB_facts hC) hT hst hcg (fun j o hj ho => by
   have := rkOps_at (P := P) (ops := l.toArray) (n := n) (B := B) (w0 := w.drew) (κ := κ) (cons := cons) (Res := Res) (a0 := a) (l.take n) 0 (fun i hi => by
    have : i < n := by rw [List.length_take] at hi; omega
    simp [List.getElem?_take_of_lt this]) hops j o (by rw [List.length_take]; omega) (by rw [Nat.zero_add]; exact ho)
   rw [Nat.zero_add] at this
   exact rkindOp_of hF hR hj ho this)
  (fun u w' hw hkp hφ hlo hdi => by
   have hT' := hT
   simp only [tailB, Bool.and_eq_true] at hT'
   have := wpAny_of_seq (P := P) (md := .any) (ops := l.toArray) (Q' := Q) (l.drop n) n (headL l.toArray n) (lexFrame l.toArray a u n) w' (fun j => by simp [List.getElem?_drop]) (by rw [List.length_drop]; exact hT'.2) (by
    have := lexPut_frame (ops := l.toArray) a u (l.take n) 0 (fun j hj => by
     have : j < n := by rw [List.length_take] at hj; omega
     simp [List.getElem?_take_of_lt this])
    rw [List.length_take, Nat.min_eq_left hle, Nat.zero_add] at this
    rw [this]
    exact hend u w' hw hkp hφ hlo hdi)
   rw [List.length_drop] at this
   exact this)
  n (Array.replicate l.toArray.size false) (fun _ => undef) a w.drew h0
  ⟨by simp, (fun j oj _ hl => by rw [getD_replicate_false] at hl; cases hl), (fun t ht htl => by simp at htl; simp [htl])⟩
  (FrameAt.nil (fun i hi => by rw [getD_replicate_false] at hi; exact absurd hi.2 (by decide))) (Below.refl _ _) hBw (fun i _ hi => by rw [getD_replicate_false] at hi; cases hi) (fun i k _ _ _ hi => by rw [getD_replicate_false] at hi; cases hi)
  (fun _ _ _ _ _ => rfl) (fun i j _ _ hi => by rw [getD_replicate_false] at hi; cases hi) (fun i _ hi => by rw [getD_replicate_false] at hi; cases hi) (fun _ _ _ => rfl)
 have e : n + (l.toArray.size - n) = l.toArray.size := by have := hF.le; omega
 rw [e] at h1
 exact h1
theorem wp_region_resF {id : Nat} {Q : Exit → Act → World → Prop} {a : Act} {w : World} {l : List Oper} (n B : Nat) (κ : Nat → (Nat → Value) → FKind) (cons : Nat → Nat → Bool) (Res : Nat → Nat → Prop) (hm : P.follows .mixedOrders = true)
  (hB : kindB .any l.toArray n = true) (hT : tailB .any l.toArray n = true) (hC : consB .any l.toArray n cons = true) (hR : roomB l.toArray n a.tmps.size = true) (hBw : B ≤ w.heap.size) (hst : ∀ i u, i < n → KStable B cons Res (κ i u)) (hcg : ∀ i u u2, i < n → (∀ k, k < n → depOn l.toArray i k = true → u k = u2 k) → κ i u = κ i u2) (hRes : ResFacts n B w Res)
  (hops : RKOps .any P l.toArray n B w.drew a κ cons Res 0 (l.take n))
  (hend : ∀ (u : Nat → Value) (w' : World), Below B w.drew w' → (∀ b, b < w.heap.size → (∀ j, j < n → ¬ Res j b) → w'.heap[b]? = w.heap[b]?) → (∀ i, i < n → (∀ j, j < n → cons j i = false) → (κ i u).φ w' (u i)) → (∀ i, i < n → (∀ j, j < n → cons j i = false) → ∀ b, (κ i u).fp (u i) b → B ≤ b ∧ b < w'.heap.size) → (∀ i k, i < n → k < n → i ≠ k → (∀ j, j < n → cons j i = false) → (∀ j, j < n → cons j k = false) → ∀ b, (κ i u).fp (u i) b → ¬ (κ k u).fp (u k) b) → wpList P l.toArray Q (l.drop n) (lexPut u 0 (l.take n) a) w') :
  (Code.region id l.toArray true).wp P Q a w :=
 wp_region_any hm (any_resF n B κ cons Res hB hT hC hR hBw hst hcg hRes hops hend)
end
end Go.Proofs.YtnkepmfgmfeabaaGreatDoor
set_option linter.unusedVariables false
namespace Go.Proofs.YtnkepmfgmfeabaaGreatDoor
open Go Go.RowKit Go.Shelf
attribute [local go_sem] Oper.semAt_some

set_option maxRecDepth 100000 in
set_option maxHeartbeats 4000000 in
theorem sign_new (secret m : ByteArray) (h i : Nat) (w : World) (hs : secret.size ≤ 1099511627776) (hm : m.size ≤ 1099511627776) (hh : h ≤ 9) (hh8 : h ≤ 8) (hi : i < 2 ^ h) (hT : Tabs w) :
  Calls Tryz.prog 51 #[.string secret, .int .i64 (h : Int), .int .i64 (i : Int), .string m] w fun e w' => ∃ vs vp, e = .returned (.tuple #[.agg #[.int .i64 (i : Int), vs, vp], .int .i64 0]) ∧
   IsStrC w' vs (sigT secret i m) ∧ IsStrC w' vp (pathT (keysT secret h) i) ∧ Below w.heap.size w w' ∧ (∀ b, vs.ownBlock = some b → w.heap.size ≤ b) ∧ (∀ b, vp.ownBlock = some b → w.heap.size ≤ b) := by
 have HT := Lib.hid hT
 have HI := Lib.hid hi
 have HP := Lib.hid (wrap_pow h (by omega))
 have HPW : Hid (2 ^ h ≤ 512) := Lib.hid (Nat.pow_le_pow_right (n := 2) (by decide) hh)
 have hn : 2 ^ h ≤ 512 := Nat.pow_le_pow_right (n := 2) (by decide) hh
 have hi' : i ≤ 512 := by omega
 have hd1 : decide ((h : Int) < 0) = false := decide_eq_false (by omega)
 have hd2 : decide ((8 : Int) < (h : Int)) = false := decide_eq_false (by omega)
 have hd3 : decide ((i : Int) < 0) = false := decide_eq_false (by omega)
 have hd4 : decide (((2 ^ h : Nat) : Int) ≤ (i : Int)) = false := decide_eq_false (by omega)
 have hd4' : decide (((2 : Int) ^ h) ≤ (i : Int)) = false := by
  have e : ((2 ^ h : Nat) : Int) = (2 : Int) ^ h := by simp
  rw [← e]; exact hd4
 have hwp := HP.out
 clear hT hi hn
 refine calls_of_wp_marks (n := 5) Tryz.func51 rfl ?_
 simp only [Tryz.ntmps51, List.size_toArray, List.length_cons, List.length_nil, Nat.reduceAdd, Nat.reduceSub, Array.replicate_succ, Array.replicate_zero, List.push_toArray, List.append_toArray, List.nil_append, List.cons_append]
 go_wp2_with fail
 go_quiet (fail)
 go_wp2_with fail
 refine (sdigits_calls m _).mono ?_
 rintro e w' ⟨rfl, rfl⟩
 go_wp2_with fail

 have hfive := heap_five w nq (.cells #[.string secret] 9) (.cells #[.int .i64 (i : Int)] 3) (.cells #[.int .i64 0, .slice none 0 0, .slice none 0 0] 25) (.cells #[.int .i64 (i : Int), .slice none 0 0, .slice none 0 0] 25) (.cells #[.string m] 9)
 have hb5 := below_five w nq (.cells #[.string secret] 9) (.cells #[.int .i64 (i : Int)] 3) (.cells #[.int .i64 0, .slice none 0 0, .slice none 0 0] 25) (.cells #[.int .i64 (i : Int), .slice none 0 0, .slice none 0 0] 25) (.cells #[.string m] 9)
 simp only at hfive
 generalize (((((w.alloc (.cells #[.string secret] 9)).alloc (.cells #[.int .i64 (i : Int)] 3)).alloc (.cells #[.int .i64 0, .slice none 0 0, .slice none 0 0] 25)).drewN nq).alloc (.cells #[.int .i64 (i : Int), .slice none 0 0, .slice none 0 0] 25)).alloc (.cells #[.string m] 9) = W1 at *
 obtain ⟨hz1, hS1, hX1, hR1, hO1, hM1⟩ := hfive
 obtain ⟨ob, hob⟩ : ∃ ob, ob = w.heap.size + 1 + 1 + 1 := ⟨_, rfl⟩
 rw [← hob] at hO1 hM1
 rw [← hob]
 have hob1 : w.heap.size + 3 ≤ ob := by omega
 have hob2 : ob ≤ w.heap.size + 3 := by omega
 clear hob
 have HB1 := Lib.hid hb5
 have HS1 := Lib.hid hS1
 have HX1 := Lib.hid hX1
 have HR1 := Lib.hid hR1
 have HM1 := Lib.hid hM1
 have hlo1 : w.heap.size + 5 ≤ W1.heap.size := by omega
 have hlo2 : W1.heap.size ≤ w.heap.size + 5 := by omega
 have hT1 : Tabs W1 := HT.out.on hb5
 have HT1 := Lib.hid hT1
 have h0 : SigAt ob 25 (.int .i64 (i : Int)) W1 [] W1 := ⟨_, hO1, Own.nil _ _, Below.refl _ _⟩
 clear hT1 hb5 hz1 hS1 hX1 hR1 hO1 hM1 hwp hd1 hd2 hd3 hd4 hd4'
 have hseq := digits_stops 4 (by omega) (ob + 1) ob m hm W1 (by omega) (by rw [cell_of_row _ _ 0 _ _ _ HM1.out]; rfl) (by omega) HT1.out
 have hfrom := sigAt_from (T := 25) (x := .int .i64 (i : Int)) (W1 := W1) (ob := ob) (B := W1.heap.size) (fun pre : List (Fin 18) => pre.map fun x => chainS (startT secret i x.val) (digA m x.val)) (by omega) (by omega)
 have hKb : ∀ (W : World) (l : Nat) (o o' : Obj), W1.heap.size ≤ l → W.heap[l]? = some o → o.isCells = false → o.isWalk = false → Below ob W (W.putObj l o') := belowK_b (by omega)
 refine (wpIn_wide (n := 5)).1 ?_
 refine' wpIn_rangeFunc_ownF (F := Fence.wide) (n := 5) rfl (by omega) (gf := 109) (lb := #[.pointer (some ⟨ob + 1, 0, none⟩)]) rfl trivial (enters_of Tryz.func109 (by kernel_rfl) rfl)
  hseq ?hkt ?hkb ?hb0 ?hps (fun pre W => SigAt ob 25 (.int .i64 (i : Int)) W1 (pre.map fun x => chainS (startT secret i x.val) (digA m x.val)) W)
  (fun c pre W => False) ?hI ?hIx ?h00 _ ?assign ?body ?done ?stop
 case hkt => exact belowK_t
 case hkb => exact hKb
 case hb0 => exact Below.refl _ _
 case hps => exact fun _ => rfl
 case hI => exact hfrom
 case hIx => exact fun c _ _ _ _ h _ _ => h.elim
 case h00 => exact h0
 case assign =>
  intro l x W K hK
  gi_wp2
  exact hK
 case stop =>
  rintro D c pre W hD ⟨k, hk, rfl⟩ hx hK
  exact hx.elim
 case body =>
  rintro l pre x WB ⟨v, hv1, hv2, hv3⟩ hlen
  obtain ⟨k, hk⟩ := x
  have hkk : k ≤ 18 := by omega
  have hobW : ob < WB.heap.size := (Array.getElem?_eq_some_iff.1 hv1).1
  have hacc : (pre.map fun x : Fin 18 => chainS (startT secret i x.val) (digA m x.val)).length ≤ 18 := by rw [List.length_map]; omega
  have hdle : digA m k ≤ 15 := dig_le m k
  have hst16 := startT_size secret i k
  have HV1 := Lib.hid hv1
  have HV2 := Lib.hid hv2
  have HV3 := Lib.hid hv3
  have HMP : Hid ((pre ++ [(⟨k, hk⟩ : Fin 18)]).map (fun x => chainS (startT secret i x.val) (digA m x.val)) = pre.map (fun x : Fin 18 => chainS (startT secret i x.val) (digA m x.val)) ++ [chainS (startT secret i k) (digA m k)]) := Lib.hid (by simp)
  have HBW : Hid (Below w.heap.size w WB) := Lib.hid (HB1.out.trans (hv3.mono (by omega)))
  have HCS : Hid (WB.cell? ⟨w.heap.size, 0, none⟩ = some (.string secret)) := Lib.hid (by rw [hv3.cell (p := ⟨w.heap.size, 0, none⟩) (by show w.heap.size < ob; omega), cell_of_row _ _ 0 _ _ _ HS1.out]; rfl)
  have HCX : Hid (WB.cell? ⟨w.heap.size + 1, 0, none⟩ = some (.int .i64 (i : Int))) := Lib.hid (by rw [hv3.cell (p := ⟨w.heap.size + 1, 0, none⟩) (by show w.heap.size + 1 < ob; omega), cell_of_row _ _ 0 _ _ _ HX1.out]; rfl)
  clear hv1 hv2 hv3
  generalize pre.map (fun x : Fin 18 => chainS (startT secret i x.val) (digA m x.val)) = acc at *
  generalize digA m k = d at *
  gi_wp2_with fail
  refine wpIn_region_res 12 (ob) (fun ii u => [valF (.pointer (some ⟨ob, 1, none⟩)), OwnF (ob + 1) (acc), valF (.string secret), valF (.int .i64 (i : Int)), valF (.int .i64 (k : Int)), valF (.string (startT secret i k)), valF (.int .i64 (d : Int)), valF (.string (chainS (startT secret i k) d)), OwnF (ob + 1) ([chainS (startT secret i k) d]), OwnF (ob + 1) (acc ++ [chainS (startT secret i k) d]), valF (.pointer (some ⟨ob, 1, none⟩)), MemK ob (.cells #[.int .i64 (i : Int), u 9, .slice none 0 0] 25 (0, 0))].getD ii anyF) (fun jj ii => (jj == 9 && ii == 1)) (fun jj bb => (jj = 1 ∧ v.ownBlock = some bb) ∨ (jj = 11 ∧ bb = ob)) (by kernel_rfl) (by kernel_rfl) (fun ⟨_, _, h⟩ => h) (by kernel_rfl) (by kernel_rfl) (by kernel_rfl) (by kernel_rfl) (Nat.le_of_lt hobW) ?_ ?_ ?_ ?_ ?_
  ·intro ii u hii
   refine AllKStable.at ?_ ii
   exact ⟨.inl (valF_stable _ _), .inl (ownF_st _ _ _), .inl (valF_stable _ _), .inl (valF_stable _ _), .inl (valF_stable _ _), .inl (valF_stable _ _), .inl (valF_stable _ _), .inl (valF_stable _ _), .inl (ownF_st _ _ _), .inl (ownF_st _ _ _), .inl (valF_stable _ _), .inl (memK_st _ _ _), trivial⟩
  ·intro ii u u2 hii hx
   match ii, hii, hx with
   | 0, _, _ => rfl
   | 1, _, _ => rfl
   | 2, _, _ => rfl
   | 3, _, _ => rfl
   | 4, _, _ => rfl
   | 5, _, _ => rfl
   | 6, _, _ => rfl
   | 7, _, _ => rfl
   | 8, _, _ => rfl
   | 9, _, _ => rfl
   | 10, _, _ => rfl
   | 11, _, hx =>
    have h9 := hx 9 (by decide) (by kernel_rfl)
    show MemK ob (.cells #[.int .i64 (i : Int), u 9, .slice none 0 0] 25 (0, 0)) = MemK ob (.cells #[.int .i64 (i : Int), u2 9, .slice none 0 0] 25 (0, 0))
    rw [h9]
   | m + 12, hm, _ => exact absurd hm (by omega)
  ·refine ⟨fun j b _ h => ?_, fun j j2 b _ _ h h2 => ?_⟩
   ·rcases h with ⟨_, h⟩ | ⟨_, h⟩
    ·have := own_block HV2.out b h; omega
    ·omega
   ·rcases h with ⟨_, h⟩ | ⟨_, h⟩ <;> rcases h2 with ⟨_, h2⟩ | ⟨_, h2⟩
    ·omega
    ·have := own_block HV2.out b h; omega
    ·have := own_block HV2.out b h2; omega
    ·omega
  ·refine And.intro (fun u W A hW hBW hd hv hr => ?_) ?_
   ·have t10 : A.eval (.tmp 10) = .pointer (some ⟨ob, 0, none⟩) := (hv 10 (by kernel_rfl)).trans (by kernel_rfl)
    clear hd hv
    have s10 := evalT t10
    clear t10
    refine fk_run ?_
    go_simp
   refine And.intro (fun u W A hW hBW hd hv hr => ?_) ?_
   ·have e0 : u 0 = .pointer (some ⟨ob, 1, none⟩) := hd 0 (by decide) (by kernel_rfl)
    have t36 : A.eval (.tmp 36) = .pointer (some ⟨ob, 1, none⟩) := (hv 36 (by kernel_rfl)).trans ((by kernel_rfl : slotV _ _ _ u 36 = u 0).trans e0)
    have hW1 := below_undrew hW
    have hsz : WB.heap.size ≤ W.heap.size := hW1.size
    have ho : Own (ob + 1) W v acc := ownF_st (ob + 1) ob acc _ W v hW1 (fun b hb => hr 1 b (by decide) (.inl rfl) (.inl ⟨rfl, hb⟩)) HV2.out
    have hcl : W.cell? ⟨ob, 1, none⟩ = some v := by rw [cell_of_row W ob 1 _ _ _ ((hr 11 ob (by decide) (.inr (by kernel_rfl)) (.inr ⟨rfl, rfl⟩)).trans HV1.out)]; rfl
    clear hd hv
    have s36 := evalT t36
    clear t36
    exact fk_load_own (v := v) (by go_simp) ho (fun b hb => .inr (.inl ⟨rfl, hb⟩))
   refine And.intro (fun u W A hW hBW hd hv hr => ?_) ?_
   ·have t4 : A.eval (.tmp 4) = .pointer (some ⟨w.heap.size, 0, none⟩) := (hv 4 (by kernel_rfl)).trans (by kernel_rfl)
    have hW1 := below_undrew hW
    have hsz : WB.heap.size ≤ W.heap.size := hW1.size
    have hcl : W.cell? ⟨w.heap.size, 0, none⟩ = some (.string secret) := by rw [hW1.cell (p := ⟨w.heap.size, 0, none⟩) (by show w.heap.size < ob; omega)]; exact HCS.out
    clear hd hv
    have s4 := evalT t4
    clear t4
    refine fk_run ?_
    go_simp
   refine And.intro (fun u W A hW hBW hd hv hr => ?_) ?_
   ·have t6 : A.eval (.tmp 6) = .pointer (some ⟨w.heap.size + 1, 0, none⟩) := (hv 6 (by kernel_rfl)).trans (by kernel_rfl)
    have hW1 := below_undrew hW
    have hsz : WB.heap.size ≤ W.heap.size := hW1.size
    have hcl : W.cell? ⟨w.heap.size + 1, 0, none⟩ = some (.int .i64 (i : Int)) := by rw [hW1.cell (p := ⟨w.heap.size + 1, 0, none⟩) (by show w.heap.size + 1 < ob; omega)]; exact HCX.out
    clear hd hv
    have s6 := evalT t6
    clear t6
    refine fk_run ?_
    go_simp
   refine And.intro (fun u W A hW hBW hd hv hr => ?_) ?_
   ·have t11 : A.eval (.tmp 11) = .int .i64 (k : Int) := (hv 11 (by kernel_rfl)).trans (by kernel_rfl)
    clear hd hv
    have s11 := evalT t11
    clear t11
    refine fk_run ?_
    go_simp
   refine And.intro (fun u W A hW hBW hd hv hr => ?_) ?_
   ·have e2 : u 2 = .string secret := hd 2 (by decide) (by kernel_rfl)
    have e3 : u 3 = .int .i64 (i : Int) := hd 3 (by decide) (by kernel_rfl)
    have e4 : u 4 = .int .i64 (k : Int) := hd 4 (by decide) (by kernel_rfl)
    have t38 : A.eval (.tmp 38) = .string secret := (hv 38 (by kernel_rfl)).trans ((by kernel_rfl : slotV _ _ _ u 38 = u 2).trans e2)
    have t39 : A.eval (.tmp 39) = .int .i64 (i : Int) := (hv 39 (by kernel_rfl)).trans ((by kernel_rfl : slotV _ _ _ u 39 = u 3).trans e3)
    have t40 : A.eval (.tmp 40) = .int .i64 (k : Int) := (hv 40 (by kernel_rfl)).trans ((by kernel_rfl : slotV _ _ _ u 40 = u 4).trans e4)
    have hW1 := below_undrew hW
    have hsz : WB.heap.size ≤ W.heap.size := hW1.size
    clear hd hv
    have s38 := evalT t38
    have s39 := evalT t39
    have s40 := evalT t40
    clear t38 t39 t40
    refine fk_enter (f := 81) (args := #[.string secret, .int .i64 (i : Int), .int .i64 (k : Int)]) (by go_simp) (fk_val ?_)
    exact start_calls secret i k W hs (by omega) (by omega) (HT.out.on (HBW.out.trans (hW1.mono (by omega))))
   refine And.intro (fun u W A hW hBW hd hv hr => ?_) ?_
   ·have t12 : A.eval (.tmp 12) = .int .i64 (d : Int) := (hv 12 (by kernel_rfl)).trans (by kernel_rfl)
    clear hd hv
    have s12 := evalT t12
    clear t12
    refine fk_run ?_
    go_simp
   refine And.intro (fun u W A hW hBW hd hv hr => ?_) ?_
   ·have e5 : u 5 = .string (startT secret i k) := hd 5 (by decide) (by kernel_rfl)
    have e6 : u 6 = .int .i64 (d : Int) := hd 6 (by decide) (by kernel_rfl)
    have t41 : A.eval (.tmp 41) = .string (startT secret i k) := (hv 41 (by kernel_rfl)).trans ((by kernel_rfl : slotV _ _ _ u 41 = u 5).trans e5)
    have t42 : A.eval (.tmp 42) = .int .i64 (d : Int) := (hv 42 (by kernel_rfl)).trans ((by kernel_rfl : slotV _ _ _ u 42 = u 6).trans e6)
    have hW1 := below_undrew hW
    have hsz : WB.heap.size ≤ W.heap.size := hW1.size
    clear hd hv
    have s41 := evalT t41
    have s42 := evalT t42
    clear t41 t42
    refine fk_enter (f := 80) (args := #[.string (startT secret i k), .int .i64 (d : Int)]) (by go_simp) (fk_val ?_)
    have hch := chain_calls (startT secret i k) (by omega) (d : Int) W (HT.out.on (HBW.out.trans (hW1.mono (by omega))))
    rw [chainN_nat d (by omega)] at hch
    exact hch
   refine And.intro (fun u W A hW hBW hd hv hr => ?_) ?_
   ·have e7 : u 7 = .string (chainS (startT secret i k) d) := hd 7 (by decide) (by kernel_rfl)
    have t43 : A.eval (.tmp 43) = .string (chainS (startT secret i k) d) := (hv 43 (by kernel_rfl)).trans ((by kernel_rfl : slotV _ _ _ u 43 = u 7).trans e7)
    have hW1 := below_undrew hW
    have hsz : WB.heap.size ≤ W.heap.size := hW1.size
    clear hd hv
    have s43 := evalT t43
    clear t43
    exact fk_step (v := .slice (some ⟨W.heap.size, 0, none⟩) 1 1) (w' := W.alloc (.cells #[.string (chainS (startT secret i k) d)] 9)) (by go_simp) (fk_own_of (by omega) (own_lit W [chainS (startT secret i k) d] (show 1 ≤ maxLen by decide)) ((Below.refl _ _).alloc (Nat.le_refl _) _))
   refine And.intro (fun u W A hW hBW hd hv hr => ?_) ?_
   ·have e1 : Own (ob + 1) W (u 1) (acc) := hd 1 (by decide) (by kernel_rfl)
    have e8 : Own (ob + 1) W (u 8) ([chainS (startT secret i k) d]) := hd 8 (by decide) (by kernel_rfl)
    have t37 : A.eval (.tmp 37) = u 1 := (hv 37 (by kernel_rfl)).trans (by kernel_rfl)
    have t44 : A.eval (.tmp 44) = u 8 := (hv 44 (by kernel_rfl)).trans (by kernel_rfl)
    have hW1 := below_undrew hW
    have hsz : WB.heap.size ≤ W.heap.size := hW1.size
    clear hd hv
    exact fk_append (.tmp 37) (.tmp 44) rfl t37 t44 e1 e8.strc (by omega) (by simp <;> omega) (fun c hc => .inl ⟨1, by decide, by decide, hc⟩)
   refine And.intro (fun u W A hW hBW hd hv hr => ?_) ?_
   ·have t10 : A.eval (.tmp 10) = .pointer (some ⟨ob, 0, none⟩) := (hv 10 (by kernel_rfl)).trans (by kernel_rfl)
    clear hd hv
    have s10 := evalT t10
    clear t10
    refine fk_run ?_
    go_simp
   refine And.intro (fun u W A hW hBW hd hv hr => ?_) ?_
   ·have e9 : Own (ob + 1) W (u 9) (acc ++ [chainS (startT secret i k) d]) := hd 9 (by decide) (by kernel_rfl)
    have e10 : u 10 = .pointer (some ⟨ob, 1, none⟩) := hd 10 (by decide) (by kernel_rfl)
    have t46 : A.eval (.tmp 46) = .pointer (some ⟨ob, 1, none⟩) := (hv 46 (by kernel_rfl)).trans ((by kernel_rfl : slotV _ _ _ u 46 = u 10).trans e10)
    have t45 : A.eval (.tmp 45) = u 9 := (hv 45 (by kernel_rfl)).trans (by kernel_rfl)
    have hW1 := below_undrew hW
    have hsz : WB.heap.size ≤ W.heap.size := hW1.size
    have hob5 := (hr 11 ob (by decide) (.inl rfl) (.inr ⟨rfl, rfl⟩)).trans HV1.out
    clear hd hv
    have s46 := evalT t46
    have s45 := evalT t45
    clear t46 t45
    have hcl : W.cell? ⟨ob, 1, none⟩ = some v := by rw [cell_of_row W ob 1 _ _ _ hob5]; rfl
    have hfz : W.frozen? ⟨ob, 1, none⟩ = false := by simp [World.frozen?, hob5]
    obtain ⟨ao9, n9, c9, hv9⟩ := own_form e9
    change fkindAt _ _ _ _ _ _ (MemK ob (.cells #[.int .i64 (i : Int), u 9, .slice none 0 0] 25 (0, 0)))
    rw [hv9] at s45 ⊢
    refine fk_store (b := ob) (i := 1) (v := .slice ao9 n9 c9) (by go_simp) (by omega) (.inr (.inr ⟨rfl, rfl⟩)) ?_
    rw [heap_set_same W ob 1 _ _ _ _ hob5]; rfl
   exact trivial
  intro u W' hb' hk' hf'
  have e9 : Own (ob + 1) W' (u 9) (acc ++ [chainS (startT secret i k) d]) := hf' 9 (by decide) (by decide)
  have e11 : W'.heap[ob]? = some (.cells #[.int .i64 (i : Int), u 9, .slice none 0 0] 25 (0, 0)) := hf' 11 (by decide) (by decide)
  have hb1 := below_undrew hb'
  clear hf' hb'
  simp only [List.drop, wpList]
  refine ⟨keeps_of hb1.size (S := fun b => v.ownBlock = some b ∨ b = ob) (fun b hb hS => hk' b hb (fun j _ h => ?_)) (fun b hS => ?_), hb1, u 9, e11, by rw [HMP.out]; exact e9, HV3.out.trans hb1⟩
  ·rcases h with ⟨_, h⟩ | ⟨_, h⟩
   ·exact hS (.inl h)
   ·exact hS (.inr h)
  ·rcases hS with h | h
   ·exact own_cells HV2.out h
   ·exact ⟨_, _, _, by rw [h]; exact HV1.out⟩
 case done =>
  rintro D xs WD hD rfl ⟨v, hv1, hv2, hv3⟩ hK
  rw [sig_map] at hv2
  obtain ⟨aov, nv, cv, rfl⟩ := own_form hv2
  have hobW : ob < WD.heap.size := (Array.getElem?_eq_some_iff.1 hv1).1
  have HV1 := Lib.hid hv1
  have HV2 := Lib.hid hv2
  have HKD := Lib.hid hK
  have HBW : Hid (Below w.heap.size w WD) := Lib.hid (HB1.out.trans (hv3.mono (by omega)))
  have HCS : Hid (WD.cell? ⟨w.heap.size, 0, none⟩ = some (.string secret)) := Lib.hid (by rw [hv3.cell (p := ⟨w.heap.size, 0, none⟩) (by show w.heap.size < ob; omega), cell_of_row _ _ 0 _ _ _ HS1.out]; rfl)
  have HCX : Hid (WD.cell? ⟨w.heap.size + 1, 0, none⟩ = some (.int .i64 (i : Int))) := Lib.hid (by rw [hv3.cell (p := ⟨w.heap.size + 1, 0, none⟩) (by show w.heap.size + 1 < ob; omega), cell_of_row _ _ 0 _ _ _ HX1.out]; rfl)
  have HRD : Hid (WD.heap[w.heap.size + 1 + 1]? = some (.cells #[.int .i64 0, .slice none 0 0, .slice none 0 0] 25 (0, 0))) := Lib.hid ((hv3.block _ (by omega)).trans HR1.out)
  clear hv1 hv2 hv3 hK
  go_wp2_with fail
  refine wp_region_resF 10 (ob) (fun ii u => [valF (.string secret), valF (.int .i64 (h : Int)), OwnF ob (keysT secret h), valF (.int .i64 (i : Int)), TupO (pathT (keysT secret h) i), TupO (pathT (keysT secret h) i), FstK (u 5), valF (.int .i64 0), valF (.pointer (some ⟨ob, 2, none⟩)), MemK ob (.cells #[.int .i64 (i : Int), .slice aov nv cv, u 6] 25 (0, 0))].getD ii anyF) (fun jj ii => (jj == 5 && ii == 4)) (fun jj bb => (jj = 9 ∧ bb = ob)) (by kernel_rfl) (by kernel_rfl) (by kernel_rfl) (by kernel_rfl) (by kernel_rfl) (Nat.le_of_lt hobW) ?_ ?_ ?_ ?_ ?_
  ·intro ii u hii
   refine AllKStable.at ?_ ii
   exact ⟨.inl (valF_stable _ _), .inl (valF_stable _ _), .inl (ownF_st _ _ _), .inl (valF_stable _ _), .inl (tupO_st _ _), .inl (tupO_st _ _), .inl (fstK_st _ _), .inl (valF_stable _ _), .inl (valF_stable _ _), .inl (memK_st _ _ _), trivial⟩
  ·intro ii u u2 hii hx
   match ii, hii, hx with
   | 0, _, _ => rfl
   | 1, _, _ => rfl
   | 2, _, _ => rfl
   | 3, _, _ => rfl
   | 4, _, _ => rfl
   | 5, _, _ => rfl
   | 6, _, hx =>
    have h5 := hx 5 (by decide) (by kernel_rfl)
    show FstK (u 5) = FstK (u2 5)
    rw [h5]
   | 7, _, _ => rfl
   | 8, _, _ => rfl
   | 9, _, hx =>
    have h6 := hx 6 (by decide) (by kernel_rfl)
    show MemK ob (.cells #[.int .i64 (i : Int), .slice aov nv cv, u 6] 25 (0, 0)) = MemK ob (.cells #[.int .i64 (i : Int), .slice aov nv cv, u2 6] 25 (0, 0))
    rw [h6]
   | m + 10, hm, _ => exact absurd hm (by omega)
  ·refine ⟨fun j b _ h => ?_, fun j j2 b _ _ h h2 => ?_⟩
   ·obtain ⟨_, h⟩ := h; omega
   ·obtain ⟨h, _⟩ := h; obtain ⟨h2, _⟩ := h2; omega
  ·refine And.intro (fun u W A hW hBW hd hv hr => ?_) ?_
   ·have t4 : A.eval (.tmp 4) = .pointer (some ⟨w.heap.size, 0, none⟩) := (hv 4 (by kernel_rfl)).trans (by kernel_rfl)
    have hW1 := below_undrew hW
    have hsz : WD.heap.size ≤ W.heap.size := hW1.size
    have hcl : W.cell? ⟨w.heap.size, 0, none⟩ = some (.string secret) := by rw [hW1.cell (p := ⟨w.heap.size, 0, none⟩) (by show w.heap.size < ob; omega)]; exact HCS.out
    clear hd hv
    have s4 := evalT t4
    clear t4
    refine fk_run ?_
    go_simp
   refine And.intro (fun u W A hW hBW hd hv hr => ?_) ?_
   ·have t1 : A.eval (.tmp 1) = .int .i64 (h : Int) := (hv 1 (by kernel_rfl)).trans (by kernel_rfl)
    clear hd hv
    have s1 := evalT t1
    clear t1
    refine fk_run ?_
    go_simp
   refine And.intro (fun u W A hW hBW hd hv hr => ?_) ?_
   ·have e0 : u 0 = .string secret := hd 0 (by decide) (by kernel_rfl)
    have e1 : u 1 = .int .i64 (h : Int) := hd 1 (by decide) (by kernel_rfl)
    have t48 : A.eval (.tmp 48) = .string secret := (hv 48 (by kernel_rfl)).trans ((by kernel_rfl : slotV _ _ _ u 48 = u 0).trans e0)
    have t49 : A.eval (.tmp 49) = .int .i64 (h : Int) := (hv 49 (by kernel_rfl)).trans ((by kernel_rfl : slotV _ _ _ u 49 = u 1).trans e1)
    have hW1 := below_undrew hW
    have hsz : WD.heap.size ≤ W.heap.size := hW1.size
    clear hd hv
    have s48 := evalT t48
    have s49 := evalT t49
    clear t48 t49
    refine fk_enter (f := 66) (args := #[.string secret, .int .i64 (h : Int)]) (by go_simp) (fk_own (by omega) ?_)
    exact keys_calls secret h W hs (by omega) (HT.out.on (HBW.out.trans (hW1.mono (by omega))))
   refine And.intro (fun u W A hW hBW hd hv hr => ?_) ?_
   ·have t6 : A.eval (.tmp 6) = .pointer (some ⟨w.heap.size + 1, 0, none⟩) := (hv 6 (by kernel_rfl)).trans (by kernel_rfl)
    have hW1 := below_undrew hW
    have hsz : WD.heap.size ≤ W.heap.size := hW1.size
    have hcl : W.cell? ⟨w.heap.size + 1, 0, none⟩ = some (.int .i64 (i : Int)) := by rw [hW1.cell (p := ⟨w.heap.size + 1, 0, none⟩) (by show w.heap.size + 1 < ob; omega)]; exact HCX.out
    clear hd hv
    have s6 := evalT t6
    clear t6
    refine fk_run ?_
    go_simp
   refine And.intro (fun u W A hW hBW hd hv hr => ?_) ?_
   ·have e2 : Own ob W (u 2) (keysT secret h) := hd 2 (by decide) (by kernel_rfl)
    have e3 : u 3 = .int .i64 (i : Int) := hd 3 (by decide) (by kernel_rfl)
    have t50 : A.eval (.tmp 50) = u 2 := (hv 50 (by kernel_rfl)).trans (by kernel_rfl)
    have t51 : A.eval (.tmp 51) = .int .i64 (i : Int) := (hv 51 (by kernel_rfl)).trans ((by kernel_rfl : slotV _ _ _ u 51 = u 3).trans e3)
    have hW1 := below_undrew hW
    have hsz : WD.heap.size ≤ W.heap.size := hW1.size
    clear hd hv
    have s50 := evalT t50
    have s51 := evalT t51
    clear t50 t51
    refine fk_enter (f := 82) (args := #[u 2, .int .i64 (i : Int)]) (by go_simp) (fk_tup ?_)
    exact path_new (keysT secret h) (u 2) i W e2.strc (keys_sizes secret h) (by rw [keysT_len]; have := HPW.out; omega) (by rw [keysT_len]; exact HI.out) (HT.out.on (HBW.out.trans (hW1.mono (by omega))))
   refine And.intro (fun u W A hW hBW hd hv hr => ?_) ?_
   ·have e4 : ∃ v', u 4 = .tuple #[v', .int .i64 0] ∧ IsStrC W v' (pathT (keysT secret h) i) ∧ ∀ b, v'.ownBlock = some b → b < W.heap.size := hd 4 (by decide) (by kernel_rfl)
    have t52 : A.eval (.tmp 52) = u 4 := (hv 52 (by kernel_rfl)).trans (by kernel_rfl)
    clear hd hv
    have s52 := evalT t52
    clear t52
    refine fk_step (v := u 4) (w' := W) (by go_simp) ⟨Fr.of_ext (Ext.refl W), e4, fun b hb => ?_⟩
    obtain ⟨v4, h4, hs4, hl4⟩ := e4
    obtain ⟨v2, h2, hb2⟩ := hb
    have e2 : v4 = v2 := by rw [h4] at h2; simpa using h2
    subst e2
    exact ⟨.inr (.inl ⟨4, by decide, by decide, ⟨v4, h4, hb2⟩⟩), hl4 b hb2⟩
   refine And.intro (fun u W A hW hBW hd hv hr => ?_) ?_
   ·have e5 : ∃ v', u 5 = .tuple #[v', .int .i64 0] ∧ IsStrC W v' (pathT (keysT secret h) i) ∧ ∀ b, v'.ownBlock = some b → b < W.heap.size := hd 5 (by decide) (by kernel_rfl)
    have t47 : A.eval (.tmp 47) = u 5 := (hv 47 (by kernel_rfl)).trans (by kernel_rfl)
    clear hd hv
    have s47 := evalT t47
    clear t47
    obtain ⟨v5, h5, hs5, hl5⟩ := e5
    rw [h5] at s47
    obtain ⟨ao5, c5, hv5⟩ := strc_form hs5
    exact fk_step (v := v5) (w' := W) (by go_simp) ⟨Fr.of_ext (Ext.refl W), ⟨h5, _, _, _, hv5⟩, fun b hb => hb.elim⟩
   refine And.intro (fun u W A hW hBW hd hv hr => ?_) ?_
   ·have e5 : ∃ v', u 5 = .tuple #[v', .int .i64 0] ∧ IsStrC W v' (pathT (keysT secret h) i) ∧ ∀ b, v'.ownBlock = some b → b < W.heap.size := hd 5 (by decide) (by kernel_rfl)
    have t47 : A.eval (.tmp 47) = u 5 := (hv 47 (by kernel_rfl)).trans (by kernel_rfl)
    clear hd hv
    have s47 := evalT t47
    clear t47
    obtain ⟨v5, h5, hs5, hl5⟩ := e5
    rw [h5] at s47
    refine fk_run ?_
    go_simp
   refine And.intro (fun u W A hW hBW hd hv hr => ?_) ?_
   ·have t10 : A.eval (.tmp 10) = .pointer (some ⟨ob, 0, none⟩) := (hv 10 (by kernel_rfl)).trans (by kernel_rfl)
    clear hd hv
    have s10 := evalT t10
    clear t10
    refine fk_run ?_
    go_simp
   refine And.intro (fun u W A hW hBW hd hv hr => ?_) ?_
   ·have e6 : u 5 = .tuple #[u 6, .int .i64 0] ∧ ∃ ao n c, u 6 = .slice ao n c := hd 6 (by decide) (by kernel_rfl)
    have e8 : u 8 = .pointer (some ⟨ob, 2, none⟩) := hd 8 (by decide) (by kernel_rfl)
    have t55 : A.eval (.tmp 55) = .pointer (some ⟨ob, 2, none⟩) := (hv 55 (by kernel_rfl)).trans ((by kernel_rfl : slotV _ _ _ u 55 = u 8).trans e8)
    have t53 : A.eval (.tmp 53) = u 6 := (hv 53 (by kernel_rfl)).trans (by kernel_rfl)
    have hW1 := below_undrew hW
    have hsz : WD.heap.size ≤ W.heap.size := hW1.size
    have hob5 := (hr 9 ob (by decide) (.inl rfl) ⟨rfl, rfl⟩).trans HV1.out
    clear hd hv
    have s55 := evalT t55
    have s53 := evalT t53
    clear t55 t53
    have hcl : W.cell? ⟨ob, 2, none⟩ = some (.slice none 0 0) := by rw [cell_of_row W ob 2 _ _ _ hob5]; rfl
    have hfz : W.frozen? ⟨ob, 2, none⟩ = false := by simp [World.frozen?, hob5]
    change fkindAt _ _ _ _ _ _ (MemK ob (.cells #[.int .i64 (i : Int), .slice aov nv cv, u 6] 25 (0, 0)))
    obtain ⟨e6, ao6, n6, c6, hv6⟩ := e6
    rw [hv6] at s53 ⊢
    refine fk_store (b := ob) (i := 2) (v := .slice ao6 n6 c6) (by go_simp) (by omega) (.inr ⟨rfl, rfl⟩) ?_
    rw [heap_set_same W ob 2 _ _ _ _ hob5]; rfl
   exact trivial
  intro u W' hb' hk' hf' hn' hdj'
  have n5 := hn' 5 (by decide) (by decide)
  have e5 : ∃ v', u 5 = .tuple #[v', .int .i64 0] ∧ IsStrC W' v' (pathT (keysT secret h) i) ∧ _ := hf' 5 (by decide) (by decide)
  have e6 : u 5 = .tuple #[u 6, .int .i64 0] := (hf' 6 (by decide) (by decide)).1
  have e9 : W'.heap[ob]? = some (.cells #[.int .i64 (i : Int), .slice aov nv cv, u 6] 25 (0, 0)) := hf' 9 (by decide) (by decide)
  have hb1 := below_undrew hb'
  clear hf' hb' hn' hdj'
  obtain ⟨vp, hvp, hsp, _⟩ := e5
  have HN5 : Hid (∀ b, vp.ownBlock = some b → ob ≤ b) := Lib.hid (fun b hb => (n5 b ⟨vp, hvp, hb⟩).1)
  clear n5
  have h6 : u 6 = vp := by rw [hvp] at e6; simpa using e6.symm
  rw [h6] at e9
  obtain ⟨aop, cp, rfl⟩ := strc_form hsp
  generalize hnp : (pathT (keysT secret h) i).length = np at *
  have HSP := Lib.hid hsp
  clear hsp hnp e6
  have hrb : W'.heap[w.heap.size + 1 + 1]? = some (.cells #[.int .i64 0, .slice none 0 0, .slice none 0 0] 25 (0, 0)) := (hb1.block _ (by omega)).trans HRD.out
  have c0 : W'.cell? ⟨ob, 0, none⟩ = some (.int .i64 (i : Int)) := by rw [cell_of_row _ _ 0 _ _ _ e9]; rfl
  have c1 : W'.cell? ⟨ob, 1, none⟩ = some (.slice aov nv cv) := by rw [cell_of_row _ _ 1 _ _ _ e9]; rfl
  have c2 : W'.cell? ⟨ob, 2, none⟩ = some (.slice aop np cp) := by rw [cell_of_row _ _ 2 _ _ _ e9]; rfl
  have r0 : W'.cell? ⟨w.heap.size + 1 + 1, 0, none⟩ = some (.int .i64 0) := by rw [cell_of_row _ _ 0 _ _ _ hrb]; rfl
  have r1 : W'.cell? ⟨w.heap.size + 1 + 1, 1, none⟩ = some (.slice none 0 0) := by rw [cell_of_row _ _ 1 _ _ _ hrb]; rfl
  have r2 : W'.cell? ⟨w.heap.size + 1 + 1, 2, none⟩ = some (.slice none 0 0) := by rw [cell_of_row _ _ 2 _ _ _ hrb]; rfl
  have f0 : ∀ o, W'.frozen? ⟨w.heap.size + 1 + 1, o, none⟩ = false := fun o => by simp [World.frozen?, hrb]
  have HE9 := Lib.hid e9
  have HRB := Lib.hid hrb
  have HB2 := Lib.hid hb1
  have HK2 := Lib.hid hk'
  clear e9 hrb hb1 hk'
  simp only [List.take, lexPut, Nat.zero_add, Nat.reduceAdd, hvp, h6, Act.put, List.setIfInBounds_toArray, List.set_cons_succ, List.set_cons_zero]
  clear hvp h6
  simp only [List.drop, wpList]
  go_wp2_with fail
  have HKD2 : Hid (W'.heap[D]? = some (.deferred (some []))) := Lib.hid ((HK2.out D (Array.getElem?_eq_some_iff.1 HKD.out).1 (fun j _ h => by
   have := HV1.out
   rw [← h.2, HKD.out] at this
   cases this)).trans HKD.out)
  obtain ⟨g1, g2, g3, g4, g5⟩ := sign_end (x := .int .i64 (i : Int)) (v := .slice aov nv cv) (p := .slice aop np cp) HRB.out HKD2.out
  refine ⟨by simp, .inl ⟨_, _, rfl, run_takeDeferred g1, ?_⟩⟩
  have hBF := g5 w.heap.size (by omega) (by omega)
  have q0 := cell_of_row _ _ 0 _ _ _ g2
  have q1 := cell_of_row _ _ 1 _ _ _ g2
  have q2 := cell_of_row _ _ 2 _ _ _ g2
  have HG3 := Lib.hid g3
  have HG4 := Lib.hid g4
  have HBF := Lib.hid hBF
  clear g1 g2 g3 g4 g5 hBF c0 c1 c2 r0 r1 r2 f0
  generalize ((((W'.setCell ⟨w.heap.size + 1 + 1, 0, none⟩ (.int .i64 (i : Int))).setCell ⟨w.heap.size + 1 + 1, 1, none⟩ (.slice aov nv cv)).setCell ⟨w.heap.size + 1 + 1, 2, none⟩ (.slice aop np cp)).putObj D (.deferred none)) = WF at *
  refine ⟨.tuple #[.agg #[.int .i64 (i : Int), .slice aov nv cv, .slice aop np cp], .int .i64 0], by simp [results, Tryz.f51, go_sem, q0, q1, q2], .slice aov nv cv, .slice aop np cp, rfl, ?_, strc_keep HSP.out HG4.out HG3.out, ?_, fun b hb => ?_, fun b hb => ?_⟩
  ·have ho : Own (ob + 1) W' (.slice aov nv cv) (sigT secret i m) := ownF_st (ob + 1) ob _ WD W' _ HB2.out (fun b hb => HK2.out b (own_block HV2.out b hb).2 (fun j _ h => by have := (own_block HV2.out b hb).1; omega)) HV2.out
   exact strc_keep ho.strc HG4.out HG3.out
  ·exact (HBW.out.trans (HB2.out.mono (by omega))).trans HBF.out
  ·have := (own_block HV2.out b hb).1
   omega
  ·have := HN5.out b hb
   omega
end Go.Proofs.YtnkepmfgmfeabaaGreatDoor
set_option linter.unusedVariables false
set_option linter.unusedSimpArgs false
namespace Go.Proofs.YtnkepmfgmfeabaaGreatDoor
open Go Go.RowKit
namespace Av

/-! What comes in az an argument, az pure data: for every type of numbers, texts, truths, structs, arrays and slices of these. -/
inductive PT where
 | b
 | s
 | i (k : IntKind)
 | sl (es : List PT)
def fieldsPT (sh : TypeId → Option (List PT)) (co : TypeId → Nat) : List Field → Nat → Option (List PT)
 | [], _ => some []
 | f :: r, o => match sh f.type with
  | some ts => if f.offset = o ∧ co f.type = ts.length then (fieldsPT sh co r (o + ts.length)).map (ts ++ ·) else none
  | none => none
def shapePT (P : Program) : Nat → TypeId → Option (List PT)
 | 0, _ => none
 | m + 1, t => match P.underlying t with
  | some .bool => some [.b]
  | some .string => some [.s]
  | some (.int k) => some [.i k]
  | some (.slice e) => match shapePT P m e with
   | some ts => if P.cellsOf e = ts.length ∧ 0 < ts.length then some [.sl ts] else none
   | none => none
  | some (.struct fs) => match fieldsPT (shapePT P m) P.cellsOf fs.toList 0 with
   | some ts => if P.cellsOf t = ts.length then some ts else none
   | none => none
  | _ => none
mutual
def PT.fits : PT → PD → Prop
 | .b, .v (.bool _) => True
 | .s, .v (.string _) => True
 | .i k, .v (.int k' _) => k' = k
 | .sl ts, .sl k l => k = ts.length ∧ ∀ it ∈ l, fitsL ts it
 | _, _ => False
def fitsL : List PT → List PD → Prop
 | [], [] => True
 | t :: ts, p :: ps => t.fits p ∧ fitsL ts ps
 | _, _ => False
end
theorem fitsL.length : ∀ {ts : List PT} {ps : List PD}, fitsL ts ps → ps.length = ts.length
 | [], [], _ => rfl
 | [], _ :: _, h => by simp only [fitsL] at h
 | _ :: _, [], h => by simp only [fitsL] at h
 | t :: ts, p :: ps, h => by simp only [fitsL] at h; simp [h.2.length]
theorem fitsL.append : ∀ {ts us : List PT} {ps qs : List PD}, fitsL ts ps → fitsL us qs → fitsL (ts ++ us) (ps ++ qs)
 | [], us, [], qs, _, k => k
 | [], _, _ :: _, _, h, _ => by simp only [fitsL] at h
 | _ :: _, _, [], _, h, _ => by simp only [fitsL] at h
 | t :: ts, us, p :: ps, qs, h, k => by simp only [fitsL, List.cons_append] at h ⊢; exact ⟨h.1, h.2.append k⟩
theorem PT.fits.one {t : PT} {p : PD} (h : t.fits p) : p.one = true := by
 cases t with
 | b => cases p with
  | v x => cases x <;> simp_all [PT.fits, PD.one, Value.oneCell']
  | sl k l => rfl
 | s => cases p with
  | v x => cases x <;> simp_all [PT.fits, PD.one, Value.oneCell']
  | sl k l => rfl
 | i k => cases p with
  | v x => cases x <;> simp_all [PT.fits, PD.one, Value.oneCell']
  | sl k l => rfl
 | sl ts => cases p with
  | v x => simp [PT.fits] at h
  | sl k l => rfl
theorem fits_s {p : PD} (h : PT.fits .s p) : ∃ x, p = .v (.string x) := by
 cases p with
 | v x => cases x <;> simp_all [PT.fits]
 | sl k l => simp [PT.fits] at h
theorem fits_i {k : IntKind} {p : PD} (h : PT.fits (.i k) p) : ∃ x, p = .v (.int k x) := by
 cases p with
 | v x => cases x <;> simp_all [PT.fits]
 | sl k l => simp [PT.fits] at h
theorem fits_sl {ts : List PT} {p : PD} (h : PT.fits (.sl ts) p) : ∃ l, p = .sl ts.length l ∧ ∀ it ∈ l, fitsL ts it := by
 cases p with
 | v x => simp [PT.fits] at h
 | sl k l => simp only [PT.fits] at h; exact ⟨l, by rw [h.1], h.2⟩
theorem fits_cons {t : PT} {ts : List PT} {ps : List PD} (h : fitsL (t :: ts) ps) : ∃ p r, ps = p :: r ∧ t.fits p ∧ fitsL ts r := by
 cases ps with
 | nil => simp only [fitsL] at h
 | cons p r => simp only [fitsL] at h; exact ⟨p, r, rfl, h.1, h.2⟩
theorem fits_nil {ps : List PD} (h : fitsL [] ps) : ps = [] := by
 cases ps with
 | nil => rfl
 | cons p r => simp only [fitsL] at h
/-- a list whose elements are each of a form -/
theorem list_of {α : Type} {f : α → List PD} {l : List (List PD)} (h : ∀ it ∈ l, ∃ x, it = f x) : ∃ xs : List α, l = xs.map f := by
 induction l with
 | nil => exact ⟨[], rfl⟩
 | cons it r ih =>
  obtain ⟨x, rfl⟩ := h it (by simp)
  obtain ⟨xs, rfl⟩ := ih fun it hi => h it (by simp [hi])
  exact ⟨x :: xs, rfl⟩
theorem fits_strs {p : PD} (h : PT.fits (.sl [.s]) p) : ∃ l : List ByteArray, p = .sl 1 (l.map fun x => [.v (.string x)]) := by
 obtain ⟨l, rfl, hl⟩ := fits_sl h
 obtain ⟨xs, rfl⟩ := list_of (f := fun x : ByteArray => [PD.v (.string x)]) (l := l) fun it hi => by
  obtain ⟨p, r, rfl, h1, h2⟩ := fits_cons (hl it hi)
  obtain ⟨x, rfl⟩ := fits_s h1
  exact ⟨x, by rw [fits_nil h2]⟩
 exact ⟨xs, rfl⟩
section
variable {H : Type} {enc : TypeId × Value → H} {P : Program} {w : World} {base : Nat} {spare : Nat → Bool} {held : Bool}
theorem cells_pc {s : St} (hw : s.w = w) {b : Nat} : ∀ {ts : List PT} {ps : List PD} {cs : List Value} {o : Nat}, fitsL ts ps → RepL s (dL ps) cs → (∀ j v, cs[j]? = some v → w.cell? ⟨b, o + j, none⟩ = some v) → PCells w s.imm ps b o
 | [], [], cs, o, _, _, _ => by simp only [PCells]
 | [], _ :: _, _, _, h, _, _ => by simp only [fitsL] at h
 | _ :: _, [], _, _, h, _, _ => by simp only [fitsL] at h
 | t :: ts, p :: ps, cs, o, h, hr, hc => by
  simp only [fitsL] at h
  simp only [dL, List.map_cons, RepL, Rep] at hr
  obtain ⟨x, r, rfl, h1, h2⟩ := hr
  simp only [PCells]
  refine ⟨⟨h.1.one, x, by simpa using hc 0 x rfl, by rw [← hw]; exact h1⟩, cells_pc hw h.2 h2 fun j v hj => ?_⟩
  have := hc (j + 1) v (by simpa using hj)
  rw [show o + 1 + j = o + (j + 1) by omega]
  exact this
theorem rows_pc {imm : Nat → Prop} {b k : Nat} : ∀ {l : List (List PD)} {o : Nat}, (∀ i, i < l.length → (l.getD i []).length = k ∧ PCells w imm (l.getD i []) b (o + i * k)) → PRows w imm l b k o
 | [], o, _ => by simp only [PRows]
 | it :: r, o, h => by
  simp only [PRows]
  have h0 := h 0 (by simp)
  simp only [List.getD_cons_zero, Nat.zero_mul, Nat.add_zero] at h0
  refine ⟨h0.1, h0.2, rows_pc fun i hi => ?_⟩
  have := h (i + 1) (by simpa using hi)
  simp only [List.getD_cons_succ] at this
  rw [show o + k + i * k = o + (i + 1) * k by rw [Nat.add_mul]; omega]
  exact this
theorem fields_pd {s : St} {n : Nat} (ih : ∀ (m : Nat) (t : TypeId) (cs : List Value) (x : DataW H × List MemPlace) (ts : List PT), shapePT P m t = some ts → DataW.trod enc P w base spare held n t cs = some x → ∃ ps, fitsL ts ps ∧ RepL s (dL ps) cs) {m : Nat} {cs : List Value} :
  ∀ (fs : List Field) (o : Nat) (ts : List PT), fieldsPT (shapePT P m) P.cellsOf fs o = some ts → o + ts.length = cs.length → (∀ f ∈ fs, ∃ x, DataW.trod enc P w base spare held n f.type ((cs.drop f.offset).take (P.cellsOf f.type)) = some x) →
   ∃ ps, fitsL ts ps ∧ RepL s (dL ps) (cs.drop o)
 | [], o, ts, h, hl, _ => by
  simp only [fieldsPT, Option.some.injEq] at h
  subst h
  exact ⟨[], by simp only [fitsL], by rw [List.drop_of_length_le (by simp at hl; omega)]; exact .nil⟩
 | f :: r, o, ts, h, hl, hx => by
  simp only [fieldsPT] at h
  split at h
  case h_2 => cases h
  rename_i us hus
  split at h
  case isFalse => cases h
  rename_i hof
  simp only [Option.map_eq_some_iff] at h
  obtain ⟨vs, h, rfl⟩ := h
  obtain ⟨x, hx0⟩ := hx f (by simp)
  obtain ⟨ps, h1, h2⟩ := ih m _ _ x us hus hx0
  rw [List.length_append] at hl
  obtain ⟨qs, h3, h4⟩ := fields_pd ih r (o + us.length) vs h (by omega) fun g hg => hx g (by simp [hg])
  refine ⟨ps ++ qs, h1.append h3, ?_⟩
  rw [hof.1, hof.2] at h2
  have := h2.append h4
  rw [show List.take us.length (List.drop o cs) ++ List.drop (o + us.length) cs = cs.drop o by rw [← List.drop_drop, List.take_append_drop]] at this
  rw [show dL (ps ++ qs) = dL ps ++ dL qs by simp [dL]]
  exact this
theorem open_pd {s : St} (hw : s.w = w) (hi : ∀ b, b < w.heap.size → s.imm b) : ∀ (n m : Nat) (t : TypeId) (cs : List Value) (x : DataW H × List MemPlace) (ts : List PT), shapePT P m t = some ts → DataW.trod enc P w base spare held n t cs = some x → ∃ ps, fitsL ts ps ∧ RepL s (dL ps) cs
 | 0, m, t, cs, x, ts, h, hx => by simp [DataW.trod] at hx
 | n + 1, 0, t, cs, x, ts, h, hx => by simp [shapePT] at h
 | n + 1, m + 1, t, cs, x, ts, h, hx => by
  unfold shapePT at h
  split at h
  ·rename_i hu
   cases h
   obtain ⟨b, rfl, _⟩ := DataW.trod_bool hu hx
   exact ⟨[.v (.bool b)], by simp [fitsL, PT.fits], .one (by simp only [Rep, PRep]; exact ⟨trivial, trivial⟩)⟩
  ·rename_i hu
   cases h
   obtain ⟨b, rfl, _, hs⟩ := DataW.trod_string hu hx
   exact ⟨[.v (.string b)], by simp [fitsL, PT.fits], .one (by simp only [Rep, PRep]; exact ⟨trivial, hs⟩)⟩
  ·rename_i k hu
   cases h
   obtain ⟨b, rfl, _, hs⟩ := DataW.trod_int hu hx
   exact ⟨[.v (.int k b)], by simp [fitsL, PT.fits], .one (by simp only [Rep, PRep]; exact ⟨trivial, by simpa [Lit.wf, small] using hs⟩)⟩
  ·rename_i e hu
   split at h
   case h_2 => cases h
   rename_i us hus
   split at h
   case isFalse => cases h
   rename_i hk
   cases h
   rcases DataW.trod_slice hu hx with ⟨rfl, _⟩ | ⟨a, len, cap, elems, rest, n', e1, rfl, _, hb, hl, hc, hel, hev, _, _⟩
   ·exact ⟨[.sl us.length []], by simp [fitsL, PT.fits], .one (by simp only [Rep, PRep]; exact ⟨none, 0, rfl, Nat.zero_le _, Nat.zero_le _, .inl trivial⟩)⟩
   ·obtain rfl : n = n' := by omega
    have each : ∀ i, i < len → ∃ ps : List PD, fitsL us ps ∧ PCells w s.imm ps a.block (a.off + i * us.length) ∧ a.spot = none ∧ a.block < w.heap.size := fun i hil => by
     have h1 := hev i hil
     obtain ⟨y, hy⟩ : ∃ y, elems[i]? = some y := ⟨_, List.getElem?_eq_getElem (by omega)⟩
     rw [hy] at h1
     obtain ⟨ci, h2, h3⟩ := Option.bind_eq_some_iff.1 h1
     obtain ⟨ps, h4, h5⟩ := open_pd hw hi n m e ci y us hus h3
     unfold World.cells? at h2
     rw [hk.1] at h2
     split at h2
     case isFalse => cases h2
     have hlc := mapM_some_length h2
     have hg := mapM_some_get h2
     simp only [List.length_range] at hlc
     have hj : ∀ j, j < us.length → w.cell? ((a.add (i * us.length)).add j) = ci[j]? := fun j hj => hg j j (by simp [hj])
     have h00 : w.cell? ((a.add (i * us.length)).add 0) = ci[0]? := hj 0 hk.2
     obtain ⟨v0, hv0⟩ : ∃ v, ci[0]? = some v := ⟨_, List.getElem?_eq_getElem (by omega)⟩
     rw [hv0] at h00
     have hblk := World.block_lt_of_cell? w _ h00
     have hblk' : a.block < w.heap.size := by
      have : ((a.add (i * us.length)).add 0).block = a.block := by unfold Addr.add; split <;> split <;> rfl
      rwa [this] at hblk
     -- the spot of the slice's own address
     have h0 := hev 0 (by omega)
     obtain ⟨y0, hy0⟩ : ∃ y, elems[0]? = some y := ⟨_, List.getElem?_eq_getElem (by omega)⟩
     rw [hy0] at h0
     obtain ⟨c0, g2, _⟩ := Option.bind_eq_some_iff.1 h0
     unfold World.cells? at g2
     rw [hk.1] at g2
     split at g2
     case isFalse => cases g2
     have glc := mapM_some_length g2
     simp only [List.length_range] at glc
     have gg := mapM_some_get g2 0 0 (by simp [hk.2])
     obtain ⟨u0, hu0⟩ : ∃ v, c0[0]? = some v := ⟨_, List.getElem?_eq_getElem (by omega)⟩
     rw [hu0] at gg
     have hsp : a.spot = none := by
      have := World.cell?_spot gg
      simpa [Addr.add] using this
     refine ⟨ps, h4, ?_, hsp, hblk'⟩
     refine cells_pc hw h4 h5 fun j v hv => ?_
     have hjl : j < us.length := by have := (List.getElem?_eq_some_iff.1 hv).1; omega
     rw [← hv, ← hj j hjl]
     congr 1
     obtain ⟨ab, ao, asp⟩ := a
     simp only at hsp
     subst hsp
     rw [addr_add, addr_add]
    obtain ⟨F, hF⟩ := Go.Deep.choose_lt each
    refine ⟨[.sl us.length ((List.range len).map F)], ?_, ?_⟩
    ·simp only [fitsL, PT.fits, and_true, true_and]
     intro it hit
     obtain ⟨i, hi1, rfl⟩ := List.mem_map.1 hit
     exact (hF i (List.mem_range.1 hi1)).1
    ·refine .one ?_
     simp only [Rep, PRep]
     refine ⟨some a, cap, by simp, by simpa using hl, hc, ?_⟩
     rcases Nat.eq_zero_or_pos len with rfl | hp
     ·exact .inl rfl
     ·have h0 := hF 0 hp
      refine .inr ⟨a.block, a.off, ?_, ?_, ?_⟩
      ·obtain ⟨ab, ao, asp⟩ := a
       have := h0.2.2.1
       simp only at this
       rw [this]
      ·exact hi _ h0.2.2.2
      ·rw [hw]
       refine rows_pc fun i hil => ?_
       have hil' : i < len := by simpa using hil
       have e2 : ((List.range len).map F).getD i [] = F i := by simp [List.getD, hil']
       rw [e2]
       exact ⟨(hF i hil').1.length, (hF i hil').2.1⟩
  ·rename_i fs hu
   split at h
   case h_2 => cases h
   rename_i us hus
   split at h
   case isFalse => cases h
   rename_i hk
   cases h
   obtain ⟨xs, n', e1, _, hl, hlen, hf⟩ := DataW.trod_struct hu hx
   obtain rfl : n = n' := by omega
   obtain ⟨ps, h1, h2⟩ := fields_pd (s := s) (fun m t cs x ts => open_pd hw hi n m t cs x ts) (cs := cs) fs.toList 0 _ hus (by omega) fun f hfm => by
    obtain ⟨i, hi1, hi2⟩ := List.mem_iff_getElem.1 hfm
    have h3 := hf i f (by simp at hi1; simp [← hi2, hi1])
    have : i < xs.length := by rw [hlen]; simpa using hi1
    exact ⟨xs[i], by rw [h3, List.getElem?_eq_getElem this]⟩
   exact ⟨ps, h1, by simpa using h2⟩
  ·cases h
end
end Av
end Go.Proofs.YtnkepmfgmfeabaaGreatDoor
set_option linter.unusedVariables false
set_option linter.unusedSimpArgs false
namespace Go.Proofs.YtnkepmfgmfeabaaGreatDoor
open Go Go.RowKit
namespace Av
attribute [local irreducible] AW AOps AHOps

/-! Signing, and what the laws call besides. -/
theorem pure_of_rep {P : Program} {base : World} {f : FuncId} {args : List AV} {r : AV} (hcall : ∀ (vs : Array Value) (w : World), (callFunc f vs).run P w = .ok (.enter f vs) w)
  (h : ∀ (s : St) (vs : Array Value), Sim base s → RepL s args vs.toList → Calls P f vs s.w fun e w' => ∃ v, e = .returned v ∧ Below s.w.heap.size s.w w' ∧ ∀ s' : St, s'.w = w' → (∀ b, b < w'.heap.size → s.w.heap.size ≤ b → s'.imm b) → Rep s' r v) : PureA P base f args r := fun H =>
 ⟨hcall, fun μ w vs hs ha => (h ⟨μ, H, w⟩ vs hs ha).mono fun e w' ⟨v, h1, h2, h3⟩ => by
  have hs' := hs.below' (s := ⟨μ, H, w⟩) h2
  refine ⟨v, r, H, μ, h1, ⟨rfl, rfl⟩, Nat.le_refl _, hs'.1, ?_, hs'.2⟩
  refine h3 ⟨μ, H, w'⟩ rfl fun b hb hge => ⟨hb, fun hl => ?_⟩
  have hlt := (hs.live_ge (s := ⟨μ, H, w⟩) hl).2
  have hge' : w.heap.size ≤ b := hge
  have hlt' : b < w.heap.size := hlt
  omega⟩
theorem strs_rep {s : St} {N : Nat} {v : Value} {l : List ByteArray} (h : IsStrC s.w v l) (hl : ∀ t ∈ l, t.size ≤ 9223372036854775807) (hn : ∀ b, v.ownBlock = some b → N ≤ b) (hi : ∀ b, b < s.w.heap.size → N ≤ b → s.imm b) : Rep s (.d (strsP l)) v := by
 obtain ⟨ao, cap, rfl, h1, h2, h3⟩ := h
 simp only [strsP, Rep, PRep, List.length_map]
 refine ⟨ao, cap, rfl, h1, h2, ?_⟩
 rcases Nat.eq_zero_or_pos l.length with h0 | hp
 ·exact .inl (by simp [List.eq_nil_of_length_eq_zero h0])
 ·obtain ⟨b, o, rfl, hb, _⟩ := h3 0 hp
  refine .inr ⟨b, o, rfl, hi b hb (hn b rfl), ?_⟩
  have each : ∀ i, i < l.length → s.w.cell? ⟨b, o + i, none⟩ = some (.string (l.getD i ByteArray.empty)) := fun i hi => by
   obtain ⟨b', o', e, _, hc⟩ := h3 i hi
   cases e
   exact hc
  refine rows_pc fun i hil => ?_
  rw [List.length_map] at hil
  have e : (l.map fun s => [PD.v (.string s)]).getD i [] = [.v (.string (l.getD i ByteArray.empty))] := by simp [List.getD, hil]
  rw [e, Nat.mul_one]
  refine ⟨rfl, ?_⟩
  simp only [PCells, and_true]
  refine ⟨rfl, _, each i hil, ?_⟩
  simp only [PRep, true_and]
  refine hl _ ?_
  rw [show l.getD i ByteArray.empty = l[i] by simp [List.getD, hil]]
  exact List.getElem_mem hil
theorem rootT_size (l : List ByteArray) : (rootT l).size = 16 := by
 rw [rootT]
 split
 ·split <;> exact sumS_size _
 ·exact sumS_size _
section
variable {base : World} (hT : Tabs base)
include hT in
theorem pub_a (secret : ByteArray) (h : Nat) (hs : secret.size ≤ 1099511627776) (hh : h ≤ 8) : PureA Tryz.prog base 41 [.d (.v (.string secret)), .d (.v (.int .i64 (h : Int)))] (.tup [.d (.v (.string (pubT secret h))), iA 0]) :=
 pure_of_rep Tryz.call41 fun s vs hsm ha => by
  obtain ⟨t1, e1, ha, _⟩ := args_str ha
  obtain ⟨t2, e2, ha⟩ := args_int ha
  rw [e2, args_nil ha] at e1
  rw [show vs = #[.string secret, .int .i64 (h : Int)] from Array.toList_inj.1 e1]
  refine (public_calls secret h s.w hs hh (tabs_s hsm hT)).mono fun e w' ⟨h1, h2⟩ => ⟨_, h1, h2, fun s' hs' hi => ?_⟩
  simp only [Rep, RepL, PRep, iA]
  refine ⟨_, rfl, _, _, rfl, ⟨rfl, ?_⟩, _, _, rfl, ⟨rfl, ?_⟩, rfl⟩
  ·have := rootT_size (keysT secret h)
   show (pubT secret h).size ≤ _
   unfold pubT
   omega
  ·show _ ∧ _; decide
include hT in
theorem seal_a (secret m : ByteArray) (h i : Nat) (hs : secret.size ≤ 1099511627776) (hm : m.size ≤ 1099511627776) (hh : h ≤ 8) (hi : i < 2 ^ h) :
  PureA Tryz.prog base 51 [.d (.v (.string secret)), .d (.v (.int .i64 (h : Int))), .d (.v (.int .i64 (i : Int))), .d (.v (.string m))] (.tup [.agg [iA i, .d (strsP (sigT secret i m)), .d (strsP (pathT (keysT secret h) i))], iA 0]) :=
 pure_of_rep Tryz.call51 fun s vs hsm ha => by
  obtain ⟨t1, e1, ha, _⟩ := args_str ha
  obtain ⟨t2, e2, ha⟩ := args_int ha
  obtain ⟨t3, e3, ha⟩ := args_int ha
  obtain ⟨t4, e4, ha, _⟩ := args_str ha
  rw [e2, e3, e4, args_nil ha] at e1
  rw [show vs = #[.string secret, .int .i64 (h : Int), .int .i64 (i : Int), .string m] from Array.toList_inj.1 e1]
  refine (sign_new secret m h i s.w hs hm (by omega) hh hi (tabs_s hsm hT)).mono fun e w' ⟨ws, wp, h1, h2, h3, h4, h5, h6⟩ => ⟨_, h1, h4, fun s' hs' him => ?_⟩
  subst hs'
  have hii : i ≤ 256 := by have : 2 ^ h ≤ 2 ^ 8 := Nat.pow_le_pow_right (by decide) hh; omega
  have r1 := strs_rep h2 (fun t ht => by have := sigT_sizes secret i m t ht; omega) h5 him
  have r2 := strs_rep h3 (fun t ht => by have := pathT_sizes (keysT secret h) i t ht; omega) h6 him
  simp only [Rep, RepL, PRep, iA]
  refine ⟨_, rfl, _, _, rfl, ⟨_, rfl, _, _, rfl, ⟨rfl, ?_⟩, _, _, rfl, ?_, _, _, rfl, ?_, rfl⟩, _, _, rfl, ⟨rfl, ?_⟩, rfl⟩
  ·show _ ∧ _
   simp only [IntKind.min, IntKind.max, IntKind.signed, IntKind.bits]
   omega
  ·simpa only [Rep] using r1
  ·simpa only [Rep] using r2
  ·show _ ∧ _; decide
include hT in
theorem public_a (secret : ByteArray) (hs : secret.size ≤ 1099511627776) : PureA Tryz.prog base 20 [.d (.v (.string secret))] (.d (.v (.string (pubT secret 2)))) := by
 refine pure_enter ttOk Tryz.call20 Tryz.func20 rfl fun H hB hb hF => ?_
 rw [Tryz.results20, Tryz.ntmps20]
 simp only [arr_list, List.length_cons, List.length_nil, List.replicate, List.cons_append, List.nil_append, Nat.reduceAdd, Nat.reduceSub]
 repeat refine aw_seq ?_
 refine aw_region ttOk (by kernel_rfl) ?_
 repeat (refine aops_cons ?_; first | (apply aops_o; rfl; simp only [estep, avs, tts, Nat.reduceAdd, Nat.reduceMul, Nat.reduceSub, Nat.reduceEqDiff, Nat.reduceLT, Nat.reduceLeDiff, Int.reduceToNat, Int.reduceLE, Int.reduceLT, Int.toNat_natCast, reduceCtorEq] <;> (first | with_reducible rfl | rfl)) | (refine aops_grd rfl (by simp only [avs] <;> rfl) (by rfl) ?_; first | refine grd_on ?_ | refine grd_off (by simp only [avs] <;> rfl) ?_))
 refine aops_nil ?_
 repeat refine aw_seq ?_
 refine aw_region ttOk (by kernel_rfl) ?_
 repeat (refine aops_cons ?_; first | (apply aops_o; rfl; simp only [estep, avs, tts, Nat.reduceAdd, Nat.reduceMul, Nat.reduceSub, Nat.reduceEqDiff, Nat.reduceLT, Nat.reduceLeDiff, Int.reduceToNat, Int.reduceLE, Int.reduceLT, Int.toNat_natCast, reduceCtorEq] <;> (first | with_reducible rfl | rfl)) | (refine aops_grd rfl (by simp only [avs] <;> rfl) (by rfl) ?_; first | refine grd_on ?_ | refine grd_off (by simp only [avs] <;> rfl) ?_))
 refine aops_pure rfl (by simp only [avs] <;> rfl) (pub_a hT secret 2 hs (by decide)) (by simp only [avs] <;> rfl) ?_
 repeat (refine aops_cons ?_; first | (apply aops_o; rfl; simp only [estep, avs, tts, Nat.reduceAdd, Nat.reduceMul, Nat.reduceSub, Nat.reduceEqDiff, Nat.reduceLT, Nat.reduceLeDiff, Int.reduceToNat, Int.reduceLE, Int.reduceLT, Int.toNat_natCast, reduceCtorEq, iA] <;> (first | with_reducible rfl | rfl)) | (refine aops_grd rfl (by simp only [avs] <;> rfl) (by rfl) ?_; first | refine grd_on ?_ | refine grd_off (by simp only [avs] <;> rfl) ?_))
 refine aops_nil ?_
 repeat refine aw_seq ?_
 refine aw_region ttOk (by kernel_rfl) ?_
 repeat (refine aops_cons ?_; first | (apply aops_o; rfl; simp only [estep, avs, tts, Nat.reduceAdd, Nat.reduceMul, Nat.reduceSub, Nat.reduceEqDiff, Nat.reduceLT, Nat.reduceLeDiff, Int.reduceToNat, Int.reduceLE, Int.reduceLT, Int.toNat_natCast, reduceCtorEq] <;> (first | with_reducible rfl | rfl)) | (refine aops_grd rfl (by simp only [avs] <;> rfl) (by rfl) ?_; first | refine grd_on ?_ | refine grd_off (by simp only [avs] <;> rfl) ?_))
 refine aops_nil ?_
 exact aw_ret ⟨_, rfl, [], by simp, rfl⟩
/-- a statement with a seal -/
def sgnS (s : Stm) (secret : ByteArray) (i : Nat) : Stm := { s with idx := i, sig := sigT secret i (messT s), path := pathT (keysT secret 2) i }
attribute [local irreducible] messT sigT pubT
include hT in
theorem sign29_a (s : Stm) (secret : ByteArray) (i : Nat) (hs : secret.size ≤ 1099511627776) (hi : i < 4) (hf : Fits s) : PureA Tryz.prog base 22 [.agg ((stmC s).map .d), .d (.v (.string secret)), .d (.v (.int .i64 (i : Int)))] (.agg ((stmC (sgnS s secret i)).map .d)) := by
 refine pure_enter ttOk Tryz.call22 Tryz.func22 rfl fun H hB hb hF => ?_
 rw [Tryz.results22, Tryz.ntmps22]
 simp only [arr_list, List.length_cons, List.length_nil, List.replicate, List.cons_append, List.nil_append, Nat.reduceAdd, Nat.reduceSub]
 simp only [stmC, List.map_cons, List.map_nil]
 repeat refine aw_seq ?_
 refine aw_region ttOk (by kernel_rfl) ?_
 repeat (refine aops_cons ?_; first | (apply aops_o; rfl; simp only [estep, avs, tts, Nat.reduceAdd, Nat.reduceMul, Nat.reduceSub, Nat.reduceEqDiff, Nat.reduceLT, Nat.reduceLeDiff, Int.reduceToNat, Int.reduceLE, Int.reduceLT, Int.toNat_natCast, reduceCtorEq, strsP, inpsP] <;> (first | with_reducible rfl | rfl)) | (refine aops_grd rfl (by simp only [avs] <;> rfl) (by rfl) ?_; first | refine grd_on ?_ | refine grd_off (by simp only [avs] <;> rfl) ?_))
 refine aops_nil ?_
 repeat refine aw_seq ?_
 refine aw_region ttOk (by kernel_rfl) ?_
 repeat (refine aops_cons ?_; first | (apply aops_o; rfl; simp only [estep, avs, tts, Nat.reduceAdd, Nat.reduceMul, Nat.reduceSub, Nat.reduceEqDiff, Nat.reduceLT, Nat.reduceLeDiff, Int.reduceToNat, Int.reduceLE, Int.reduceLT, Int.toNat_natCast, reduceCtorEq] <;> (first | with_reducible rfl | rfl)) | (refine aops_grd rfl (by simp only [avs] <;> rfl) (by rfl) ?_; first | refine grd_on ?_ | refine grd_off (by simp only [avs] <;> rfl) ?_))
 refine aops_pure rfl (by simp only [avs] <;> rfl) (message_a hT s hf.q (fun y hy => (hf.qi y hy).1) hf.lu hf.li hf.J) (by simp only [avs] <;> rfl) ?_
 refine aops_pure rfl (by simp only [avs] <;> rfl) (seal_a hT secret (messT s) 2 i hs (by have := messT_size s; omega) (by decide) hi) (by simp only [avs] <;> rfl) ?_
 repeat (refine aops_cons ?_; first | (apply aops_o; rfl; simp only [estep, avs, tts, Nat.reduceAdd, Nat.reduceMul, Nat.reduceSub, Nat.reduceEqDiff, Nat.reduceLT, Nat.reduceLeDiff, Int.reduceToNat, Int.reduceLE, Int.reduceLT, Int.toNat_natCast, reduceCtorEq, iA, strsP] <;> (first | with_reducible rfl | rfl)) | (refine aops_grd rfl (by simp only [avs] <;> rfl) (by rfl) ?_; first | refine grd_on ?_ | refine grd_off (by simp only [avs] <;> rfl) ?_))
 refine aops_nil ?_
 repeat refine aw_seq ?_
 refine aw_region ttOk (by kernel_rfl) ?_
 repeat (refine aops_cons ?_; first | (apply aops_o; rfl; simp only [estep, avs, tts, Nat.reduceAdd, Nat.reduceMul, Nat.reduceSub, Nat.reduceEqDiff, Nat.reduceLT, Nat.reduceLeDiff, Int.reduceToNat, Int.reduceLE, Int.reduceLT, Int.toNat_natCast, reduceCtorEq] <;> (first | with_reducible rfl | rfl)) | (refine aops_grd rfl (by simp only [avs] <;> rfl) (by rfl) ?_; first | refine grd_on ?_ | refine grd_off (by simp only [avs] <;> rfl) ?_))
 refine aops_nil ?_
 refine aw_ret ⟨_, (by simp only [aResult, aResL, aRes, avs, tts] <;> rfl), _, rfl, ?_⟩
 rfl
end
end Av
end Go.Proofs.YtnkepmfgmfeabaaGreatDoor
set_option linter.unusedVariables false
set_option linter.unusedSimpArgs false
namespace Go.Proofs.YtnkepmfgmfeabaaGreatDoor
open Go Go.RowKit
namespace Av
attribute [local irreducible] AW AOps AHOps
attribute [local irreducible] messT sigT pubT verT

/-! Steps. -/
def sG : ByteArray := { data := #[103] }
/-- a statement of the examples -/
def stS (id : ByteArray) (q : Int) (holder : ByteArray) (uses : List ByteArray) (inputs : List (ByteArray × Int)) : Stm := ⟨id, sG, q, pubT holder 2, uses, inputs, 0, [], []⟩
/-- what says less -/
def LeA (a b : AV) : Prop := ∀ s v, Rep s a v → Rep s b v
theorem LeA.refl (a : AV) : LeA a a := fun _ _ h => h
theorem LeA.nil (k : Nat) : LeA (.d (.v (.slice none 0 0))) (.d (.sl k [])) := fun s v h => by
 simp only [Rep, PRep] at h ⊢
 exact ⟨none, 0, h.1, Nat.le_refl _, by unfold maxLen; omega, .inl trivial⟩
def LeL : List AV → List AV → Prop
 | [], [] => True
 | a :: l, b :: m => LeA a b ∧ LeL l m
 | _, _ => False
theorem LeL.rep {s : St} : ∀ {l m : List AV} {vs : List Value}, LeL l m → RepL s l vs → RepL s m vs
 | [], [], _, _, h => h
 | [], _ :: _, _, h, _ => h.elim
 | _ :: _, [], _, h, _ => h.elim
 | a :: l, b :: m, vs, h, k => by
  simp only [RepL] at k ⊢
  obtain ⟨x, t, h1, h2, h3⟩ := k
  exact ⟨x, t, h1, h.1 s x h2, h.2.rep h3⟩
theorem LeA.agg {l m : List AV} (h : LeL l m) : LeA (.agg l) (.agg m) := fun s v k => by
 simp only [Rep] at k ⊢
 obtain ⟨c, h1, h2⟩ := k
 exact ⟨c, h1, h.rep h2⟩
theorem PureA.le {P : Program} {base : World} {f : FuncId} {args : List AV} {r r' : AV} (h : PureA P base f args r) (k : LeA r r') : PureA P base f args r' := fun H =>
 ⟨(h H).enter, fun μ w vs hs ha => ((h H).run μ w vs hs ha).mono fun e w' ⟨v, r0, H', μ', h1, ⟨h2, h2'⟩, h3, h4, h5, h6⟩ => ⟨v, r', H', μ', h1, ⟨rfl, h2'⟩, h3, h4, k _ _ (h2 ▸ h5), h6⟩⟩
section
variable {base : World} (hT : Tabs base)
include hT in
theorem stm29_a (id : ByteArray) (q : Int) (holder : ByteArray) (uses : List ByteArray) (inputs : List (ByteArray × Int)) (hs : holder.size ≤ 1099511627776) :
  PureA Tryz.prog base 23 [.d (.v (.string id)), .d (.v (.int .i64 q)), .d (.v (.string holder)), .d (strsP uses), .d (inpsP inputs)] (.agg ((stmC (stS id q holder uses inputs)).map .d)) := by
 refine PureA.le (r := .agg [.d (.v (.string id)), .d (.v (.string sG)), .d (.v (.int .i64 q)), .d (.v (.string (pubT holder 2))), .d (strsP uses), .d (inpsP inputs), .d (.v (.int .i64 0)), .d (.v (.slice none 0 0)), .d (.v (.slice none 0 0))]) ?_ (LeA.agg ⟨.refl _, .refl _, .refl _, .refl _, .refl _, .refl _, .refl _, .nil 1, .nil 1, trivial⟩)
 refine pure_enter ttOk Tryz.call23 Tryz.func23 rfl fun H hB hb hF => ?_
 rw [Tryz.results23, Tryz.ntmps23]
 simp only [arr_list, List.length_cons, List.length_nil, List.replicate, List.cons_append, List.nil_append, Nat.reduceAdd, Nat.reduceSub]
 repeat refine aw_seq ?_
 refine aw_region ttOk (by kernel_rfl) ?_
 repeat (refine aops_cons ?_; first | (apply aops_o; rfl; simp only [estep, avs, tts, Nat.reduceAdd, Nat.reduceMul, Nat.reduceSub, Nat.reduceEqDiff, Nat.reduceLT, Nat.reduceLeDiff, Int.reduceToNat, Int.reduceLE, Int.reduceLT, Int.toNat_natCast, reduceCtorEq] <;> (first | with_reducible rfl | rfl)) | (refine aops_grd rfl (by simp only [avs] <;> rfl) (by rfl) ?_; first | refine grd_on ?_ | refine grd_off (by simp only [avs] <;> rfl) ?_))
 refine aops_nil ?_
 repeat refine aw_seq ?_
 refine aw_region ttOk (by kernel_rfl) ?_
 repeat (refine aops_cons ?_; first | (apply aops_o; rfl; simp only [estep, avs, tts, Nat.reduceAdd, Nat.reduceMul, Nat.reduceSub, Nat.reduceEqDiff, Nat.reduceLT, Nat.reduceLeDiff, Int.reduceToNat, Int.reduceLE, Int.reduceLT, Int.toNat_natCast, reduceCtorEq] <;> (first | with_reducible rfl | rfl)) | (refine aops_grd rfl (by simp only [avs] <;> rfl) (by rfl) ?_; first | refine grd_on ?_ | refine grd_off (by simp only [avs] <;> rfl) ?_))
 refine aops_pure rfl (by simp only [avs] <;> rfl) (public_a hT holder hs) (by simp only [avs] <;> rfl) ?_
 repeat (refine aops_cons ?_; first | (apply aops_o; rfl; simp only [estep, avs, tts, Nat.reduceAdd, Nat.reduceMul, Nat.reduceSub, Nat.reduceEqDiff, Nat.reduceLT, Nat.reduceLeDiff, Int.reduceToNat, Int.reduceLE, Int.reduceLT, Int.toNat_natCast, reduceCtorEq, strsP, inpsP] <;> (first | with_reducible rfl | rfl)) | (refine aops_grd rfl (by simp only [avs] <;> rfl) (by rfl) ?_; first | refine grd_on ?_ | refine grd_off (by simp only [avs] <;> rfl) ?_))
 refine aops_nil ?_
 exact aw_ret ⟨_, (by simp only [aResult, aResL, aRes, avs, tts] <;> rfl), _, rfl, rfl⟩
end
end Av
end Go.Proofs.YtnkepmfgmfeabaaGreatDoor
set_option linter.unusedVariables false
set_option linter.unusedSimpArgs false
set_option linter.unnecessarySimpa false
set_option maxRecDepth 10000
namespace Go.Proofs.YtnkepmfgmfeabaaGreatDoor
open Go Go.RowKit

/-! Public keys, reckoned by the kernel: digests az numbers. -/
theorem dec_16 : Lib.decDigits 16 = [49, 54] := by rw [Lib.decDigits_two (by decide) (by decide)]; decide
theorem dec_4 : Lib.decDigits 4 = [52] := by rw [Lib.decDigits_one (by decide)]; decide
theorem dec_1 : Lib.decDigits 1 = [49] := by rw [Lib.decDigits_one (by decide)]; decide
theorem dec_2 : Lib.decDigits 2 = [50] := by rw [Lib.decDigits_one (by decide)]; decide
def mixK3 (b : Nat) : Nat := Nat.xor b (Nat.div b 536870912)
def mixK2 (a : Nat) : Nat := mixK3 (Nat.mod (Nat.mul (Nat.xor a (Nat.div a 4294967296)) 3935559000370003845) 18446744073709551616)
def mixK (z : Nat) : Nat := mixK2 (Nat.mod (Nat.mul z 2862933555777941757) 18446744073709551616)
theorem mulK (a : BitVec 64) (c : Nat) : (a * BitVec.ofNat 64 c).toNat = Nat.mod (Nat.mul a.toNat c) 18446744073709551616 := by
 rw [BitVec.toNat_mul, BitVec.toNat_ofNat, Nat.mul_mod_mod]
 rfl
theorem shxK (a : BitVec 64) (k m : Nat) (h : 2 ^ k = m) : (a ^^^ (a >>> k)).toNat = Nat.xor a.toNat (Nat.div a.toNat m) := by
 rw [BitVec.toNat_xor, BitVec.toNat_ushiftRight, Nat.shiftRight_eq_div_pow, h]
 rfl
theorem mixK_eq (z : BitVec 64) : (mixB z).toNat = mixK z.toNat := by
 unfold mixB mixK mixK2 mixK3
 simp only
 rw [shxK _ 29 536870912 (by decide), mulK, shxK _ 32 4294967296 (by decide), mulK]
noncomputable def feedL (l : List Nat) : Nat → Nat → Nat → Nat :=
 List.rec (motive := fun _ => Nat → Nat → Nat → Nat) (fun c acc s => mixK (Nat.xor s (Nat.mul acc (Nat.pow 256 c))))
  (fun a _ ih c acc s => cond (Nat.beq c 1) (ih 8 0 (mixK (Nat.xor s (Nat.add (Nat.mul acc 256) a)))) (ih (Nat.sub c 1) (Nat.add (Nat.mul acc 256) a) s)) l
def toN (l : List UInt8) : List Nat := l.map UInt8.toNat
theorem blk_pad (t : List UInt8) (f r : Nat) : ∀ k, (∀ i, r ≤ i → i < r + k → byteAt t (f + i) = 0) → blk t f (r + k) = blk t f r * 256 ^ k
 | 0, _ => by simp
 | k + 1, h => by
  rw [← Nat.add_assoc, blk, h (r + k) (by omega) (by omega), blk_pad t f r k fun i h1 h2 => h i h1 (by omega), Nat.pow_succ]
  simp [Nat.mul_assoc]
theorem byte_out {t : List UInt8} {i : Nat} (h : t.length ≤ i) : byteAt t i = 0 := by
 unfold byteAt; rw [List.getElem?_eq_none h]; rfl
theorem st_toNat (t : List UInt8) (j : Nat) : (st t (j + 1)).toNat = mixK (Nat.xor (st t j).toNat (blk t (8 * j) 8)) := by
 rw [st, mixK_eq, BitVec.toNat_xor, BitVec.toNat_ofNat, Nat.mod_eq_of_lt (by have := blk8_lt t (8 * j); simpa using this)]
 rfl
theorem feedL_eq (t : List UInt8) : ∀ (l pre : List UInt8) (j r : Nat), t = pre ++ l → pre.length = 8 * j + r → r < 8 → feedL (toN l) (8 - r) (blk t (8 * j) r) (st t j).toNat = (endSt t).toNat
 | [], pre, j, r, ht, hp, hr => by
  have hl : t.length = 8 * j + r := by rw [ht, List.append_nil]; exact hp
  unfold endSt
  rw [show t.length / 8 + 1 = j + 1 by omega, st_toNat]
  show mixK (Nat.xor _ (Nat.mul _ (Nat.pow 256 (8 - r)))) = _
  have := blk_pad t (8 * j) r (8 - r) fun i h1 h2 => byte_out (by omega)
  rw [show r + (8 - r) = 8 by omega] at this
  rw [this]
  rfl
 | a :: l, pre, j, r, ht, hp, hr => by
  have hb : byteAt t (8 * j + r) = a.toNat := by
   unfold byteAt
   rw [ht, List.getElem?_append_right (by omega), show 8 * j + r - pre.length = 0 by omega]
   rfl
  have hk : blk t (8 * j) (r + 1) = Nat.add (Nat.mul (blk t (8 * j) r) 256) a.toNat := by
   rw [blk, hb]; rfl
  show cond (Nat.beq (8 - r) 1) (feedL (toN l) 8 0 (mixK (Nat.xor (st t j).toNat (Nat.add (Nat.mul (blk t (8 * j) r) 256) a.toNat)))) (feedL (toN l) (8 - r - 1) (Nat.add (Nat.mul (blk t (8 * j) r) 256) a.toNat) (st t j).toNat) = _
  rw [← hk]
  by_cases h7 : r = 7
  ·subst h7
   have := feedL_eq t l (pre ++ [a]) (j + 1) 0 (by rw [ht]; simp) (by simp [hp]; omega) (by omega)
   rw [st_toNat] at this
   exact this
  ·have hne : Nat.beq (8 - r) 1 = false := by
    cases e : Nat.beq (8 - r) 1 with
    | false => rfl
    | true => have := Nat.eq_of_beq_eq_true e; omega
   rw [hne]
   have := feedL_eq t l (pre ++ [a]) j (r + 1) (by rw [ht]; simp) (by simp [hp]; omega) (by omega)
   rw [show 8 - (r + 1) = 8 - r - 1 by omega] at this
   exact this
noncomputable def endN (l : List Nat) (len : Nat) : Nat := feedL l 8 0 (Nat.xor 2611923443488327891 len)
theorem endN_eq (t : List UInt8) (h : t.length < 18446744073709551616) : (endSt t).toNat = endN (toN t) t.length := by
 rw [← feedL_eq t t [] 0 0 rfl rfl (by decide)]
 show feedL (toN t) 8 (blk t (8 * 0) 0) (st t 0).toNat = feedL (toN t) 8 0 (Nat.xor 2611923443488327891 t.length)
 rw [st, BitVec.toNat_xor, BitVec.toNat_ofNat, BitVec.toNat_ofNat, Nat.mod_eq_of_lt (a := t.length) (by simp; omega)]
 rfl
def digK (d : Nat) : Nat := Nat.add (Nat.add 48 d) (Nat.mul 39 (Nat.div (Nat.add d 6) 16))
theorem digK_eq (d : Nat) (h : d < 16) : (dig d).toNat = digK d := by
 rw [dig_toNat d h]
 unfold digK
 show _ = 48 + d + 39 * ((d + 6) / 16)
 split <;> omega
/-- the digits of a digest ahead of a list -/
noncomputable def lowK (k n : Nat) (tl : List Nat) : List Nat :=
 Nat.rec (motive := fun _ => List Nat) tl (fun k ih => digK (Nat.mod (Nat.div n (Nat.pow 16 k)) 16) :: ih) k
theorem lowK_eq (k n : Nat) (tl : List UInt8) : toN (low k n ++ tl) = lowK k n (toN tl) := by
 induction k with
 | zero => rfl
 | succ k ih =>
  show toN (dig (n / 16 ^ k % 16) :: low k n ++ tl) = digK (n / 16 ^ k % 16) :: lowK k n (toN tl)
  rw [← ih, ← digK_eq _ (Nat.mod_lt _ (by decide))]
  rfl
noncomputable def sumK (n : Nat) : Nat := endN (lowK 16 n []) 16
theorem sumK_eq (n : Nat) : (endSt (low 16 n)).toNat = sumK n := by
 rw [endN_eq _ (by rw [low_length]; decide), low_length]
 have := lowK_eq 16 n []
 rw [List.append_nil] at this
 rw [this]
 rfl
noncomputable def chainK (n k : Nat) : Nat := Nat.rec (motive := fun _ => Nat) n (fun _ ih => sumK ih) k
theorem chainK_eq (t : List UInt8) : ∀ k, (endSt (chainL t k)).toNat = chainK (endSt t).toNat k
 | 0 => rfl
 | k + 1 => by
  show (endSt (low 16 (endSt (chainL t k)).toNat)).toNat = sumK (chainK (endSt t).toNat k)
  rw [sumK_eq, chainK_eq t k]
/-- a digest az a text -/
def hexT (n : Nat) : ByteArray := bS (low 16 n)
theorem sumS_hexT (t : List UInt8) : sumS (bS t) = hexT (endSt t).toNat := by rw [sumS_bS]; rfl
theorem hexT_inj {a b : Nat} (ha : a < 18446744073709551616) (hb : b < 18446744073709551616) (h : hexT a = hexT b) : a = b := by
 have := congrArg (fun x : ByteArray => x.data.toList) h
 simp only [hexT, bS_list] at this
 exact low_inj 16 (by simpa using ha) (by simpa using hb) this
/-- the joined text of digests -/
noncomputable def joinK (l : List Nat) : List Nat := List.rec (motive := fun _ => List Nat) [] (fun n _ ih => 49 :: 54 :: 58 :: lowK 16 n ih) l
theorem joinK_eq (l : List Nat) : toN (joinB (l.map hexT)) = joinK l := by
 induction l with
 | nil => rfl
 | cons n l ih =>
  rw [List.map_cons, show hexT n :: l.map hexT = [hexT n] ++ l.map hexT from rfl, joinB_append]
  have e : joinB [hexT n] = 49 :: 54 :: 58 :: low 16 n := by
   simp only [joinB, listsOf, List.map_cons, List.map_nil, joinL, hexT, bS_list, low_length, dec_16]
   simp
  rw [e]
  show 49 :: 54 :: 58 :: toN (low 16 n ++ joinB (l.map hexT)) = 49 :: 54 :: 58 :: lowK 16 n (joinK l)
  rw [lowK_eq, ih]
theorem joinK_len (l : List Nat) : (joinB (l.map hexT)).length = 19 * l.length := by
 induction l with
 | nil => rfl
 | cons n l ih =>
  rw [List.map_cons, show hexT n :: l.map hexT = [hexT n] ++ l.map hexT from rfl, joinB_append, List.length_append, ih]
  have e : joinB [hexT n] = 49 :: 54 :: 58 :: low 16 n := by
   simp only [joinB, listsOf, List.map_cons, List.map_nil, joinL, hexT, bS_list, low_length, dec_16]
   simp
  rw [e]
  simp [low_length]
  omega
theorem dg_hexT (l : List ByteArray) : dg l = hexT (endSt (joinB l)).toNat := sumS_hexT _
/-- a chain's start: text, its length -/
noncomputable def startK (pre : List Nat) (len i k : Nat) : Nat :=
 cond (Nat.blt k 10) (endN (List.append pre [49, 58, Nat.add 48 i, 49, 58, Nat.add 48 k]) (Nat.add len 6)) (endN (List.append pre [49, 58, Nat.add 48 i, 50, 58, Nat.add 48 (Nat.div k 10), Nat.add 48 (Nat.mod k 10)]) (Nat.add len 7))
theorem dig48 {n : Nat} (h : n < 10) : (UInt8.ofNat (48 + n)).toNat = 48 + n := dec_toNat n h
theorem startK_eq (secret : ByteArray) (i k : Nat) (hi : i < 10) (hk : k < 100) (hs : secret.size < 1000000) : (endSt (joinB [secret, decS i, decS k])).toNat = startK (toN (joinB [secret])) (joinB [secret]).length i k := by
 have e0 : joinB [secret, decS i, decS k] = joinB [secret] ++ (joinB [decS i] ++ joinB [decS k]) := by rw [← joinB_append, ← joinB_append]; rfl
 have e1 : joinB [decS i] = [49, 58, UInt8.ofNat (48 + i)] := by
  simp only [joinB, listsOf, List.map_cons, List.map_nil, joinL, decS, itoaS, Lib.decDigits_one hi, List.length_cons, List.length_nil, Nat.zero_add, dec_1]
  simp
 have hJ : (joinB [secret]).length ≤ 2 * secret.size + 20 := by
  simp only [joinB, listsOf, List.map_cons, List.map_nil, joinL, List.length_append, List.length_cons, List.length_nil, ← Lib.size_eq]
  have := Lib.decDigits_length secret.size
  have h20 : (Lib.decDigits secret.size).length ≤ secret.size + 1 := by
   have gen : ∀ n, (Lib.decDigits n).length ≤ n + 1 := by
    intro n
    induction n using Nat.strongRecOn with
    | _ n ih =>
     rw [Lib.decDigits]
     split
     ·simp
     ·have := ih (n / 10) (by omega)
      simp only [List.length_append, List.length_cons, List.length_nil]
      omega
   exact gen _
  omega
 unfold startK
 by_cases h10 : k < 10
 ·have e2 : joinB [decS k] = [49, 58, UInt8.ofNat (48 + k)] := by
   simp only [joinB, listsOf, List.map_cons, List.map_nil, joinL, decS, itoaS, Lib.decDigits_one h10, List.length_cons, List.length_nil, Nat.zero_add, dec_1]
   simp
  rw [show Nat.blt k 10 = true from by simpa [Nat.blt_eq] using h10]
  rw [e0, e1, e2, endN_eq _ (by simp; omega)]
  have := dig48 hi
  have := dig48 h10
  simp only [toN, List.map_append, List.map_cons, List.map_nil, List.length_append, List.length_cons, List.length_nil, dig48 hi, dig48 h10]
  rfl
 ·have e2 : joinB [decS k] = [50, 58, UInt8.ofNat (48 + k / 10), UInt8.ofNat (48 + k % 10)] := by
   simp only [joinB, listsOf, List.map_cons, List.map_nil, joinL, decS, itoaS, Lib.decDigits_two h10 hk, List.length_cons, List.length_nil, Nat.zero_add, Nat.reduceAdd, dec_2]
   simp
  rw [show Nat.blt k 10 = false from by
   cases e : Nat.blt k 10 with
   | false => rfl
   | true => rw [Nat.blt_eq] at e; omega]
  rw [e0, e1, e2, endN_eq _ (by simp; omega)]
  simp only [toN, List.map_append, List.map_cons, List.map_nil, List.length_append, List.length_cons, List.length_nil, dig48 hi, dig48 (show k / 10 < 10 by omega), dig48 (show k % 10 < 10 by omega)]
  rfl
noncomputable def endsK (pre : List Nat) (len i : Nat) : List Nat := (List.range 18).map fun k => chainK (startK pre len i k) 15
noncomputable def keyK (pre : List Nat) (len i : Nat) : Nat := endN (joinK (endsK pre len i)) 342
theorem keyK_eq (secret : ByteArray) (i : Nat) (hi : i < 10) (hs : secret.size < 1000000) : keyT secret i = hexT (keyK (toN (joinB [secret])) (joinB [secret]).length i) := by
 have e : endsT secret i = (endsK (toN (joinB [secret])) (joinB [secret]).length i).map hexT := by
  unfold endsT endsK
  rw [List.map_map]
  apply List.map_congr_left
  intro k hk
  have hk := List.mem_range.1 hk
  unfold startT
  show chainS (sumS (bS (joinB [secret, decS i, decS k]))) 15 = hexT (chainK _ 15)
  rw [← startK_eq secret i k hi (by omega) hs, ← chainK_eq, chainS_bS, sumS_bS, bS_list, chainL_tail]
  rfl
 unfold keyT
 rw [e, dg_hexT]
 unfold keyK
 rw [endN_eq _ (by rw [joinK_len]; simp [endsK]), joinK_eq, joinK_len]
 rfl
noncomputable def leafK (n : Nat) : Nat := endN (52 :: 58 :: 108 :: 101 :: 97 :: 102 :: 49 :: 54 :: 58 :: lowK 16 n []) 25
noncomputable def nodeK (a b : Nat) : Nat := endN (52 :: 58 :: 110 :: 111 :: 100 :: 101 :: 49 :: 54 :: 58 :: lowK 16 a (49 :: 54 :: 58 :: lowK 16 b [])) 44
theorem leafK_eq (n : Nat) : dg [sLeaf, hexT n] = hexT (leafK n) := by
 have e : joinB [sLeaf, hexT n] = [52, 58, 108, 101, 97, 102, 49, 54, 58] ++ (low 16 n ++ []) := by
  simp only [joinB, listsOf, List.map_cons, List.map_nil, joinL, hexT, bS_list, low_length, sLeaf, dec_16, List.length_cons, List.length_nil, Nat.zero_add, Nat.reduceAdd, dec_4]
  simp
 rw [dg_hexT, e, endN_eq _ (by simp [low_length])]
 have := lowK_eq 16 n []
 simp only [toN] at this
 simp only [toN, List.map_append, List.length_append, low_length]
 simp only [← List.map_append, this]
 rfl
set_option maxRecDepth 100000 in
theorem nodeK_eq (a b : Nat) : dg [sNode, hexT a, hexT b] = hexT (nodeK a b) := by
 have e : joinB [sNode, hexT a, hexT b] = [52, 58, 110, 111, 100, 101, 49, 54, 58] ++ (low 16 a ++ ([49, 54, 58] ++ (low 16 b ++ []))) := by
  simp only [joinB, listsOf, List.map_cons, List.map_nil, joinL, hexT, bS_list, low_length, sNode, dec_16, List.length_cons, List.length_nil, Nat.zero_add, Nat.reduceAdd, dec_4]
  simp
 rw [dg_hexT, e, endN_eq _ (by simp [low_length])]
 have h1 := lowK_eq 16 b []
 have h2 := lowK_eq 16 a ([49, 54, 58] ++ (low 16 b ++ []))
 simp only [toN] at h1 h2
 refine congrArg hexT ?_
 simp only [toN, List.length_append, low_length]
 rw [List.map_append, h2, List.map_append, h1]
 unfold nodeK
 simp only [List.map_cons, List.map_nil, List.length_cons, List.length_nil, List.cons_append, List.nil_append, Nat.reduceAdd]
 rfl
noncomputable def pubK (pre : List Nat) (len : Nat) : Nat := nodeK (nodeK (leafK (keyK pre len 0)) (leafK (keyK pre len 1))) (nodeK (leafK (keyK pre len 2)) (leafK (keyK pre len 3)))
set_option maxRecDepth 100000 in
theorem pubK_eq (secret : ByteArray) (hs : secret.size < 1000000) : pubT secret 2 = hexT (pubK (toN (joinB [secret])) (joinB [secret]).length) := by
 have e : keysT secret 2 = [keyT secret 0, keyT secret 1, keyT secret 2, keyT secret 3] := rfl
 have h4 : half 4 = 2 := by unfold half; unfold halfGo; rw [dif_pos (by decide)]; unfold halfGo; rw [dif_neg (by decide)]
 have h2 : half 2 = 1 := by unfold half; unfold halfGo; rw [dif_neg (by decide)]
 have e4 : ∀ a b c d : ByteArray, rootT [a, b, c, d] = dg [sNode, rootT [a, b], rootT [c, d]] := fun a b c d => by
  rw [rootT_many (by simp), show half [a, b, c, d].length = 2 from h4]; rfl
 have e2 : ∀ a b : ByteArray, rootT [a, b] = dg [sNode, dg [sLeaf, a], dg [sLeaf, b]] := fun a b => by
  rw [rootT_many (by simp), show half [a, b].length = 1 from h2]
  show dg [sNode, rootT [a], rootT [b]] = _
  rw [rootT_one, rootT_one]
 unfold pubT
 rw [e, e4, e2, e2, keyK_eq secret 0 (by decide) hs, keyK_eq secret 1 (by decide) hs, keyK_eq secret 2 (by decide) hs, keyK_eq secret 3 (by decide) hs]
 simp only [leafK_eq, nodeK_eq]
 unfold pubK
 rfl
/-- the keys of the examples -/
noncomputable def nIss : Nat := pubK [54, 58, 105, 115, 115, 117, 101, 114] 8
noncomputable def nA : Nat := pubK [49, 58, 97] 3
noncomputable def nB : Nat := pubK [49, 58, 98] 3
theorem iss_a : Nat.beq nIss nA = false := by kernel_rfl
theorem a_b : Nat.beq nA nB = false := by kernel_rfl
end Go.Proofs.YtnkepmfgmfeabaaGreatDoor
set_option linter.unusedVariables false
set_option linter.unusedSimpArgs false
namespace Go.Proofs.YtnkepmfgmfeabaaGreatDoor
open Go Go.RowKit
namespace Av

/-! The chapter's examples. -/
theorem isS_root (l : List ByteArray) : isS (rootT l) = true := by
 rw [rootT]
 split
 ·split <;> exact isS_sumS _
 ·exact isS_sumS _
theorem isS_pub (s : ByteArray) (h : Nat) : isS (pubT s h) = true := isS_root _
theorem mess_sgn (s : Stm) (k : ByteArray) (i : Nat) : messT (sgnS s k i) = messT s := rfl
theorem ver_sgn (s : Stm) (k : ByteArray) (i : Nat) (hi : i < 4) : verT (pubT k 2) (messT (sgnS s k i)) (sgnS s k i).idx (sgnS s k i).sig (sgnS s k i).path = true := by
 rw [mess_sgn]
 exact ver_own k 2 i (messT s) (by decide) hi
theorem ver_one {p q m : ByteArray} {i : Int} {sg pa : List ByteArray} (h : verT p m i sg pa = true) (k : verT q m i sg pa = true) : p = q := by
 unfold verT checkT at h k
 simp only [Bool.and_eq_true, decide_eq_true_eq] at h k
 rw [← h.2.2, ← k.2.2]
def sIss : ByteArray := { data := #[105, 115, 115, 117, 101, 114] }
def sA1 : ByteArray := { data := #[97] }
def sB1 : ByteArray := { data := #[98] }
def sC1 : ByteArray := { data := #[99] }
def id1 : ByteArray := { data := #[115, 49] }
def id2 : ByteArray := { data := #[115, 50] }
def id3 : ByteArray := { data := #[115, 51] }
def id4 : ByteArray := { data := #[115, 52] }
def sCiv : ByteArray := { data := #[99, 105, 118, 105, 108] }
def sRes : ByteArray := { data := #[114, 101, 115, 101, 97, 114, 99, 104] }
theorem jI : joinB [sIss] = [54, 58, 105, 115, 115, 117, 101, 114] := by
 simp only [joinB, listsOf, List.map_cons, List.map_nil, joinL, sIss, List.length_cons, List.length_nil, Nat.zero_add, Nat.reduceAdd]
 rw [Lib.decDigits_one (by decide)]
 rfl
theorem jA : joinB [sA1] = [49, 58, 97] := by
 simp only [joinB, listsOf, List.map_cons, List.map_nil, joinL, sA1, List.length_cons, List.length_nil, Nat.zero_add, dec_1]
 rfl
theorem jB1 : joinB [sB1] = [49, 58, 98] := by
 simp only [joinB, listsOf, List.map_cons, List.map_nil, joinL, sB1, List.length_cons, List.length_nil, Nat.zero_add, dec_1]
 rfl
theorem endN_lt (t : List UInt8) (h : t.length < 18446744073709551616) : endN (toN t) t.length < 18446744073709551616 := by
 rw [← endN_eq t h]
 exact (endSt t).isLt
theorem nodeK_lt (a b : Nat) : nodeK a b < 18446744073709551616 := by
 have e : nodeK a b = endN (toN ([52, 58, 110, 111, 100, 101, 49, 54, 58] ++ (low 16 a ++ ([49, 54, 58] ++ (low 16 b ++ []))))) 44 := by
  unfold nodeK
  have h1 := lowK_eq 16 b []
  have h2 := lowK_eq 16 a ([49, 54, 58] ++ (low 16 b ++ []))
  simp only [toN] at h1 h2 ⊢
  rw [List.map_append, h2, List.map_append, h1]
  rfl
 rw [e]
 have := endN_lt ([52, 58, 110, 111, 100, 101, 49, 54, 58] ++ (low 16 a ++ ([49, 54, 58] ++ (low 16 b ++ [])))) (by simp [low_length])
 simpa [low_length] using this
theorem pubK_lt (l : List Nat) (n : Nat) : pubK l n < 18446744073709551616 := nodeK_lt _ _
theorem pub_ia : pubT sIss 2 ≠ pubT sA1 2 := by
 rw [pubK_eq sIss (by decide), pubK_eq sA1 (by decide)]
 intro h
 have := hexT_inj (pubK_lt _ _) (pubK_lt _ _) h
 rw [jI, jA] at this
 have e : nIss = nA := this
 have h2 := iss_a
 rw [e] at h2
 rw [Nat.beq_refl] at h2
 cases h2
theorem pub_ab : pubT sA1 2 ≠ pubT sB1 2 := by
 rw [pubK_eq sA1 (by decide), pubK_eq sB1 (by decide)]
 intro h
 have := hexT_inj (pubK_lt _ _) (pubK_lt _ _) h
 rw [jA, jB1] at this
 have e : nA = nB := this
 have h2 := a_b
 rw [e] at h2
 rw [Nat.beq_refl] at h2
 cases h2
end Av
end Go.Proofs.YtnkepmfgmfeabaaGreatDoor
set_option linter.unusedVariables false
set_option linter.unusedSimpArgs false
namespace Go.Proofs.YtnkepmfgmfeabaaGreatDoor
open Go Go.RowKit
namespace Av

/-! The chapter's examples: what Add answers. -/
def st1 : Stm := sgnS (stS id1 100 sA1 [sCiv, sRes] []) sIss 0
def st2 : Stm := sgnS (stS id2 60 sB1 [sCiv] [(id1, 60)]) sA1 0
def st3 : Stm := sgnS (stS id3 30 sB1 [sRes] [(id1, 30)]) sA1 1
def st4 : Stm := sgnS (stS id4 20 sC1 [sCiv] [(id1, 20)]) sA1 2
def st5 : Stm := sgnS (stS id4 90 sC1 [sCiv] [(id2, 60), (id3, 30)]) sB1 0
def st6 : Stm := sgnS (stS id4 60 sC1 [sCiv] [(id2, 60)]) sA1 2
def B0 : Bk := ⟨pubT sIss 2, []⟩
def B1 : Bk := ⟨pubT sIss 2, [⟨st1, 100, pubT sIss 2, false, []⟩]⟩
def B2 : Bk := ⟨pubT sIss 2, [⟨st1, 40, pubT sIss 2, false, [1]⟩, ⟨st2, 60, pubT sA1 2, false, []⟩]⟩
def B3 : Bk := ⟨pubT sIss 2, [⟨st1, 10, pubT sIss 2, false, [1, 2]⟩, ⟨st2, 60, pubT sA1 2, false, []⟩, ⟨st3, 30, pubT sA1 2, false, []⟩]⟩
def B4 : Bk := ⟨pubT sIss 2, [⟨st1, 10, pubT sIss 2, true, [1, 2]⟩, ⟨st2, 60, pubT sA1 2, true, []⟩, ⟨st3, 30, pubT sA1 2, true, []⟩]⟩
theorem addR_known {B : Bk} {s : Stm} {ins : List Nat} (h1 : properB s = true) (h2 : findB B s.id = none) (h3 : B.ents.length < 400) (h4 : resolve B s.inputs = some ins) : addR B s = (firstNZ (codesR B s ins), if firstNZ (codesR B s ins) = 0 then finalB B s ins else B) := by
 unfold addR
 rw [h1, h2, h4]
 simp only [Bool.not_true, Bool.false_eq_true, if_false, Option.isSome_none]
 rw [if_neg (by omega)]
theorem signed_yes {B : Bk} {s : Stm} {ins : List Nat} {g : ByteArray} (hg : signerR B ins = g) (h1 : anyP (pSgn B g) ins = false) (h2 : verT g (messT s) s.idx s.sig s.path = true) (h3 : usedB B g s.idx = false) : signedR B s ins = 0 := by
 unfold signedR
 rw [hg, h1, h2, h3]
 rfl
attribute [local irreducible] pubT sigT messT verT
theorem prop_of (s : Stm) (k : ByteArray) (i : Nat) (h : isS s.holder = true) (h2 : (usesOk s.uses && inpsOk s.inputs && (identB s.id && identB s.prod && quantB s.q && true && decide (1 ≤ s.uses.length) && decide (s.uses.length ≤ 12) && decide (s.inputs.length ≤ 12))) = true) : properB (sgnS s k i) = true := by
 unfold properB
 rw [show (sgnS s k i).holder = s.holder from rfl, h]
 exact h2
theorem p1 : properB st1 = true := prop_of _ _ _ (isS_pub _ _) (by kernel_rfl)
theorem p2 : properB st2 = true := prop_of _ _ _ (isS_pub _ _) (by kernel_rfl)
theorem p3 : properB st3 = true := prop_of _ _ _ (isS_pub _ _) (by kernel_rfl)
theorem p4 : properB st4 = true := prop_of _ _ _ (isS_pub _ _) (by kernel_rfl)
theorem p5 : properB st5 = true := prop_of _ _ _ (isS_pub _ _) (by kernel_rfl)
theorem p6 : properB st6 = true := prop_of _ _ _ (isS_pub _ _) (by kernel_rfl)
theorem sgn_self {B : Bk} {ins : List Nat} {g : ByteArray} (h : ∀ j ∈ ins, ∀ x, B.ents[j]? = some x → x.st.holder = g) : anyP (pSgn B g) ins = false := any_no fun i j hij => by
 unfold pSgn onE
 cases hx : B.ents[j]? with
 | none => rfl
 | some x => simp [h j (List.mem_of_getElem? hij) x hx]
theorem signer_at {B : Bk} {j : Nat} {l : List Nat} {x : Ent} (h : B.ents[j]? = some x) : signerR B (j :: l) = x.st.holder := by
 unfold signerR
 simp [h]
theorem h_2 : st2.holder = pubT sB1 2 := rfl
theorem a1 : addR B0 st1 = (0, B1) := by
 rw [addR_known (ins := []) p1 rfl (by decide) rfl]
 have h : codesR B0 st1 [] = [0, 0, 0, 0, 0, 0] := by
  have hs : signedR B0 st1 [] = 0 := signed_yes (g := pubT sIss 2) rfl rfl (ver_sgn _ sIss 0 (by decide)) rfl
  unfold codesR
  rw [hs]
  rfl
 rw [h]
 rfl
theorem a2 : addR B1 st2 = (0, B2) := by
 rw [addR_known (ins := [0]) p2 (by kernel_rfl) (by decide) (by kernel_rfl)]
 have h : codesR B1 st2 [0] = [0, 0, 0, 0, 0, 0] := by
  have hs : signedR B1 st2 [0] = 0 := signed_yes (g := pubT sA1 2) rfl (sgn_self fun j hj x hx => by simp at hj; subst hj; cases hx; rfl) (ver_sgn _ sA1 0 (by decide)) (by
   simp [usedB, B1, pub_ia.symm])
  unfold codesR
  rw [hs]
  rfl
 rw [h]
 rfl
theorem a3 : addR B2 st3 = (0, B3) := by
 rw [addR_known (ins := [0]) p3 (by kernel_rfl) (by decide) (by kernel_rfl)]
 have h : codesR B2 st3 [0] = [0, 0, 0, 0, 0, 0] := by
  have hs : signedR B2 st3 [0] = 0 := signed_yes (g := pubT sA1 2) rfl (sgn_self fun j hj x hx => by simp at hj; subst hj; cases hx; rfl) (ver_sgn _ sA1 1 (by decide)) (by
   simp [usedB, B2, pub_ia.symm, st3, st2, sgnS, stS])
  unfold codesR
  rw [hs]
  rfl
 rw [h]
 rfl
theorem q40 : (codesR B3 st4 [0]).getD 0 0 = 0 := by kernel_rfl
theorem q41 : (codesR B3 st4 [0]).getD 1 0 = 0 := by kernel_rfl
theorem q42 : (codesR B3 st4 [0]).getD 2 0 = 0 := by kernel_rfl
theorem a4 : addR B3 st4 = (19, B3) := by
 rw [addR_known (ins := [0]) p4 (by kernel_rfl) (by decide) (by kernel_rfl)]
 have h : firstNZ (codesR B3 st4 [0]) = 19 := firstNZ_at (l := codesR B3 st4 [0]) (k := 3) (by show 3 < 6; decide) (fun i hi => by
   have h5 : i = 0 ∨ i = 1 ∨ i = 2 := by omega
   rcases h5 with rfl | rfl | rfl
   ·exact q40
   ·exact q41
   ·exact q42) (by show (19 : Int) ≠ 0; decide)
 rw [h]
 rfl
theorem q50 : (codesR B3 st5 [1, 2]).getD 0 0 = 0 := by kernel_rfl
theorem q51 : (codesR B3 st5 [1, 2]).getD 1 0 = 0 := by kernel_rfl
theorem q52 : (codesR B3 st5 [1, 2]).getD 2 0 = 0 := by kernel_rfl
theorem q53 : (codesR B3 st5 [1, 2]).getD 3 0 = 0 := by kernel_rfl
theorem a5 : addR B3 st5 = (7, B3) := by
 rw [addR_known (ins := [1, 2]) p5 (by kernel_rfl) (by decide) (by kernel_rfl)]
 have h : firstNZ (codesR B3 st5 [1, 2]) = 7 := firstNZ_at (l := codesR B3 st5 [1, 2]) (k := 4) (by show 4 < 6; decide) (fun i hi => by
   have h5 : i = 0 ∨ i = 1 ∨ i = 2 ∨ i = 3 := by omega
   rcases h5 with rfl | rfl | rfl | rfl
   ·exact q50
   ·exact q51
   ·exact q52
   ·exact q53) (by show (7 : Int) ≠ 0; decide)
 rw [h]
 rfl
theorem q60 : (codesR B3 st6 [1]).getD 0 0 = 0 := by kernel_rfl
theorem q61 : (codesR B3 st6 [1]).getD 1 0 = 0 := by kernel_rfl
theorem q62 : (codesR B3 st6 [1]).getD 2 0 = 0 := by kernel_rfl
theorem q63 : (codesR B3 st6 [1]).getD 3 0 = 0 := by kernel_rfl
theorem q64 : (codesR B3 st6 [1]).getD 4 0 = 0 := by kernel_rfl
theorem hv6a : verT (pubT sA1 2) (messT st6) st6.idx st6.sig st6.path = true := ver_sgn _ sA1 2 (by decide)
theorem hv6 : verT (pubT sB1 2) (messT st6) st6.idx st6.sig st6.path = false := by
 cases e : verT (pubT sB1 2) (messT st6) st6.idx st6.sig st6.path with
 | false => rfl
 | true => exact absurd (ver_one hv6a e) pub_ab
theorem hg6 : signerR B3 [1] = pubT sB1 2 := (signer_at (B := B3) (j := 1) (x := ⟨st2, 60, pubT sA1 2, false, []⟩) rfl).trans h_2
theorem e_1 : B3.ents[1]? = some ⟨st2, 60, pubT sA1 2, false, []⟩ := rfl
theorem hp6 : anyP (pSgn B3 (pubT sB1 2)) [1] = false := sgn_self fun j hj x hx => by
 simp at hj
 subst hj
 rw [e_1] at hx
 rw [← Option.some.inj hx]
 exact h_2
theorem signed_no {B : Bk} {s : Stm} {ins : List Nat} {g : ByteArray} (hg : signerR B ins = g) (h1 : anyP (pSgn B g) ins = false) (h2 : verT g (messT s) s.idx s.sig s.path = false) : signedR B s ins = 16 := by
 unfold signedR
 rw [hg, h1, h2]
 simp
theorem hs6 : signedR B3 st6 [1] = 16 := signed_no hg6 hp6 hv6
theorem getD5 (a b c d e f : Int) : [a, b, c, d, e, f].getD 5 0 = f := rfl
theorem g6 : (codesR B3 st6 [1]).getD 5 0 = signedR B3 st6 [1] := by
 unfold codesR
 exact getD5 _ _ _ _ _ _
theorem h6 : firstNZ (codesR B3 st6 [1]) = 16 := by
 rw [firstNZ_at (l := codesR B3 st6 [1]) (k := 5) (by show 5 < 6; decide) (fun i hi => by
   have h5 : i = 0 ∨ i = 1 ∨ i = 2 ∨ i = 3 ∨ i = 4 := by omega
   rcases h5 with rfl | rfl | rfl | rfl | rfl
   ·exact q60
   ·exact q61
   ·exact q62
   ·exact q63
   ·exact q64) (by rw [g6, hs6]; decide), g6]
 exact hs6
theorem a6 : addR B3 st6 = (16, B3) := by
 rw [addR_known (ins := [1]) p6 (by kernel_rfl) (by decide) (by kernel_rfl), h6]
 rfl
theorem a7 : revokeR B3 id1 = (0, B4) := by kernel_rfl
end Av
end Go.Proofs.YtnkepmfgmfeabaaGreatDoor
