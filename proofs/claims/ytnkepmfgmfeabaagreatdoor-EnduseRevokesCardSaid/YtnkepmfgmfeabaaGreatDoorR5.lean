import Derived.Test.YtnkepmfgmfeabaaGreatDoorR4
import Derived.Test.YtnkepmfgmfeabaaGreatDoorR2
import Derived.Test.YtnkepmfgmfeabaaGreatDoorR3
import Derived.Test.YtnkepmfgmfeabaaGreatDoorR1
import Derived.ChangeArms
import Derived.OpenShut
import Derived.Deep.Strs
import Derived.KernelRfl
import Derived.Test.YtnkepmfgmfeabaaGreatDoorRows
import Derived.ProofKit
import Derived.WideShapes
import Derived.Lib.LaidTab
import Derived.Lib.LaidU8
import Derived.Stop.LaidErr
set_option linter.unusedVariables false
set_option linter.unusedSimpArgs false
namespace Go.Proofs.YtnkepmfgmfeabaaGreatDoor
open Go Go.RowKit
namespace Av
attribute [local irreducible] AW AOps AHOps

/-! Add, the six checks. -/
def resolve (B : Bk) : List (ByteArray × Int) → Option (List Nat)
 | [] => some []
 | y :: r => match findB B y.1 with
  | none => none
  | some i => (resolve B r).map (i :: ·)
theorem resolve_snoc (B : Bk) (l : List (ByteArray × Int)) (y : ByteArray × Int) : resolve B (l ++ [y]) = (resolve B l).bind fun ins => (findB B y.1).map fun i => ins ++ [i] := by
 induction l with
 | nil => simp only [List.nil_append, resolve]; cases findB B y.1 <;> rfl
 | cons z l ih =>
  simp only [List.cons_append, resolve]
  cases findB B z.1 with
  | none => rfl
  | some i =>
   simp only [ih]
   cases resolve B l with
   | none => rfl
   | some ins => cases findB B y.1 <;> rfl
theorem resolve_none {B : Bk} {l : List (ByteArray × Int)} {k : Nat} (h : k < l.length) (hn : findB B l[k].1 = none) : resolve B l = none := by
 induction l generalizing k with
 | nil => cases h
 | cons z l ih =>
  cases k with
  | zero => simp only [List.getElem_cons_zero] at hn; simp only [resolve, hn]
  | succ k =>
   simp only [List.getElem_cons_succ] at hn
   simp only [resolve]
   cases findB B z.1 with
   | none => rfl
   | some i => simp only [ih (by simpa using h) hn]; rfl
theorem resolve_len {B : Bk} {l : List (ByteArray × Int)} {ins : List Nat} (h : resolve B l = some ins) : ins.length = l.length := by
 induction l generalizing ins with
 | nil => simp only [resolve, Option.some.injEq] at h; subst h; rfl
 | cons z l ih =>
  simp only [resolve] at h
  cases hz : findB B z.1 with
  | none => rw [hz] at h; cases h
  | some i =>
   rw [hz] at h
   simp only [Option.map_eq_some_iff] at h
   obtain ⟨t, h1, rfl⟩ := h
   simp [ih h1]
def codesR (B : Bk) (s : Stm) (ins : List Nat) : List Int := [if anyP (pRev B) ins then 12 else 0, if anyP (pProd B s) ins then 8 else 0, if decide (0 < s.inputs.length) && !decide (sumQ s.inputs = s.q) then 10 else 0, if anyP (pQuota B s) ins then 19 else 0, if anyP (pUses B s) ins then 7 else 0, signedR B s ins]
def firstNZ : List Int → Int
 | [] => 0
 | c :: r => if c = 0 then firstNZ r else c
theorem firstNZ_at {l : List Int} {k : Nat} (h : k < l.length) (h0 : ∀ i, i < k → l.getD i 0 = 0) (hk : l.getD k 0 ≠ 0) : firstNZ l = l.getD k 0 := by
 induction l generalizing k with
 | nil => cases h
 | cons c l ih =>
  cases k with
  | zero => simp only [List.getD_cons_zero] at hk ⊢; simp only [firstNZ, if_neg hk]
  | succ k =>
   have hc := h0 0 (by omega)
   simp only [List.getD_cons_zero] at hc
   simp only [firstNZ, hc, if_true, List.getD_cons_succ] at hk ⊢
   exact ih (by simpa using h) (fun i hi => by have := h0 (i + 1) (by omega); simpa using this) hk
theorem firstNZ_zero {l : List Int} (h0 : ∀ i, i < l.length → l.getD i 0 = 0) : firstNZ l = 0 := by
 induction l with
 | nil => rfl
 | cons c l ih =>
  have hc := h0 0 (by simp)
  simp only [List.getD_cons_zero] at hc
  simp only [firstNZ, hc, if_true]
  exact ih fun i hi => by have := h0 (i + 1) (by simpa using hi); simpa using this
def checkF : List Nat := [44, 45, 46, 47, 48, 49]
theorem signer_size {B : Bk} {ins : List Nat} (hi : B.issuer.size ≤ 1099511627776) (hh : ∀ x ∈ B.ents, x.st.holder.size ≤ 1099511627776) : (signerR B ins).size ≤ 1099511627776 := by
 unfold signerR
 split
 ·exact hi
 ·split
  ·rename_i x hx; exact hh x (List.mem_of_getElem? hx)
  ·exact hi
theorem check_a {base : World} (hT : Tabs base) {K : AHeap} {Y : Lay} {B : Bk} {s : Stm} {ins : List Nat} {cl : Nat} {od : OR} (hbk : Book K Y B) (hc : CandAt K cl Y B s ins od) (hf : Fits s) (hil : ins.length = s.inputs.length) (hsz : (signerR B ins).size ≤ 1099511627776) (k : Nat) (hk : k < 6) :
  ReadA Tryz.prog base (checkF.getD k 0) [.ptr cl 0] K (iA ((codesR B s ins).getD k 0)) := by
 have hli : ins.length ≤ 1000000 := by have := hf.li; omega
 match k, hk with
 | 0, _ => exact state_a hbk hc hli
 | 1, _ => exact product_a hbk hc hli
 | 2, _ => exact sum_a hc hf.li hf.qi
 | 3, _ => exact quota_a hbk hc hli (by omega)
 | 4, _ => exact allowed_a hbk hc hli
 | 5, _ => exact signed_a hT hbk hc hf hli hsz
attribute [local irreducible] messT verT
set_option maxRecDepth 100000 in
set_option maxHeartbeats 4000000 in
theorem add_checks {base : World} (hT : Tabs base) {N : Nat} {H K : AHeap} {Y : Lay} {B : Bk} {s : Stm} {ins : List Nat} {cl sl : Nat} {od : OR} (h : Book H Y B) {G0 : AHeap} (hK : K = H ++ G0) (hc : CandAt K cl Y B s ins od) (hsl : K[sl]? = some (.box 27 (stA s))) (hod : ∀ a, od = some a → H.length ≤ a.1)
  (hsl0 : H.length ≤ sl) (hcl0 : H.length ≤ cl) (hf : Fits s) (hil : ins.length = s.inputs.length) (hid : ∀ y ∈ B.ents, y.st.id ≠ s.id) (hn : B.ents.length ≤ 1000000) (hnx : ∀ x ∈ B.ents, x.next.length ≤ 1000000)
  (hl : ∀ x ∈ B.ents, -1000000000000000000 ≤ x.left ∧ x.left ≤ 1000000000000000000) (hq : 0 ≤ s.q ∧ s.q ≤ 1000000000) (hsz : (signerR B ins).size ≤ 1099511627776) :
  (Tryz.f21.body.bind (restC 7)).elim False fun c => AW ⟨Tryz.prog, tt, base, N⟩ c (retA tt [.tmp 4] fun r H' => r = iA (firstNZ (codesR B s ins)) ∧ ∃ Y', Y'.bl = Y.bl ∧ Book H' Y' (if firstNZ (codesR B s ins) = 0 then finalB B s ins else B) ∧ KeepO H H')
   (.ptr Y.bl 0 :: .undef :: .undef :: .ptr sl 0 :: iA 0 :: .ptr cl 0 :: List.replicate 167 .undef) K := by
 show AW _ _ _ _ _
 have hbk : Book K Y B := by rw [hK]; exact h.app G0
 have hli : ins.length ≤ 1000000 := by have := hf.li; omega
 have hcl : (codesR B s ins).length = 6 := rfl
 have hck := fun k hk => check_a hT hbk hc hf hil hsz k hk
 have hck' := fun G k hk => check_a hT (hbk.app G) (hc.app G) hf hil hsz k hk
 have hs5 : (codesR B s ins).getD 5 0 = signedR B s ins := rfl
 generalize codesR B s ins = cs at hcl hck hck' hs5 ⊢
 simp only [List.replicate, iA]
 repeat refine aw_seq ?_
 refine aw_region ttOk (by kernel_rfl) ?_
 repeat (refine aops_cons ?_; first | (apply aops_o; rfl; simp only [estep, avs, tts, Nat.reduceAdd, Nat.reduceMul, Nat.reduceSub, Nat.reduceEqDiff, Nat.reduceLT, Nat.reduceLeDiff, Int.reduceToNat, Int.reduceLE, Int.reduceLT, Int.toNat_natCast, reduceCtorEq] <;> (first | with_reducible rfl | rfl)) | (refine aops_grd rfl (by simp only [avs] <;> rfl) (by rfl) ?_; first | refine grd_on ?_ | refine grd_off (by simp only [avs] <;> rfl) ?_))
 refine aops_nil ?_
 refine aw_block (aw_loop (fun m env H' => ∃ k, m = 6 - k ∧ k ≤ 6 ∧ (∀ i, i < k → cs.getD i 0 = 0) ∧ H' = K ++ [.row 88 1 0 (checkF.map fun f => [.fn (.func f) [.ptr cl 0] []])] ∧ env = .ptr Y.bl 0 :: .undef :: .undef :: .ptr sl 0 :: iA 0 :: .ptr cl 0 :: List.replicate 85 .undef ++ .ms K.length 0 6 :: iA 6 :: iA k :: List.replicate 79 .undef) ?_ ⟨0, rfl, Nat.zero_le _, fun i hi => by omega, rfl, rfl⟩ ?_)
 ·exact ⟨by simp [EnvLe, iA, List.replicate], .inl rfl⟩
 rintro m env H' ⟨k, rfl, hk, hz, rfl, rfl⟩ hN
 simp only [List.replicate, List.cons_append, List.nil_append, iA]
 repeat refine aw_seq ?_
 refine aw_region ttOk (by kernel_rfl) ?_
 repeat (refine aops_cons ?_; first | (apply aops_o; rfl; simp only [estep, avs, tts, Nat.reduceAdd, Nat.reduceMul, Nat.reduceSub, Nat.reduceEqDiff, Nat.reduceLT, Nat.reduceLeDiff, Int.reduceToNat, Int.reduceLE, Int.reduceLT, Int.toNat_natCast, reduceCtorEq] <;> (first | with_reducible rfl | rfl)) | (refine aops_grd rfl (by simp only [avs] <;> rfl) (by rfl) ?_; first | refine grd_on ?_ | refine grd_off (by simp only [avs] <;> rfl) ?_))
 refine aops_nil ?_
 repeat refine aw_seq ?_
 refine aw_cond rfl rfl (fun hb => ?_) fun hb => ?_
 ·have hlt : k < 6 := by have h5 := of_decide_eq_true hb; omega
  have hix : (0 : Int) ≤ (k : Int) := by omega
  have hgd : (checkF.map fun f => [AV.fn (.func f) [.ptr cl 0] []]).getD k [] = [.fn (.func (checkF.getD k 0)) [.ptr cl 0] []] := by
   match k, hlt with
   | 0, _ => rfl
   | 1, _ => rfl
   | 2, _ => rfl
   | 3, _ => rfl
   | 4, _ => rfl
   | 5, _ => rfl
  have hln : (checkF.map fun f => [AV.fn (.func f) [.ptr cl 0] []]).length = 6 := rfl
  generalize hrw : (checkF.map fun f => [AV.fn (.func f) [.ptr cl 0] []]) = rw0 at hgd hln ⊢
  refine aw_skip ?_
  repeat refine aw_seq ?_
  refine aw_block ?_
  repeat refine aw_seq ?_
  refine aw_region ttOk (by kernel_rfl) ?_
  repeat (refine aops_cons ?_; first | (apply aops_o; rfl; simp only [estep, avs, tts, Nat.reduceAdd, Nat.reduceMul, Nat.reduceSub, Nat.reduceEqDiff, Nat.reduceLT, Nat.reduceLeDiff, Int.reduceToNat, Int.reduceLE, Int.reduceLT, Int.toNat_natCast, reduceCtorEq, hgd, hlt, hix, hln] <;> (first | with_reducible rfl | rfl)) | (refine aops_grd rfl (by simp only [avs] <;> rfl) (by rfl) ?_; first | refine grd_on ?_ | refine grd_off (by simp only [avs] <;> rfl) ?_))
  refine aops_nil ?_
  repeat refine aw_seq ?_
  refine aw_region ttOk (by kernel_rfl) ?_
  repeat (refine aops_cons ?_; first | (apply aops_o; rfl; simp only [estep, avs, tts, Nat.reduceAdd, Nat.reduceMul, Nat.reduceSub, Nat.reduceEqDiff, Nat.reduceLT, Nat.reduceLeDiff, Int.reduceToNat, Int.reduceLE, Int.reduceLT, Int.toNat_natCast, reduceCtorEq] <;> (first | with_reducible rfl | rfl)) | (refine aops_grd rfl (by simp only [avs] <;> rfl) (by rfl) ?_; first | refine grd_on ?_ | refine grd_off (by simp only [avs] <;> rfl) ?_))
  refine aops_read rfl (by simp only [avs] <;> rfl) (hck' _ k hlt) (by simp only [avs] <;> rfl) ?_
  repeat (refine aops_cons ?_; first | (apply aops_o; rfl; simp only [estep, avs, tts, Nat.reduceAdd, Nat.reduceMul, Nat.reduceSub, Nat.reduceEqDiff, Nat.reduceLT, Nat.reduceLeDiff, Int.reduceToNat, Int.reduceLE, Int.reduceLT, Int.toNat_natCast, reduceCtorEq] <;> (first | with_reducible rfl | rfl)) | (refine aops_grd rfl (by simp only [avs] <;> rfl) (by rfl) ?_; first | refine grd_on ?_ | refine grd_off (by simp only [avs] <;> rfl) ?_))
  refine aops_nil ?_
  repeat refine aw_seq ?_
  refine aw_region ttOk (by kernel_rfl) ?_
  repeat (refine aops_cons ?_; first | (apply aops_o; rfl; simp only [estep, avs, tts, Nat.reduceAdd, Nat.reduceMul, Nat.reduceSub, Nat.reduceEqDiff, Nat.reduceLT, Nat.reduceLeDiff, Int.reduceToNat, Int.reduceLE, Int.reduceLT, Int.toNat_natCast, reduceCtorEq, iA] <;> (first | with_reducible rfl | rfl)) | (refine aops_grd rfl (by simp only [avs] <;> rfl) (by rfl) ?_; first | refine grd_on ?_ | refine grd_off (by simp only [avs] <;> rfl) ?_))
  refine aops_nil ?_
  repeat refine aw_seq ?_
  refine aw_cond rfl rfl (fun hb => ?_) fun hb => ?_
  ·have hne : cs.getD k 0 ≠ 0 := by simpa using hb
   have hfn := firstNZ_at (by rw [hcl]; exact hlt) hz hne
   repeat refine aw_seq ?_
   refine aw_region ttOk (by kernel_rfl) ?_
   repeat (refine aops_cons ?_; first | (apply aops_o; rfl; simp only [estep, avs, tts, Nat.reduceAdd, Nat.reduceMul, Nat.reduceSub, Nat.reduceEqDiff, Nat.reduceLT, Nat.reduceLeDiff, Int.reduceToNat, Int.reduceLE, Int.reduceLT, Int.toNat_natCast, reduceCtorEq] <;> (first | with_reducible rfl | rfl)) | (refine aops_grd rfl (by simp only [avs] <;> rfl) (by rfl) ?_; first | refine grd_on ?_ | refine grd_off (by simp only [avs] <;> rfl) ?_))
   refine aops_nil ?_
   refine aw_ret ⟨_, rfl, by rw [hfn]; rfl, Y, rfl, ?_, ?_⟩
   ·rw [hfn, if_neg hne]; exact hbk.app _
   ·rw [hK, List.append_assoc]; exact .app H _
  ·refine aw_skip ?_
   have hze : cs.getD k 0 = 0 := by simpa using hb
   repeat refine aw_seq ?_
   refine aw_region ttOk (by kernel_rfl) ?_
   repeat (refine aops_cons ?_; first | (apply aops_o; rfl; simp only [estep, avs, tts, Nat.reduceAdd, Nat.reduceMul, Nat.reduceSub, Nat.reduceEqDiff, Nat.reduceLT, Nat.reduceLeDiff, Int.reduceToNat, Int.reduceLE, Int.reduceLT, Int.toNat_natCast, reduceCtorEq, wrap_succ hlt (by decide : 6 ≤ 9223372036854775807)] <;> (first | with_reducible rfl | rfl)) | (refine aops_grd rfl (by simp only [avs] <;> rfl) (by rfl) ?_; first | refine grd_on ?_ | refine grd_off (by simp only [avs] <;> rfl) ?_))
   refine aops_nil ?_
   refine ⟨6 - (k + 1), _, _, by omega, ⟨?_, .inl rfl⟩, k + 1, rfl, hlt, fun i hi => ?_, rfl, rfl⟩
   ·simp [EnvLe, iA, List.replicate]
   ·rcases Nat.lt_succ_iff_lt_or_eq.1 hi with h1 | rfl
    ·exact hz i h1
    ·exact hze
 ·refine aw_exit ?_
  have hk6 : k = 6 := by simp at hb; omega
  have hfz : firstNZ cs = 0 := firstNZ_zero fun i hi => hz i (by rw [hcl] at hi; omega)
  have hs0 : signedR B s ins = 0 := by rw [← hs5]; exact hz 5 (by omega)
  have hus : usedB B (signerR B ins) s.idx = false := by
   unfold signedR at hs0
   split at hs0
   ·cases hs0
   ·split at hs0
    ·cases hs0
    ·rename_i h5
     simp only [Bool.or_eq_true, not_or, Bool.not_eq_true] at h5
     exact h5.2
  refine aw_goes (env' := .ptr Y.bl 0 :: .undef :: .undef :: .ptr sl 0 :: iA 0 :: .ptr cl 0 :: List.replicate 167 .undef) (H' := _) ⟨by simp [EnvLe, List.replicate, iA], .inl rfl⟩ ?_
  have h5 := add_end (base := base) (N := N) h (show K ++ [.row 88 1 0 (checkF.map fun f => [.fn (.func f) [.ptr cl 0] []])] = H ++ (G0 ++ [.row 88 1 0 (checkF.map fun f => [.fn (.func f) [.ptr cl 0] []])]) by rw [hK, List.append_assoc]) (hc.app _) (got hsl _) hod hsl0 hcl0 hil hid hus hn hli hnx hl hq hf.qi
  refine AW.mono h5 (retA_mono fun r H' ⟨q1, Y', q2, q3, q4⟩ => ⟨by rw [q1, hfz]; rfl, Y', q2, by rw [if_pos hfz]; exact q3, q4⟩)
end Av
end Go.Proofs.YtnkepmfgmfeabaaGreatDoor
set_option linter.unusedVariables false
set_option linter.unusedSimpArgs false
namespace Go.Proofs.YtnkepmfgmfeabaaGreatDoor
open Go Go.RowKit
namespace Av
attribute [local irreducible] AW AOps AHOps
attribute [local irreducible] messT verT

/-! Add. -/
def addR (B : Bk) (s : Stm) : Int × Bk :=
 if !properB s then (1, B) else if (findB B s.id).isSome then (9, B) else if 400 ≤ B.ents.length then (28, B) else match resolve B s.inputs with
  | none => (11, B)
  | some ins => (firstNZ (codesR B s ins), if firstNZ (codesR B s ins) = 0 then finalB B s ins else B)
theorem findB_none {B : Bk} {id : ByteArray} (h : findB B id = none) : ∀ y ∈ B.ents, y.st.id ≠ id := by
 unfold findB at h
 rw [List.findIdx?_eq_none_iff] at h
 intro y hy
 simpa using h y hy
set_option maxRecDepth 100000 in
set_option maxHeartbeats 1000000 in
theorem add_a {base : World} (hT : Tabs base) {H : AHeap} {Y : Lay} {B : Bk} {s : Stm} (h : Book H Y B) (hf' : properB s = true → Fits s) (hZ : s.Sized 4611686018427387904) (hn : B.ents.length ≤ 1000000) (hnx : ∀ x ∈ B.ents, x.next.length ≤ 1000000) (hl : ∀ x ∈ B.ents, -1000000000000000000 ≤ x.left ∧ x.left ≤ 1000000000000000000) (hi : B.issuer.size ≤ 1099511627776) (hh : ∀ x ∈ B.ents, x.st.holder.size ≤ 1099511627776) :
  CallsA Tryz.prog base 21 [.ptr Y.bl 0, .agg ((stmC s).map .d)] H fun r H' => r = iA (addR B s).1 ∧ ∃ Y', Y'.bl = Y.bl ∧ Book H' Y' (addR B s).2 ∧ KeepO H H' := by
 refine callsA_enter ttOk Tryz.call21 Tryz.func21 rfl fun hB hb hF => ?_
 rw [Tryz.results21, Tryz.ntmps21]
 simp only [arr_list, List.length_cons, List.length_nil, List.replicate, List.cons_append, List.nil_append, Nat.reduceAdd, Nat.reduceSub]
 have h1 := got h.book
 have h2 := got h.byId
 have l1 := lt_of_get h.book
 have l1' : Y.bl < H.length + 1 := by omega
 have l2' : Y.ml < H.length + 1 := by have := lt_of_get h.byId; omega
 repeat refine aw_seq ?_
 refine aw_run ttOk (by kernel_rfl) (by simp only [erun, eall, estep, avs, tts, Nat.reduceAdd, Nat.reduceMul, Nat.reduceSub, Nat.reduceEqDiff, Nat.reduceLT, Nat.reduceLeDiff, Int.reduceToNat, Int.reduceLE, Int.reduceLT, Int.toNat_natCast, reduceCtorEq, stmC] <;> first | with_reducible rfl | rfl) ?_
 repeat refine aw_seq ?_
 refine aw_region ttOk (by kernel_rfl) ?_
 refine aops_run 4 (by simp only [erun, eall, estep, avs, tts, Nat.reduceAdd, Nat.reduceMul, Nat.reduceSub, Nat.reduceEqDiff, Nat.reduceLT, Nat.reduceLeDiff, Int.reduceToNat, Int.reduceLE, Int.reduceLT, Int.toNat_natCast, reduceCtorEq] <;> first | with_reducible rfl | rfl) ?_
 refine aops_on rfl (by simp only [avs] <;> rfl) ?_
 refine aops_pure rfl (by simp only [avs] <;> rfl) (proper_a base s hZ) (by simp only [avs] <;> rfl) ?_
 refine aops_run 2 (by simp only [erun, eall, estep, avs, tts, Nat.reduceAdd, Nat.reduceMul, Nat.reduceSub, Nat.reduceEqDiff, Nat.reduceLT, Nat.reduceLeDiff, Int.reduceToNat, Int.reduceLE, Int.reduceLT, Int.toNat_natCast, reduceCtorEq] <;> first | with_reducible rfl | rfl) ?_
 refine aops_nil ?_
 unfold addR
 cases hp : properB s with
 | false =>
  repeat refine aw_seq ?_
  refine aw_cond rfl rfl (fun hb => ?_) fun hb => ?_
  ·repeat refine aw_seq ?_
   refine aw_run ttOk (by kernel_rfl) (by simp only [erun, eall, estep, avs, tts, Nat.reduceAdd, Nat.reduceMul, Nat.reduceSub, Nat.reduceEqDiff, Nat.reduceLT, Nat.reduceLeDiff, Int.reduceToNat, Int.reduceLE, Int.reduceLT, Int.toNat_natCast, reduceCtorEq] <;> first | with_reducible rfl | rfl) ?_
   exact aw_ret ⟨_, rfl, rfl, Y, rfl, h.app _, .app H _⟩
  ·cases hb
 | true =>
 have hf := hf' hp
 repeat refine aw_seq ?_
 refine aw_cond rfl rfl (fun hb => ?_) fun hb => ?_
 ·cases hb
 refine aw_skip ?_
 have h3 := h.mget s.id
 cases hfi : findB B s.id with
 | some i =>
  rw [hfi] at h3
  obtain ⟨x, hx, _⟩ := findB_some hfi
  obtain ⟨nx, hbx⟩ := h.box hx
  have l4 : Y.eb i < H.length + 1 := by have := lt_of_get hbx; omega
  repeat refine aw_seq ?_
  refine aw_drun 8 ttOk mixed (by kernel_rfl) (by kernel_rfl) (by kernel_rfl) (by simp only [hrun, hstep, avs, tts, Nat.reduceAdd, Nat.reduceMul, Nat.reduceSub, Nat.reduceEqDiff, Nat.reduceLT, Nat.reduceLeDiff, Int.reduceToNat, Int.reduceLE, Int.reduceLT, Int.toNat_natCast, reduceCtorEq, h1, h2, h3, l1', l2', l4, Option.map_some, ksh_s] <;> first | with_reducible rfl | rfl) (by simp only [erun, eall, estep, avs, tts, Nat.reduceAdd, Nat.reduceMul, Nat.reduceSub, Nat.reduceEqDiff, Nat.reduceLT, Nat.reduceLeDiff, Int.reduceToNat, Int.reduceLE, Int.reduceLT, Int.toNat_natCast, reduceCtorEq, h1, h2, h3, l1', l2', l4, Option.map_some, ksh_s] <;> first | with_reducible rfl | rfl) ?_
  repeat refine aw_seq ?_
  refine aw_cond rfl rfl (fun hb => ?_) fun hb => ?_
  ·repeat refine aw_seq ?_
   refine aw_run ttOk (by kernel_rfl) (by simp only [erun, eall, estep, avs, tts, Nat.reduceAdd, Nat.reduceMul, Nat.reduceSub, Nat.reduceEqDiff, Nat.reduceLT, Nat.reduceLeDiff, Int.reduceToNat, Int.reduceLE, Int.reduceLT, Int.toNat_natCast, reduceCtorEq] <;> first | with_reducible rfl | rfl) ?_
   exact aw_ret ⟨_, rfl, rfl, Y, rfl, h.app _, .app H _⟩
  ·cases hb
 | none =>
 rw [hfi] at h3
 repeat refine aw_seq ?_
 refine aw_drun 8 ttOk mixed (by kernel_rfl) (by kernel_rfl) (by kernel_rfl) (by simp only [hrun, hstep, avs, tts, Nat.reduceAdd, Nat.reduceMul, Nat.reduceSub, Nat.reduceEqDiff, Nat.reduceLT, Nat.reduceLeDiff, Int.reduceToNat, Int.reduceLE, Int.reduceLT, Int.toNat_natCast, reduceCtorEq, h1, h2, h3, l1', l2', Option.map_none, ksh_s] <;> first | with_reducible rfl | rfl) (by simp only [erun, eall, estep, avs, tts, Nat.reduceAdd, Nat.reduceMul, Nat.reduceSub, Nat.reduceEqDiff, Nat.reduceLT, Nat.reduceLeDiff, Int.reduceToNat, Int.reduceLE, Int.reduceLT, Int.toNat_natCast, reduceCtorEq, h1, h2, h3, l1', l2', Option.map_none, ksh_s] <;> first | with_reducible rfl | rfl) ?_
 repeat refine aw_seq ?_
 refine aw_cond rfl rfl (fun hb => ?_) fun hb => ?_
 ·cases hb
 refine aw_skip ?_
 have hLn := h.len
 have hrw := h.row
 rw [h.n1] at h1
 repeat refine aw_seq ?_
 refine aw_mid (env0 := .ptr Y.bl 0 :: .undef :: .undef :: .ptr H.length 0 :: iA 0 :: List.replicate 29 .undef ++ bA (decide ((400 : Int) ≤ (B.ents.length : Int))) :: List.replicate 138 .undef) (H0 := H ++ [.box 27 (stA s)]) ?_ ?_
 ·rcases hrw with ⟨ho, hE⟩ | ⟨ol, ov, ho, hrow⟩
  ·rw [ho] at h1
   repeat refine aw_seq ?_
   refine aw_run ttOk (by kernel_rfl) (by simp only [erun, eall, estep, avs, tts, Nat.reduceAdd, Nat.reduceMul, Nat.reduceSub, Nat.reduceEqDiff, Nat.reduceLT, Nat.reduceLeDiff, Int.reduceToNat, Int.reduceLE, Int.reduceLT, Int.toNat_natCast, reduceCtorEq, h1, slA, nilS] <;> first | with_reducible rfl | rfl) ?_
   refine ⟨rfl, ?_, .inl rfl⟩
   simp [EnvLe, List.replicate, iA, bA, hE]
  ·rw [ho] at h1
   have hrow' := got hrow
   repeat refine aw_seq ?_
   refine aw_run ttOk (by kernel_rfl) (by simp only [erun, eall, estep, avs, tts, Nat.reduceAdd, Nat.reduceMul, Nat.reduceSub, Nat.reduceEqDiff, Nat.reduceLT, Nat.reduceLeDiff, Int.reduceToNat, Int.reduceLE, Int.reduceLT, Int.toNat_natCast, reduceCtorEq, h1, slA, hrow', hLn] <;> first | with_reducible rfl | rfl) ?_
   refine ⟨rfl, ?_, .inl rfl⟩
   simp [EnvLe, List.replicate, iA, bA]
 simp only [List.replicate, List.cons_append, List.nil_append, iA, bA, stA]
 repeat refine aw_seq ?_
 refine aw_cond rfl rfl (fun hb => ?_) fun hb => ?_
 ·have h4 : 400 ≤ B.ents.length := by have := of_decide_eq_true hb; omega
  repeat refine aw_seq ?_
  refine aw_run ttOk (by kernel_rfl) (by simp only [erun, eall, estep, avs, tts, Nat.reduceAdd, Nat.reduceMul, Nat.reduceSub, Nat.reduceEqDiff, Nat.reduceLT, Nat.reduceLeDiff, Int.reduceToNat, Int.reduceLE, Int.reduceLT, Int.toNat_natCast, reduceCtorEq] <;> first | with_reducible rfl | rfl) ?_
  refine aw_ret ⟨_, rfl, ?_, Y, rfl, ?_, .app H _⟩
  ·simp [h4, iA]
  ·simp [h4]
   exact h.app _
 have h4 : ¬ 400 ≤ B.ents.length := by have := of_decide_eq_false hb; omega
 refine aw_skip ?_
 repeat refine aw_seq ?_
 refine aw_draw 7 ttOk mixed (by kernel_rfl) (by kernel_rfl) (by kernel_rfl) ?_
 refine ahops_runT 2 (by simp only [hrun, hstep, avs, tts, Nat.reduceAdd, Nat.reduceMul, Nat.reduceSub, Nat.reduceEqDiff, Nat.reduceLT, Nat.reduceLeDiff, Int.reduceToNat, Int.reduceLE, Int.reduceLT, Int.toNat_natCast, reduceCtorEq] <;> first | with_reducible rfl | rfl) ?_
 refine ahops_pure rfl (by simp only [avs] <;> rfl) (clones_a base s.uses hf.lu) trivial (by simp only [avs] <;> rfl) ?_
 refine ahops_runT 2 (by simp only [hrun, hstep, avs, tts, Nat.reduceAdd, Nat.reduceMul, Nat.reduceSub, Nat.reduceEqDiff, Nat.reduceLT, Nat.reduceLeDiff, Int.reduceToNat, Int.reduceLE, Int.reduceLT, Int.toNat_natCast, reduceCtorEq] <;> first | with_reducible rfl | rfl) ?_
 refine ahops_pure rfl (by simp only [avs] <;> rfl) (clonei_a base s.inputs hf.li) trivial (by simp only [avs] <;> rfl) ?_
 refine ahops_runT 1 (by simp only [hrun, hstep, avs, tts, Nat.reduceAdd, Nat.reduceMul, Nat.reduceSub, Nat.reduceEqDiff, Nat.reduceLT, Nat.reduceLeDiff, Int.reduceToNat, Int.reduceLE, Int.reduceLT, Int.toNat_natCast, reduceCtorEq] <;> first | with_reducible rfl | rfl) ?_
 refine ahops_nil ?_
 refine aops_run 3 (by simp only [erun, eall, estep, avs, tts, Nat.reduceAdd, Nat.reduceMul, Nat.reduceSub, Nat.reduceEqDiff, Nat.reduceLT, Nat.reduceLeDiff, Int.reduceToNat, Int.reduceLE, Int.reduceLT, Int.toNat_natCast, reduceCtorEq, strsP, inpsP] <;> first | with_reducible rfl | rfl) ?_
 refine aops_nil ?_
 repeat refine aw_seq ?_
 refine aw_run ttOk (by kernel_rfl) (by simp only [erun, eall, estep, avs, tts, Nat.reduceAdd, Nat.reduceMul, Nat.reduceSub, Nat.reduceEqDiff, Nat.reduceLT, Nat.reduceLeDiff, Int.reduceToNat, Int.reduceLE, Int.reduceLT, Int.toNat_natCast, reduceCtorEq] <;> first | with_reducible rfl | rfl) ?_
 refine aw_goes (env' := .ptr Y.bl 0 :: .undef :: .undef :: .ptr H.length 0 :: iA 0 :: .ptr (H.length + 1) 0 :: List.replicate 167 .undef) (H' := H ++ [.box 27 (stA s), .box 87 [.ptr Y.bl 0, .d (.v (.string s.id)), .d (.v (.string s.prod)), .d (.v (.int .i64 s.q)), .d (.v (.string s.holder)), .d (strsP s.uses), .d (inpsP s.inputs), .d (.v (.int .i64 s.idx)), .d (strsP s.sig), .d (strsP s.path), nilS]]) ⟨by simp [EnvLe, List.replicate, iA], .inl rfl⟩ ?_
 simp only [List.replicate, iA, stA]
 repeat refine aw_seq ?_
 refine aw_run ttOk (by kernel_rfl) (by simp only [erun, eall, estep, avs, tts, Nat.reduceAdd, Nat.reduceMul, Nat.reduceSub, Nat.reduceEqDiff, Nat.reduceLT, Nat.reduceLeDiff, Int.reduceToNat, Int.reduceLE, Int.reduceLT, Int.toNat_natCast, reduceCtorEq, inpsP] <;> first | with_reducible rfl | rfl) ?_
 refine aw_block (aw_loop (H0 := H ++ [.box 27 (stA s), .box 87 [.ptr Y.bl 0, .d (.v (.string s.id)), .d (.v (.string s.prod)), .d (.v (.int .i64 s.q)), .d (.v (.string s.holder)), .d (strsP s.uses), .d (inpsP s.inputs), .d (.v (.int .i64 s.idx)), .d (strsP s.sig), .d (strsP s.path), nilS]]) (fun m env K => ∃ k ins od cl, cl = H.length + 1 ∧ m = s.inputs.length - k ∧ k ≤ s.inputs.length ∧ resolve B (s.inputs.take k) = some ins ∧ (∃ G, K = H ++ G) ∧ K[H.length]? = some (.box 27 (stA s)) ∧ CandAt K cl Y B s ins od ∧ (∀ a, od = some a → H.length + 2 ≤ a.1) ∧ env = .ptr Y.bl 0 :: .undef :: .undef :: .ptr H.length 0 :: iA 0 :: .ptr cl 0 :: List.replicate 42 .undef ++ .d (inpsP s.inputs) :: iA s.inputs.length :: iA k :: List.replicate 122 .undef) ?_ ⟨0, [], none, H.length + 1, rfl, rfl, Nat.zero_le _, rfl, ⟨_, rfl⟩, H_get0 _ _, ⟨H_get H _ 1, rfl, fun j hj => by cases hj⟩, (fun a ha => by cases ha), rfl⟩ ?_)
 ·refine ⟨by simp [EnvLe, iA, List.replicate, inpsP], .inl rfl⟩
 rintro m env K ⟨k, ins, od, cl, hcl, rfl, hk, hres, ⟨G0, hK⟩, hst, hc, hod, rfl⟩ hN
 have hbk : Book K Y B := by rw [hK]; exact h.app G0
 have hko : KeepO H K := by rw [hK]; exact .app H G0
 simp only [List.replicate, List.cons_append, List.nil_append, iA]
 repeat refine aw_seq ?_
 refine aw_run ttOk (by kernel_rfl) (by simp only [erun, eall, estep, avs, tts, Nat.reduceAdd, Nat.reduceMul, Nat.reduceSub, Nat.reduceEqDiff, Nat.reduceLT, Nat.reduceLeDiff, Int.reduceToNat, Int.reduceLE, Int.reduceLT, Int.toNat_natCast, reduceCtorEq] <;> first | with_reducible rfl | rfl) ?_
 repeat refine aw_seq ?_
 refine aw_cond rfl rfl (fun hb => ?_) fun hb => ?_
 ·have hlt : k < s.inputs.length := by simpa using hb
  have hix : (0 : Int) ≤ (k : Int) := by omega
  have hgd : (s.inputs.map fun x => [PD.v (.string x.1), PD.v (.int .i64 x.2)]).getD k [] = [.v (.string s.inputs[k].1), .v (.int .i64 s.inputs[k].2)] := by simp [hlt]
  have g1 := got hbk.book
  have g2 := got hbk.byId
  have g3 := hbk.mget s.inputs[k].1
  have g4 := got hc.box
  have m1 : Y.bl < K.length + 1 := by have := lt_of_get hbk.book; omega
  have m2 : Y.ml < K.length + 1 := by have := lt_of_get hbk.byId; omega
  have m3 : cl < K.length + 1 := by have := lt_of_get hc.box; omega
  refine aw_skip ?_
  repeat refine aw_seq ?_
  refine aw_block ?_
  repeat refine aw_seq ?_
  refine aw_run ttOk (by kernel_rfl) (by simp only [erun, eall, estep, avs, tts, Nat.reduceAdd, Nat.reduceMul, Nat.reduceSub, Nat.reduceEqDiff, Nat.reduceLT, Nat.reduceLeDiff, Int.reduceToNat, Int.reduceLE, Int.reduceLT, Int.toNat_natCast, reduceCtorEq, inpsP, hgd, hix, hlt] <;> first | with_reducible rfl | rfl) ?_
  cases hfk : findB B s.inputs[k].1 with
  | none =>
   rw [hfk] at g3
   repeat refine aw_seq ?_
   refine aw_drun 8 ttOk mixed (by kernel_rfl) (by kernel_rfl) (by kernel_rfl) (by simp only [hrun, hstep, avs, tts, Nat.reduceAdd, Nat.reduceMul, Nat.reduceSub, Nat.reduceEqDiff, Nat.reduceLT, Nat.reduceLeDiff, Int.reduceToNat, Int.reduceLE, Int.reduceLT, Int.toNat_natCast, reduceCtorEq, g1, g2, g3, m1, m2, Option.map_none, ksh_s] <;> first | with_reducible rfl | rfl) (by simp only [erun, eall, estep, avs, tts, Nat.reduceAdd, Nat.reduceMul, Nat.reduceSub, Nat.reduceEqDiff, Nat.reduceLT, Nat.reduceLeDiff, Int.reduceToNat, Int.reduceLE, Int.reduceLT, Int.toNat_natCast, reduceCtorEq, g1, g2, g3, m1, m2, Option.map_none, ksh_s] <;> first | with_reducible rfl | rfl) ?_
   repeat refine aw_seq ?_
   refine aw_cond rfl rfl (fun hb => ?_) fun hb => ?_
   ·repeat refine aw_seq ?_
    refine aw_run ttOk (by kernel_rfl) (by simp only [erun, eall, estep, avs, tts, Nat.reduceAdd, Nat.reduceMul, Nat.reduceSub, Nat.reduceEqDiff, Nat.reduceLT, Nat.reduceLeDiff, Int.reduceToNat, Int.reduceLE, Int.reduceLT, Int.toNat_natCast, reduceCtorEq] <;> first | with_reducible rfl | rfl) ?_
    refine aw_ret ⟨_, rfl, ?_, Y, rfl, ?_, ?_⟩
    ·simp [h4, resolve_none hlt hfk, iA]
    ·simp only [h4, resolve_none hlt hfk]
     exact hbk.app _
    ·exact fun l o ho hx => got (hko l o ho hx) _
   ·cases hb
  | some i =>
   rw [hfk] at g3
   obtain ⟨x, hx, _⟩ := findB_some hfk
   obtain ⟨nx, hbx⟩ := hbk.box hx
   have m4 : Y.eb i < K.length + 1 := by have := lt_of_get hbx; omega
   repeat refine aw_seq ?_
   refine aw_drun 8 ttOk mixed (by kernel_rfl) (by kernel_rfl) (by kernel_rfl) (by simp only [hrun, hstep, avs, tts, Nat.reduceAdd, Nat.reduceMul, Nat.reduceSub, Nat.reduceEqDiff, Nat.reduceLT, Nat.reduceLeDiff, Int.reduceToNat, Int.reduceLE, Int.reduceLT, Int.toNat_natCast, reduceCtorEq, g1, g2, g3, m1, m2, m4, Option.map_some, ksh_s] <;> first | with_reducible rfl | rfl) (by simp only [erun, eall, estep, avs, tts, Nat.reduceAdd, Nat.reduceMul, Nat.reduceSub, Nat.reduceEqDiff, Nat.reduceLT, Nat.reduceLeDiff, Int.reduceToNat, Int.reduceLE, Int.reduceLT, Int.toNat_natCast, reduceCtorEq, g1, g2, g3, m1, m2, m4, Option.map_some, ksh_s] <;> first | with_reducible rfl | rfl) ?_
   repeat refine aw_seq ?_
   refine aw_cond rfl rfl (fun hb => ?_) fun hb => ?_
   ·cases hb
   refine aw_skip ?_
   have hinl : ins.length = k := by rw [resolve_len hres, List.length_take]; omega
   have hres' : resolve B (s.inputs.take (k + 1)) = some (ins ++ [i]) := by
    rw [List.take_succ_eq_append_getElem hlt, resolve_snoc, hres]
    simp [hfk]
   have hil : i < B.ents.length := (List.getElem?_eq_some_iff.1 hx).1
   have hlt' : ∀ j ∈ ins ++ [i], j < B.ents.length := fun j hj => by
    rcases List.mem_append.1 hj with hj | hj
    ·exact hc.lt j hj
    ·simp at hj; omega
   have hkm : k ≤ 1000000 := by have := hf.li; omega
   have b1 : ins.length ≤ 9223372036854775806 := by omega
   have b2 : (ins.length + 1) * 8 ≤ 140737488355328 := by omega
   have hKc : ∀ (G : AHeap) (o : AObj), (K ++ G).set cl o = H ++ ((G0 ++ G).set 1 o) := fun G o => by rw [hK, hcl, List.append_assoc, H_set]
   have hncl : H.length ≠ cl := by omega
   rcases od with _ | ⟨ol, ov⟩
   ·have hE : ins = [] := by simpa [RowAt] using hc.row
    repeat refine aw_seq ?_
    refine aw_drawK 13 [0] ttOk mixed (by kernel_rfl) (by kernel_rfl) (by kernel_rfl) (by kernel_rfl) ?_
    repeat (refine ahops_cons ?_; first | (apply ahops_o; rfl; simp only [hstep, avs, tts, Nat.reduceAdd, Nat.reduceMul, Nat.reduceSub, Nat.reduceEqDiff, Nat.reduceLT, Nat.reduceLeDiff, Int.reduceToNat, Int.reduceLE, Int.reduceLT, Int.toNat_natCast, reduceCtorEq, g1, g2, g3, g4, m1, m2, m3, m4, Option.map_some, ksh_s, slA, nilS] <;> (first | with_reducible rfl | rfl); first | trivial | omega) | (refine ahops_grd rfl (by simp only [avs] <;> rfl) (by rfl) ?_; first | refine hgrd_on ?_ | refine hgrd_off (by simp only [avs] <;> rfl) ?_))
    refine ahops_nil ?_
    repeat (refine aops_cons ?_; first | (apply aops_o; rfl; simp only [estep, avs, tts, Nat.reduceAdd, Nat.reduceMul, Nat.reduceSub, Nat.reduceEqDiff, Nat.reduceLT, Nat.reduceLeDiff, Int.reduceToNat, Int.reduceLE, Int.reduceLT, Int.toNat_natCast, reduceCtorEq, g4, slA, nilS] <;> (first | with_reducible rfl | rfl)) | (refine aops_grd rfl (by simp only [avs] <;> rfl) (by rfl) ?_; first | refine grd_on ?_ | refine grd_off (by simp only [avs] <;> rfl) ?_))
    refine aops_nil ?_
    repeat refine aw_seq ?_
    refine aw_region ttOk (by kernel_rfl) ?_
    repeat (refine aops_cons ?_; first | (apply aops_o; rfl; simp only [estep, avs, tts, Nat.reduceAdd, Nat.reduceMul, Nat.reduceSub, Nat.reduceEqDiff, Nat.reduceLT, Nat.reduceLeDiff, Int.reduceToNat, Int.reduceLE, Int.reduceLT, Int.toNat_natCast, reduceCtorEq, wrap_succ hlt (by have := hf.li; omega : s.inputs.length ≤ 9223372036854775807)] <;> (first | with_reducible rfl | rfl)) | (refine aops_grd rfl (by simp only [avs] <;> rfl) (by rfl) ?_; first | refine grd_on ?_ | refine grd_off (by simp only [avs] <;> rfl) ?_))
    refine aops_nil ?_
    refine ⟨s.inputs.length - (k + 1), _, _, by omega, ⟨?_, .inl rfl⟩, k + 1, [i], some (K.length + 2, 0), cl, hcl, rfl, hlt, ?_, ⟨_, hKc _ _⟩, ?_, ⟨?_, ?_, ?_⟩, ?_, rfl⟩
    ·simp [EnvLe, iA, List.replicate, inpsP]
    ·rw [hres', hE]; try rfl
    ·rw [get_set_ne hncl]; exact got hst _
    ·exact got_self hc.box _ _
    ·show _ = _
     rw [get_set_ne (by have := lt_of_get hc.box; show K.length + 2 ≠ cl; omega), H_get]
     rfl
    ·intro j hj; simp at hj; omega
    ·intro a ha; cases ha; show H.length + 2 ≤ K.length + 2; have h7 : H.length ≤ K.length := (by rw [hK]; simp); omega
   ·have hro : K[ol]? = some (.row 77 1 ov (ins.map fun j => [.ptr (Y.eb j) 0])) := hc.row
    have g5 := got hro
    have hon := hod _ rfl
    have hno : ol ≠ cl := ne_of_get hro hc.box (by simp)
    have g6 := got_set hc.box hno.symm
    have m5 : ol < K.length + 1 := by have := lt_of_get hro; omega
    repeat refine aw_seq ?_
    refine aw_drawK 13 [0] ttOk mixed (by kernel_rfl) (by kernel_rfl) (by kernel_rfl) (by kernel_rfl) ?_
    repeat (refine ahops_cons ?_; first | (apply ahops_o; rfl; simp only [hstep, avs, tts, Nat.reduceAdd, Nat.reduceMul, Nat.reduceSub, Nat.reduceEqDiff, Nat.reduceLT, Nat.reduceLeDiff, Int.reduceToNat, Int.reduceLE, Int.reduceLT, Int.toNat_natCast, reduceCtorEq, g1, g2, g3, g4, m1, m2, m3, m4, m5, Option.map_some, ksh_s, slA] <;> (first | with_reducible rfl | rfl); first | trivial | omega) | (refine ahops_grd rfl (by simp only [avs] <;> rfl) (by rfl) ?_; first | refine hgrd_on ?_ | refine hgrd_off (by simp only [avs] <;> rfl) ?_))
    refine ahops_nil ?_
    repeat (refine aops_cons ?_; first | (apply aops_o; rfl; simp only [estep, avs, tts, Nat.reduceAdd, Nat.reduceMul, Nat.reduceSub, Nat.reduceEqDiff, Nat.reduceLT, Nat.reduceLeDiff, Int.reduceToNat, Int.reduceLE, Int.reduceLT, Int.toNat_natCast, reduceCtorEq, g4, g5, g6, slA, b1, b2] <;> (first | with_reducible rfl | rfl)) | (refine aops_grd rfl (by simp only [avs] <;> rfl) (by rfl) ?_; first | refine grd_on ?_ | refine grd_off (by simp only [avs] <;> rfl) ?_))
    refine aops_nil ?_
    repeat refine aw_seq ?_
    refine aw_region ttOk (by kernel_rfl) ?_
    repeat (refine aops_cons ?_; first | (apply aops_o; rfl; simp only [estep, avs, tts, Nat.reduceAdd, Nat.reduceMul, Nat.reduceSub, Nat.reduceEqDiff, Nat.reduceLT, Nat.reduceLeDiff, Int.reduceToNat, Int.reduceLE, Int.reduceLT, Int.toNat_natCast, reduceCtorEq, wrap_succ hlt (by have := hf.li; omega : s.inputs.length ≤ 9223372036854775807)] <;> (first | with_reducible rfl | rfl)) | (refine aops_grd rfl (by simp only [avs] <;> rfl) (by rfl) ?_; first | refine grd_on ?_ | refine grd_off (by simp only [avs] <;> rfl) ?_))
    refine aops_nil ?_
    refine ⟨s.inputs.length - (k + 1), _, _, by omega, ⟨?_, .inl rfl⟩, k + 1, ins ++ [i], some (ol, ov), cl, hcl, rfl, hlt, hres', ?_, ?_, ⟨?_, ?_, hlt'⟩, ?_, rfl⟩
    ·simp [EnvLe, iA, List.replicate, inpsP]
    ·obtain ⟨d, hd⟩ : ∃ d, ol = H.length + d := ⟨ol - H.length, by have : H.length + 2 ≤ ol := hon; omega⟩
     have hset : ∀ (A C : AHeap) (o1 o2 : AObj), ((H ++ A ++ C).set (H.length + d) o1).set (H.length + 1) o2 = H ++ (((A ++ C).set d o1).set 1 o2) := fun A C o1 o2 => by rw [List.append_assoc, H_set, H_set]
     rw [hK, hcl, hd]
     exact ⟨_, hset _ _ _ _⟩
    ·rw [get_set_ne hncl, get_set_ne (by have : H.length + 2 ≤ ol := hon; omega)]; exact got hst _
    ·rw [List.length_append]
     exact get_set_same (by have := lt_of_get hc.box; simp; omega)
    ·show _ = _
     rw [get_set_ne hno, List.map_append]
     exact got_self hro _ _
    ·exact fun a ha => hod a ha
 ·have hkl : k = s.inputs.length := by simp at hb; omega
  rw [hkl, List.take_length] at hres
  refine aw_exit ?_
  refine aw_goes (env' := .ptr Y.bl 0 :: .undef :: .undef :: .ptr H.length 0 :: iA 0 :: .ptr cl 0 :: List.replicate 167 .undef) (H' := K) ⟨by simp [EnvLe, List.replicate, iA, inpsP], .inl rfl⟩ ?_
  have hq : 0 ≤ s.q ∧ s.q ≤ 1000000000 := by
   unfold properB quantB at hp
   simp only [Bool.and_eq_true, decide_eq_true_eq] at hp
   have := hf.q
   omega
  have h5 := add_checks (base := base) hT (N := H.length) (sl := H.length) h hK hc hst (fun a ha => by have := hod a ha; omega) (Nat.le_refl _) (by omega) hf (resolve_len hres) (findB_none hfi) hn hnx hl hq (signer_size hi hh)
  refine AW.mono h5 (retA_mono fun r H' ⟨q1, Y', q2, q3, q4⟩ => ?_)
  simp only [h4, hres, if_false]
  exact ⟨q1, Y', q2, q3, q4⟩
end Av
end Go.Proofs.YtnkepmfgmfeabaaGreatDoor
set_option linter.unusedVariables false
namespace Go.Proofs.YtnkepmfgmfeabaaGreatDoor
open Go Go.RowKit

section
variable {P : Program} {ops : Array Oper} {md : Region.Mode}
theorem rkinds_anyF {n : Nat} {κ : Nat → (Nat → Value) → FKind} {cons : Nat → Nat → Bool} {Res : Nat → Nat → Prop} {a0 : Act} {B : Nat} {w0 : World} {Q : Exit → Act → World → Prop} (hR : ResFacts n B w0 Res) (hF : KindFacts md ops n) (hCo : ConsFacts md ops n cons) (hT : tailB md ops n = true)
  (hst : ∀ i u, i < n → KStable B cons Res (κ i u)) (hcg : ∀ i u u2, i < n → (∀ k, k < n → depOn ops i k = true → u k = u2 k) → κ i u = κ i u2)
  (hops : ∀ j o, j < n → ops[j]? = some o → RKindOp md P ops n B w0 κ cons Res (fun u => lexFrame ops a0 u j) j o)
  (hend : ∀ (u : Nat → Value) (w : World), Below B w0 w → (∀ b, b < w0.heap.size → (∀ j, j < n → ¬ Res j b) → w.heap[b]? = w0.heap[b]?) → (∀ i, i < n → (∀ j, j < n → cons j i = false) → (κ i u).φ w (u i)) → (∀ i, i < n → (∀ j, j < n → cons j i = false) → ∀ b, (κ i u).fp (u i) b → B ≤ b ∧ b < w.heap.size) → (∀ i k, i < n → k < n → i ≠ k → (∀ j, j < n → cons j i = false) → (∀ j, j < n → cons j k = false) → ∀ b, (κ i u).fp (u i) b → ¬ (κ k u).fp (u k) b) → wpAny P md ops Q (ops.size - n) (headL ops n) (lexFrame ops a0 u n) w) :
  ∀ (m : Nat) (L : Array Bool) (u : Nat → Value) (a : Act) (w : World), unl L n = m → HeadInv md ops n L → FrameAt ops a0 u (fun i => i < n ∧ L.getD i false = true) a →
   Below B w0 w → B ≤ w.heap.size →
   (∀ i, i < n → L.getD i false = true → (∀ j, j < n → L.getD j false = true → cons j i = false) → (κ i u).φ w (u i) ∧ ∀ b, (κ i u).fp (u i) b → B ≤ b ∧ b < w.heap.size) →
   (∀ i k, i < n → k < n → i ≠ k → L.getD i false = true → L.getD k false = true → (∀ j, j < n → L.getD j false = true → cons j i = false) → (∀ j, j < n → L.getD j false = true → cons j k = false) → ∀ b, (κ i u).fp (u i) b → ¬ (κ k u).fp (u k) b) →
   (∀ j b, j < n → L.getD j false = false → Res j b → w.heap[b]? = w0.heap[b]?) →
   (∀ i j, i < n → j < n → L.getD i false = true → L.getD j false = false → (∀ k, k < n → L.getD k false = true → cons k i = false) → ∀ b, (κ i u).fp (u i) b → ¬ Res j b) →
   (∀ i, i < n → L.getD i false = true → (∀ k, k < n → L.getD k false = true → cons k i = false) → ∀ b, (κ i u).fp (u i) b → b < w0.heap.size → ∃ j, j < n ∧ Res j b) →
   (∀ b, b < w0.heap.size → (∀ j, j < n → ¬ Res j b) → w.heap[b]? = w0.heap[b]?) →
   wpAny P md ops Q (m + (ops.size - n)) L a w := by
 simp only [tailB, Bool.and_eq_true, Bool.or_eq_true, beq_iff_eq] at hT
 obtain ⟨hT1, hT2⟩ := hT
 intro m
 induction m with
 | zero =>
  intro L u a w hm inv hf hw hBw hφ hdis hru hrd hro hkp
  have hall := unl_zero L n hm
  have hle := hF.le
  have hL : L = headL ops n := by
   apply Array.ext
   ·rw [inv.size]; simp [headL]
   ·intro i h1 h2
    by_cases hin : i < n
    ·have := hall i hin
     simp [h1] at this
     simp [headL, hin, this]
    ·have := inv.tail i (by omega) (by rw [← inv.size]; exact h1)
     simp [h1] at this
     simp [headL, hin, this]
  have ht : ∀ i, i < n → L.getD i false = true := fun i hi => by
   have h1 := hall i hi
   have : i < L.size := by rw [inv.size]; omega
   simp [this] at h1 ⊢
   exact h1
  have ha : a = lexFrame ops a0 u n := hf.eq (lexFrame_at hF a0 u n (Nat.le_refl _)) fun i => ⟨fun h => h.1, fun h => ⟨h, ht i h⟩⟩
  rw [Nat.zero_add, ha, hL]
  exact hend u w hw hkp (fun i hi hc => (hφ i hi (ht i hi) fun j hj _ => hc j hj).1) (fun i hi hc => (hφ i hi (ht i hi) fun j hj _ => hc j hj).2) (fun i k hi hk hne ci ck => hdis i k hi hk hne (ht i hi) (ht k hk) (fun j hj _ => ci j hj) (fun j hj _ => ck j hj))
 | succ m ih =>
  intro L u a w hm inv hf hw hBw hφ hdis hru hrd hro hkp
  have hle := hF.le
  obtain ⟨i0, hi0, hu0, hlow⟩ : ∃ i, i < n ∧ L.getD i true = false ∧ ∀ k, k < i → L.getD k true = true := by
   rcases listed_count n L n (Nat.le_refl _) with h | h
   ·exfalso
    have : ∀ k, k ≤ n → unl L k = 0 := by
     intro k
     induction k with
     | zero => intro _; rfl
     | succ k ihk => intro hk; rw [unl, ihk (by omega), h k (by omega)]; rfl
    rw [this n (Nat.le_refl _)] at hm
    omega
   ·exact h
  have hready : i0 ∈ Region.ready md ops L := by
   have ho : ops[i0]? = some ops[i0] := Array.getElem?_eq_getElem (by omega)
   refine mem_ready.2 ⟨hu0, _, ho, fun e he hb => ?_⟩
   have h1 := hF.edge i0 _ hi0 ho e he hb
   have h2 := hlow e.on h1
   have : e.on < L.size := by rw [inv.size]; omega
   simp [this] at h2 ⊢
   exact h2
  rw [show m + 1 + (ops.size - n) = (m + (ops.size - n)) + 1 by omega]
  refine ⟨fun h0 => (by rw [h0] at hready; cases hready), fun j hj => ?_⟩
  have hjn : j < n := by
   obtain ⟨_, oj, hoj, _⟩ := mem_ready.1 hj
   have hjs := (Array.getElem?_eq_some_iff.1 hoj).1
   rcases hT1 with h | h
   ·omega
   ·rcases Nat.lt_or_ge j n with h' | h'
    ·exact h'
    ·exact absurd hj (tail_waits h.1 h.2 (by omega) inv _ i0 rfl hi0 hu0 j h')
  obtain ⟨hjun, oj, hoj, hall⟩ := mem_ready.1 hj
  have hj0 : ¬ L.getD j false = true := by rw [getD_both hjun]; simp
  have hwait : ∀ i, Region.waitsFor md ops j i = true → L.getD i false = true := fun i hi => by
   obtain ⟨o', ho', e, he, hb, hon⟩ := Region.waitsFor_spec hi
   have : o' = oj := Option.some.inj (ho'.symm.trans hoj)
   subst this
   rw [← hon]
   exact hall e he hb
  have hclosed : ∀ k i, L.getD k false = true → Region.waitsFor md ops k i = true → L.getD i false = true := fun k i hk hi => by
   obtain ⟨o', ho', e, he, hb, hon⟩ := Region.waitsFor_spec hi
   rw [← hon]
   exact inv.closed k o' ho' hk e he hb
  have hlex := lexFrame_at hF a0 u j (by omega)
  have hsame : ∀ d, d ∈ oj.looksAt ops → a.tmps[d]? = (lexFrame ops a0 u j).tmps[d]? := fun d hd => by
   by_cases hx : ∃ i, i < n ∧ dstOf ops i = some d
   ·obtain ⟨i, hi, hid⟩ := hx
    have h1 := hF.look i j hi hjn d oj hid hoj hd
    have h2 := hwait i h1.2
    rw [hf.new i d ⟨hi, h2⟩ hid, hlex.new i d h1.1 hid]
   ·rw [hf.old d fun i hi hid => hx ⟨i, hi.1, hid⟩, hlex.old d fun i hi hid => hx ⟨i, by omega, hid⟩]
  have hsel := Region.noSelect_spec hF.sel j
  have hex : execOp a.eval oj = execOp (lexFrame ops a0 u j).eval oj := exec_congr (ops := ops) (fun cs b => hsel oj cs b hoj) hsame
  have hwa : Region.wanted oj (yielded ops a.tmps) = Region.wanted oj (yielded ops (lexFrame ops a0 u j).tmps) := wanted_congr hsame
  have hlive : ∀ i, i < n → depB ops oj i = true → ∀ k, k < n → L.getD k false = true → cons k i = false := fun i hi hd k hk hLk => by
   cases hc : cons k i with
   | false => rfl
   | true =>
    exfalso
    by_cases e : j = k
    ·subst e; exact hj0 hLk
    ·exact hj0 (hclosed k j hLk (hCo.look i k j oj hi hk hjn hc e hoj hd))
  have hop := hops j oj hjn hoj u w hw hBw fun i hi hd => by
   have hdep : ∃ d, dstOf ops i = some d ∧ d ∈ oj.looksAt ops := by
    have hd' := hd
    unfold depB at hd'
    split at hd'
    ·rename_i d hd''
     exact ⟨d, hd'', by simpa using hd'⟩
    ·cases hd'
   obtain ⟨d, hd1, hd2⟩ := hdep
   exact (hφ i hi (hwait i (hF.look i j hi hjn d oj hd1 hoj hd2).2) (hlive i hi hd)).1
  have hop := hop (fun k b hk hor hb => hru k b hk (by
   rcases hor with rfl | h
   ·exact getD_both hjun
   ·cases hLk : L.getD k false with
    | false => rfl
    | true => exact absurd (hclosed k j hLk h) hj0) hb)
  have hcl : ∀ i, i < n → cons j i = true → L.getD i false = true ∧ ∀ k, k < n → L.getD k false = true → cons k i = false := fun i hi hc => by
   refine ⟨hwait i (hCo.wait i j hi hjn hc), fun k hk hLk => ?_⟩
   cases hck : cons k i with
   | false => rfl
   | true => have := hCo.one i j k hi hjn hk hc hck; subst this; exact absurd hLk hj0
  have hnext : ∀ v w', FOut B (fun b => (∃ i, i < n ∧ cons j i = true ∧ (κ i u).fp (u i) b) ∨ Res j b) (κ j u) w w' v → wpAny P md ops Q (m + (ops.size - n)) (L.setIfInBounds j true) (a.put oj.dst v) w' := fun v w' hv => by
   obtain ⟨hfr, hvφ, hvf⟩ := hv
   have hu' := unl_set L j hjun n
   have hjf : L.getD j false = false := getD_both hjun
   have hCB : ∀ b, ((∃ i, i < n ∧ cons j i = true ∧ (κ i u).fp (u i) b) ∨ Res j b) → B ≤ b := fun b h => by
    rcases h with ⟨i, hi, hc, hf⟩ | h
    ·have h1 := hcl i hi hc
     exact ((hφ i hi h1.1 h1.2).2 b hf).1
    ·exact (hR.old j b hjn h).1
   have hbel : Below B w w' := hfr.below hBw hCB
   have hLne : ∀ i, i ≠ j → (L.setIfInBounds j true).getD i false = L.getD i false := fun i hne => getD_set_ne false (Ne.symm hne)
   have hjs : j < L.size := by rw [inv.size]; omega
   have hLj : (L.setIfInBounds j true).getD j false = true := by simp [hjs]
   have hold : ∀ i, i < n → i ≠ j → (L.setIfInBounds j true).getD i false = true → (∀ k, k < n → (L.setIfInBounds j true).getD k false = true → cons k i = false) →
     L.getD i false = true ∧ (∀ k, k < n → L.getD k false = true → cons k i = false) ∧ cons j i = false := fun i hi hne hLi hc => by
    refine ⟨by rw [← hLne i hne]; exact hLi, fun k hk hLk => hc k hk ?_, hc j hjn hLj⟩
    by_cases e : k = j
    ·subst e; exact hLj
    ·rw [hLne k e]; exact hLk
   have hup : ∀ i, i < n → (L.setIfInBounds j true).getD i false = true → κ i (upd u j v) = κ i u := fun i hi hLi => by
    refine hcg i _ _ hi fun k hk hd => ?_
    refine upd_ne u v fun e => ?_
    subst e
    unfold depOn at hd
    cases ho : ops[i]? with
    | none => rw [ho] at hd; cases hd
    | some oi =>
     rw [ho] at hd
     have hdep : ∃ d, dstOf ops k = some d ∧ d ∈ oi.looksAt ops := by
      have hd' : depB ops oi k = true := hd
      unfold depB at hd'
      split at hd'
      ·rename_i d hd''
       exact ⟨d, hd'', by simpa using hd'⟩
      ·cases hd'
     obtain ⟨d, hd1, hd2⟩ := hdep
     have hwt := (hF.look k i hk hi d oi hd1 ho hd2).2
     by_cases e : i = k
     ·subst e
      exact hj0 (hwait i hwt)
     ·rw [hLne i e] at hLi
      exact hj0 (hclosed i k hLi hwt)
   refine ih (L.setIfInBounds j true) (upd u j v) (a.put oj.dst v) w' (by have := hu'.1 hjn; omega) (inv.set hj hjn) ?_ (hw.trans hbel) (Nat.le_trans hBw hfr.size) (fun i hi hLi hc => ?_) (fun i k hi hk hik hLi hLk hci hck b hbi hbk => ?_) (fun k b hk hLk hb => ?_) (fun i k hi hk hLi hLk hci b hbi hbk => ?_) (fun i hi hLi hci b hbi hlt => ?_) (fun b hlt hno => ?_)
   ·have h1 : FrameAt ops a0 (upd u j v) (fun i => i < n ∧ L.getD i false = true) a := hf.congr fun i hi => by
     rw [upd_ne u v fun e => hj0 (by rw [← e]; exact hi.2)]
    have h2 := h1.put (T := fun i => i < n ∧ (L.setIfInBounds j true).getD i false = true) j (fun i hi d hd => fun e => hF.apart i j hi.1 hjn (fun e' => hj0 (by rw [← e']; exact hi.2)) d e hd) (fun i => by
     by_cases e : j = i
     ·subst e
      simp [hjs, hjn]
     ·rw [getD_set_ne false e]
      constructor
      ·exact fun h => .inl h
      ·rintro (h | h)
       ·exact h
       ·exact absurd h.symm e)
    rw [upd_same, dstOf_some hoj] at h2
    exact h2
   ·rw [hup i hi hLi]
    by_cases e : i = j
    ·subst e
     rw [upd_same]
     refine ⟨hvφ, fun b hb => ⟨?_, (hvf b hb).2⟩⟩
     rcases (hvf b hb).1 with h | h
     ·omega
     ·exact hCB b h
    ·rw [upd_ne u v e]
     obtain ⟨h1, h2, h3⟩ := hold i hi e hLi hc
     have h4 := hφ i hi h1 h2
     refine ⟨?_, fun b hb => ⟨(h4.2 b hb).1, Nat.lt_of_lt_of_le (h4.2 b hb).2 hfr.size⟩⟩
     rcases hst i u hi with hst | ⟨hst, hidle⟩
     rotate_left
     ·exact hst w w' _ ⟨hfr.os, hfr.tape, hfr.output, hfr.size, fun b hb => hfr.block b hb fun hC => hC.elim (fun ⟨i', _, hc', _⟩ => by rw [hidle.1] at hc'; cases hc') (hidle.2 j b)⟩ h4.1
     refine hst w w' _ hbel (fun b hb => ?_) h4.1
     refine hfr.block b (h4.2 b hb).2 fun hC => ?_
     rcases hC with ⟨i', hi', hc', hf'⟩ | hC
     rotate_left
     ·exact hrd i j hi hjn h1 hjf h2 b hb hC
     have h5 := hcl i' hi' hc'
     exact hdis i i' hi hi' (fun e => by subst e; rw [h3] at hc'; cases hc') h1 h5.1 h2 h5.2 b hb hf'
   ·rw [hup i hi hLi] at hbi
    rw [hup k hk hLk] at hbk
    by_cases ei : i = j
    ·subst ei
     have ek : k ≠ i := Ne.symm hik
     rw [upd_same] at hbi
     rw [upd_ne u v ek] at hbk
     obtain ⟨h1, h2, h3⟩ := hold k hk ek hLk hck
     have h4 := hφ k hk h1 h2
     rcases (hvf b hbi).1 with h | ⟨i', hi', hc', hf'⟩ | h
     ·have := (h4.2 b hbk).2; omega
     rotate_left
     ·exact hrd k i hk hjn h1 hjf h2 b hbk h
     ·have h5 := hcl i' hi' hc'
      exact hdis i' k hi' hk (fun e => by subst e; rw [h3] at hc'; cases hc') h5.1 h1 h5.2 h2 b hf' hbk
    ·by_cases ek : k = j
     ·subst ek
      rw [upd_same] at hbk
      rw [upd_ne u v ei] at hbi
      obtain ⟨h1, h2, h3⟩ := hold i hi ei hLi hci
      have h4 := hφ i hi h1 h2
      rcases (hvf b hbk).1 with h | ⟨i', hi', hc', hf'⟩ | h
      ·have := (h4.2 b hbi).2; omega
      rotate_left
      ·exact hrd i k hi hjn h1 hjf h2 b hbi h
      ·have h5 := hcl i' hi' hc'
       exact hdis i' i hi' hi (fun e => by subst e; rw [h3] at hc'; cases hc') h5.1 h1 h5.2 h2 b hf' hbi
     ·rw [upd_ne u v ei] at hbi
      rw [upd_ne u v ek] at hbk
      obtain ⟨h1, h2, _⟩ := hold i hi ei hLi hci
      obtain ⟨h3, h4, _⟩ := hold k hk ek hLk hck
      exact hdis i k hi hk hik h1 h3 h2 h4 b hbi hbk
   ·have hkj : k ≠ j := fun e => by subst e; rw [hLj] at hLk; cases hLk
    rw [hLne k hkj] at hLk
    have h1 := hru k b hk hLk hb
    have h2 := hR.old k b hk hb
    refine (hfr.block b (Nat.lt_of_lt_of_le h2.2 hw.size) fun hC => ?_).trans h1
    rcases hC with ⟨i', hi', hc', hf'⟩ | hC
    ·have h5 := hcl i' hi' hc'
     exact hrd i' k hi' hk h5.1 hLk h5.2 b hf' hb
    ·exact hkj (hR.one k j b hk hjn hb hC)
   ·have hkj : k ≠ j := fun e => by subst e; rw [hLj] at hLk; cases hLk
    rw [hLne k hkj] at hLk
    have h2 := hR.old k b hk hbk
    rw [hup i hi hLi] at hbi
    by_cases ei : i = j
    ·subst ei
     rw [upd_same] at hbi
     rcases (hvf b hbi).1 with h | ⟨i', hi', hc', hf'⟩ | h
     ·have := hw.size; omega
     ·have h5 := hcl i' hi' hc'
      exact hrd i' k hi' hk h5.1 hLk h5.2 b hf' hbk
     ·exact hkj (hR.one k i b hk hjn hbk h)
    ·rw [upd_ne u v ei] at hbi
     obtain ⟨h1, h3, _⟩ := hold i hi ei hLi hci
     exact hrd i k hi hk h1 hLk h3 b hbi hbk
   ·rw [hup i hi hLi] at hbi
    by_cases ei : i = j
    ·subst ei
     rw [upd_same] at hbi
     rcases (hvf b hbi).1 with h | ⟨i', hi', hc', hf'⟩ | h
     ·have := hw.size; omega
     ·have h5 := hcl i' hi' hc'
      exact hro i' hi' h5.1 h5.2 b hf' hlt
     ·exact ⟨i, hjn, h⟩
    ·rw [upd_ne u v ei] at hbi
     obtain ⟨h1, h3, _⟩ := hold i hi ei hLi hci
     exact hro i hi h1 h3 b hbi hlt
   ·refine (hfr.block b (Nat.lt_of_lt_of_le hlt hw.size) fun hC => ?_).trans (hkp b hlt hno)
    rcases hC with ⟨i', hi', hc', hf'⟩ | hC
    ·have h5 := hcl i' hi' hc'
     obtain ⟨k, hk, hr⟩ := hro i' hi' h5.1 h5.2 b hf' hlt
     exact hno k hk hr
    ·exact hno j hjn hC
  show wpOp P ops Q j _ a w
  unfold wpOp
  rw [hoj]
  simp only
  rw [hwa]
  split
  ·rename_i hwt
   rw [if_pos hwt] at hop
   left
   refine wp_of_fkindAt (κ := κ j u) ?_ fun v w' h1 => hnext v w' h1
   unfold fkindAt at hop ⊢
   rw [hex]
   exact hop
  ·rename_i hwt
   rw [if_neg hwt] at hop
   exact hnext undef w ⟨Fr.of_ext (Ext.refl w), hop.1, fun b hb => absurd hb (hop.2 b)⟩
theorem any_resF {Q : Exit → Act → World → Prop} {a : Act} {w : World} {l : List Oper} (n B : Nat) (κ : Nat → (Nat → Value) → FKind) (cons : Nat → Nat → Bool) (Res : Nat → Nat → Prop)
  (hB : kindB .any l.toArray n = true) (hT : tailB .any l.toArray n = true) (hC : consB .any l.toArray n cons = true) (hR : roomB l.toArray n a.tmps.size = true) (hBw : B ≤ w.heap.size) (hst : ∀ i u, i < n → KStable B cons Res (κ i u)) (hcg : ∀ i u u2, i < n → (∀ k, k < n → depOn l.toArray i k = true → u k = u2 k) → κ i u = κ i u2) (hRes : ResFacts n B w Res)
  (hops : RKOps .any P l.toArray n B w.drew a κ cons Res 0 (l.take n))
  (hend : ∀ (u : Nat → Value) (w' : World), Below B w.drew w' → (∀ b, b < w.heap.size → (∀ j, j < n → ¬ Res j b) → w'.heap[b]? = w.heap[b]?) → (∀ i, i < n → (∀ j, j < n → cons j i = false) → (κ i u).φ w' (u i)) → (∀ i, i < n → (∀ j, j < n → cons j i = false) → ∀ b, (κ i u).fp (u i) b → B ≤ b ∧ b < w'.heap.size) → (∀ i k, i < n → k < n → i ≠ k → (∀ j, j < n → cons j i = false) → (∀ j, j < n → cons j k = false) → ∀ b, (κ i u).fp (u i) b → ¬ (κ k u).fp (u k) b) → wpList P l.toArray Q (l.drop n) (lexPut u 0 (l.take n) a) w') :
  wpAny P .any l.toArray Q l.toArray.size (Array.replicate l.toArray.size false) a w.drew := by
 have hF := kindB_facts hB
 have hle : n ≤ l.length := by have := hF.le; simpa using this
 have h0 : unl (Array.replicate l.toArray.size false) n = n := unl_new _ n hF.le
 have hRes' : ResFacts n B w.drew Res := ⟨hRes.old, hRes.one⟩
 have h1 := rkinds_anyF (P := P) (md := .any) (Q := Q) (a0 := a) (B := B) (w0 := w.drew) (κ := κ) (cons := cons) (Res := Res) hRes' hF (consB_facts hC) hT hst hcg (fun j o hj ho => by
   have := rkOps_at (P := P) (ops := l.toArray) (n := n) (B := B) (w0 := w.drew) (κ := κ) (cons := cons) (Res := Res) (a0 := a) (l.take n) 0 (fun i hi => by
    have : i < n := by rw [List.length_take] at hi; omega
    simp [List.getElem?_take_of_lt this]) hops j o (by rw [List.length_take]; omega) (by rw [Nat.zero_add]; exact ho)
   rw [Nat.zero_add] at this
   exact rkindOp_of hF hR hj ho this)
  (fun u w' hw hkp hφ hlo hdi => by
   have hT' := hT
   simp only [tailB, Bool.and_eq_true] at hT'
   have := wpAny_of_seq (P := P) (md := .any) (ops := l.toArray) (Q' := Q) (l.drop n) n (headL l.toArray n) (lexFrame l.toArray a u n) w' (fun j => by simp [List.getElem?_drop]) (by rw [List.length_drop]; exact hT'.2) (by
    have := lexPut_frame (ops := l.toArray) a u (l.take n) 0 (fun j hj => by
     have : j < n := by rw [List.length_take] at hj; omega
     simp [List.getElem?_take_of_lt this])
    rw [List.length_take, Nat.min_eq_left hle, Nat.zero_add] at this
    rw [this]
    exact hend u w' hw hkp hφ hlo hdi)
   rw [List.length_drop] at this
   exact this)
  n (Array.replicate l.toArray.size false) (fun _ => undef) a w.drew h0
  ⟨by simp, (fun j oj _ hl => by rw [getD_replicate_false] at hl; cases hl), (fun t ht htl => by simp at htl; simp [htl])⟩
  (FrameAt.nil (fun i hi => by rw [getD_replicate_false] at hi; exact absurd hi.2 (by decide))) (Below.refl _ _) hBw (fun i _ hi => by rw [getD_replicate_false] at hi; cases hi) (fun i k _ _ _ hi => by rw [getD_replicate_false] at hi; cases hi)
  (fun _ _ _ _ _ => rfl) (fun i j _ _ hi => by rw [getD_replicate_false] at hi; cases hi) (fun i _ hi => by rw [getD_replicate_false] at hi; cases hi) (fun _ _ _ => rfl)
 have e : n + (l.toArray.size - n) = l.toArray.size := by have := hF.le; omega
 rw [e] at h1
 exact h1
theorem wp_region_resF {id : Nat} {Q : Exit → Act → World → Prop} {a : Act} {w : World} {l : List Oper} (n B : Nat) (κ : Nat → (Nat → Value) → FKind) (cons : Nat → Nat → Bool) (Res : Nat → Nat → Prop) (hm : P.follows .mixedOrders = true)
  (hB : kindB .any l.toArray n = true) (hT : tailB .any l.toArray n = true) (hC : consB .any l.toArray n cons = true) (hR : roomB l.toArray n a.tmps.size = true) (hBw : B ≤ w.heap.size) (hst : ∀ i u, i < n → KStable B cons Res (κ i u)) (hcg : ∀ i u u2, i < n → (∀ k, k < n → depOn l.toArray i k = true → u k = u2 k) → κ i u = κ i u2) (hRes : ResFacts n B w Res)
  (hops : RKOps .any P l.toArray n B w.drew a κ cons Res 0 (l.take n))
  (hend : ∀ (u : Nat → Value) (w' : World), Below B w.drew w' → (∀ b, b < w.heap.size → (∀ j, j < n → ¬ Res j b) → w'.heap[b]? = w.heap[b]?) → (∀ i, i < n → (∀ j, j < n → cons j i = false) → (κ i u).φ w' (u i)) → (∀ i, i < n → (∀ j, j < n → cons j i = false) → ∀ b, (κ i u).fp (u i) b → B ≤ b ∧ b < w'.heap.size) → (∀ i k, i < n → k < n → i ≠ k → (∀ j, j < n → cons j i = false) → (∀ j, j < n → cons j k = false) → ∀ b, (κ i u).fp (u i) b → ¬ (κ k u).fp (u k) b) → wpList P l.toArray Q (l.drop n) (lexPut u 0 (l.take n) a) w') :
  (Code.region id l.toArray true).wp P Q a w :=
 wp_region_any hm (any_resF n B κ cons Res hB hT hC hR hBw hst hcg hRes hops hend)
end
end Go.Proofs.YtnkepmfgmfeabaaGreatDoor
set_option linter.unusedVariables false
namespace Go.Proofs.YtnkepmfgmfeabaaGreatDoor
open Go Go.RowKit Go.Shelf
attribute [local go_sem] Oper.semAt_some

set_option maxRecDepth 100000 in
set_option maxHeartbeats 4000000 in
theorem sign_new (secret m : ByteArray) (h i : Nat) (w : World) (hs : secret.size ≤ 1099511627776) (hm : m.size ≤ 1099511627776) (hh : h ≤ 9) (hh8 : h ≤ 8) (hi : i < 2 ^ h) (hT : Tabs w) :
  Calls Tryz.prog 51 #[.string secret, .int .i64 (h : Int), .int .i64 (i : Int), .string m] w fun e w' => ∃ vs vp, e = .returned (.tuple #[.agg #[.int .i64 (i : Int), vs, vp], .int .i64 0]) ∧
   IsStrC w' vs (sigT secret i m) ∧ IsStrC w' vp (pathT (keysT secret h) i) ∧ Below w.heap.size w w' ∧ (∀ b, vs.ownBlock = some b → w.heap.size ≤ b) ∧ (∀ b, vp.ownBlock = some b → w.heap.size ≤ b) := by
 have HT := Lib.hid hT
 have HI := Lib.hid hi
 have HP := Lib.hid (wrap_pow h (by omega))
 have HPW : Hid (2 ^ h ≤ 512) := Lib.hid (Nat.pow_le_pow_right (n := 2) (by decide) hh)
 have hn : 2 ^ h ≤ 512 := Nat.pow_le_pow_right (n := 2) (by decide) hh
 have hi' : i ≤ 512 := by omega
 have hd1 : decide ((h : Int) < 0) = false := decide_eq_false (by omega)
 have hd2 : decide ((8 : Int) < (h : Int)) = false := decide_eq_false (by omega)
 have hd3 : decide ((i : Int) < 0) = false := decide_eq_false (by omega)
 have hd4 : decide (((2 ^ h : Nat) : Int) ≤ (i : Int)) = false := decide_eq_false (by omega)
 have hd4' : decide (((2 : Int) ^ h) ≤ (i : Int)) = false := by
  have e : ((2 ^ h : Nat) : Int) = (2 : Int) ^ h := by simp
  rw [← e]; exact hd4
 have hwp := HP.out
 clear hT hi hn
 refine calls_of_wp_marks (n := 5) Tryz.func51 rfl ?_
 simp only [Tryz.ntmps51, List.size_toArray, List.length_cons, List.length_nil, Nat.reduceAdd, Nat.reduceSub, Array.replicate_succ, Array.replicate_zero, List.push_toArray, List.append_toArray, List.nil_append, List.cons_append]
 go_wp2_with fail
 go_quiet (fail)
 go_wp2_with fail
 refine (sdigits_calls m _).mono ?_
 rintro e w' ⟨rfl, rfl⟩
 go_wp2_with fail

 have hfive := heap_five w nq (.cells #[.string secret] 9) (.cells #[.int .i64 (i : Int)] 3) (.cells #[.int .i64 0, .slice none 0 0, .slice none 0 0] 25) (.cells #[.int .i64 (i : Int), .slice none 0 0, .slice none 0 0] 25) (.cells #[.string m] 9)
 have hb5 := below_five w nq (.cells #[.string secret] 9) (.cells #[.int .i64 (i : Int)] 3) (.cells #[.int .i64 0, .slice none 0 0, .slice none 0 0] 25) (.cells #[.int .i64 (i : Int), .slice none 0 0, .slice none 0 0] 25) (.cells #[.string m] 9)
 simp only at hfive
 generalize (((((w.alloc (.cells #[.string secret] 9)).alloc (.cells #[.int .i64 (i : Int)] 3)).alloc (.cells #[.int .i64 0, .slice none 0 0, .slice none 0 0] 25)).drewN nq).alloc (.cells #[.int .i64 (i : Int), .slice none 0 0, .slice none 0 0] 25)).alloc (.cells #[.string m] 9) = W1 at *
 obtain ⟨hz1, hS1, hX1, hR1, hO1, hM1⟩ := hfive
 obtain ⟨ob, hob⟩ : ∃ ob, ob = w.heap.size + 1 + 1 + 1 := ⟨_, rfl⟩
 rw [← hob] at hO1 hM1
 rw [← hob]
 have hob1 : w.heap.size + 3 ≤ ob := by omega
 have hob2 : ob ≤ w.heap.size + 3 := by omega
 clear hob
 have HB1 := Lib.hid hb5
 have HS1 := Lib.hid hS1
 have HX1 := Lib.hid hX1
 have HR1 := Lib.hid hR1
 have HM1 := Lib.hid hM1
 have hlo1 : w.heap.size + 5 ≤ W1.heap.size := by omega
 have hlo2 : W1.heap.size ≤ w.heap.size + 5 := by omega
 have hT1 : Tabs W1 := HT.out.on hb5
 have HT1 := Lib.hid hT1
 have h0 : SigAt ob 25 (.int .i64 (i : Int)) W1 [] W1 := ⟨_, hO1, Own.nil _ _, Below.refl _ _⟩
 clear hT1 hb5 hz1 hS1 hX1 hR1 hO1 hM1 hwp hd1 hd2 hd3 hd4 hd4'
 have hseq := digits_stops 4 (by omega) (ob + 1) ob m hm W1 (by omega) (by rw [cell_of_row _ _ 0 _ _ _ HM1.out]; rfl) (by omega) HT1.out
 have hfrom := sigAt_from (T := 25) (x := .int .i64 (i : Int)) (W1 := W1) (ob := ob) (B := W1.heap.size) (fun pre : List (Fin 18) => pre.map fun x => chainS (startT secret i x.val) (digA m x.val)) (by omega) (by omega)
 have hKb : ∀ (W : World) (l : Nat) (o o' : Obj), W1.heap.size ≤ l → W.heap[l]? = some o → o.isCells = false → o.isWalk = false → Below ob W (W.putObj l o') := belowK_b (by omega)
 refine (wpIn_wide (n := 5)).1 ?_
 refine' wpIn_rangeFunc_ownF (F := Fence.wide) (n := 5) rfl (by omega) (gf := 109) (lb := #[.pointer (some ⟨ob + 1, 0, none⟩)]) rfl trivial (enters_of Tryz.func109 (by kernel_rfl) rfl)
  hseq ?hkt ?hkb ?hb0 ?hps (fun pre W => SigAt ob 25 (.int .i64 (i : Int)) W1 (pre.map fun x => chainS (startT secret i x.val) (digA m x.val)) W)
  (fun c pre W => False) ?hI ?hIx ?h00 _ ?assign ?body ?done ?stop
 case hkt => exact belowK_t
 case hkb => exact hKb
 case hb0 => exact Below.refl _ _
 case hps => exact fun _ => rfl
 case hI => exact hfrom
 case hIx => exact fun c _ _ _ _ h _ _ => h.elim
 case h00 => exact h0
 case assign =>
  intro l x W K hK
  gi_wp2
  exact hK
 case stop =>
  rintro D c pre W hD ⟨k, hk, rfl⟩ hx hK
  exact hx.elim
 case body =>
  rintro l pre x WB ⟨v, hv1, hv2, hv3⟩ hlen
  obtain ⟨k, hk⟩ := x
  have hkk : k ≤ 18 := by omega
  have hobW : ob < WB.heap.size := (Array.getElem?_eq_some_iff.1 hv1).1
  have hacc : (pre.map fun x : Fin 18 => chainS (startT secret i x.val) (digA m x.val)).length ≤ 18 := by rw [List.length_map]; omega
  have hdle : digA m k ≤ 15 := dig_le m k
  have hst16 := startT_size secret i k
  have HV1 := Lib.hid hv1
  have HV2 := Lib.hid hv2
  have HV3 := Lib.hid hv3
  have HMP : Hid ((pre ++ [(⟨k, hk⟩ : Fin 18)]).map (fun x => chainS (startT secret i x.val) (digA m x.val)) = pre.map (fun x : Fin 18 => chainS (startT secret i x.val) (digA m x.val)) ++ [chainS (startT secret i k) (digA m k)]) := Lib.hid (by simp)
  have HBW : Hid (Below w.heap.size w WB) := Lib.hid (HB1.out.trans (hv3.mono (by omega)))
  have HCS : Hid (WB.cell? ⟨w.heap.size, 0, none⟩ = some (.string secret)) := Lib.hid (by rw [hv3.cell (p := ⟨w.heap.size, 0, none⟩) (by show w.heap.size < ob; omega), cell_of_row _ _ 0 _ _ _ HS1.out]; rfl)
  have HCX : Hid (WB.cell? ⟨w.heap.size + 1, 0, none⟩ = some (.int .i64 (i : Int))) := Lib.hid (by rw [hv3.cell (p := ⟨w.heap.size + 1, 0, none⟩) (by show w.heap.size + 1 < ob; omega), cell_of_row _ _ 0 _ _ _ HX1.out]; rfl)
  clear hv1 hv2 hv3
  generalize pre.map (fun x : Fin 18 => chainS (startT secret i x.val) (digA m x.val)) = acc at *
  generalize digA m k = d at *
  gi_wp2_with fail
  refine wpIn_region_res 12 (ob) (fun ii u => [valF (.pointer (some ⟨ob, 1, none⟩)), OwnF (ob + 1) (acc), valF (.string secret), valF (.int .i64 (i : Int)), valF (.int .i64 (k : Int)), valF (.string (startT secret i k)), valF (.int .i64 (d : Int)), valF (.string (chainS (startT secret i k) d)), OwnF (ob + 1) ([chainS (startT secret i k) d]), OwnF (ob + 1) (acc ++ [chainS (startT secret i k) d]), valF (.pointer (some ⟨ob, 1, none⟩)), MemK ob (.cells #[.int .i64 (i : Int), u 9, .slice none 0 0] 25 (0, 0))].getD ii anyF) (fun jj ii => (jj == 9 && ii == 1)) (fun jj bb => (jj = 1 ∧ v.ownBlock = some bb) ∨ (jj = 11 ∧ bb = ob)) (by kernel_rfl) (by kernel_rfl) (fun ⟨_, _, h⟩ => h) (by kernel_rfl) (by kernel_rfl) (by kernel_rfl) (by kernel_rfl) (Nat.le_of_lt hobW) ?_ ?_ ?_ ?_ ?_
  ·intro ii u hii
   refine AllKStable.at ?_ ii
   exact ⟨.inl (valF_stable _ _), .inl (ownF_st _ _ _), .inl (valF_stable _ _), .inl (valF_stable _ _), .inl (valF_stable _ _), .inl (valF_stable _ _), .inl (valF_stable _ _), .inl (valF_stable _ _), .inl (ownF_st _ _ _), .inl (ownF_st _ _ _), .inl (valF_stable _ _), .inl (memK_st _ _ _), trivial⟩
  ·intro ii u u2 hii hx
   match ii, hii, hx with
   | 0, _, _ => rfl
   | 1, _, _ => rfl
   | 2, _, _ => rfl
   | 3, _, _ => rfl
   | 4, _, _ => rfl
   | 5, _, _ => rfl
   | 6, _, _ => rfl
   | 7, _, _ => rfl
   | 8, _, _ => rfl
   | 9, _, _ => rfl
   | 10, _, _ => rfl
   | 11, _, hx =>
    have h9 := hx 9 (by decide) (by kernel_rfl)
    show MemK ob (.cells #[.int .i64 (i : Int), u 9, .slice none 0 0] 25 (0, 0)) = MemK ob (.cells #[.int .i64 (i : Int), u2 9, .slice none 0 0] 25 (0, 0))
    rw [h9]
   | m + 12, hm, _ => exact absurd hm (by omega)
  ·refine ⟨fun j b _ h => ?_, fun j j2 b _ _ h h2 => ?_⟩
   ·rcases h with ⟨_, h⟩ | ⟨_, h⟩
    ·have := own_block HV2.out b h; omega
    ·omega
   ·rcases h with ⟨_, h⟩ | ⟨_, h⟩ <;> rcases h2 with ⟨_, h2⟩ | ⟨_, h2⟩
    ·omega
    ·have := own_block HV2.out b h; omega
    ·have := own_block HV2.out b h2; omega
    ·omega
  ·refine And.intro (fun u W A hW hBW hd hv hr => ?_) ?_
   ·have t10 : A.eval (.tmp 10) = .pointer (some ⟨ob, 0, none⟩) := (hv 10 (by kernel_rfl)).trans (by kernel_rfl)
    clear hd hv
    have s10 := evalT t10
    clear t10
    refine fk_run ?_
    go_simp
   refine And.intro (fun u W A hW hBW hd hv hr => ?_) ?_
   ·have e0 : u 0 = .pointer (some ⟨ob, 1, none⟩) := hd 0 (by decide) (by kernel_rfl)
    have t36 : A.eval (.tmp 36) = .pointer (some ⟨ob, 1, none⟩) := (hv 36 (by kernel_rfl)).trans ((by kernel_rfl : slotV _ _ _ u 36 = u 0).trans e0)
    have hW1 := below_undrew hW
    have hsz : WB.heap.size ≤ W.heap.size := hW1.size
    have ho : Own (ob + 1) W v acc := ownF_st (ob + 1) ob acc _ W v hW1 (fun b hb => hr 1 b (by decide) (.inl rfl) (.inl ⟨rfl, hb⟩)) HV2.out
    have hcl : W.cell? ⟨ob, 1, none⟩ = some v := by rw [cell_of_row W ob 1 _ _ _ ((hr 11 ob (by decide) (.inr (by kernel_rfl)) (.inr ⟨rfl, rfl⟩)).trans HV1.out)]; rfl
    clear hd hv
    have s36 := evalT t36
    clear t36
    exact fk_load_own (v := v) (by go_simp) ho (fun b hb => .inr (.inl ⟨rfl, hb⟩))
   refine And.intro (fun u W A hW hBW hd hv hr => ?_) ?_
   ·have t4 : A.eval (.tmp 4) = .pointer (some ⟨w.heap.size, 0, none⟩) := (hv 4 (by kernel_rfl)).trans (by kernel_rfl)
    have hW1 := below_undrew hW
    have hsz : WB.heap.size ≤ W.heap.size := hW1.size
    have hcl : W.cell? ⟨w.heap.size, 0, none⟩ = some (.string secret) := by rw [hW1.cell (p := ⟨w.heap.size, 0, none⟩) (by show w.heap.size < ob; omega)]; exact HCS.out
    clear hd hv
    have s4 := evalT t4
    clear t4
    refine fk_run ?_
    go_simp
   refine And.intro (fun u W A hW hBW hd hv hr => ?_) ?_
   ·have t6 : A.eval (.tmp 6) = .pointer (some ⟨w.heap.size + 1, 0, none⟩) := (hv 6 (by kernel_rfl)).trans (by kernel_rfl)
    have hW1 := below_undrew hW
    have hsz : WB.heap.size ≤ W.heap.size := hW1.size
    have hcl : W.cell? ⟨w.heap.size + 1, 0, none⟩ = some (.int .i64 (i : Int)) := by rw [hW1.cell (p := ⟨w.heap.size + 1, 0, none⟩) (by show w.heap.size + 1 < ob; omega)]; exact HCX.out
    clear hd hv
    have s6 := evalT t6
    clear t6
    refine fk_run ?_
    go_simp
   refine And.intro (fun u W A hW hBW hd hv hr => ?_) ?_
   ·have t11 : A.eval (.tmp 11) = .int .i64 (k : Int) := (hv 11 (by kernel_rfl)).trans (by kernel_rfl)
    clear hd hv
    have s11 := evalT t11
    clear t11
    refine fk_run ?_
    go_simp
   refine And.intro (fun u W A hW hBW hd hv hr => ?_) ?_
   ·have e2 : u 2 = .string secret := hd 2 (by decide) (by kernel_rfl)
    have e3 : u 3 = .int .i64 (i : Int) := hd 3 (by decide) (by kernel_rfl)
    have e4 : u 4 = .int .i64 (k : Int) := hd 4 (by decide) (by kernel_rfl)
    have t38 : A.eval (.tmp 38) = .string secret := (hv 38 (by kernel_rfl)).trans ((by kernel_rfl : slotV _ _ _ u 38 = u 2).trans e2)
    have t39 : A.eval (.tmp 39) = .int .i64 (i : Int) := (hv 39 (by kernel_rfl)).trans ((by kernel_rfl : slotV _ _ _ u 39 = u 3).trans e3)
    have t40 : A.eval (.tmp 40) = .int .i64 (k : Int) := (hv 40 (by kernel_rfl)).trans ((by kernel_rfl : slotV _ _ _ u 40 = u 4).trans e4)
    have hW1 := below_undrew hW
    have hsz : WB.heap.size ≤ W.heap.size := hW1.size
    clear hd hv
    have s38 := evalT t38
    have s39 := evalT t39
    have s40 := evalT t40
    clear t38 t39 t40
    refine fk_enter (f := 81) (args := #[.string secret, .int .i64 (i : Int), .int .i64 (k : Int)]) (by go_simp) (fk_val ?_)
    exact start_calls secret i k W hs (by omega) (by omega) (HT.out.on (HBW.out.trans (hW1.mono (by omega))))
   refine And.intro (fun u W A hW hBW hd hv hr => ?_) ?_
   ·have t12 : A.eval (.tmp 12) = .int .i64 (d : Int) := (hv 12 (by kernel_rfl)).trans (by kernel_rfl)
    clear hd hv
    have s12 := evalT t12
    clear t12
    refine fk_run ?_
    go_simp
   refine And.intro (fun u W A hW hBW hd hv hr => ?_) ?_
   ·have e5 : u 5 = .string (startT secret i k) := hd 5 (by decide) (by kernel_rfl)
    have e6 : u 6 = .int .i64 (d : Int) := hd 6 (by decide) (by kernel_rfl)
    have t41 : A.eval (.tmp 41) = .string (startT secret i k) := (hv 41 (by kernel_rfl)).trans ((by kernel_rfl : slotV _ _ _ u 41 = u 5).trans e5)
    have t42 : A.eval (.tmp 42) = .int .i64 (d : Int) := (hv 42 (by kernel_rfl)).trans ((by kernel_rfl : slotV _ _ _ u 42 = u 6).trans e6)
    have hW1 := below_undrew hW
    have hsz : WB.heap.size ≤ W.heap.size := hW1.size
    clear hd hv
    have s41 := evalT t41
    have s42 := evalT t42
    clear t41 t42
    refine fk_enter (f := 80) (args := #[.string (startT secret i k), .int .i64 (d : Int)]) (by go_simp) (fk_val ?_)
    have hch := chain_calls (startT secret i k) (by omega) (d : Int) W (HT.out.on (HBW.out.trans (hW1.mono (by omega))))
    rw [chainN_nat d (by omega)] at hch
    exact hch
   refine And.intro (fun u W A hW hBW hd hv hr => ?_) ?_
   ·have e7 : u 7 = .string (chainS (startT secret i k) d) := hd 7 (by decide) (by kernel_rfl)
    have t43 : A.eval (.tmp 43) = .string (chainS (startT secret i k) d) := (hv 43 (by kernel_rfl)).trans ((by kernel_rfl : slotV _ _ _ u 43 = u 7).trans e7)
    have hW1 := below_undrew hW
    have hsz : WB.heap.size ≤ W.heap.size := hW1.size
    clear hd hv
    have s43 := evalT t43
    clear t43
    exact fk_step (v := .slice (some ⟨W.heap.size, 0, none⟩) 1 1) (w' := W.alloc (.cells #[.string (chainS (startT secret i k) d)] 9)) (by go_simp) (fk_own_of (by omega) (own_lit W [chainS (startT secret i k) d] (show 1 ≤ maxLen by decide)) ((Below.refl _ _).alloc (Nat.le_refl _) _))
   refine And.intro (fun u W A hW hBW hd hv hr => ?_) ?_
   ·have e1 : Own (ob + 1) W (u 1) (acc) := hd 1 (by decide) (by kernel_rfl)
    have e8 : Own (ob + 1) W (u 8) ([chainS (startT secret i k) d]) := hd 8 (by decide) (by kernel_rfl)
    have t37 : A.eval (.tmp 37) = u 1 := (hv 37 (by kernel_rfl)).trans (by kernel_rfl)
    have t44 : A.eval (.tmp 44) = u 8 := (hv 44 (by kernel_rfl)).trans (by kernel_rfl)
    have hW1 := below_undrew hW
    have hsz : WB.heap.size ≤ W.heap.size := hW1.size
    clear hd hv
    exact fk_append (.tmp 37) (.tmp 44) rfl t37 t44 e1 e8.strc (by omega) (by simp <;> omega) (fun c hc => .inl ⟨1, by decide, by decide, hc⟩)
   refine And.intro (fun u W A hW hBW hd hv hr => ?_) ?_
   ·have t10 : A.eval (.tmp 10) = .pointer (some ⟨ob, 0, none⟩) := (hv 10 (by kernel_rfl)).trans (by kernel_rfl)
    clear hd hv
    have s10 := evalT t10
    clear t10
    refine fk_run ?_
    go_simp
   refine And.intro (fun u W A hW hBW hd hv hr => ?_) ?_
   ·have e9 : Own (ob + 1) W (u 9) (acc ++ [chainS (startT secret i k) d]) := hd 9 (by decide) (by kernel_rfl)
    have e10 : u 10 = .pointer (some ⟨ob, 1, none⟩) := hd 10 (by decide) (by kernel_rfl)
    have t46 : A.eval (.tmp 46) = .pointer (some ⟨ob, 1, none⟩) := (hv 46 (by kernel_rfl)).trans ((by kernel_rfl : slotV _ _ _ u 46 = u 10).trans e10)
    have t45 : A.eval (.tmp 45) = u 9 := (hv 45 (by kernel_rfl)).trans (by kernel_rfl)
    have hW1 := below_undrew hW
    have hsz : WB.heap.size ≤ W.heap.size := hW1.size
    have hob5 := (hr 11 ob (by decide) (.inl rfl) (.inr ⟨rfl, rfl⟩)).trans HV1.out
    clear hd hv
    have s46 := evalT t46
    have s45 := evalT t45
    clear t46 t45
    have hcl : W.cell? ⟨ob, 1, none⟩ = some v := by rw [cell_of_row W ob 1 _ _ _ hob5]; rfl
    have hfz : W.frozen? ⟨ob, 1, none⟩ = false := by simp [World.frozen?, hob5]
    obtain ⟨ao9, n9, c9, hv9⟩ := own_form e9
    change fkindAt _ _ _ _ _ _ (MemK ob (.cells #[.int .i64 (i : Int), u 9, .slice none 0 0] 25 (0, 0)))
    rw [hv9] at s45 ⊢
    refine fk_store (b := ob) (i := 1) (v := .slice ao9 n9 c9) (by go_simp) (by omega) (.inr (.inr ⟨rfl, rfl⟩)) ?_
    rw [heap_set_same W ob 1 _ _ _ _ hob5]; rfl
   exact trivial
  intro u W' hb' hk' hf'
  have e9 : Own (ob + 1) W' (u 9) (acc ++ [chainS (startT secret i k) d]) := hf' 9 (by decide) (by decide)
  have e11 : W'.heap[ob]? = some (.cells #[.int .i64 (i : Int), u 9, .slice none 0 0] 25 (0, 0)) := hf' 11 (by decide) (by decide)
  have hb1 := below_undrew hb'
  clear hf' hb'
  simp only [List.drop, wpList]
  refine ⟨keeps_of hb1.size (S := fun b => v.ownBlock = some b ∨ b = ob) (fun b hb hS => hk' b hb (fun j _ h => ?_)) (fun b hS => ?_), hb1, u 9, e11, by rw [HMP.out]; exact e9, HV3.out.trans hb1⟩
  ·rcases h with ⟨_, h⟩ | ⟨_, h⟩
   ·exact hS (.inl h)
   ·exact hS (.inr h)
  ·rcases hS with h | h
   ·exact own_cells HV2.out h
   ·exact ⟨_, _, _, by rw [h]; exact HV1.out⟩
 case done =>
  rintro D xs WD hD rfl ⟨v, hv1, hv2, hv3⟩ hK
  rw [sig_map] at hv2
  obtain ⟨aov, nv, cv, rfl⟩ := own_form hv2
  have hobW : ob < WD.heap.size := (Array.getElem?_eq_some_iff.1 hv1).1
  have HV1 := Lib.hid hv1
  have HV2 := Lib.hid hv2
  have HKD := Lib.hid hK
  have HBW : Hid (Below w.heap.size w WD) := Lib.hid (HB1.out.trans (hv3.mono (by omega)))
  have HCS : Hid (WD.cell? ⟨w.heap.size, 0, none⟩ = some (.string secret)) := Lib.hid (by rw [hv3.cell (p := ⟨w.heap.size, 0, none⟩) (by show w.heap.size < ob; omega), cell_of_row _ _ 0 _ _ _ HS1.out]; rfl)
  have HCX : Hid (WD.cell? ⟨w.heap.size + 1, 0, none⟩ = some (.int .i64 (i : Int))) := Lib.hid (by rw [hv3.cell (p := ⟨w.heap.size + 1, 0, none⟩) (by show w.heap.size + 1 < ob; omega), cell_of_row _ _ 0 _ _ _ HX1.out]; rfl)
  have HRD : Hid (WD.heap[w.heap.size + 1 + 1]? = some (.cells #[.int .i64 0, .slice none 0 0, .slice none 0 0] 25 (0, 0))) := Lib.hid ((hv3.block _ (by omega)).trans HR1.out)
  clear hv1 hv2 hv3 hK
  go_wp2_with fail
  refine wp_region_resF 10 (ob) (fun ii u => [valF (.string secret), valF (.int .i64 (h : Int)), OwnF ob (keysT secret h), valF (.int .i64 (i : Int)), TupO (pathT (keysT secret h) i), TupO (pathT (keysT secret h) i), FstK (u 5), valF (.int .i64 0), valF (.pointer (some ⟨ob, 2, none⟩)), MemK ob (.cells #[.int .i64 (i : Int), .slice aov nv cv, u 6] 25 (0, 0))].getD ii anyF) (fun jj ii => (jj == 5 && ii == 4)) (fun jj bb => (jj = 9 ∧ bb = ob)) (by kernel_rfl) (by kernel_rfl) (by kernel_rfl) (by kernel_rfl) (by kernel_rfl) (Nat.le_of_lt hobW) ?_ ?_ ?_ ?_ ?_
  ·intro ii u hii
   refine AllKStable.at ?_ ii
   exact ⟨.inl (valF_stable _ _), .inl (valF_stable _ _), .inl (ownF_st _ _ _), .inl (valF_stable _ _), .inl (tupO_st _ _), .inl (tupO_st _ _), .inl (fstK_st _ _), .inl (valF_stable _ _), .inl (valF_stable _ _), .inl (memK_st _ _ _), trivial⟩
  ·intro ii u u2 hii hx
   match ii, hii, hx with
   | 0, _, _ => rfl
   | 1, _, _ => rfl
   | 2, _, _ => rfl
   | 3, _, _ => rfl
   | 4, _, _ => rfl
   | 5, _, _ => rfl
   | 6, _, hx =>
    have h5 := hx 5 (by decide) (by kernel_rfl)
    show FstK (u 5) = FstK (u2 5)
    rw [h5]
   | 7, _, _ => rfl
   | 8, _, _ => rfl
   | 9, _, hx =>
    have h6 := hx 6 (by decide) (by kernel_rfl)
    show MemK ob (.cells #[.int .i64 (i : Int), .slice aov nv cv, u 6] 25 (0, 0)) = MemK ob (.cells #[.int .i64 (i : Int), .slice aov nv cv, u2 6] 25 (0, 0))
    rw [h6]
   | m + 10, hm, _ => exact absurd hm (by omega)
  ·refine ⟨fun j b _ h => ?_, fun j j2 b _ _ h h2 => ?_⟩
   ·obtain ⟨_, h⟩ := h; omega
   ·obtain ⟨h, _⟩ := h; obtain ⟨h2, _⟩ := h2; omega
  ·refine And.intro (fun u W A hW hBW hd hv hr => ?_) ?_
   ·have t4 : A.eval (.tmp 4) = .pointer (some ⟨w.heap.size, 0, none⟩) := (hv 4 (by kernel_rfl)).trans (by kernel_rfl)
    have hW1 := below_undrew hW
    have hsz : WD.heap.size ≤ W.heap.size := hW1.size
    have hcl : W.cell? ⟨w.heap.size, 0, none⟩ = some (.string secret) := by rw [hW1.cell (p := ⟨w.heap.size, 0, none⟩) (by show w.heap.size < ob; omega)]; exact HCS.out
    clear hd hv
    have s4 := evalT t4
    clear t4
    refine fk_run ?_
    go_simp
   refine And.intro (fun u W A hW hBW hd hv hr => ?_) ?_
   ·have t1 : A.eval (.tmp 1) = .int .i64 (h : Int) := (hv 1 (by kernel_rfl)).trans (by kernel_rfl)
    clear hd hv
    have s1 := evalT t1
    clear t1
    refine fk_run ?_
    go_simp
   refine And.intro (fun u W A hW hBW hd hv hr => ?_) ?_
   ·have e0 : u 0 = .string secret := hd 0 (by decide) (by kernel_rfl)
    have e1 : u 1 = .int .i64 (h : Int) := hd 1 (by decide) (by kernel_rfl)
    have t48 : A.eval (.tmp 48) = .string secret := (hv 48 (by kernel_rfl)).trans ((by kernel_rfl : slotV _ _ _ u 48 = u 0).trans e0)
    have t49 : A.eval (.tmp 49) = .int .i64 (h : Int) := (hv 49 (by kernel_rfl)).trans ((by kernel_rfl : slotV _ _ _ u 49 = u 1).trans e1)
    have hW1 := below_undrew hW
    have hsz : WD.heap.size ≤ W.heap.size := hW1.size
    clear hd hv
    have s48 := evalT t48
    have s49 := evalT t49
    clear t48 t49
    refine fk_enter (f := 66) (args := #[.string secret, .int .i64 (h : Int)]) (by go_simp) (fk_own (by omega) ?_)
    exact keys_calls secret h W hs (by omega) (HT.out.on (HBW.out.trans (hW1.mono (by omega))))
   refine And.intro (fun u W A hW hBW hd hv hr => ?_) ?_
   ·have t6 : A.eval (.tmp 6) = .pointer (some ⟨w.heap.size + 1, 0, none⟩) := (hv 6 (by kernel_rfl)).trans (by kernel_rfl)
    have hW1 := below_undrew hW
    have hsz : WD.heap.size ≤ W.heap.size := hW1.size
    have hcl : W.cell? ⟨w.heap.size + 1, 0, none⟩ = some (.int .i64 (i : Int)) := by rw [hW1.cell (p := ⟨w.heap.size + 1, 0, none⟩) (by show w.heap.size + 1 < ob; omega)]; exact HCX.out
    clear hd hv
    have s6 := evalT t6
    clear t6
    refine fk_run ?_
    go_simp
   refine And.intro (fun u W A hW hBW hd hv hr => ?_) ?_
   ·have e2 : Own ob W (u 2) (keysT secret h) := hd 2 (by decide) (by kernel_rfl)
    have e3 : u 3 = .int .i64 (i : Int) := hd 3 (by decide) (by kernel_rfl)
    have t50 : A.eval (.tmp 50) = u 2 := (hv 50 (by kernel_rfl)).trans (by kernel_rfl)
    have t51 : A.eval (.tmp 51) = .int .i64 (i : Int) := (hv 51 (by kernel_rfl)).trans ((by kernel_rfl : slotV _ _ _ u 51 = u 3).trans e3)
    have hW1 := below_undrew hW
    have hsz : WD.heap.size ≤ W.heap.size := hW1.size
    clear hd hv
    have s50 := evalT t50
    have s51 := evalT t51
    clear t50 t51
    refine fk_enter (f := 82) (args := #[u 2, .int .i64 (i : Int)]) (by go_simp) (fk_tup ?_)
    exact path_new (keysT secret h) (u 2) i W e2.strc (keys_sizes secret h) (by rw [keysT_len]; have := HPW.out; omega) (by rw [keysT_len]; exact HI.out) (HT.out.on (HBW.out.trans (hW1.mono (by omega))))
   refine And.intro (fun u W A hW hBW hd hv hr => ?_) ?_
   ·have e4 : ∃ v', u 4 = .tuple #[v', .int .i64 0] ∧ IsStrC W v' (pathT (keysT secret h) i) ∧ ∀ b, v'.ownBlock = some b → b < W.heap.size := hd 4 (by decide) (by kernel_rfl)
    have t52 : A.eval (.tmp 52) = u 4 := (hv 52 (by kernel_rfl)).trans (by kernel_rfl)
    clear hd hv
    have s52 := evalT t52
    clear t52
    refine fk_step (v := u 4) (w' := W) (by go_simp) ⟨Fr.of_ext (Ext.refl W), e4, fun b hb => ?_⟩
    obtain ⟨v4, h4, hs4, hl4⟩ := e4
    obtain ⟨v2, h2, hb2⟩ := hb
    have e2 : v4 = v2 := by rw [h4] at h2; simpa using h2
    subst e2
    exact ⟨.inr (.inl ⟨4, by decide, by decide, ⟨v4, h4, hb2⟩⟩), hl4 b hb2⟩
   refine And.intro (fun u W A hW hBW hd hv hr => ?_) ?_
   ·have e5 : ∃ v', u 5 = .tuple #[v', .int .i64 0] ∧ IsStrC W v' (pathT (keysT secret h) i) ∧ ∀ b, v'.ownBlock = some b → b < W.heap.size := hd 5 (by decide) (by kernel_rfl)
    have t47 : A.eval (.tmp 47) = u 5 := (hv 47 (by kernel_rfl)).trans (by kernel_rfl)
    clear hd hv
    have s47 := evalT t47
    clear t47
    obtain ⟨v5, h5, hs5, hl5⟩ := e5
    rw [h5] at s47
    obtain ⟨ao5, c5, hv5⟩ := strc_form hs5
    exact fk_step (v := v5) (w' := W) (by go_simp) ⟨Fr.of_ext (Ext.refl W), ⟨h5, _, _, _, hv5⟩, fun b hb => hb.elim⟩
   refine And.intro (fun u W A hW hBW hd hv hr => ?_) ?_
   ·have e5 : ∃ v', u 5 = .tuple #[v', .int .i64 0] ∧ IsStrC W v' (pathT (keysT secret h) i) ∧ ∀ b, v'.ownBlock = some b → b < W.heap.size := hd 5 (by decide) (by kernel_rfl)
    have t47 : A.eval (.tmp 47) = u 5 := (hv 47 (by kernel_rfl)).trans (by kernel_rfl)
    clear hd hv
    have s47 := evalT t47
    clear t47
    obtain ⟨v5, h5, hs5, hl5⟩ := e5
    rw [h5] at s47
    refine fk_run ?_
    go_simp
   refine And.intro (fun u W A hW hBW hd hv hr => ?_) ?_
   ·have t10 : A.eval (.tmp 10) = .pointer (some ⟨ob, 0, none⟩) := (hv 10 (by kernel_rfl)).trans (by kernel_rfl)
    clear hd hv
    have s10 := evalT t10
    clear t10
    refine fk_run ?_
    go_simp
   refine And.intro (fun u W A hW hBW hd hv hr => ?_) ?_
   ·have e6 : u 5 = .tuple #[u 6, .int .i64 0] ∧ ∃ ao n c, u 6 = .slice ao n c := hd 6 (by decide) (by kernel_rfl)
    have e8 : u 8 = .pointer (some ⟨ob, 2, none⟩) := hd 8 (by decide) (by kernel_rfl)
    have t55 : A.eval (.tmp 55) = .pointer (some ⟨ob, 2, none⟩) := (hv 55 (by kernel_rfl)).trans ((by kernel_rfl : slotV _ _ _ u 55 = u 8).trans e8)
    have t53 : A.eval (.tmp 53) = u 6 := (hv 53 (by kernel_rfl)).trans (by kernel_rfl)
    have hW1 := below_undrew hW
    have hsz : WD.heap.size ≤ W.heap.size := hW1.size
    have hob5 := (hr 9 ob (by decide) (.inl rfl) ⟨rfl, rfl⟩).trans HV1.out
    clear hd hv
    have s55 := evalT t55
    have s53 := evalT t53
    clear t55 t53
    have hcl : W.cell? ⟨ob, 2, none⟩ = some (.slice none 0 0) := by rw [cell_of_row W ob 2 _ _ _ hob5]; rfl
    have hfz : W.frozen? ⟨ob, 2, none⟩ = false := by simp [World.frozen?, hob5]
    change fkindAt _ _ _ _ _ _ (MemK ob (.cells #[.int .i64 (i : Int), .slice aov nv cv, u 6] 25 (0, 0)))
    obtain ⟨e6, ao6, n6, c6, hv6⟩ := e6
    rw [hv6] at s53 ⊢
    refine fk_store (b := ob) (i := 2) (v := .slice ao6 n6 c6) (by go_simp) (by omega) (.inr ⟨rfl, rfl⟩) ?_
    rw [heap_set_same W ob 2 _ _ _ _ hob5]; rfl
   exact trivial
  intro u W' hb' hk' hf' hn' hdj'
  have n5 := hn' 5 (by decide) (by decide)
  have e5 : ∃ v', u 5 = .tuple #[v', .int .i64 0] ∧ IsStrC W' v' (pathT (keysT secret h) i) ∧ _ := hf' 5 (by decide) (by decide)
  have e6 : u 5 = .tuple #[u 6, .int .i64 0] := (hf' 6 (by decide) (by decide)).1
  have e9 : W'.heap[ob]? = some (.cells #[.int .i64 (i : Int), .slice aov nv cv, u 6] 25 (0, 0)) := hf' 9 (by decide) (by decide)
  have hb1 := below_undrew hb'
  clear hf' hb' hn' hdj'
  obtain ⟨vp, hvp, hsp, _⟩ := e5
  have HN5 : Hid (∀ b, vp.ownBlock = some b → ob ≤ b) := Lib.hid (fun b hb => (n5 b ⟨vp, hvp, hb⟩).1)
  clear n5
  have h6 : u 6 = vp := by rw [hvp] at e6; simpa using e6.symm
  rw [h6] at e9
  obtain ⟨aop, cp, rfl⟩ := strc_form hsp
  generalize hnp : (pathT (keysT secret h) i).length = np at *
  have HSP := Lib.hid hsp
  clear hsp hnp e6
  have hrb : W'.heap[w.heap.size + 1 + 1]? = some (.cells #[.int .i64 0, .slice none 0 0, .slice none 0 0] 25 (0, 0)) := (hb1.block _ (by omega)).trans HRD.out
  have c0 : W'.cell? ⟨ob, 0, none⟩ = some (.int .i64 (i : Int)) := by rw [cell_of_row _ _ 0 _ _ _ e9]; rfl
  have c1 : W'.cell? ⟨ob, 1, none⟩ = some (.slice aov nv cv) := by rw [cell_of_row _ _ 1 _ _ _ e9]; rfl
  have c2 : W'.cell? ⟨ob, 2, none⟩ = some (.slice aop np cp) := by rw [cell_of_row _ _ 2 _ _ _ e9]; rfl
  have r0 : W'.cell? ⟨w.heap.size + 1 + 1, 0, none⟩ = some (.int .i64 0) := by rw [cell_of_row _ _ 0 _ _ _ hrb]; rfl
  have r1 : W'.cell? ⟨w.heap.size + 1 + 1, 1, none⟩ = some (.slice none 0 0) := by rw [cell_of_row _ _ 1 _ _ _ hrb]; rfl
  have r2 : W'.cell? ⟨w.heap.size + 1 + 1, 2, none⟩ = some (.slice none 0 0) := by rw [cell_of_row _ _ 2 _ _ _ hrb]; rfl
  have f0 : ∀ o, W'.frozen? ⟨w.heap.size + 1 + 1, o, none⟩ = false := fun o => by simp [World.frozen?, hrb]
  have HE9 := Lib.hid e9
  have HRB := Lib.hid hrb
  have HB2 := Lib.hid hb1
  have HK2 := Lib.hid hk'
  clear e9 hrb hb1 hk'
  simp only [List.take, lexPut, Nat.zero_add, Nat.reduceAdd, hvp, h6, Act.put, List.setIfInBounds_toArray, List.set_cons_succ, List.set_cons_zero]
  clear hvp h6
  simp only [List.drop, wpList]
  go_wp2_with fail
  have HKD2 : Hid (W'.heap[D]? = some (.deferred (some []))) := Lib.hid ((HK2.out D (Array.getElem?_eq_some_iff.1 HKD.out).1 (fun j _ h => by
   have := HV1.out
   rw [← h.2, HKD.out] at this
   cases this)).trans HKD.out)
  obtain ⟨g1, g2, g3, g4, g5⟩ := sign_end (x := .int .i64 (i : Int)) (v := .slice aov nv cv) (p := .slice aop np cp) HRB.out HKD2.out
  refine ⟨by simp, .inl ⟨_, _, rfl, run_takeDeferred g1, ?_⟩⟩
  have hBF := g5 w.heap.size (by omega) (by omega)
  have q0 := cell_of_row _ _ 0 _ _ _ g2
  have q1 := cell_of_row _ _ 1 _ _ _ g2
  have q2 := cell_of_row _ _ 2 _ _ _ g2
  have HG3 := Lib.hid g3
  have HG4 := Lib.hid g4
  have HBF := Lib.hid hBF
  clear g1 g2 g3 g4 g5 hBF c0 c1 c2 r0 r1 r2 f0
  generalize ((((W'.setCell ⟨w.heap.size + 1 + 1, 0, none⟩ (.int .i64 (i : Int))).setCell ⟨w.heap.size + 1 + 1, 1, none⟩ (.slice aov nv cv)).setCell ⟨w.heap.size + 1 + 1, 2, none⟩ (.slice aop np cp)).putObj D (.deferred none)) = WF at *
  refine ⟨.tuple #[.agg #[.int .i64 (i : Int), .slice aov nv cv, .slice aop np cp], .int .i64 0], by simp [results, Tryz.f51, go_sem, q0, q1, q2], .slice aov nv cv, .slice aop np cp, rfl, ?_, strc_keep HSP.out HG4.out HG3.out, ?_, fun b hb => ?_, fun b hb => ?_⟩
  ·have ho : Own (ob + 1) W' (.slice aov nv cv) (sigT secret i m) := ownF_st (ob + 1) ob _ WD W' _ HB2.out (fun b hb => HK2.out b (own_block HV2.out b hb).2 (fun j _ h => by have := (own_block HV2.out b hb).1; omega)) HV2.out
   exact strc_keep ho.strc HG4.out HG3.out
  ·exact (HBW.out.trans (HB2.out.mono (by omega))).trans HBF.out
  ·have := (own_block HV2.out b hb).1
   omega
  ·have := HN5.out b hb
   omega
end Go.Proofs.YtnkepmfgmfeabaaGreatDoor
set_option linter.unusedVariables false
set_option linter.unusedSimpArgs false
namespace Go.Proofs.YtnkepmfgmfeabaaGreatDoor
open Go Go.RowKit
namespace Av

/-! What comes in az an argument, az pure data: for every type of numbers, texts, truths, structs, arrays and slices of these. -/
inductive PT where
 | b
 | s
 | i (k : IntKind)
 | sl (es : List PT)
def fieldsPT (sh : TypeId → Option (List PT)) (co : TypeId → Nat) : List Field → Nat → Option (List PT)
 | [], _ => some []
 | f :: r, o => match sh f.type with
  | some ts => if f.offset = o ∧ co f.type = ts.length then (fieldsPT sh co r (o + ts.length)).map (ts ++ ·) else none
  | none => none
def shapePT (P : Program) : Nat → TypeId → Option (List PT)
 | 0, _ => none
 | m + 1, t => match P.underlying t with
  | some .bool => some [.b]
  | some .string => some [.s]
  | some (.int k) => some [.i k]
  | some (.slice e) => match shapePT P m e with
   | some ts => if P.cellsOf e = ts.length ∧ 0 < ts.length then some [.sl ts] else none
   | none => none
  | some (.struct fs) => match fieldsPT (shapePT P m) P.cellsOf fs.toList 0 with
   | some ts => if P.cellsOf t = ts.length then some ts else none
   | none => none
  | _ => none
mutual
def PT.fits : PT → PD → Prop
 | .b, .v (.bool _) => True
 | .s, .v (.string _) => True
 | .i k, .v (.int k' _) => k' = k
 | .sl ts, .sl k l => k = ts.length ∧ ∀ it ∈ l, fitsL ts it
 | _, _ => False
def fitsL : List PT → List PD → Prop
 | [], [] => True
 | t :: ts, p :: ps => t.fits p ∧ fitsL ts ps
 | _, _ => False
end
theorem fitsL.length : ∀ {ts : List PT} {ps : List PD}, fitsL ts ps → ps.length = ts.length
 | [], [], _ => rfl
 | [], _ :: _, h => by simp only [fitsL] at h
 | _ :: _, [], h => by simp only [fitsL] at h
 | t :: ts, p :: ps, h => by simp only [fitsL] at h; simp [h.2.length]
theorem fitsL.append : ∀ {ts us : List PT} {ps qs : List PD}, fitsL ts ps → fitsL us qs → fitsL (ts ++ us) (ps ++ qs)
 | [], us, [], qs, _, k => k
 | [], _, _ :: _, _, h, _ => by simp only [fitsL] at h
 | _ :: _, _, [], _, h, _ => by simp only [fitsL] at h
 | t :: ts, us, p :: ps, qs, h, k => by simp only [fitsL, List.cons_append] at h ⊢; exact ⟨h.1, h.2.append k⟩
theorem PT.fits.one {t : PT} {p : PD} (h : t.fits p) : p.one = true := by
 cases t with
 | b => cases p with
  | v x => cases x <;> simp_all [PT.fits, PD.one, Value.oneCell']
  | sl k l => rfl
 | s => cases p with
  | v x => cases x <;> simp_all [PT.fits, PD.one, Value.oneCell']
  | sl k l => rfl
 | i k => cases p with
  | v x => cases x <;> simp_all [PT.fits, PD.one, Value.oneCell']
  | sl k l => rfl
 | sl ts => cases p with
  | v x => simp [PT.fits] at h
  | sl k l => rfl
theorem fits_s {p : PD} (h : PT.fits .s p) : ∃ x, p = .v (.string x) := by
 cases p with
 | v x => cases x <;> simp_all [PT.fits]
 | sl k l => simp [PT.fits] at h
theorem fits_i {k : IntKind} {p : PD} (h : PT.fits (.i k) p) : ∃ x, p = .v (.int k x) := by
 cases p with
 | v x => cases x <;> simp_all [PT.fits]
 | sl k l => simp [PT.fits] at h
theorem fits_sl {ts : List PT} {p : PD} (h : PT.fits (.sl ts) p) : ∃ l, p = .sl ts.length l ∧ ∀ it ∈ l, fitsL ts it := by
 cases p with
 | v x => simp [PT.fits] at h
 | sl k l => simp only [PT.fits] at h; exact ⟨l, by rw [h.1], h.2⟩
theorem fits_cons {t : PT} {ts : List PT} {ps : List PD} (h : fitsL (t :: ts) ps) : ∃ p r, ps = p :: r ∧ t.fits p ∧ fitsL ts r := by
 cases ps with
 | nil => simp only [fitsL] at h
 | cons p r => simp only [fitsL] at h; exact ⟨p, r, rfl, h.1, h.2⟩
theorem fits_nil {ps : List PD} (h : fitsL [] ps) : ps = [] := by
 cases ps with
 | nil => rfl
 | cons p r => simp only [fitsL] at h
/-- a list whose elements are each of a form -/
theorem list_of {α : Type} {f : α → List PD} {l : List (List PD)} (h : ∀ it ∈ l, ∃ x, it = f x) : ∃ xs : List α, l = xs.map f := by
 induction l with
 | nil => exact ⟨[], rfl⟩
 | cons it r ih =>
  obtain ⟨x, rfl⟩ := h it (by simp)
  obtain ⟨xs, rfl⟩ := ih fun it hi => h it (by simp [hi])
  exact ⟨x :: xs, rfl⟩
theorem fits_strs {p : PD} (h : PT.fits (.sl [.s]) p) : ∃ l : List ByteArray, p = .sl 1 (l.map fun x => [.v (.string x)]) := by
 obtain ⟨l, rfl, hl⟩ := fits_sl h
 obtain ⟨xs, rfl⟩ := list_of (f := fun x : ByteArray => [PD.v (.string x)]) (l := l) fun it hi => by
  obtain ⟨p, r, rfl, h1, h2⟩ := fits_cons (hl it hi)
  obtain ⟨x, rfl⟩ := fits_s h1
  exact ⟨x, by rw [fits_nil h2]⟩
 exact ⟨xs, rfl⟩
section
variable {H : Type} {enc : TypeId × Value → H} {P : Program} {w : World} {base : Nat} {spare : Nat → Bool} {held : Bool}
theorem cells_pc {s : St} (hw : s.w = w) {b : Nat} : ∀ {ts : List PT} {ps : List PD} {cs : List Value} {o : Nat}, fitsL ts ps → RepL s (dL ps) cs → (∀ j v, cs[j]? = some v → w.cell? ⟨b, o + j, none⟩ = some v) → PCells w s.imm ps b o
 | [], [], cs, o, _, _, _ => by simp only [PCells]
 | [], _ :: _, _, _, h, _, _ => by simp only [fitsL] at h
 | _ :: _, [], _, _, h, _, _ => by simp only [fitsL] at h
 | t :: ts, p :: ps, cs, o, h, hr, hc => by
  simp only [fitsL] at h
  simp only [dL, List.map_cons, RepL, Rep] at hr
  obtain ⟨x, r, rfl, h1, h2⟩ := hr
  simp only [PCells]
  refine ⟨⟨h.1.one, x, by simpa using hc 0 x rfl, by rw [← hw]; exact h1⟩, cells_pc hw h.2 h2 fun j v hj => ?_⟩
  have := hc (j + 1) v (by simpa using hj)
  rw [show o + 1 + j = o + (j + 1) by omega]
  exact this
theorem rows_pc {imm : Nat → Prop} {b k : Nat} : ∀ {l : List (List PD)} {o : Nat}, (∀ i, i < l.length → (l.getD i []).length = k ∧ PCells w imm (l.getD i []) b (o + i * k)) → PRows w imm l b k o
 | [], o, _ => by simp only [PRows]
 | it :: r, o, h => by
  simp only [PRows]
  have h0 := h 0 (by simp)
  simp only [List.getD_cons_zero, Nat.zero_mul, Nat.add_zero] at h0
  refine ⟨h0.1, h0.2, rows_pc fun i hi => ?_⟩
  have := h (i + 1) (by simpa using hi)
  simp only [List.getD_cons_succ] at this
  rw [show o + k + i * k = o + (i + 1) * k by rw [Nat.add_mul]; omega]
  exact this
theorem fields_pd {s : St} {n : Nat} (ih : ∀ (m : Nat) (t : TypeId) (cs : List Value) (x : DataW H × List MemPlace) (ts : List PT), shapePT P m t = some ts → DataW.trod enc P w base spare held n t cs = some x → ∃ ps, fitsL ts ps ∧ RepL s (dL ps) cs) {m : Nat} {cs : List Value} :
  ∀ (fs : List Field) (o : Nat) (ts : List PT), fieldsPT (shapePT P m) P.cellsOf fs o = some ts → o + ts.length = cs.length → (∀ f ∈ fs, ∃ x, DataW.trod enc P w base spare held n f.type ((cs.drop f.offset).take (P.cellsOf f.type)) = some x) →
   ∃ ps, fitsL ts ps ∧ RepL s (dL ps) (cs.drop o)
 | [], o, ts, h, hl, _ => by
  simp only [fieldsPT, Option.some.injEq] at h
  subst h
  exact ⟨[], by simp only [fitsL], by rw [List.drop_of_length_le (by simp at hl; omega)]; exact .nil⟩
 | f :: r, o, ts, h, hl, hx => by
  simp only [fieldsPT] at h
  split at h
  case h_2 => cases h
  rename_i us hus
  split at h
  case isFalse => cases h
  rename_i hof
  simp only [Option.map_eq_some_iff] at h
  obtain ⟨vs, h, rfl⟩ := h
  obtain ⟨x, hx0⟩ := hx f (by simp)
  obtain ⟨ps, h1, h2⟩ := ih m _ _ x us hus hx0
  rw [List.length_append] at hl
  obtain ⟨qs, h3, h4⟩ := fields_pd ih r (o + us.length) vs h (by omega) fun g hg => hx g (by simp [hg])
  refine ⟨ps ++ qs, h1.append h3, ?_⟩
  rw [hof.1, hof.2] at h2
  have := h2.append h4
  rw [show List.take us.length (List.drop o cs) ++ List.drop (o + us.length) cs = cs.drop o by rw [← List.drop_drop, List.take_append_drop]] at this
  rw [show dL (ps ++ qs) = dL ps ++ dL qs by simp [dL]]
  exact this
theorem open_pd {s : St} (hw : s.w = w) (hi : ∀ b, b < w.heap.size → s.imm b) : ∀ (n m : Nat) (t : TypeId) (cs : List Value) (x : DataW H × List MemPlace) (ts : List PT), shapePT P m t = some ts → DataW.trod enc P w base spare held n t cs = some x → ∃ ps, fitsL ts ps ∧ RepL s (dL ps) cs
 | 0, m, t, cs, x, ts, h, hx => by simp [DataW.trod] at hx
 | n + 1, 0, t, cs, x, ts, h, hx => by simp [shapePT] at h
 | n + 1, m + 1, t, cs, x, ts, h, hx => by
  unfold shapePT at h
  split at h
  ·rename_i hu
   cases h
   obtain ⟨b, rfl, _⟩ := DataW.trod_bool hu hx
   exact ⟨[.v (.bool b)], by simp [fitsL, PT.fits], .one (by simp only [Rep, PRep]; exact ⟨trivial, trivial⟩)⟩
  ·rename_i hu
   cases h
   obtain ⟨b, rfl, _, hs⟩ := DataW.trod_string hu hx
   exact ⟨[.v (.string b)], by simp [fitsL, PT.fits], .one (by simp only [Rep, PRep]; exact ⟨trivial, hs⟩)⟩
  ·rename_i k hu
   cases h
   obtain ⟨b, rfl, _, hs⟩ := DataW.trod_int hu hx
   exact ⟨[.v (.int k b)], by simp [fitsL, PT.fits], .one (by simp only [Rep, PRep]; exact ⟨trivial, by simpa [Lit.wf, small] using hs⟩)⟩
  ·rename_i e hu
   split at h
   case h_2 => cases h
   rename_i us hus
   split at h
   case isFalse => cases h
   rename_i hk
   cases h
   rcases DataW.trod_slice hu hx with ⟨rfl, _⟩ | ⟨a, len, cap, elems, rest, n', e1, rfl, _, hb, hl, hc, hel, hev, _, _⟩
   ·exact ⟨[.sl us.length []], by simp [fitsL, PT.fits], .one (by simp only [Rep, PRep]; exact ⟨none, 0, rfl, Nat.zero_le _, Nat.zero_le _, .inl trivial⟩)⟩
   ·obtain rfl : n = n' := by omega
    have each : ∀ i, i < len → ∃ ps : List PD, fitsL us ps ∧ PCells w s.imm ps a.block (a.off + i * us.length) ∧ a.spot = none ∧ a.block < w.heap.size := fun i hil => by
     have h1 := hev i hil
     obtain ⟨y, hy⟩ : ∃ y, elems[i]? = some y := ⟨_, List.getElem?_eq_getElem (by omega)⟩
     rw [hy] at h1
     obtain ⟨ci, h2, h3⟩ := Option.bind_eq_some_iff.1 h1
     obtain ⟨ps, h4, h5⟩ := open_pd hw hi n m e ci y us hus h3
     unfold World.cells? at h2
     rw [hk.1] at h2
     split at h2
     case isFalse => cases h2
     have hlc := mapM_some_length h2
     have hg := mapM_some_get h2
     simp only [List.length_range] at hlc
     have hj : ∀ j, j < us.length → w.cell? ((a.add (i * us.length)).add j) = ci[j]? := fun j hj => hg j j (by simp [hj])
     have h00 : w.cell? ((a.add (i * us.length)).add 0) = ci[0]? := hj 0 hk.2
     obtain ⟨v0, hv0⟩ : ∃ v, ci[0]? = some v := ⟨_, List.getElem?_eq_getElem (by omega)⟩
     rw [hv0] at h00
     have hblk := World.block_lt_of_cell? w _ h00
     have hblk' : a.block < w.heap.size := by
      have : ((a.add (i * us.length)).add 0).block = a.block := by unfold Addr.add; split <;> split <;> rfl
      rwa [this] at hblk
     -- the spot of the slice's own address
     have h0 := hev 0 (by omega)
     obtain ⟨y0, hy0⟩ : ∃ y, elems[0]? = some y := ⟨_, List.getElem?_eq_getElem (by omega)⟩
     rw [hy0] at h0
     obtain ⟨c0, g2, _⟩ := Option.bind_eq_some_iff.1 h0
     unfold World.cells? at g2
     rw [hk.1] at g2
     split at g2
     case isFalse => cases g2
     have glc := mapM_some_length g2
     simp only [List.length_range] at glc
     have gg := mapM_some_get g2 0 0 (by simp [hk.2])
     obtain ⟨u0, hu0⟩ : ∃ v, c0[0]? = some v := ⟨_, List.getElem?_eq_getElem (by omega)⟩
     rw [hu0] at gg
     have hsp : a.spot = none := by
      have := World.cell?_spot gg
      simpa [Addr.add] using this
     refine ⟨ps, h4, ?_, hsp, hblk'⟩
     refine cells_pc hw h4 h5 fun j v hv => ?_
     have hjl : j < us.length := by have := (List.getElem?_eq_some_iff.1 hv).1; omega
     rw [← hv, ← hj j hjl]
     congr 1
     obtain ⟨ab, ao, asp⟩ := a
     simp only at hsp
     subst hsp
     rw [addr_add, addr_add]
    obtain ⟨F, hF⟩ := Go.Deep.choose_lt each
    refine ⟨[.sl us.length ((List.range len).map F)], ?_, ?_⟩
    ·simp only [fitsL, PT.fits, and_true, true_and]
     intro it hit
     obtain ⟨i, hi1, rfl⟩ := List.mem_map.1 hit
     exact (hF i (List.mem_range.1 hi1)).1
    ·refine .one ?_
     simp only [Rep, PRep]
     refine ⟨some a, cap, by simp, by simpa using hl, hc, ?_⟩
     rcases Nat.eq_zero_or_pos len with rfl | hp
     ·exact .inl rfl
     ·have h0 := hF 0 hp
      refine .inr ⟨a.block, a.off, ?_, ?_, ?_⟩
      ·obtain ⟨ab, ao, asp⟩ := a
       have := h0.2.2.1
       simp only at this
       rw [this]
      ·exact hi _ h0.2.2.2
      ·rw [hw]
       refine rows_pc fun i hil => ?_
       have hil' : i < len := by simpa using hil
       have e2 : ((List.range len).map F).getD i [] = F i := by simp [List.getD, hil']
       rw [e2]
       exact ⟨(hF i hil').1.length, (hF i hil').2.1⟩
  ·rename_i fs hu
   split at h
   case h_2 => cases h
   rename_i us hus
   split at h
   case isFalse => cases h
   rename_i hk
   cases h
   obtain ⟨xs, n', e1, _, hl, hlen, hf⟩ := DataW.trod_struct hu hx
   obtain rfl : n = n' := by omega
   obtain ⟨ps, h1, h2⟩ := fields_pd (s := s) (fun m t cs x ts => open_pd hw hi n m t cs x ts) (cs := cs) fs.toList 0 _ hus (by omega) fun f hfm => by
    obtain ⟨i, hi1, hi2⟩ := List.mem_iff_getElem.1 hfm
    have h3 := hf i f (by simp at hi1; simp [← hi2, hi1])
    have : i < xs.length := by rw [hlen]; simpa using hi1
    exact ⟨xs[i], by rw [h3, List.getElem?_eq_getElem this]⟩
   exact ⟨ps, h1, by simpa using h2⟩
  ·cases h
end
end Av
end Go.Proofs.YtnkepmfgmfeabaaGreatDoor
set_option linter.unusedVariables false
set_option linter.unusedSimpArgs false
namespace Go.Proofs.YtnkepmfgmfeabaaGreatDoor
open Go Go.RowKit
namespace Av
attribute [local irreducible] AW AOps AHOps

/-! Signing, and what the laws call besides. -/
theorem pure_of_rep {P : Program} {base : World} {f : FuncId} {args : List AV} {r : AV} (hcall : ∀ (vs : Array Value) (w : World), (callFunc f vs).run P w = .ok (.enter f vs) w)
  (h : ∀ (s : St) (vs : Array Value), Sim base s → RepL s args vs.toList → Calls P f vs s.w fun e w' => ∃ v, e = .returned v ∧ Below s.w.heap.size s.w w' ∧ ∀ s' : St, s'.w = w' → (∀ b, b < w'.heap.size → s.w.heap.size ≤ b → s'.imm b) → Rep s' r v) : PureA P base f args r := fun H =>
 ⟨hcall, fun μ w vs hs ha => (h ⟨μ, H, w⟩ vs hs ha).mono fun e w' ⟨v, h1, h2, h3⟩ => by
  have hs' := hs.below' (s := ⟨μ, H, w⟩) h2
  refine ⟨v, r, H, μ, h1, ⟨rfl, rfl⟩, Nat.le_refl _, hs'.1, ?_, hs'.2⟩
  refine h3 ⟨μ, H, w'⟩ rfl fun b hb hge => ⟨hb, fun hl => ?_⟩
  have hlt := (hs.live_ge (s := ⟨μ, H, w⟩) hl).2
  have hge' : w.heap.size ≤ b := hge
  have hlt' : b < w.heap.size := hlt
  omega⟩
theorem strs_rep {s : St} {N : Nat} {v : Value} {l : List ByteArray} (h : IsStrC s.w v l) (hl : ∀ t ∈ l, t.size ≤ 9223372036854775807) (hn : ∀ b, v.ownBlock = some b → N ≤ b) (hi : ∀ b, b < s.w.heap.size → N ≤ b → s.imm b) : Rep s (.d (strsP l)) v := by
 obtain ⟨ao, cap, rfl, h1, h2, h3⟩ := h
 simp only [strsP, Rep, PRep, List.length_map]
 refine ⟨ao, cap, rfl, h1, h2, ?_⟩
 rcases Nat.eq_zero_or_pos l.length with h0 | hp
 ·exact .inl (by simp [List.eq_nil_of_length_eq_zero h0])
 ·obtain ⟨b, o, rfl, hb, _⟩ := h3 0 hp
  refine .inr ⟨b, o, rfl, hi b hb (hn b rfl), ?_⟩
  have each : ∀ i, i < l.length → s.w.cell? ⟨b, o + i, none⟩ = some (.string (l.getD i ByteArray.empty)) := fun i hi => by
   obtain ⟨b', o', e, _, hc⟩ := h3 i hi
   cases e
   exact hc
  refine rows_pc fun i hil => ?_
  rw [List.length_map] at hil
  have e : (l.map fun s => [PD.v (.string s)]).getD i [] = [.v (.string (l.getD i ByteArray.empty))] := by simp [List.getD, hil]
  rw [e, Nat.mul_one]
  refine ⟨rfl, ?_⟩
  simp only [PCells, and_true]
  refine ⟨rfl, _, each i hil, ?_⟩
  simp only [PRep, true_and]
  refine hl _ ?_
  rw [show l.getD i ByteArray.empty = l[i] by simp [List.getD, hil]]
  exact List.getElem_mem hil
theorem rootT_size (l : List ByteArray) : (rootT l).size = 16 := by
 rw [rootT]
 split
 ·split <;> exact sumS_size _
 ·exact sumS_size _
section
variable {base : World} (hT : Tabs base)
include hT in
theorem pub_a (secret : ByteArray) (h : Nat) (hs : secret.size ≤ 1099511627776) (hh : h ≤ 8) : PureA Tryz.prog base 41 [.d (.v (.string secret)), .d (.v (.int .i64 (h : Int)))] (.tup [.d (.v (.string (pubT secret h))), iA 0]) :=
 pure_of_rep Tryz.call41 fun s vs hsm ha => by
  obtain ⟨t1, e1, ha, _⟩ := args_str ha
  obtain ⟨t2, e2, ha⟩ := args_int ha
  rw [e2, args_nil ha] at e1
  rw [show vs = #[.string secret, .int .i64 (h : Int)] from Array.toList_inj.1 e1]
  refine (public_calls secret h s.w hs hh (tabs_s hsm hT)).mono fun e w' ⟨h1, h2⟩ => ⟨_, h1, h2, fun s' hs' hi => ?_⟩
  simp only [Rep, RepL, PRep, iA]
  refine ⟨_, rfl, _, _, rfl, ⟨rfl, ?_⟩, _, _, rfl, ⟨rfl, ?_⟩, rfl⟩
  ·have := rootT_size (keysT secret h)
   show (pubT secret h).size ≤ _
   unfold pubT
   omega
  ·show _ ∧ _; decide
include hT in
theorem seal_a (secret m : ByteArray) (h i : Nat) (hs : secret.size ≤ 1099511627776) (hm : m.size ≤ 1099511627776) (hh : h ≤ 8) (hi : i < 2 ^ h) :
  PureA Tryz.prog base 51 [.d (.v (.string secret)), .d (.v (.int .i64 (h : Int))), .d (.v (.int .i64 (i : Int))), .d (.v (.string m))] (.tup [.agg [iA i, .d (strsP (sigT secret i m)), .d (strsP (pathT (keysT secret h) i))], iA 0]) :=
 pure_of_rep Tryz.call51 fun s vs hsm ha => by
  obtain ⟨t1, e1, ha, _⟩ := args_str ha
  obtain ⟨t2, e2, ha⟩ := args_int ha
  obtain ⟨t3, e3, ha⟩ := args_int ha
  obtain ⟨t4, e4, ha, _⟩ := args_str ha
  rw [e2, e3, e4, args_nil ha] at e1
  rw [show vs = #[.string secret, .int .i64 (h : Int), .int .i64 (i : Int), .string m] from Array.toList_inj.1 e1]
  refine (sign_new secret m h i s.w hs hm (by omega) hh hi (tabs_s hsm hT)).mono fun e w' ⟨ws, wp, h1, h2, h3, h4, h5, h6⟩ => ⟨_, h1, h4, fun s' hs' him => ?_⟩
  subst hs'
  have hii : i ≤ 256 := by have : 2 ^ h ≤ 2 ^ 8 := Nat.pow_le_pow_right (by decide) hh; omega
  have r1 := strs_rep h2 (fun t ht => by have := sigT_sizes secret i m t ht; omega) h5 him
  have r2 := strs_rep h3 (fun t ht => by have := pathT_sizes (keysT secret h) i t ht; omega) h6 him
  simp only [Rep, RepL, PRep, iA]
  refine ⟨_, rfl, _, _, rfl, ⟨_, rfl, _, _, rfl, ⟨rfl, ?_⟩, _, _, rfl, ?_, _, _, rfl, ?_, rfl⟩, _, _, rfl, ⟨rfl, ?_⟩, rfl⟩
  ·show _ ∧ _
   simp only [IntKind.min, IntKind.max, IntKind.signed, IntKind.bits]
   omega
  ·simpa only [Rep] using r1
  ·simpa only [Rep] using r2
  ·show _ ∧ _; decide
include hT in
theorem public_a (secret : ByteArray) (hs : secret.size ≤ 1099511627776) : PureA Tryz.prog base 20 [.d (.v (.string secret))] (.d (.v (.string (pubT secret 2)))) := by
 refine pure_enter ttOk Tryz.call20 Tryz.func20 rfl fun H hB hb hF => ?_
 rw [Tryz.results20, Tryz.ntmps20]
 simp only [arr_list, List.length_cons, List.length_nil, List.replicate, List.cons_append, List.nil_append, Nat.reduceAdd, Nat.reduceSub]
 repeat refine aw_seq ?_
 refine aw_region ttOk (by kernel_rfl) ?_
 repeat (refine aops_cons ?_; first | (apply aops_o; rfl; simp only [estep, avs, tts, Nat.reduceAdd, Nat.reduceMul, Nat.reduceSub, Nat.reduceEqDiff, Nat.reduceLT, Nat.reduceLeDiff, Int.reduceToNat, Int.reduceLE, Int.reduceLT, Int.toNat_natCast, reduceCtorEq] <;> (first | with_reducible rfl | rfl)) | (refine aops_grd rfl (by simp only [avs] <;> rfl) (by rfl) ?_; first | refine grd_on ?_ | refine grd_off (by simp only [avs] <;> rfl) ?_))
 refine aops_nil ?_
 repeat refine aw_seq ?_
 refine aw_region ttOk (by kernel_rfl) ?_
 repeat (refine aops_cons ?_; first | (apply aops_o; rfl; simp only [estep, avs, tts, Nat.reduceAdd, Nat.reduceMul, Nat.reduceSub, Nat.reduceEqDiff, Nat.reduceLT, Nat.reduceLeDiff, Int.reduceToNat, Int.reduceLE, Int.reduceLT, Int.toNat_natCast, reduceCtorEq] <;> (first | with_reducible rfl | rfl)) | (refine aops_grd rfl (by simp only [avs] <;> rfl) (by rfl) ?_; first | refine grd_on ?_ | refine grd_off (by simp only [avs] <;> rfl) ?_))
 refine aops_pure rfl (by simp only [avs] <;> rfl) (pub_a hT secret 2 hs (by decide)) (by simp only [avs] <;> rfl) ?_
 repeat (refine aops_cons ?_; first | (apply aops_o; rfl; simp only [estep, avs, tts, Nat.reduceAdd, Nat.reduceMul, Nat.reduceSub, Nat.reduceEqDiff, Nat.reduceLT, Nat.reduceLeDiff, Int.reduceToNat, Int.reduceLE, Int.reduceLT, Int.toNat_natCast, reduceCtorEq, iA] <;> (first | with_reducible rfl | rfl)) | (refine aops_grd rfl (by simp only [avs] <;> rfl) (by rfl) ?_; first | refine grd_on ?_ | refine grd_off (by simp only [avs] <;> rfl) ?_))
 refine aops_nil ?_
 repeat refine aw_seq ?_
 refine aw_region ttOk (by kernel_rfl) ?_
 repeat (refine aops_cons ?_; first | (apply aops_o; rfl; simp only [estep, avs, tts, Nat.reduceAdd, Nat.reduceMul, Nat.reduceSub, Nat.reduceEqDiff, Nat.reduceLT, Nat.reduceLeDiff, Int.reduceToNat, Int.reduceLE, Int.reduceLT, Int.toNat_natCast, reduceCtorEq] <;> (first | with_reducible rfl | rfl)) | (refine aops_grd rfl (by simp only [avs] <;> rfl) (by rfl) ?_; first | refine grd_on ?_ | refine grd_off (by simp only [avs] <;> rfl) ?_))
 refine aops_nil ?_
 exact aw_ret ⟨_, rfl, [], by simp, rfl⟩
/-- a statement with a seal -/
def sgnS (s : Stm) (secret : ByteArray) (i : Nat) : Stm := { s with idx := i, sig := sigT secret i (messT s), path := pathT (keysT secret 2) i }
attribute [local irreducible] messT sigT pubT
include hT in
theorem sign29_a (s : Stm) (secret : ByteArray) (i : Nat) (hs : secret.size ≤ 1099511627776) (hi : i < 4) (hf : Fits s) : PureA Tryz.prog base 22 [.agg ((stmC s).map .d), .d (.v (.string secret)), .d (.v (.int .i64 (i : Int)))] (.agg ((stmC (sgnS s secret i)).map .d)) := by
 refine pure_enter ttOk Tryz.call22 Tryz.func22 rfl fun H hB hb hF => ?_
 rw [Tryz.results22, Tryz.ntmps22]
 simp only [arr_list, List.length_cons, List.length_nil, List.replicate, List.cons_append, List.nil_append, Nat.reduceAdd, Nat.reduceSub]
 simp only [stmC, List.map_cons, List.map_nil]
 repeat refine aw_seq ?_
 refine aw_region ttOk (by kernel_rfl) ?_
 repeat (refine aops_cons ?_; first | (apply aops_o; rfl; simp only [estep, avs, tts, Nat.reduceAdd, Nat.reduceMul, Nat.reduceSub, Nat.reduceEqDiff, Nat.reduceLT, Nat.reduceLeDiff, Int.reduceToNat, Int.reduceLE, Int.reduceLT, Int.toNat_natCast, reduceCtorEq, strsP, inpsP] <;> (first | with_reducible rfl | rfl)) | (refine aops_grd rfl (by simp only [avs] <;> rfl) (by rfl) ?_; first | refine grd_on ?_ | refine grd_off (by simp only [avs] <;> rfl) ?_))
 refine aops_nil ?_
 repeat refine aw_seq ?_
 refine aw_region ttOk (by kernel_rfl) ?_
 repeat (refine aops_cons ?_; first | (apply aops_o; rfl; simp only [estep, avs, tts, Nat.reduceAdd, Nat.reduceMul, Nat.reduceSub, Nat.reduceEqDiff, Nat.reduceLT, Nat.reduceLeDiff, Int.reduceToNat, Int.reduceLE, Int.reduceLT, Int.toNat_natCast, reduceCtorEq] <;> (first | with_reducible rfl | rfl)) | (refine aops_grd rfl (by simp only [avs] <;> rfl) (by rfl) ?_; first | refine grd_on ?_ | refine grd_off (by simp only [avs] <;> rfl) ?_))
 refine aops_pure rfl (by simp only [avs] <;> rfl) (message_a hT s hf.q (fun y hy => (hf.qi y hy).1) hf.lu hf.li hf.J) (by simp only [avs] <;> rfl) ?_
 refine aops_pure rfl (by simp only [avs] <;> rfl) (seal_a hT secret (messT s) 2 i hs (by have := messT_size s; omega) (by decide) hi) (by simp only [avs] <;> rfl) ?_
 repeat (refine aops_cons ?_; first | (apply aops_o; rfl; simp only [estep, avs, tts, Nat.reduceAdd, Nat.reduceMul, Nat.reduceSub, Nat.reduceEqDiff, Nat.reduceLT, Nat.reduceLeDiff, Int.reduceToNat, Int.reduceLE, Int.reduceLT, Int.toNat_natCast, reduceCtorEq, iA, strsP] <;> (first | with_reducible rfl | rfl)) | (refine aops_grd rfl (by simp only [avs] <;> rfl) (by rfl) ?_; first | refine grd_on ?_ | refine grd_off (by simp only [avs] <;> rfl) ?_))
 refine aops_nil ?_
 repeat refine aw_seq ?_
 refine aw_region ttOk (by kernel_rfl) ?_
 repeat (refine aops_cons ?_; first | (apply aops_o; rfl; simp only [estep, avs, tts, Nat.reduceAdd, Nat.reduceMul, Nat.reduceSub, Nat.reduceEqDiff, Nat.reduceLT, Nat.reduceLeDiff, Int.reduceToNat, Int.reduceLE, Int.reduceLT, Int.toNat_natCast, reduceCtorEq] <;> (first | with_reducible rfl | rfl)) | (refine aops_grd rfl (by simp only [avs] <;> rfl) (by rfl) ?_; first | refine grd_on ?_ | refine grd_off (by simp only [avs] <;> rfl) ?_))
 refine aops_nil ?_
 refine aw_ret ⟨_, (by simp only [aResult, aResL, aRes, avs, tts] <;> rfl), _, rfl, ?_⟩
 rfl
end
end Av
end Go.Proofs.YtnkepmfgmfeabaaGreatDoor
set_option linter.unusedVariables false
set_option linter.unusedSimpArgs false
namespace Go.Proofs.YtnkepmfgmfeabaaGreatDoor
open Go Go.RowKit
namespace Av
attribute [local irreducible] AW AOps AHOps
attribute [local irreducible] messT sigT pubT verT

/-! Steps. -/
def sG : ByteArray := { data := #[103] }
/-- a statement of the examples -/
def stS (id : ByteArray) (q : Int) (holder : ByteArray) (uses : List ByteArray) (inputs : List (ByteArray × Int)) : Stm := ⟨id, sG, q, pubT holder 2, uses, inputs, 0, [], []⟩
/-- what says less -/
def LeA (a b : AV) : Prop := ∀ s v, Rep s a v → Rep s b v
theorem LeA.refl (a : AV) : LeA a a := fun _ _ h => h
theorem LeA.nil (k : Nat) : LeA (.d (.v (.slice none 0 0))) (.d (.sl k [])) := fun s v h => by
 simp only [Rep, PRep] at h ⊢
 exact ⟨none, 0, h.1, Nat.le_refl _, by unfold maxLen; omega, .inl trivial⟩
def LeL : List AV → List AV → Prop
 | [], [] => True
 | a :: l, b :: m => LeA a b ∧ LeL l m
 | _, _ => False
theorem LeL.rep {s : St} : ∀ {l m : List AV} {vs : List Value}, LeL l m → RepL s l vs → RepL s m vs
 | [], [], _, _, h => h
 | [], _ :: _, _, h, _ => h.elim
 | _ :: _, [], _, h, _ => h.elim
 | a :: l, b :: m, vs, h, k => by
  simp only [RepL] at k ⊢
  obtain ⟨x, t, h1, h2, h3⟩ := k
  exact ⟨x, t, h1, h.1 s x h2, h.2.rep h3⟩
theorem LeA.agg {l m : List AV} (h : LeL l m) : LeA (.agg l) (.agg m) := fun s v k => by
 simp only [Rep] at k ⊢
 obtain ⟨c, h1, h2⟩ := k
 exact ⟨c, h1, h.rep h2⟩
theorem PureA.le {P : Program} {base : World} {f : FuncId} {args : List AV} {r r' : AV} (h : PureA P base f args r) (k : LeA r r') : PureA P base f args r' := fun H =>
 ⟨(h H).enter, fun μ w vs hs ha => ((h H).run μ w vs hs ha).mono fun e w' ⟨v, r0, H', μ', h1, ⟨h2, h2'⟩, h3, h4, h5, h6⟩ => ⟨v, r', H', μ', h1, ⟨rfl, h2'⟩, h3, h4, k _ _ (h2 ▸ h5), h6⟩⟩
section
variable {base : World} (hT : Tabs base)
include hT in
theorem stm29_a (id : ByteArray) (q : Int) (holder : ByteArray) (uses : List ByteArray) (inputs : List (ByteArray × Int)) (hs : holder.size ≤ 1099511627776) :
  PureA Tryz.prog base 23 [.d (.v (.string id)), .d (.v (.int .i64 q)), .d (.v (.string holder)), .d (strsP uses), .d (inpsP inputs)] (.agg ((stmC (stS id q holder uses inputs)).map .d)) := by
 refine PureA.le (r := .agg [.d (.v (.string id)), .d (.v (.string sG)), .d (.v (.int .i64 q)), .d (.v (.string (pubT holder 2))), .d (strsP uses), .d (inpsP inputs), .d (.v (.int .i64 0)), .d (.v (.slice none 0 0)), .d (.v (.slice none 0 0))]) ?_ (LeA.agg ⟨.refl _, .refl _, .refl _, .refl _, .refl _, .refl _, .refl _, .nil 1, .nil 1, trivial⟩)
 refine pure_enter ttOk Tryz.call23 Tryz.func23 rfl fun H hB hb hF => ?_
 rw [Tryz.results23, Tryz.ntmps23]
 simp only [arr_list, List.length_cons, List.length_nil, List.replicate, List.cons_append, List.nil_append, Nat.reduceAdd, Nat.reduceSub]
 repeat refine aw_seq ?_
 refine aw_region ttOk (by kernel_rfl) ?_
 repeat (refine aops_cons ?_; first | (apply aops_o; rfl; simp only [estep, avs, tts, Nat.reduceAdd, Nat.reduceMul, Nat.reduceSub, Nat.reduceEqDiff, Nat.reduceLT, Nat.reduceLeDiff, Int.reduceToNat, Int.reduceLE, Int.reduceLT, Int.toNat_natCast, reduceCtorEq] <;> (first | with_reducible rfl | rfl)) | (refine aops_grd rfl (by simp only [avs] <;> rfl) (by rfl) ?_; first | refine grd_on ?_ | refine grd_off (by simp only [avs] <;> rfl) ?_))
 refine aops_nil ?_
 repeat refine aw_seq ?_
 refine aw_region ttOk (by kernel_rfl) ?_
 repeat (refine aops_cons ?_; first | (apply aops_o; rfl; simp only [estep, avs, tts, Nat.reduceAdd, Nat.reduceMul, Nat.reduceSub, Nat.reduceEqDiff, Nat.reduceLT, Nat.reduceLeDiff, Int.reduceToNat, Int.reduceLE, Int.reduceLT, Int.toNat_natCast, reduceCtorEq] <;> (first | with_reducible rfl | rfl)) | (refine aops_grd rfl (by simp only [avs] <;> rfl) (by rfl) ?_; first | refine grd_on ?_ | refine grd_off (by simp only [avs] <;> rfl) ?_))
 refine aops_pure rfl (by simp only [avs] <;> rfl) (public_a hT holder hs) (by simp only [avs] <;> rfl) ?_
 repeat (refine aops_cons ?_; first | (apply aops_o; rfl; simp only [estep, avs, tts, Nat.reduceAdd, Nat.reduceMul, Nat.reduceSub, Nat.reduceEqDiff, Nat.reduceLT, Nat.reduceLeDiff, Int.reduceToNat, Int.reduceLE, Int.reduceLT, Int.toNat_natCast, reduceCtorEq, strsP, inpsP] <;> (first | with_reducible rfl | rfl)) | (refine aops_grd rfl (by simp only [avs] <;> rfl) (by rfl) ?_; first | refine grd_on ?_ | refine grd_off (by simp only [avs] <;> rfl) ?_))
 refine aops_nil ?_
 exact aw_ret ⟨_, (by simp only [aResult, aResL, aRes, avs, tts] <;> rfl), _, rfl, rfl⟩
end
/-- a step: Add, or Revoke -/
structure Step29 where
 kind : Int
 st : Stm
 id : ByteArray
def stepC (x : Step29) : List PD := .v (.int .i64 x.kind) :: stmC x.st ++ [.v (.string x.id)]
def doR (B : Bk) (x : Step29) : Int × Bk := if x.kind = 0 then addR B x.st else revokeR B x.id
set_option maxHeartbeats 2000000 in
theorem do_a {base : World} (hT : Tabs base) {H : AHeap} {Y : Lay} {B : Bk} {x : Step29} (h : Book H Y B) (hf : properB x.st = true → Fits x.st) (hZ : x.st.Sized 4611686018427387904) (hn : B.ents.length ≤ 1000000) (hnx : ∀ y ∈ B.ents, y.next.length ≤ 1000000) (hl : ∀ y ∈ B.ents, -1000000000000000000 ≤ y.left ∧ y.left ≤ 1000000000000000000) (hi : B.issuer.size ≤ 1099511627776) (hh : ∀ y ∈ B.ents, y.st.holder.size ≤ 1099511627776) :
  CallsA Tryz.prog base 17 [.ptr Y.bl 0, .agg ((stepC x).map .d)] H fun r H' => r = iA (doR B x).1 ∧ ∃ Y', Y'.bl = Y.bl ∧ Book H' Y' (doR B x).2 ∧ KeepO H H' := by
 refine callsA_enter ttOk Tryz.call17 Tryz.func17 rfl fun hB hb hF => ?_
 rw [Tryz.results17, Tryz.ntmps17]
 simp only [arr_list, List.length_cons, List.length_nil, List.replicate, List.cons_append, List.nil_append, Nat.reduceAdd, Nat.reduceSub]
 simp only [stepC, stmC, List.map_cons, List.map_nil, List.cons_append, List.nil_append]
 repeat refine aw_seq ?_
 refine aw_region ttOk (by kernel_rfl) ?_
 repeat (refine aops_cons ?_; first | (apply aops_o; rfl; simp only [estep, avs, tts, Nat.reduceAdd, Nat.reduceMul, Nat.reduceSub, Nat.reduceEqDiff, Nat.reduceLT, Nat.reduceLeDiff, Int.reduceToNat, Int.reduceLE, Int.reduceLT, Int.toNat_natCast, reduceCtorEq, strsP, inpsP] <;> (first | with_reducible rfl | rfl)) | (refine aops_grd rfl (by simp only [avs] <;> rfl) (by rfl) ?_; first | refine grd_on ?_ | refine grd_off (by simp only [avs] <;> rfl) ?_))
 refine aops_nil ?_
 repeat refine aw_seq ?_
 refine aw_region ttOk (by kernel_rfl) ?_
 repeat (refine aops_cons ?_; first | (apply aops_o; rfl; simp only [estep, avs, tts, Nat.reduceAdd, Nat.reduceMul, Nat.reduceSub, Nat.reduceEqDiff, Nat.reduceLT, Nat.reduceLeDiff, Int.reduceToNat, Int.reduceLE, Int.reduceLT, Int.toNat_natCast, reduceCtorEq] <;> (first | with_reducible rfl | rfl)) | (refine aops_grd rfl (by simp only [avs] <;> rfl) (by rfl) ?_; first | refine grd_on ?_ | refine grd_off (by simp only [avs] <;> rfl) ?_))
 refine aops_nil ?_
 unfold doR
 repeat refine aw_seq ?_
 refine aw_cond rfl rfl (fun hb => ?_) fun hb => ?_
 ·have hk : x.kind = 0 := by simpa using hb
  repeat refine aw_seq ?_
  refine aw_region ttOk (by kernel_rfl) ?_
  repeat (refine aops_cons ?_; first | (apply aops_o; rfl; simp only [estep, avs, tts, Nat.reduceAdd, Nat.reduceMul, Nat.reduceSub, Nat.reduceEqDiff, Nat.reduceLT, Nat.reduceLeDiff, Int.reduceToNat, Int.reduceLE, Int.reduceLT, Int.toNat_natCast, reduceCtorEq] <;> (first | with_reducible rfl | rfl)) | (refine aops_grd rfl (by simp only [avs] <;> rfl) (by rfl) ?_; first | refine grd_on ?_ | refine grd_off (by simp only [avs] <;> rfl) ?_))
  refine aops_call rfl (by simp only [avs, tts] <;> rfl) ⟨_, add_a hT (h.app _) hf hZ hn hnx hl hi hh, ?_⟩
  rintro r H' ⟨rfl, Y', h1, h2, h3⟩ hl2
  repeat (refine aops_cons ?_; first | (apply aops_o; rfl; simp only [estep, avs, tts, Nat.reduceAdd, Nat.reduceMul, Nat.reduceSub, Nat.reduceEqDiff, Nat.reduceLT, Nat.reduceLeDiff, Int.reduceToNat, Int.reduceLE, Int.reduceLT, Int.toNat_natCast, reduceCtorEq, iA] <;> (first | with_reducible rfl | rfl)) | (refine aops_grd rfl (by simp only [avs] <;> rfl) (by rfl) ?_; first | refine grd_on ?_ | refine grd_off (by simp only [avs] <;> rfl) ?_))
  refine aops_nil ?_
  rw [if_pos hk]
  exact aw_ret ⟨_, rfl, rfl, Y', h1, h2, (KeepO.app H _).trans h3⟩
 ·have hk : ¬ x.kind = 0 := by simpa using hb
  refine aw_skip ?_
  repeat refine aw_seq ?_
  refine aw_region ttOk (by kernel_rfl) ?_
  repeat (refine aops_cons ?_; first | (apply aops_o; rfl; simp only [estep, avs, tts, Nat.reduceAdd, Nat.reduceMul, Nat.reduceSub, Nat.reduceEqDiff, Nat.reduceLT, Nat.reduceLeDiff, Int.reduceToNat, Int.reduceLE, Int.reduceLT, Int.toNat_natCast, reduceCtorEq] <;> (first | with_reducible rfl | rfl)) | (refine aops_grd rfl (by simp only [avs] <;> rfl) (by rfl) ?_; first | refine grd_on ?_ | refine grd_off (by simp only [avs] <;> rfl) ?_))
  refine aops_call rfl (by simp only [avs, tts] <;> rfl) ⟨_, revoke_a (h.app _) hn hnx x.id, ?_⟩
  rintro r H' ⟨rfl, h2, h3⟩ hl2
  repeat (refine aops_cons ?_; first | (apply aops_o; rfl; simp only [estep, avs, tts, Nat.reduceAdd, Nat.reduceMul, Nat.reduceSub, Nat.reduceEqDiff, Nat.reduceLT, Nat.reduceLeDiff, Int.reduceToNat, Int.reduceLE, Int.reduceLT, Int.toNat_natCast, reduceCtorEq, iA] <;> (first | with_reducible rfl | rfl)) | (refine aops_grd rfl (by simp only [avs] <;> rfl) (by rfl) ?_; first | refine grd_on ?_ | refine grd_off (by simp only [avs] <;> rfl) ?_))
  refine aops_nil ?_
  rw [if_neg hk]
  refine aw_ret ⟨_, rfl, rfl, Y, rfl, h2, fun l o ho hx => h3 l o (got ho _) fun cs e => ?_⟩
  subst e; cases hx
end Av
end Go.Proofs.YtnkepmfgmfeabaaGreatDoor
set_option linter.unusedVariables false
set_option linter.unusedSimpArgs false
set_option linter.unnecessarySimpa false
set_option maxRecDepth 10000
namespace Go.Proofs.YtnkepmfgmfeabaaGreatDoor
open Go Go.RowKit

/-! Public keys, reckoned by the kernel: digests az numbers. -/
theorem dec_16 : Lib.decDigits 16 = [49, 54] := by rw [Lib.decDigits_two (by decide) (by decide)]; decide
theorem dec_4 : Lib.decDigits 4 = [52] := by rw [Lib.decDigits_one (by decide)]; decide
theorem dec_1 : Lib.decDigits 1 = [49] := by rw [Lib.decDigits_one (by decide)]; decide
theorem dec_2 : Lib.decDigits 2 = [50] := by rw [Lib.decDigits_one (by decide)]; decide
def mixK3 (b : Nat) : Nat := Nat.xor b (Nat.div b 536870912)
def mixK2 (a : Nat) : Nat := mixK3 (Nat.mod (Nat.mul (Nat.xor a (Nat.div a 4294967296)) 3935559000370003845) 18446744073709551616)
def mixK (z : Nat) : Nat := mixK2 (Nat.mod (Nat.mul z 2862933555777941757) 18446744073709551616)
theorem mulK (a : BitVec 64) (c : Nat) : (a * BitVec.ofNat 64 c).toNat = Nat.mod (Nat.mul a.toNat c) 18446744073709551616 := by
 rw [BitVec.toNat_mul, BitVec.toNat_ofNat, Nat.mul_mod_mod]
 rfl
theorem shxK (a : BitVec 64) (k m : Nat) (h : 2 ^ k = m) : (a ^^^ (a >>> k)).toNat = Nat.xor a.toNat (Nat.div a.toNat m) := by
 rw [BitVec.toNat_xor, BitVec.toNat_ushiftRight, Nat.shiftRight_eq_div_pow, h]
 rfl
theorem mixK_eq (z : BitVec 64) : (mixB z).toNat = mixK z.toNat := by
 unfold mixB mixK mixK2 mixK3
 simp only
 rw [shxK _ 29 536870912 (by decide), mulK, shxK _ 32 4294967296 (by decide), mulK]
noncomputable def feedL (l : List Nat) : Nat → Nat → Nat → Nat :=
 List.rec (motive := fun _ => Nat → Nat → Nat → Nat) (fun c acc s => mixK (Nat.xor s (Nat.mul acc (Nat.pow 256 c))))
  (fun a _ ih c acc s => cond (Nat.beq c 1) (ih 8 0 (mixK (Nat.xor s (Nat.add (Nat.mul acc 256) a)))) (ih (Nat.sub c 1) (Nat.add (Nat.mul acc 256) a) s)) l
def toN (l : List UInt8) : List Nat := l.map UInt8.toNat
theorem blk_pad (t : List UInt8) (f r : Nat) : ∀ k, (∀ i, r ≤ i → i < r + k → byteAt t (f + i) = 0) → blk t f (r + k) = blk t f r * 256 ^ k
 | 0, _ => by simp
 | k + 1, h => by
  rw [← Nat.add_assoc, blk, h (r + k) (by omega) (by omega), blk_pad t f r k fun i h1 h2 => h i h1 (by omega), Nat.pow_succ]
  simp [Nat.mul_assoc]
theorem byte_out {t : List UInt8} {i : Nat} (h : t.length ≤ i) : byteAt t i = 0 := by
 unfold byteAt; rw [List.getElem?_eq_none h]; rfl
theorem st_toNat (t : List UInt8) (j : Nat) : (st t (j + 1)).toNat = mixK (Nat.xor (st t j).toNat (blk t (8 * j) 8)) := by
 rw [st, mixK_eq, BitVec.toNat_xor, BitVec.toNat_ofNat, Nat.mod_eq_of_lt (by have := blk8_lt t (8 * j); simpa using this)]
 rfl
theorem feedL_eq (t : List UInt8) : ∀ (l pre : List UInt8) (j r : Nat), t = pre ++ l → pre.length = 8 * j + r → r < 8 → feedL (toN l) (8 - r) (blk t (8 * j) r) (st t j).toNat = (endSt t).toNat
 | [], pre, j, r, ht, hp, hr => by
  have hl : t.length = 8 * j + r := by rw [ht, List.append_nil]; exact hp
  unfold endSt
  rw [show t.length / 8 + 1 = j + 1 by omega, st_toNat]
  show mixK (Nat.xor _ (Nat.mul _ (Nat.pow 256 (8 - r)))) = _
  have := blk_pad t (8 * j) r (8 - r) fun i h1 h2 => byte_out (by omega)
  rw [show r + (8 - r) = 8 by omega] at this
  rw [this]
  rfl
 | a :: l, pre, j, r, ht, hp, hr => by
  have hb : byteAt t (8 * j + r) = a.toNat := by
   unfold byteAt
   rw [ht, List.getElem?_append_right (by omega), show 8 * j + r - pre.length = 0 by omega]
   rfl
  have hk : blk t (8 * j) (r + 1) = Nat.add (Nat.mul (blk t (8 * j) r) 256) a.toNat := by
   rw [blk, hb]; rfl
  show cond (Nat.beq (8 - r) 1) (feedL (toN l) 8 0 (mixK (Nat.xor (st t j).toNat (Nat.add (Nat.mul (blk t (8 * j) r) 256) a.toNat)))) (feedL (toN l) (8 - r - 1) (Nat.add (Nat.mul (blk t (8 * j) r) 256) a.toNat) (st t j).toNat) = _
  rw [← hk]
  by_cases h7 : r = 7
  ·subst h7
   have := feedL_eq t l (pre ++ [a]) (j + 1) 0 (by rw [ht]; simp) (by simp [hp]; omega) (by omega)
   rw [st_toNat] at this
   exact this
  ·have hne : Nat.beq (8 - r) 1 = false := by
    cases e : Nat.beq (8 - r) 1 with
    | false => rfl
    | true => have := Nat.eq_of_beq_eq_true e; omega
   rw [hne]
   have := feedL_eq t l (pre ++ [a]) j (r + 1) (by rw [ht]; simp) (by simp [hp]; omega) (by omega)
   rw [show 8 - (r + 1) = 8 - r - 1 by omega] at this
   exact this
noncomputable def endN (l : List Nat) (len : Nat) : Nat := feedL l 8 0 (Nat.xor 2611923443488327891 len)
theorem endN_eq (t : List UInt8) (h : t.length < 18446744073709551616) : (endSt t).toNat = endN (toN t) t.length := by
 rw [← feedL_eq t t [] 0 0 rfl rfl (by decide)]
 show feedL (toN t) 8 (blk t (8 * 0) 0) (st t 0).toNat = feedL (toN t) 8 0 (Nat.xor 2611923443488327891 t.length)
 rw [st, BitVec.toNat_xor, BitVec.toNat_ofNat, BitVec.toNat_ofNat, Nat.mod_eq_of_lt (a := t.length) (by simp; omega)]
 rfl
def digK (d : Nat) : Nat := Nat.add (Nat.add 48 d) (Nat.mul 39 (Nat.div (Nat.add d 6) 16))
theorem digK_eq (d : Nat) (h : d < 16) : (dig d).toNat = digK d := by
 rw [dig_toNat d h]
 unfold digK
 show _ = 48 + d + 39 * ((d + 6) / 16)
 split <;> omega
/-- the digits of a digest ahead of a list -/
noncomputable def lowK (k n : Nat) (tl : List Nat) : List Nat :=
 Nat.rec (motive := fun _ => List Nat) tl (fun k ih => digK (Nat.mod (Nat.div n (Nat.pow 16 k)) 16) :: ih) k
theorem lowK_eq (k n : Nat) (tl : List UInt8) : toN (low k n ++ tl) = lowK k n (toN tl) := by
 induction k with
 | zero => rfl
 | succ k ih =>
  show toN (dig (n / 16 ^ k % 16) :: low k n ++ tl) = digK (n / 16 ^ k % 16) :: lowK k n (toN tl)
  rw [← ih, ← digK_eq _ (Nat.mod_lt _ (by decide))]
  rfl
noncomputable def sumK (n : Nat) : Nat := endN (lowK 16 n []) 16
theorem sumK_eq (n : Nat) : (endSt (low 16 n)).toNat = sumK n := by
 rw [endN_eq _ (by rw [low_length]; decide), low_length]
 have := lowK_eq 16 n []
 rw [List.append_nil] at this
 rw [this]
 rfl
noncomputable def chainK (n k : Nat) : Nat := Nat.rec (motive := fun _ => Nat) n (fun _ ih => sumK ih) k
theorem chainK_eq (t : List UInt8) : ∀ k, (endSt (chainL t k)).toNat = chainK (endSt t).toNat k
 | 0 => rfl
 | k + 1 => by
  show (endSt (low 16 (endSt (chainL t k)).toNat)).toNat = sumK (chainK (endSt t).toNat k)
  rw [sumK_eq, chainK_eq t k]
/-- a digest az a text -/
def hexT (n : Nat) : ByteArray := bS (low 16 n)
theorem sumS_hexT (t : List UInt8) : sumS (bS t) = hexT (endSt t).toNat := by rw [sumS_bS]; rfl
theorem hexT_inj {a b : Nat} (ha : a < 18446744073709551616) (hb : b < 18446744073709551616) (h : hexT a = hexT b) : a = b := by
 have := congrArg (fun x : ByteArray => x.data.toList) h
 simp only [hexT, bS_list] at this
 exact low_inj 16 (by simpa using ha) (by simpa using hb) this
/-- the joined text of digests -/
noncomputable def joinK (l : List Nat) : List Nat := List.rec (motive := fun _ => List Nat) [] (fun n _ ih => 49 :: 54 :: 58 :: lowK 16 n ih) l
theorem joinK_eq (l : List Nat) : toN (joinB (l.map hexT)) = joinK l := by
 induction l with
 | nil => rfl
 | cons n l ih =>
  rw [List.map_cons, show hexT n :: l.map hexT = [hexT n] ++ l.map hexT from rfl, joinB_append]
  have e : joinB [hexT n] = 49 :: 54 :: 58 :: low 16 n := by
   simp only [joinB, listsOf, List.map_cons, List.map_nil, joinL, hexT, bS_list, low_length, dec_16]
   simp
  rw [e]
  show 49 :: 54 :: 58 :: toN (low 16 n ++ joinB (l.map hexT)) = 49 :: 54 :: 58 :: lowK 16 n (joinK l)
  rw [lowK_eq, ih]
theorem joinK_len (l : List Nat) : (joinB (l.map hexT)).length = 19 * l.length := by
 induction l with
 | nil => rfl
 | cons n l ih =>
  rw [List.map_cons, show hexT n :: l.map hexT = [hexT n] ++ l.map hexT from rfl, joinB_append, List.length_append, ih]
  have e : joinB [hexT n] = 49 :: 54 :: 58 :: low 16 n := by
   simp only [joinB, listsOf, List.map_cons, List.map_nil, joinL, hexT, bS_list, low_length, dec_16]
   simp
  rw [e]
  simp [low_length]
  omega
theorem dg_hexT (l : List ByteArray) : dg l = hexT (endSt (joinB l)).toNat := sumS_hexT _
/-- a chain's start: text, its length -/
noncomputable def startK (pre : List Nat) (len i k : Nat) : Nat :=
 cond (Nat.blt k 10) (endN (List.append pre [49, 58, Nat.add 48 i, 49, 58, Nat.add 48 k]) (Nat.add len 6)) (endN (List.append pre [49, 58, Nat.add 48 i, 50, 58, Nat.add 48 (Nat.div k 10), Nat.add 48 (Nat.mod k 10)]) (Nat.add len 7))
theorem dig48 {n : Nat} (h : n < 10) : (UInt8.ofNat (48 + n)).toNat = 48 + n := dec_toNat n h
theorem startK_eq (secret : ByteArray) (i k : Nat) (hi : i < 10) (hk : k < 100) (hs : secret.size < 1000000) : (endSt (joinB [secret, decS i, decS k])).toNat = startK (toN (joinB [secret])) (joinB [secret]).length i k := by
 have e0 : joinB [secret, decS i, decS k] = joinB [secret] ++ (joinB [decS i] ++ joinB [decS k]) := by rw [← joinB_append, ← joinB_append]; rfl
 have e1 : joinB [decS i] = [49, 58, UInt8.ofNat (48 + i)] := by
  simp only [joinB, listsOf, List.map_cons, List.map_nil, joinL, decS, itoaS, Lib.decDigits_one hi, List.length_cons, List.length_nil, Nat.zero_add, dec_1]
  simp
 have hJ : (joinB [secret]).length ≤ 2 * secret.size + 20 := by
  simp only [joinB, listsOf, List.map_cons, List.map_nil, joinL, List.length_append, List.length_cons, List.length_nil, ← Lib.size_eq]
  have := Lib.decDigits_length secret.size
  have h20 : (Lib.decDigits secret.size).length ≤ secret.size + 1 := by
   have gen : ∀ n, (Lib.decDigits n).length ≤ n + 1 := by
    intro n
    induction n using Nat.strongRecOn with
    | _ n ih =>
     rw [Lib.decDigits]
     split
     ·simp
     ·have := ih (n / 10) (by omega)
      simp only [List.length_append, List.length_cons, List.length_nil]
      omega
   exact gen _
  omega
 unfold startK
 by_cases h10 : k < 10
 ·have e2 : joinB [decS k] = [49, 58, UInt8.ofNat (48 + k)] := by
   simp only [joinB, listsOf, List.map_cons, List.map_nil, joinL, decS, itoaS, Lib.decDigits_one h10, List.length_cons, List.length_nil, Nat.zero_add, dec_1]
   simp
  rw [show Nat.blt k 10 = true from by simpa [Nat.blt_eq] using h10]
  rw [e0, e1, e2, endN_eq _ (by simp; omega)]
  have := dig48 hi
  have := dig48 h10
  simp only [toN, List.map_append, List.map_cons, List.map_nil, List.length_append, List.length_cons, List.length_nil, dig48 hi, dig48 h10]
  rfl
 ·have e2 : joinB [decS k] = [50, 58, UInt8.ofNat (48 + k / 10), UInt8.ofNat (48 + k % 10)] := by
   simp only [joinB, listsOf, List.map_cons, List.map_nil, joinL, decS, itoaS, Lib.decDigits_two h10 hk, List.length_cons, List.length_nil, Nat.zero_add, Nat.reduceAdd, dec_2]
   simp
  rw [show Nat.blt k 10 = false from by
   cases e : Nat.blt k 10 with
   | false => rfl
   | true => rw [Nat.blt_eq] at e; omega]
  rw [e0, e1, e2, endN_eq _ (by simp; omega)]
  simp only [toN, List.map_append, List.map_cons, List.map_nil, List.length_append, List.length_cons, List.length_nil, dig48 hi, dig48 (show k / 10 < 10 by omega), dig48 (show k % 10 < 10 by omega)]
  rfl
noncomputable def endsK (pre : List Nat) (len i : Nat) : List Nat := (List.range 18).map fun k => chainK (startK pre len i k) 15
noncomputable def keyK (pre : List Nat) (len i : Nat) : Nat := endN (joinK (endsK pre len i)) 342
theorem keyK_eq (secret : ByteArray) (i : Nat) (hi : i < 10) (hs : secret.size < 1000000) : keyT secret i = hexT (keyK (toN (joinB [secret])) (joinB [secret]).length i) := by
 have e : endsT secret i = (endsK (toN (joinB [secret])) (joinB [secret]).length i).map hexT := by
  unfold endsT endsK
  rw [List.map_map]
  apply List.map_congr_left
  intro k hk
  have hk := List.mem_range.1 hk
  unfold startT
  show chainS (sumS (bS (joinB [secret, decS i, decS k]))) 15 = hexT (chainK _ 15)
  rw [← startK_eq secret i k hi (by omega) hs, ← chainK_eq, chainS_bS, sumS_bS, bS_list, chainL_tail]
  rfl
 unfold keyT
 rw [e, dg_hexT]
 unfold keyK
 rw [endN_eq _ (by rw [joinK_len]; simp [endsK]), joinK_eq, joinK_len]
 rfl
noncomputable def leafK (n : Nat) : Nat := endN (52 :: 58 :: 108 :: 101 :: 97 :: 102 :: 49 :: 54 :: 58 :: lowK 16 n []) 25
noncomputable def nodeK (a b : Nat) : Nat := endN (52 :: 58 :: 110 :: 111 :: 100 :: 101 :: 49 :: 54 :: 58 :: lowK 16 a (49 :: 54 :: 58 :: lowK 16 b [])) 44
theorem leafK_eq (n : Nat) : dg [sLeaf, hexT n] = hexT (leafK n) := by
 have e : joinB [sLeaf, hexT n] = [52, 58, 108, 101, 97, 102, 49, 54, 58] ++ (low 16 n ++ []) := by
  simp only [joinB, listsOf, List.map_cons, List.map_nil, joinL, hexT, bS_list, low_length, sLeaf, dec_16, List.length_cons, List.length_nil, Nat.zero_add, Nat.reduceAdd, dec_4]
  simp
 rw [dg_hexT, e, endN_eq _ (by simp [low_length])]
 have := lowK_eq 16 n []
 simp only [toN] at this
 simp only [toN, List.map_append, List.length_append, low_length]
 simp only [← List.map_append, this]
 rfl
set_option maxRecDepth 100000 in
theorem nodeK_eq (a b : Nat) : dg [sNode, hexT a, hexT b] = hexT (nodeK a b) := by
 have e : joinB [sNode, hexT a, hexT b] = [52, 58, 110, 111, 100, 101, 49, 54, 58] ++ (low 16 a ++ ([49, 54, 58] ++ (low 16 b ++ []))) := by
  simp only [joinB, listsOf, List.map_cons, List.map_nil, joinL, hexT, bS_list, low_length, sNode, dec_16, List.length_cons, List.length_nil, Nat.zero_add, Nat.reduceAdd, dec_4]
  simp
 rw [dg_hexT, e, endN_eq _ (by simp [low_length])]
 have h1 := lowK_eq 16 b []
 have h2 := lowK_eq 16 a ([49, 54, 58] ++ (low 16 b ++ []))
 simp only [toN] at h1 h2
 refine congrArg hexT ?_
 simp only [toN, List.length_append, low_length]
 rw [List.map_append, h2, List.map_append, h1]
 unfold nodeK
 simp only [List.map_cons, List.map_nil, List.length_cons, List.length_nil, List.cons_append, List.nil_append, Nat.reduceAdd]
 rfl
noncomputable def pubK (pre : List Nat) (len : Nat) : Nat := nodeK (nodeK (leafK (keyK pre len 0)) (leafK (keyK pre len 1))) (nodeK (leafK (keyK pre len 2)) (leafK (keyK pre len 3)))
set_option maxRecDepth 100000 in
theorem pubK_eq (secret : ByteArray) (hs : secret.size < 1000000) : pubT secret 2 = hexT (pubK (toN (joinB [secret])) (joinB [secret]).length) := by
 have e : keysT secret 2 = [keyT secret 0, keyT secret 1, keyT secret 2, keyT secret 3] := rfl
 have h4 : half 4 = 2 := by unfold half; unfold halfGo; rw [dif_pos (by decide)]; unfold halfGo; rw [dif_neg (by decide)]
 have h2 : half 2 = 1 := by unfold half; unfold halfGo; rw [dif_neg (by decide)]
 have e4 : ∀ a b c d : ByteArray, rootT [a, b, c, d] = dg [sNode, rootT [a, b], rootT [c, d]] := fun a b c d => by
  rw [rootT_many (by simp), show half [a, b, c, d].length = 2 from h4]; rfl
 have e2 : ∀ a b : ByteArray, rootT [a, b] = dg [sNode, dg [sLeaf, a], dg [sLeaf, b]] := fun a b => by
  rw [rootT_many (by simp), show half [a, b].length = 1 from h2]
  show dg [sNode, rootT [a], rootT [b]] = _
  rw [rootT_one, rootT_one]
 unfold pubT
 rw [e, e4, e2, e2, keyK_eq secret 0 (by decide) hs, keyK_eq secret 1 (by decide) hs, keyK_eq secret 2 (by decide) hs, keyK_eq secret 3 (by decide) hs]
 simp only [leafK_eq, nodeK_eq]
 unfold pubK
 rfl
/-- the keys of the examples -/
noncomputable def nIss : Nat := pubK [54, 58, 105, 115, 115, 117, 101, 114] 8
noncomputable def nA : Nat := pubK [49, 58, 97] 3
noncomputable def nB : Nat := pubK [49, 58, 98] 3
theorem iss_a : Nat.beq nIss nA = false := by kernel_rfl
theorem a_b : Nat.beq nA nB = false := by kernel_rfl
end Go.Proofs.YtnkepmfgmfeabaaGreatDoor
set_option linter.unusedVariables false
set_option linter.unusedSimpArgs false
namespace Go.Proofs.YtnkepmfgmfeabaaGreatDoor
open Go Go.RowKit
namespace Av

/-! The chapter's examples. -/
theorem isS_root (l : List ByteArray) : isS (rootT l) = true := by
 rw [rootT]
 split
 ·split <;> exact isS_sumS _
 ·exact isS_sumS _
theorem isS_pub (s : ByteArray) (h : Nat) : isS (pubT s h) = true := isS_root _
theorem mess_sgn (s : Stm) (k : ByteArray) (i : Nat) : messT (sgnS s k i) = messT s := rfl
theorem ver_sgn (s : Stm) (k : ByteArray) (i : Nat) (hi : i < 4) : verT (pubT k 2) (messT (sgnS s k i)) (sgnS s k i).idx (sgnS s k i).sig (sgnS s k i).path = true := by
 rw [mess_sgn]
 exact ver_own k 2 i (messT s) (by decide) hi
theorem ver_one {p q m : ByteArray} {i : Int} {sg pa : List ByteArray} (h : verT p m i sg pa = true) (k : verT q m i sg pa = true) : p = q := by
 unfold verT checkT at h k
 simp only [Bool.and_eq_true, decide_eq_true_eq] at h k
 rw [← h.2.2, ← k.2.2]
def sIss : ByteArray := { data := #[105, 115, 115, 117, 101, 114] }
def sA1 : ByteArray := { data := #[97] }
def sB1 : ByteArray := { data := #[98] }
def sC1 : ByteArray := { data := #[99] }
def id1 : ByteArray := { data := #[115, 49] }
def id2 : ByteArray := { data := #[115, 50] }
def id3 : ByteArray := { data := #[115, 51] }
def id4 : ByteArray := { data := #[115, 52] }
def sCiv : ByteArray := { data := #[99, 105, 118, 105, 108] }
def sRes : ByteArray := { data := #[114, 101, 115, 101, 97, 114, 99, 104] }
theorem jI : joinB [sIss] = [54, 58, 105, 115, 115, 117, 101, 114] := by
 simp only [joinB, listsOf, List.map_cons, List.map_nil, joinL, sIss, List.length_cons, List.length_nil, Nat.zero_add, Nat.reduceAdd]
 rw [Lib.decDigits_one (by decide)]
 rfl
theorem jA : joinB [sA1] = [49, 58, 97] := by
 simp only [joinB, listsOf, List.map_cons, List.map_nil, joinL, sA1, List.length_cons, List.length_nil, Nat.zero_add, dec_1]
 rfl
theorem jB1 : joinB [sB1] = [49, 58, 98] := by
 simp only [joinB, listsOf, List.map_cons, List.map_nil, joinL, sB1, List.length_cons, List.length_nil, Nat.zero_add, dec_1]
 rfl
theorem endN_lt (t : List UInt8) (h : t.length < 18446744073709551616) : endN (toN t) t.length < 18446744073709551616 := by
 rw [← endN_eq t h]
 exact (endSt t).isLt
theorem nodeK_lt (a b : Nat) : nodeK a b < 18446744073709551616 := by
 have e : nodeK a b = endN (toN ([52, 58, 110, 111, 100, 101, 49, 54, 58] ++ (low 16 a ++ ([49, 54, 58] ++ (low 16 b ++ []))))) 44 := by
  unfold nodeK
  have h1 := lowK_eq 16 b []
  have h2 := lowK_eq 16 a ([49, 54, 58] ++ (low 16 b ++ []))
  simp only [toN] at h1 h2 ⊢
  rw [List.map_append, h2, List.map_append, h1]
  rfl
 rw [e]
 have := endN_lt ([52, 58, 110, 111, 100, 101, 49, 54, 58] ++ (low 16 a ++ ([49, 54, 58] ++ (low 16 b ++ [])))) (by simp [low_length])
 simpa [low_length] using this
theorem pubK_lt (l : List Nat) (n : Nat) : pubK l n < 18446744073709551616 := nodeK_lt _ _
theorem pub_ia : pubT sIss 2 ≠ pubT sA1 2 := by
 rw [pubK_eq sIss (by decide), pubK_eq sA1 (by decide)]
 intro h
 have := hexT_inj (pubK_lt _ _) (pubK_lt _ _) h
 rw [jI, jA] at this
 have e : nIss = nA := this
 have h2 := iss_a
 rw [e] at h2
 rw [Nat.beq_refl] at h2
 cases h2
theorem pub_ab : pubT sA1 2 ≠ pubT sB1 2 := by
 rw [pubK_eq sA1 (by decide), pubK_eq sB1 (by decide)]
 intro h
 have := hexT_inj (pubK_lt _ _) (pubK_lt _ _) h
 rw [jA, jB1] at this
 have e : nA = nB := this
 have h2 := a_b
 rw [e] at h2
 rw [Nat.beq_refl] at h2
 cases h2
end Av
end Go.Proofs.YtnkepmfgmfeabaaGreatDoor
set_option linter.unusedVariables false
set_option linter.unusedSimpArgs false
namespace Go.Proofs.YtnkepmfgmfeabaaGreatDoor
open Go Go.RowKit
namespace Av

/-! The chapter's examples: what Add answers. -/
def st1 : Stm := sgnS (stS id1 100 sA1 [sCiv, sRes] []) sIss 0
def st2 : Stm := sgnS (stS id2 60 sB1 [sCiv] [(id1, 60)]) sA1 0
def st3 : Stm := sgnS (stS id3 30 sB1 [sRes] [(id1, 30)]) sA1 1
def st4 : Stm := sgnS (stS id4 20 sC1 [sCiv] [(id1, 20)]) sA1 2
def st5 : Stm := sgnS (stS id4 90 sC1 [sCiv] [(id2, 60), (id3, 30)]) sB1 0
def st6 : Stm := sgnS (stS id4 60 sC1 [sCiv] [(id2, 60)]) sA1 2
def B0 : Bk := ⟨pubT sIss 2, []⟩
def B1 : Bk := ⟨pubT sIss 2, [⟨st1, 100, pubT sIss 2, false, []⟩]⟩
def B2 : Bk := ⟨pubT sIss 2, [⟨st1, 40, pubT sIss 2, false, [1]⟩, ⟨st2, 60, pubT sA1 2, false, []⟩]⟩
def B3 : Bk := ⟨pubT sIss 2, [⟨st1, 10, pubT sIss 2, false, [1, 2]⟩, ⟨st2, 60, pubT sA1 2, false, []⟩, ⟨st3, 30, pubT sA1 2, false, []⟩]⟩
def B4 : Bk := ⟨pubT sIss 2, [⟨st1, 10, pubT sIss 2, true, [1, 2]⟩, ⟨st2, 60, pubT sA1 2, true, []⟩, ⟨st3, 30, pubT sA1 2, true, []⟩]⟩
theorem addR_known {B : Bk} {s : Stm} {ins : List Nat} (h1 : properB s = true) (h2 : findB B s.id = none) (h3 : B.ents.length < 400) (h4 : resolve B s.inputs = some ins) : addR B s = (firstNZ (codesR B s ins), if firstNZ (codesR B s ins) = 0 then finalB B s ins else B) := by
 unfold addR
 rw [h1, h2, h4]
 simp only [Bool.not_true, Bool.false_eq_true, if_false, Option.isSome_none]
 rw [if_neg (by omega)]
theorem signed_yes {B : Bk} {s : Stm} {ins : List Nat} {g : ByteArray} (hg : signerR B ins = g) (h1 : anyP (pSgn B g) ins = false) (h2 : verT g (messT s) s.idx s.sig s.path = true) (h3 : usedB B g s.idx = false) : signedR B s ins = 0 := by
 unfold signedR
 rw [hg, h1, h2, h3]
 rfl
attribute [local irreducible] pubT sigT messT verT
theorem prop_of (s : Stm) (k : ByteArray) (i : Nat) (h : isS s.holder = true) (h2 : (usesOk s.uses && inpsOk s.inputs && (identB s.id && identB s.prod && quantB s.q && true && decide (1 ≤ s.uses.length) && decide (s.uses.length ≤ 12) && decide (s.inputs.length ≤ 12))) = true) : properB (sgnS s k i) = true := by
 unfold properB
 rw [show (sgnS s k i).holder = s.holder from rfl, h]
 exact h2
theorem p1 : properB st1 = true := prop_of _ _ _ (isS_pub _ _) (by kernel_rfl)
theorem p2 : properB st2 = true := prop_of _ _ _ (isS_pub _ _) (by kernel_rfl)
theorem p3 : properB st3 = true := prop_of _ _ _ (isS_pub _ _) (by kernel_rfl)
theorem p4 : properB st4 = true := prop_of _ _ _ (isS_pub _ _) (by kernel_rfl)
theorem p5 : properB st5 = true := prop_of _ _ _ (isS_pub _ _) (by kernel_rfl)
theorem p6 : properB st6 = true := prop_of _ _ _ (isS_pub _ _) (by kernel_rfl)
theorem sgn_self {B : Bk} {ins : List Nat} {g : ByteArray} (h : ∀ j ∈ ins, ∀ x, B.ents[j]? = some x → x.st.holder = g) : anyP (pSgn B g) ins = false := any_no fun i j hij => by
 unfold pSgn onE
 cases hx : B.ents[j]? with
 | none => rfl
 | some x => simp [h j (List.mem_of_getElem? hij) x hx]
theorem signer_at {B : Bk} {j : Nat} {l : List Nat} {x : Ent} (h : B.ents[j]? = some x) : signerR B (j :: l) = x.st.holder := by
 unfold signerR
 simp [h]
theorem h_2 : st2.holder = pubT sB1 2 := rfl
theorem a1 : addR B0 st1 = (0, B1) := by
 rw [addR_known (ins := []) p1 rfl (by decide) rfl]
 have h : codesR B0 st1 [] = [0, 0, 0, 0, 0, 0] := by
  have hs : signedR B0 st1 [] = 0 := signed_yes (g := pubT sIss 2) rfl rfl (ver_sgn _ sIss 0 (by decide)) rfl
  unfold codesR
  rw [hs]
  rfl
 rw [h]
 rfl
theorem a2 : addR B1 st2 = (0, B2) := by
 rw [addR_known (ins := [0]) p2 (by kernel_rfl) (by decide) (by kernel_rfl)]
 have h : codesR B1 st2 [0] = [0, 0, 0, 0, 0, 0] := by
  have hs : signedR B1 st2 [0] = 0 := signed_yes (g := pubT sA1 2) rfl (sgn_self fun j hj x hx => by simp at hj; subst hj; cases hx; rfl) (ver_sgn _ sA1 0 (by decide)) (by
   simp [usedB, B1, pub_ia.symm])
  unfold codesR
  rw [hs]
  rfl
 rw [h]
 rfl
theorem a3 : addR B2 st3 = (0, B3) := by
 rw [addR_known (ins := [0]) p3 (by kernel_rfl) (by decide) (by kernel_rfl)]
 have h : codesR B2 st3 [0] = [0, 0, 0, 0, 0, 0] := by
  have hs : signedR B2 st3 [0] = 0 := signed_yes (g := pubT sA1 2) rfl (sgn_self fun j hj x hx => by simp at hj; subst hj; cases hx; rfl) (ver_sgn _ sA1 1 (by decide)) (by
   simp [usedB, B2, pub_ia.symm, st3, st2, sgnS, stS])
  unfold codesR
  rw [hs]
  rfl
 rw [h]
 rfl
theorem q40 : (codesR B3 st4 [0]).getD 0 0 = 0 := by kernel_rfl
theorem q41 : (codesR B3 st4 [0]).getD 1 0 = 0 := by kernel_rfl
theorem q42 : (codesR B3 st4 [0]).getD 2 0 = 0 := by kernel_rfl
theorem a4 : addR B3 st4 = (19, B3) := by
 rw [addR_known (ins := [0]) p4 (by kernel_rfl) (by decide) (by kernel_rfl)]
 have h : firstNZ (codesR B3 st4 [0]) = 19 := firstNZ_at (l := codesR B3 st4 [0]) (k := 3) (by show 3 < 6; decide) (fun i hi => by
   have h5 : i = 0 ∨ i = 1 ∨ i = 2 := by omega
   rcases h5 with rfl | rfl | rfl
   ·exact q40
   ·exact q41
   ·exact q42) (by show (19 : Int) ≠ 0; decide)
 rw [h]
 rfl
theorem q50 : (codesR B3 st5 [1, 2]).getD 0 0 = 0 := by kernel_rfl
theorem q51 : (codesR B3 st5 [1, 2]).getD 1 0 = 0 := by kernel_rfl
theorem q52 : (codesR B3 st5 [1, 2]).getD 2 0 = 0 := by kernel_rfl
theorem q53 : (codesR B3 st5 [1, 2]).getD 3 0 = 0 := by kernel_rfl
theorem a5 : addR B3 st5 = (7, B3) := by
 rw [addR_known (ins := [1, 2]) p5 (by kernel_rfl) (by decide) (by kernel_rfl)]
 have h : firstNZ (codesR B3 st5 [1, 2]) = 7 := firstNZ_at (l := codesR B3 st5 [1, 2]) (k := 4) (by show 4 < 6; decide) (fun i hi => by
   have h5 : i = 0 ∨ i = 1 ∨ i = 2 ∨ i = 3 := by omega
   rcases h5 with rfl | rfl | rfl | rfl
   ·exact q50
   ·exact q51
   ·exact q52
   ·exact q53) (by show (7 : Int) ≠ 0; decide)
 rw [h]
 rfl
theorem q60 : (codesR B3 st6 [1]).getD 0 0 = 0 := by kernel_rfl
theorem q61 : (codesR B3 st6 [1]).getD 1 0 = 0 := by kernel_rfl
theorem q62 : (codesR B3 st6 [1]).getD 2 0 = 0 := by kernel_rfl
theorem q63 : (codesR B3 st6 [1]).getD 3 0 = 0 := by kernel_rfl
theorem q64 : (codesR B3 st6 [1]).getD 4 0 = 0 := by kernel_rfl
theorem hv6a : verT (pubT sA1 2) (messT st6) st6.idx st6.sig st6.path = true := ver_sgn _ sA1 2 (by decide)
theorem hv6 : verT (pubT sB1 2) (messT st6) st6.idx st6.sig st6.path = false := by
 cases e : verT (pubT sB1 2) (messT st6) st6.idx st6.sig st6.path with
 | false => rfl
 | true => exact absurd (ver_one hv6a e) pub_ab
theorem hg6 : signerR B3 [1] = pubT sB1 2 := (signer_at (B := B3) (j := 1) (x := ⟨st2, 60, pubT sA1 2, false, []⟩) rfl).trans h_2
theorem e_1 : B3.ents[1]? = some ⟨st2, 60, pubT sA1 2, false, []⟩ := rfl
theorem hp6 : anyP (pSgn B3 (pubT sB1 2)) [1] = false := sgn_self fun j hj x hx => by
 simp at hj
 subst hj
 rw [e_1] at hx
 rw [← Option.some.inj hx]
 exact h_2
theorem signed_no {B : Bk} {s : Stm} {ins : List Nat} {g : ByteArray} (hg : signerR B ins = g) (h1 : anyP (pSgn B g) ins = false) (h2 : verT g (messT s) s.idx s.sig s.path = false) : signedR B s ins = 16 := by
 unfold signedR
 rw [hg, h1, h2]
 simp
theorem hs6 : signedR B3 st6 [1] = 16 := signed_no hg6 hp6 hv6
theorem getD5 (a b c d e f : Int) : [a, b, c, d, e, f].getD 5 0 = f := rfl
theorem g6 : (codesR B3 st6 [1]).getD 5 0 = signedR B3 st6 [1] := by
 unfold codesR
 exact getD5 _ _ _ _ _ _
theorem h6 : firstNZ (codesR B3 st6 [1]) = 16 := by
 rw [firstNZ_at (l := codesR B3 st6 [1]) (k := 5) (by show 5 < 6; decide) (fun i hi => by
   have h5 : i = 0 ∨ i = 1 ∨ i = 2 ∨ i = 3 ∨ i = 4 := by omega
   rcases h5 with rfl | rfl | rfl | rfl | rfl
   ·exact q60
   ·exact q61
   ·exact q62
   ·exact q63
   ·exact q64) (by rw [g6, hs6]; decide), g6]
 exact hs6
theorem a6 : addR B3 st6 = (16, B3) := by
 rw [addR_known (ins := [1]) p6 (by kernel_rfl) (by decide) (by kernel_rfl), h6]
 rfl
theorem a7 : revokeR B3 id1 = (0, B4) := by kernel_rfl
end Av
end Go.Proofs.YtnkepmfgmfeabaaGreatDoor
set_option linter.unusedVariables false
set_option linter.unusedSimpArgs false
namespace Go.Proofs.YtnkepmfgmfeabaaGreatDoor
open Go Go.RowKit
namespace Av
attribute [local irreducible] AW AOps AHOps
attribute [local irreducible] messT sigT pubT verT

/-! What a proper statement keeps to; the examples' head. -/
theorem proper_parts {s : Stm} (hp : properB s = true) : s.id.size ≤ 24 ∧ s.prod.size ≤ 24 ∧ s.holder.size = 16 ∧ (∀ t ∈ s.uses, t.size ≤ 24) ∧ (∀ y ∈ s.inputs, y.1.size ≤ 24 ∧ 1 ≤ y.2 ∧ y.2 ≤ 1000000000) ∧ 1 ≤ s.q ∧ s.q ≤ 1000000000 ∧ s.uses.length ≤ 12 ∧ s.inputs.length ≤ 12 := by
 unfold properB usesOk inpsOk at hp
 simp only [Bool.and_eq_true, List.all_eq_true, List.mem_range, decide_eq_true_eq] at hp
 obtain ⟨⟨h1, h2⟩, ⟨⟨⟨⟨⟨h3, h4⟩, h5⟩, h6⟩, h7⟩, h8⟩, h9⟩ := hp
 have id24 : ∀ t : ByteArray, identB t = true → t.size ≤ 24 := fun t ht => by
  unfold identB at ht
  simp only [Bool.and_eq_true, decide_eq_true_eq] at ht
  exact ht.1.2
 have hq : ∀ n : Int, quantB n = true → 1 ≤ n ∧ n ≤ 1000000000 := fun n hn => by
  unfold quantB at hn
  simpa only [Bool.and_eq_true, decide_eq_true_eq] using hn
 refine ⟨id24 _ h3, id24 _ h4, ?_, fun t ht => ?_, fun y hy => ?_, (hq _ h5).1, (hq _ h5).2, h8, h9⟩
 ·have h10 := h6
  unfold isS isL at h10
  simp only [Bool.and_eq_true, beq_iff_eq] at h10
  rw [Lib.size_eq]
  exact h10.1
 ·obtain ⟨i, hi, rfl⟩ := List.mem_iff_getElem.1 ht
  have h11 := h1 i hi
  unfold useOk at h11
  simp only [Bool.and_eq_true] at h11
  have := id24 _ h11.1
  rwa [show s.uses.getD i ByteArray.empty = s.uses[i] by simp [List.getD, hi]] at this
 ·obtain ⟨i, hi, rfl⟩ := List.mem_iff_getElem.1 hy
  have h11 := h2 i hi
  unfold inpOk at h11
  simp only [Bool.and_eq_true] at h11
  have e : s.inputs.getD i nilInp = s.inputs[i] := by simp [List.getD, hi]
  rw [e] at h11
  exact ⟨id24 _ h11.1.1, (hq _ h11.1.2).1, (hq _ h11.1.2).2⟩
theorem pairs_mem {l : List (ByteArray × Int)} {t : ByteArray} (h : t ∈ pairsT l) : ∃ y ∈ l, t = y.1 ∨ t = decI y.2 := by
 unfold pairsT at h
 simp only [List.mem_flatMap] at h
 obtain ⟨y, hy, ht⟩ := h
 simp at ht
 exact ⟨y, hy, ht⟩
theorem fields_le {s : Stm} (hp : properB s = true) : (∀ t ∈ fieldsT s, t.size ≤ 1099511627776) ∧ (fieldsT s).length ≤ 42 := by
 obtain ⟨h1, h2, h3, h4, h5, h6, h7, h8, h9⟩ := proper_parts hp
 have hdI : ∀ n : Int, 0 ≤ n → n ≤ 1000000000 → (decI n).size ≤ 1099511627776 := fun n hn hn2 => by
  unfold decI
  exact decS_size _ (by omega)
 refine ⟨fun t ht => ?_, ?_⟩
 ·unfold fieldsT at ht
  simp only [List.mem_append, List.mem_cons, List.not_mem_nil, or_false] at ht
  rcases ht with (ht | ht) | ht
  ·rcases ht with rfl | rfl | rfl | rfl | rfl | rfl
   ·decide
   ·omega
   ·omega
   ·exact hdI _ (by omega) h7
   ·omega
   ·exact decS_size _ (by omega)
  ·have := h4 t ht; omega
  ·obtain ⟨y, hy, rfl | rfl⟩ := pairs_mem ht
   ·have := h5 y hy; omega
   ·have := h5 y hy; exact hdI _ (by omega) this.2.2
 ·unfold fieldsT
  have hpl := pairs_len s.inputs
  simp only [List.length_append, List.length_cons, List.length_nil]
  omega
theorem fits_of {s : Stm} (hp : properB s = true) (hs : ∀ t ∈ s.sig, t.size ≤ 1099511627776) (hpt : ∀ t ∈ s.path, t.size ≤ 1099511627776) : Fits s := by
 obtain ⟨h1, h2, h3, h4, h5, h6, h7, h8, h9⟩ := proper_parts hp
 obtain ⟨h10, h11⟩ := fields_le hp
 refine ⟨by omega, fun y hy => by have := h5 y hy; omega, by omega, by omega, ?_, hs, hpt⟩
 have := join_le 1099511627776 (fieldsT s) h10 (Nat.le_refl _)
 have h42 : (1099511627776 + 21) * (fieldsT s).length ≤ (1099511627776 + 21) * 42 := Nat.mul_le_mul_left _ h11
 omega
theorem sized_of {s : Stm} (hp : properB s = true) (hs : ∀ t ∈ s.sig, t.size ≤ 1099511627776) (hpt : ∀ t ∈ s.path, t.size ≤ 1099511627776) : s.Sized 4611686018427387904 := by
 obtain ⟨h1, h2, h3, h4, h5, h6, h7, h8, h9⟩ := proper_parts hp
 exact ⟨by omega, by omega, by omega, fun t ht => by have := h4 t ht; omega, fun y hy => by have := h5 y hy; omega, fun t ht => by have := hs t ht; omega, fun t ht => by have := hpt t ht; omega⟩
theorem fits_sgn {s : Stm} {k : ByteArray} {i : Nat} (hp : properB (sgnS s k i) = true) : Fits (sgnS s k i) := fits_of hp (sigT_sizes _ _ _) (pathT_sizes _ _)
theorem sized_sgn {s : Stm} {k : ByteArray} {i : Nat} (hp : properB (sgnS s k i) = true) : (sgnS s k i).Sized 4611686018427387904 := sized_of hp (sigT_sizes _ _ _) (pathT_sizes _ _)
/-- the unsigned statement fits az well -/
theorem fits_raw {s : Stm} (hs : s.sig = []) (hp : s.path = []) (h : properB s = true) : Fits s := fits_of h (fun t ht => by rw [hs] at ht; cases ht) (fun t ht => by rw [hp] at ht; cases ht)
theorem PureA.leArg {P : Program} {base : World} {f : FuncId} {args args' : List AV} {r : AV} (h : PureA P base f args' r) (k : LeL args args') : PureA P base f args r := fun H =>
 ⟨(h H).enter, fun μ w vs hs ha => (h H).run μ w vs hs (k.rep ha)⟩
end Av
end Go.Proofs.YtnkepmfgmfeabaaGreatDoor
set_option linter.unusedVariables false
set_option linter.unusedSimpArgs false
namespace Go.Proofs.YtnkepmfgmfeabaaGreatDoor
open Go Go.RowKit
namespace Av
attribute [local irreducible] AW AOps AHOps
attribute [local irreducible] messT sigT pubT verT

/-! The laws' head: the chapter's examples. -/
theorem pubT_size (s : ByteArray) (h : Nat) : (pubT s h).size = 16 := by unfold pubT; exact rootT_size _
structure OkB (B : Bk) : Prop where
 n : B.ents.length ≤ 1000000
 nx : ∀ x ∈ B.ents, x.next.length ≤ 1000000
 l : ∀ x ∈ B.ents, -1000000000000000000 ≤ x.left ∧ x.left ≤ 1000000000000000000
 i : B.issuer.size ≤ 1099511627776
 h : ∀ x ∈ B.ents, x.st.holder.size ≤ 1099511627776
theorem okE {x : Ent} {k : ByteArray} (hn : x.next.length ≤ 1000000) (hl : -1000000000000000000 ≤ x.left ∧ x.left ≤ 1000000000000000000) (hh : x.st.holder = pubT k 2) : x.next.length ≤ 1000000 ∧ (-1000000000000000000 ≤ x.left ∧ x.left ≤ 1000000000000000000) ∧ x.st.holder.size ≤ 1099511627776 := ⟨hn, hl, by rw [hh, pubT_size]; decide⟩
theorem ok_of {B : Bk} (hn : B.ents.length ≤ 1000000) (hi : B.issuer = pubT sIss 2) (h : ∀ x ∈ B.ents, x.next.length ≤ 1000000 ∧ (-1000000000000000000 ≤ x.left ∧ x.left ≤ 1000000000000000000) ∧ x.st.holder.size ≤ 1099511627776) : OkB B := ⟨hn, fun x hx => (h x hx).1, fun x hx => (h x hx).2.1, by rw [hi, pubT_size]; decide, fun x hx => (h x hx).2.2⟩
theorem okb0 : OkB B0 := ok_of (by decide) rfl fun x hx => by cases hx
theorem okb1 : OkB B1 := ok_of (by decide) rfl fun x hx => by
 simp only [B1, List.mem_cons, List.not_mem_nil, or_false] at hx
 subst hx
 exact okE (k := sA1) (by decide) (by decide) rfl
theorem okb2 : OkB B2 := ok_of (by decide) rfl fun x hx => by
 simp only [B2, List.mem_cons, List.not_mem_nil, or_false] at hx
 rcases hx with rfl | rfl
 ·exact okE (k := sA1) (by decide) (by decide) rfl
 ·exact okE (k := sB1) (by decide) (by decide) rfl
theorem okb3 : OkB B3 := ok_of (by decide) rfl fun x hx => by
 simp only [B3, List.mem_cons, List.not_mem_nil, or_false] at hx
 rcases hx with rfl | rfl | rfl
 ·exact okE (k := sA1) (by decide) (by decide) rfl
 ·exact okE (k := sB1) (by decide) (by decide) rfl
 ·exact okE (k := sB1) (by decide) (by decide) rfl
theorem prop_raw (s : Stm) (k : ByteArray) (i : Nat) : properB (sgnS s k i) = properB s := rfl
theorem raw_fits {s : Stm} {k : ByteArray} {i : Nat} (h : properB (sgnS s k i) = true) (hs : s.sig = []) (hp : s.path = []) : Fits s := fits_raw hs hp (by rw [← prop_raw s k i]; exact h)
theorem left1 : leftR B3 id1 = (10, 0) := by kernel_rfl
theorem left2 : leftR B3 id2 = (60, 0) := by kernel_rfl
theorem uok4 : ∀ x ∈ B4.ents, x.st.uses.length ≤ 1000000 := fun x hx => by
 simp only [B4, List.mem_cons, List.not_mem_nil, or_false] at hx
 rcases hx with rfl | rfl | rfl <;> decide
theorem uses3 : (usesR B4 id3).2 = 12 := by kernel_rfl
set_option maxRecDepth 100000 in
set_option maxHeartbeats 8000000 in
theorem head29_a {base : World} (hT : Tabs base) {H : AHeap} : CallsA Tryz.prog base 5 [] H fun r H' => r = bA true ∧ KeepO H H' := by
 refine callsA_enter ttOk Tryz.call5 Tryz.func5 rfl fun hB hb hF => ?_
 rw [Tryz.results5, Tryz.ntmps5]
 simp only [arr_list, List.length_cons, List.length_nil, List.replicate, List.cons_append, List.nil_append, Nat.reduceAdd, Nat.reduceSub]
 repeat refine aw_seq ?_
 refine aw_region ttOk (by kernel_rfl) ?_
 repeat (refine aops_cons ?_; first | (apply aops_o; rfl; simp only [estep, avs, tts, Nat.reduceAdd, Nat.reduceMul, Nat.reduceSub, Nat.reduceEqDiff, Nat.reduceLT, Nat.reduceLeDiff, Int.reduceToNat, Int.reduceLE, Int.reduceLT, Int.toNat_natCast, reduceCtorEq] <;> (first | with_reducible rfl | rfl)) | (refine aops_grd rfl (by simp only [avs] <;> rfl) (by rfl) ?_; first | refine grd_on ?_ | refine grd_off (by simp only [avs] <;> rfl) ?_))
 refine aops_nil ?_
 repeat refine aw_seq ?_
 refine aw_region ttOk (by kernel_rfl) ?_
 repeat (refine aops_cons ?_; first | (apply aops_o; rfl; simp only [estep, avs, tts, Nat.reduceAdd, Nat.reduceMul, Nat.reduceSub, Nat.reduceEqDiff, Nat.reduceLT, Nat.reduceLeDiff, Int.reduceToNat, Int.reduceLE, Int.reduceLT, Int.toNat_natCast, reduceCtorEq] <;> (first | with_reducible rfl | rfl)) | (refine aops_grd rfl (by simp only [avs] <;> rfl) (by rfl) ?_; first | refine grd_on ?_ | refine grd_off (by simp only [avs] <;> rfl) ?_))
 refine aops_pure rfl (by simp only [avs] <;> rfl) (public_a hT sIss (by decide)) (by simp only [avs] <;> rfl) ?_
 repeat (refine aops_cons ?_; first | (apply aops_o; rfl; simp only [estep, avs, tts, Nat.reduceAdd, Nat.reduceMul, Nat.reduceSub, Nat.reduceEqDiff, Nat.reduceLT, Nat.reduceLeDiff, Int.reduceToNat, Int.reduceLE, Int.reduceLT, Int.toNat_natCast, reduceCtorEq] <;> (first | with_reducible rfl | rfl)) | (refine aops_grd rfl (by simp only [avs] <;> rfl) (by rfl) ?_; first | refine grd_on ?_ | refine grd_off (by simp only [avs] <;> rfl) ?_))
 refine aops_call rfl (by simp only [avs] <;> rfl) ⟨_, new_a (pubT sIss 2) (by rw [pubT_size]; decide), ?_⟩
 rintro r H' hh hl2
 rcases hh with ⟨_, rfl, ⟨G, rfl⟩, hB⟩ | ⟨h1, _⟩
 case inr => rw [isS_pub] at h1; cases h1
 repeat (refine aops_cons ?_; first | (apply aops_o; rfl; simp only [estep, avs, tts, Nat.reduceAdd, Nat.reduceMul, Nat.reduceSub, Nat.reduceEqDiff, Nat.reduceLT, Nat.reduceLeDiff, Int.reduceToNat, Int.reduceLE, Int.reduceLT, Int.toNat_natCast, reduceCtorEq, iA] <;> (first | with_reducible rfl | rfl)) | (refine aops_grd rfl (by simp only [avs] <;> rfl) (by rfl) ?_; first | refine grd_on ?_ | refine grd_off (by simp only [avs] <;> rfl) ?_))
 refine aops_nil ?_
 have hB0 : Book (H ++ G) (newY H.length) B0 := hB
 have hk0 : KeepO H (H ++ G) := .app H G
 obtain ⟨bl, hbl⟩ : ∃ bl, bl = (newY H.length).bl := ⟨_, rfl⟩
 rw [← hbl]
 generalize hY0 : newY H.length = Y0 at hB0 hbl

 generalize H ++ G = H1 at hB0 hk0 hl2 ⊢
 repeat refine aw_seq ?_
 refine aw_region ttOk (by kernel_rfl) ?_
 repeat (refine aops_cons ?_; first | (apply aops_o; rfl; simp only [estep, avs, tts, Nat.reduceAdd, Nat.reduceMul, Nat.reduceSub, Nat.reduceEqDiff, Nat.reduceLT, Nat.reduceLeDiff, Int.reduceToNat, Int.reduceLE, Int.reduceLT, Int.toNat_natCast, reduceCtorEq] <;> (first | with_reducible rfl | rfl)) | (refine aops_grd rfl (by simp only [avs] <;> rfl) (by rfl) ?_; first | refine grd_on ?_ | refine grd_off (by simp only [avs] <;> rfl) ?_))
 refine aops_nil ?_
 repeat refine aw_seq ?_
 refine aw_cond rfl rfl (fun hb => ?_) fun hb => ?_
 ·cases hb
 refine aw_skip ?_
 repeat refine aw_seq ?_
 refine aw_region ttOk (by kernel_rfl) ?_
 repeat (refine aops_cons ?_; first | (apply aops_o; rfl; simp only [estep, avs, tts, Nat.reduceAdd, Nat.reduceMul, Nat.reduceSub, Nat.reduceEqDiff, Nat.reduceLT, Nat.reduceLeDiff, Int.reduceToNat, Int.reduceLE, Int.reduceLT, Int.toNat_natCast, reduceCtorEq] <;> (first | with_reducible rfl | rfl)) | (refine aops_grd rfl (by simp only [avs] <;> rfl) (by rfl) ?_; first | refine grd_on ?_ | refine grd_off (by simp only [avs] <;> rfl) ?_))
 refine aops_nil ?_
 refine aw_frz (H1.length) (by simp only [avs, tts, Nat.reduceAdd, Nat.reduceMul, Nat.reduceSub, Nat.reduceEqDiff, Nat.reduceLT, Nat.reduceLeDiff, Int.reduceToNat, Int.reduceLE, Int.reduceLT, Int.toNat_natCast, reduceCtorEq, frzL, frzA, frzO, unI_dI, dI_len, unI, unL, rowS, Nat.add_eq_left, Nat.left_eq_add, Nat.one_ne_zero] <;> rfl) (by simp only [avs, tts, Nat.reduceAdd, Nat.reduceMul, Nat.reduceSub, Nat.reduceEqDiff, Nat.reduceLT, Nat.reduceLeDiff, Int.reduceToNat, Int.reduceLE, Int.reduceLT, Int.toNat_natCast, reduceCtorEq, frzL, frzA, frzO, unI_dI, dI_len, unI, unL, rowS, Nat.add_eq_left, Nat.left_eq_add, Nat.one_ne_zero] <;> rfl) ?_

 repeat refine aw_seq ?_
 refine aw_region ttOk (by kernel_rfl) ?_
 repeat (refine aops_cons ?_; first | (apply aops_o; rfl; simp only [estep, avs, tts, Nat.reduceAdd, Nat.reduceMul, Nat.reduceSub, Nat.reduceEqDiff, Nat.reduceLT, Nat.reduceLeDiff, Int.reduceToNat, Int.reduceLE, Int.reduceLT, Int.toNat_natCast, reduceCtorEq] <;> (first | with_reducible rfl | rfl)) | (refine aops_grd rfl (by simp only [avs] <;> rfl) (by rfl) ?_; first | refine grd_on ?_ | refine grd_off (by simp only [avs] <;> rfl) ?_))
 refine aops_pureF ((H1.length+1)) rfl (by simp only [avs] <;> rfl) (by simp only [avs, tts, Nat.reduceAdd, Nat.reduceMul, Nat.reduceSub, Nat.reduceEqDiff, Nat.reduceLT, Nat.reduceLeDiff, Int.reduceToNat, Int.reduceLE, Int.reduceLT, Int.toNat_natCast, reduceCtorEq, frzL, frzA, frzO, unI_dI, dI_len, unI, unL, rowS, Nat.add_eq_left, Nat.left_eq_add, Nat.one_ne_zero] <;> rfl) (by simp only [avs, tts, Nat.reduceAdd, Nat.reduceMul, Nat.reduceSub, Nat.reduceEqDiff, Nat.reduceLT, Nat.reduceLeDiff, Int.reduceToNat, Int.reduceLE, Int.reduceLT, Int.toNat_natCast, reduceCtorEq, frzL, frzA, frzO, unI_dI, dI_len, unI, unL, rowS, Nat.add_eq_left, Nat.left_eq_add, Nat.one_ne_zero] <;> rfl) (PureA.leArg (args := [.d (.v (.string id1)), .d (.v (.int .i64 100)), .d (.v (.string sA1)), .d (strsP [sCiv, sRes]), .d (.v (.slice none 0 0))]) (stm29_a hT id1 100 sA1 [sCiv, sRes] [] (by decide)) ⟨.refl _, .refl _, .refl _, .refl _, .nil 2, trivial⟩) (by simp only [avs] <;> rfl) ?_
 repeat (refine aops_cons ?_; first | (apply aops_o; rfl; simp only [estep, avs, tts, Nat.reduceAdd, Nat.reduceMul, Nat.reduceSub, Nat.reduceEqDiff, Nat.reduceLT, Nat.reduceLeDiff, Int.reduceToNat, Int.reduceLE, Int.reduceLT, Int.toNat_natCast, reduceCtorEq] <;> (first | with_reducible rfl | rfl)) | (refine aops_grd rfl (by simp only [avs] <;> rfl) (by rfl) ?_; first | refine grd_on ?_ | refine grd_off (by simp only [avs] <;> rfl) ?_))
 refine aops_pure rfl (by simp only [avs] <;> rfl) (sign29_a hT (stS id1 100 sA1 [sCiv, sRes] []) sIss 0 (by decide) (by decide) (raw_fits p1 rfl rfl)) (by simp only [avs] <;> rfl) ?_
 repeat (refine aops_cons ?_; first | (apply aops_o; rfl; simp only [estep, avs, tts, Nat.reduceAdd, Nat.reduceMul, Nat.reduceSub, Nat.reduceEqDiff, Nat.reduceLT, Nat.reduceLeDiff, Int.reduceToNat, Int.reduceLE, Int.reduceLT, Int.toNat_natCast, reduceCtorEq] <;> (first | with_reducible rfl | rfl)) | (refine aops_grd rfl (by simp only [avs] <;> rfl) (by rfl) ?_; first | refine grd_on ?_ | refine grd_off (by simp only [avs] <;> rfl) ?_))
 refine aops_call rfl (by simp only [avs] <;> rfl) ⟨_, by rw [hbl]; exact add_a hT (hB0.app _) (s := st1) (fun _ => fits_sgn p1) (sized_sgn p1) okb0.n okb0.nx okb0.l okb0.i okb0.h, ?_⟩
 rintro r1 K1 ⟨hr1, Y1, hy1, hb1, hq1⟩ hlk1
 rw [a1] at hr1 hb1
 have hB1 : Book K1 Y1 B1 := hb1
 have hr1' : r1 = iA ((0 : Int)) := hr1
 have hkk1 : KeepO H K1 := (hk0.trans (.app _ _)).trans hq1
 rw [← hy1] at hbl
 rw [hr1']
 clear hb1 hr1 hr1' hB0 hk0 hq1
 repeat (refine aops_cons ?_; first | (apply aops_o; rfl; simp only [estep, avs, tts, Nat.reduceAdd, Nat.reduceMul, Nat.reduceSub, Nat.reduceEqDiff, Nat.reduceLT, Nat.reduceLeDiff, Int.reduceToNat, Int.reduceLE, Int.reduceLT, Int.toNat_natCast, reduceCtorEq, iA] <;> (first | with_reducible rfl | rfl)) | (refine aops_grd rfl (by simp only [avs] <;> rfl) (by rfl) ?_; first | refine grd_on ?_ | refine grd_off (by simp only [avs] <;> rfl) ?_))
 refine aops_nil ?_
 repeat refine aw_seq ?_
 refine aw_region ttOk (by kernel_rfl) ?_
 repeat (refine aops_cons ?_; first | (apply aops_o; rfl; simp only [estep, avs, tts, Nat.reduceAdd, Nat.reduceMul, Nat.reduceSub, Nat.reduceEqDiff, Nat.reduceLT, Nat.reduceLeDiff, Int.reduceToNat, Int.reduceLE, Int.reduceLT, Int.toNat_natCast, reduceCtorEq] <;> (first | with_reducible rfl | rfl)) | (refine aops_grd rfl (by simp only [avs] <;> rfl) (by rfl) ?_; first | refine grd_on ?_ | refine grd_off (by simp only [avs] <;> rfl) ?_))
 refine aops_pureF ((K1.length+0)) rfl (by simp only [avs] <;> rfl) (by simp only [avs, tts, Nat.reduceAdd, Nat.reduceMul, Nat.reduceSub, Nat.reduceEqDiff, Nat.reduceLT, Nat.reduceLeDiff, Int.reduceToNat, Int.reduceLE, Int.reduceLT, Int.toNat_natCast, reduceCtorEq, frzL, frzA, frzO, unI_dI, dI_len, unI, unL, rowS, Nat.add_eq_left, Nat.left_eq_add, Nat.one_ne_zero] <;> rfl) (by simp only [avs, tts, Nat.reduceAdd, Nat.reduceMul, Nat.reduceSub, Nat.reduceEqDiff, Nat.reduceLT, Nat.reduceLeDiff, Int.reduceToNat, Int.reduceLE, Int.reduceLT, Int.toNat_natCast, reduceCtorEq, frzL, frzA, frzO, unI_dI, dI_len, unI, unL, rowS, Nat.add_eq_left, Nat.left_eq_add, Nat.one_ne_zero] <;> rfl) (stm29_a hT id2 60 sB1 [sCiv] [(id1, 60)] (by decide)) (by simp only [avs] <;> rfl) ?_
 repeat (refine aops_cons ?_; first | (apply aops_o; rfl; simp only [estep, avs, tts, Nat.reduceAdd, Nat.reduceMul, Nat.reduceSub, Nat.reduceEqDiff, Nat.reduceLT, Nat.reduceLeDiff, Int.reduceToNat, Int.reduceLE, Int.reduceLT, Int.toNat_natCast, reduceCtorEq] <;> (first | with_reducible rfl | rfl)) | (refine aops_grd rfl (by simp only [avs] <;> rfl) (by rfl) ?_; first | refine grd_on ?_ | refine grd_off (by simp only [avs] <;> rfl) ?_))
 refine aops_pure rfl (by simp only [avs] <;> rfl) (sign29_a hT (stS id2 60 sB1 [sCiv] [(id1, 60)]) sA1 0 (by decide) (by decide) (raw_fits p2 rfl rfl)) (by simp only [avs] <;> rfl) ?_
 repeat (refine aops_cons ?_; first | (apply aops_o; rfl; simp only [estep, avs, tts, Nat.reduceAdd, Nat.reduceMul, Nat.reduceSub, Nat.reduceEqDiff, Nat.reduceLT, Nat.reduceLeDiff, Int.reduceToNat, Int.reduceLE, Int.reduceLT, Int.toNat_natCast, reduceCtorEq] <;> (first | with_reducible rfl | rfl)) | (refine aops_grd rfl (by simp only [avs] <;> rfl) (by rfl) ?_; first | refine grd_on ?_ | refine grd_off (by simp only [avs] <;> rfl) ?_))
 refine aops_call rfl (by simp only [avs] <;> rfl) ⟨_, by rw [hbl]; exact add_a hT (hB1.app _) (s := st2) (fun _ => fits_sgn p2) (sized_sgn p2) okb1.n okb1.nx okb1.l okb1.i okb1.h, ?_⟩
 rintro r2 K2 ⟨hr2, Y2, hy2, hb2, hq2⟩ hlk2
 rw [a2] at hr2 hb2
 have hB2 : Book K2 Y2 B2 := hb2
 have hr2' : r2 = iA ((0 : Int)) := hr2
 have hkk2 : KeepO H K2 := (hkk1.trans (.app _ _)).trans hq2
 rw [← hy2] at hbl
 rw [hr2']
 clear hb2 hr2 hr2' hB1 hkk1 hq2
 repeat (refine aops_cons ?_; first | (apply aops_o; rfl; simp only [estep, avs, tts, Nat.reduceAdd, Nat.reduceMul, Nat.reduceSub, Nat.reduceEqDiff, Nat.reduceLT, Nat.reduceLeDiff, Int.reduceToNat, Int.reduceLE, Int.reduceLT, Int.toNat_natCast, reduceCtorEq, iA] <;> (first | with_reducible rfl | rfl)) | (refine aops_grd rfl (by simp only [avs] <;> rfl) (by rfl) ?_; first | refine grd_on ?_ | refine grd_off (by simp only [avs] <;> rfl) ?_))
 refine aops_nil ?_
 repeat refine aw_seq ?_
 refine aw_region ttOk (by kernel_rfl) ?_
 repeat (refine aops_cons ?_; first | (apply aops_o; rfl; simp only [estep, avs, tts, Nat.reduceAdd, Nat.reduceMul, Nat.reduceSub, Nat.reduceEqDiff, Nat.reduceLT, Nat.reduceLeDiff, Int.reduceToNat, Int.reduceLE, Int.reduceLT, Int.toNat_natCast, reduceCtorEq] <;> (first | with_reducible rfl | rfl)) | (refine aops_grd rfl (by simp only [avs] <;> rfl) (by rfl) ?_; first | refine grd_on ?_ | refine grd_off (by simp only [avs] <;> rfl) ?_))
 refine aops_call rfl (by simp only [avs] <;> rfl) ⟨_, calls_frz ((K2.length+0)) (by simp only [avs, tts, Nat.reduceAdd, Nat.reduceMul, Nat.reduceSub, Nat.reduceEqDiff, Nat.reduceLT, Nat.reduceLeDiff, Int.reduceToNat, Int.reduceLE, Int.reduceLT, Int.toNat_natCast, reduceCtorEq, frzL, frzA, frzO, unI_dI, dI_len, unI, unL, rowS, Nat.add_eq_left, Nat.left_eq_add, Nat.one_ne_zero] <;> rfl) (by simp only [avs, tts, Nat.reduceAdd, Nat.reduceMul, Nat.reduceSub, Nat.reduceEqDiff, Nat.reduceLT, Nat.reduceLeDiff, Int.reduceToNat, Int.reduceLE, Int.reduceLT, Int.toNat_natCast, reduceCtorEq, frzL, frzA, frzO, unI_dI, dI_len, unI, unL, rowS, Nat.add_eq_left, Nat.left_eq_add, Nat.one_ne_zero] <;> rfl) (calls_frz ((K2.length+1)) (by simp only [avs, tts, Nat.reduceAdd, Nat.reduceMul, Nat.reduceSub, Nat.reduceEqDiff, Nat.reduceLT, Nat.reduceLeDiff, Int.reduceToNat, Int.reduceLE, Int.reduceLT, Int.toNat_natCast, reduceCtorEq, frzL, frzA, frzO, unI_dI, dI_len, unI, unL, rowS, Nat.add_eq_left, Nat.left_eq_add, Nat.one_ne_zero] <;> rfl) (by simp only [avs, tts, Nat.reduceAdd, Nat.reduceMul, Nat.reduceSub, Nat.reduceEqDiff, Nat.reduceLT, Nat.reduceLeDiff, Int.reduceToNat, Int.reduceLE, Int.reduceLT, Int.toNat_natCast, reduceCtorEq, frzL, frzA, frzO, unI_dI, dI_len, unI, unL, rowS, Nat.add_eq_left, Nat.left_eq_add, Nat.one_ne_zero] <;> rfl) ((stm29_a hT id3 30 sB1 [sRes] [(id1, 30)] (by decide)) _)), ?_⟩
 rintro rF HF ⟨rfl, rfl⟩ hlF
 repeat (refine aops_cons ?_; first | (apply aops_o; rfl; simp only [estep, avs, tts, Nat.reduceAdd, Nat.reduceMul, Nat.reduceSub, Nat.reduceEqDiff, Nat.reduceLT, Nat.reduceLeDiff, Int.reduceToNat, Int.reduceLE, Int.reduceLT, Int.toNat_natCast, reduceCtorEq] <;> (first | with_reducible rfl | rfl)) | (refine aops_grd rfl (by simp only [avs] <;> rfl) (by rfl) ?_; first | refine grd_on ?_ | refine grd_off (by simp only [avs] <;> rfl) ?_))
 refine aops_pure rfl (by simp only [avs] <;> rfl) (sign29_a hT (stS id3 30 sB1 [sRes] [(id1, 30)]) sA1 1 (by decide) (by decide) (raw_fits p3 rfl rfl)) (by simp only [avs] <;> rfl) ?_
 repeat (refine aops_cons ?_; first | (apply aops_o; rfl; simp only [estep, avs, tts, Nat.reduceAdd, Nat.reduceMul, Nat.reduceSub, Nat.reduceEqDiff, Nat.reduceLT, Nat.reduceLeDiff, Int.reduceToNat, Int.reduceLE, Int.reduceLT, Int.toNat_natCast, reduceCtorEq] <;> (first | with_reducible rfl | rfl)) | (refine aops_grd rfl (by simp only [avs] <;> rfl) (by rfl) ?_; first | refine grd_on ?_ | refine grd_off (by simp only [avs] <;> rfl) ?_))
 refine aops_call rfl (by simp only [avs] <;> rfl) ⟨_, by rw [hbl]; exact add_a hT (hB2.app _) (s := st3) (fun _ => fits_sgn p3) (sized_sgn p3) okb2.n okb2.nx okb2.l okb2.i okb2.h, ?_⟩
 rintro r3 K3 ⟨hr3, Y3, hy3, hb3, hq3⟩ hlk3
 rw [a3] at hr3 hb3
 have hB3 : Book K3 Y3 B3 := hb3
 have hr3' : r3 = iA ((0 : Int)) := hr3
 have hkk3 : KeepO H K3 := (hkk2.trans (.app _ _)).trans hq3
 rw [← hy3] at hbl
 rw [hr3']
 clear hb3 hr3 hr3' hB2 hkk2 hq3
 repeat (refine aops_cons ?_; first | (apply aops_o; rfl; simp only [estep, avs, tts, Nat.reduceAdd, Nat.reduceMul, Nat.reduceSub, Nat.reduceEqDiff, Nat.reduceLT, Nat.reduceLeDiff, Int.reduceToNat, Int.reduceLE, Int.reduceLT, Int.toNat_natCast, reduceCtorEq, iA] <;> (first | with_reducible rfl | rfl)) | (refine aops_grd rfl (by simp only [avs] <;> rfl) (by rfl) ?_; first | refine grd_on ?_ | refine grd_off (by simp only [avs] <;> rfl) ?_))
 refine aops_nil ?_
 repeat refine aw_seq ?_
 refine aw_region ttOk (by kernel_rfl) ?_
 repeat (refine aops_cons ?_; first | (apply aops_o; rfl; simp only [estep, avs, tts, Nat.reduceAdd, Nat.reduceMul, Nat.reduceSub, Nat.reduceEqDiff, Nat.reduceLT, Nat.reduceLeDiff, Int.reduceToNat, Int.reduceLE, Int.reduceLT, Int.toNat_natCast, reduceCtorEq] <;> (first | with_reducible rfl | rfl)) | (refine aops_grd rfl (by simp only [avs] <;> rfl) (by rfl) ?_; first | refine grd_on ?_ | refine grd_off (by simp only [avs] <;> rfl) ?_))
 refine aops_read rfl (by simp only [avs] <;> rfl) ((by rw [hbl]; exact left_a hB3 id1)) (by simp only [avs] <;> rfl) ?_
 repeat (refine aops_cons ?_; first | (apply aops_o; rfl; simp only [estep, avs, tts, Nat.reduceAdd, Nat.reduceMul, Nat.reduceSub, Nat.reduceEqDiff, Nat.reduceLT, Nat.reduceLeDiff, Int.reduceToNat, Int.reduceLE, Int.reduceLT, Int.toNat_natCast, reduceCtorEq, left1] <;> (first | with_reducible rfl | rfl)) | (refine aops_grd rfl (by simp only [avs] <;> rfl) (by rfl) ?_; first | refine grd_on ?_ | refine grd_off (by simp only [avs] <;> rfl) ?_))
 refine aops_nil ?_
 repeat refine aw_seq ?_
 refine aw_region ttOk (by kernel_rfl) ?_
 repeat (refine aops_cons ?_; first | (apply aops_o; rfl; simp only [estep, avs, tts, Nat.reduceAdd, Nat.reduceMul, Nat.reduceSub, Nat.reduceEqDiff, Nat.reduceLT, Nat.reduceLeDiff, Int.reduceToNat, Int.reduceLE, Int.reduceLT, Int.toNat_natCast, reduceCtorEq] <;> (first | with_reducible rfl | rfl)) | (refine aops_grd rfl (by simp only [avs] <;> rfl) (by rfl) ?_; first | refine grd_on ?_ | refine grd_off (by simp only [avs] <;> rfl) ?_))
 refine aops_read rfl (by simp only [avs] <;> rfl) ((by rw [hbl]; exact left_a hB3 id2)) (by simp only [avs] <;> rfl) ?_
 repeat (refine aops_cons ?_; first | (apply aops_o; rfl; simp only [estep, avs, tts, Nat.reduceAdd, Nat.reduceMul, Nat.reduceSub, Nat.reduceEqDiff, Nat.reduceLT, Nat.reduceLeDiff, Int.reduceToNat, Int.reduceLE, Int.reduceLT, Int.toNat_natCast, reduceCtorEq, left2] <;> (first | with_reducible rfl | rfl)) | (refine aops_grd rfl (by simp only [avs] <;> rfl) (by rfl) ?_; first | refine grd_on ?_ | refine grd_off (by simp only [avs] <;> rfl) ?_))
 refine aops_nil ?_
 repeat refine aw_seq ?_
 refine aw_region ttOk (by kernel_rfl) ?_
 repeat (refine aops_cons ?_; first | (apply aops_o; rfl; simp only [estep, avs, tts, Nat.reduceAdd, Nat.reduceMul, Nat.reduceSub, Nat.reduceEqDiff, Nat.reduceLT, Nat.reduceLeDiff, Int.reduceToNat, Int.reduceLE, Int.reduceLT, Int.toNat_natCast, reduceCtorEq] <;> (first | with_reducible rfl | rfl)) | (refine aops_grd rfl (by simp only [avs] <;> rfl) (by rfl) ?_; first | refine grd_on ?_ | refine grd_off (by simp only [avs] <;> rfl) ?_))
 refine aops_pureF ((K3.length+0)) rfl (by simp only [avs] <;> rfl) (by simp only [avs, tts, Nat.reduceAdd, Nat.reduceMul, Nat.reduceSub, Nat.reduceEqDiff, Nat.reduceLT, Nat.reduceLeDiff, Int.reduceToNat, Int.reduceLE, Int.reduceLT, Int.toNat_natCast, reduceCtorEq, frzL, frzA, frzO, unI_dI, dI_len, unI, unL, rowS, Nat.add_eq_left, Nat.left_eq_add, Nat.one_ne_zero] <;> rfl) (by simp only [avs, tts, Nat.reduceAdd, Nat.reduceMul, Nat.reduceSub, Nat.reduceEqDiff, Nat.reduceLT, Nat.reduceLeDiff, Int.reduceToNat, Int.reduceLE, Int.reduceLT, Int.toNat_natCast, reduceCtorEq, frzL, frzA, frzO, unI_dI, dI_len, unI, unL, rowS, Nat.add_eq_left, Nat.left_eq_add, Nat.one_ne_zero] <;> rfl) (stm29_a hT id4 20 sC1 [sCiv] [(id1, 20)] (by decide)) (by simp only [avs] <;> rfl) ?_
 repeat (refine aops_cons ?_; first | (apply aops_o; rfl; simp only [estep, avs, tts, Nat.reduceAdd, Nat.reduceMul, Nat.reduceSub, Nat.reduceEqDiff, Nat.reduceLT, Nat.reduceLeDiff, Int.reduceToNat, Int.reduceLE, Int.reduceLT, Int.toNat_natCast, reduceCtorEq] <;> (first | with_reducible rfl | rfl)) | (refine aops_grd rfl (by simp only [avs] <;> rfl) (by rfl) ?_; first | refine grd_on ?_ | refine grd_off (by simp only [avs] <;> rfl) ?_))
 refine aops_pure rfl (by simp only [avs] <;> rfl) (sign29_a hT (stS id4 20 sC1 [sCiv] [(id1, 20)]) sA1 2 (by decide) (by decide) (raw_fits p4 rfl rfl)) (by simp only [avs] <;> rfl) ?_
 repeat (refine aops_cons ?_; first | (apply aops_o; rfl; simp only [estep, avs, tts, Nat.reduceAdd, Nat.reduceMul, Nat.reduceSub, Nat.reduceEqDiff, Nat.reduceLT, Nat.reduceLeDiff, Int.reduceToNat, Int.reduceLE, Int.reduceLT, Int.toNat_natCast, reduceCtorEq] <;> (first | with_reducible rfl | rfl)) | (refine aops_grd rfl (by simp only [avs] <;> rfl) (by rfl) ?_; first | refine grd_on ?_ | refine grd_off (by simp only [avs] <;> rfl) ?_))
 refine aops_call rfl (by simp only [avs] <;> rfl) ⟨_, by rw [hbl]; exact add_a hT (hB3.app _) (s := st4) (fun _ => fits_sgn p4) (sized_sgn p4) okb3.n okb3.nx okb3.l okb3.i okb3.h, ?_⟩
 rintro r4 K4 ⟨hr4, Y4, hy4, hb4, hq4⟩ hlk4
 rw [a4] at hr4 hb4
 have hB4 : Book K4 Y4 B3 := hb4
 have hr4' : r4 = iA ((19 : Int)) := hr4
 have hkk4 : KeepO H K4 := (hkk3.trans (.app _ _)).trans hq4
 rw [← hy4] at hbl
 rw [hr4']
 clear hb4 hr4 hr4' hB3 hkk3 hq4
 repeat (refine aops_cons ?_; first | (apply aops_o; rfl; simp only [estep, avs, tts, Nat.reduceAdd, Nat.reduceMul, Nat.reduceSub, Nat.reduceEqDiff, Nat.reduceLT, Nat.reduceLeDiff, Int.reduceToNat, Int.reduceLE, Int.reduceLT, Int.toNat_natCast, reduceCtorEq, iA] <;> (first | with_reducible rfl | rfl)) | (refine aops_grd rfl (by simp only [avs] <;> rfl) (by rfl) ?_; first | refine grd_on ?_ | refine grd_off (by simp only [avs] <;> rfl) ?_))
 refine aops_nil ?_
 repeat refine aw_seq ?_
 refine aw_region ttOk (by kernel_rfl) ?_
 repeat (refine aops_cons ?_; first | (apply aops_o; rfl; simp only [estep, avs, tts, Nat.reduceAdd, Nat.reduceMul, Nat.reduceSub, Nat.reduceEqDiff, Nat.reduceLT, Nat.reduceLeDiff, Int.reduceToNat, Int.reduceLE, Int.reduceLT, Int.toNat_natCast, reduceCtorEq] <;> (first | with_reducible rfl | rfl)) | (refine aops_grd rfl (by simp only [avs] <;> rfl) (by rfl) ?_; first | refine grd_on ?_ | refine grd_off (by simp only [avs] <;> rfl) ?_))
 refine aops_pureF ((K4.length+0)) rfl (by simp only [avs] <;> rfl) (by simp only [avs, tts, Nat.reduceAdd, Nat.reduceMul, Nat.reduceSub, Nat.reduceEqDiff, Nat.reduceLT, Nat.reduceLeDiff, Int.reduceToNat, Int.reduceLE, Int.reduceLT, Int.toNat_natCast, reduceCtorEq, frzL, frzA, frzO, unI_dI, dI_len, unI, unL, rowS, Nat.add_eq_left, Nat.left_eq_add, Nat.one_ne_zero] <;> rfl) (by simp only [avs, tts, Nat.reduceAdd, Nat.reduceMul, Nat.reduceSub, Nat.reduceEqDiff, Nat.reduceLT, Nat.reduceLeDiff, Int.reduceToNat, Int.reduceLE, Int.reduceLT, Int.toNat_natCast, reduceCtorEq, frzL, frzA, frzO, unI_dI, dI_len, unI, unL, rowS, Nat.add_eq_left, Nat.left_eq_add, Nat.one_ne_zero] <;> rfl) (stm29_a hT id4 90 sC1 [sCiv] [(id2, 60), (id3, 30)] (by decide)) (by simp only [avs] <;> rfl) ?_
 repeat (refine aops_cons ?_; first | (apply aops_o; rfl; simp only [estep, avs, tts, Nat.reduceAdd, Nat.reduceMul, Nat.reduceSub, Nat.reduceEqDiff, Nat.reduceLT, Nat.reduceLeDiff, Int.reduceToNat, Int.reduceLE, Int.reduceLT, Int.toNat_natCast, reduceCtorEq] <;> (first | with_reducible rfl | rfl)) | (refine aops_grd rfl (by simp only [avs] <;> rfl) (by rfl) ?_; first | refine grd_on ?_ | refine grd_off (by simp only [avs] <;> rfl) ?_))
 refine aops_pure rfl (by simp only [avs] <;> rfl) (sign29_a hT (stS id4 90 sC1 [sCiv] [(id2, 60), (id3, 30)]) sB1 0 (by decide) (by decide) (raw_fits p5 rfl rfl)) (by simp only [avs] <;> rfl) ?_
 repeat (refine aops_cons ?_; first | (apply aops_o; rfl; simp only [estep, avs, tts, Nat.reduceAdd, Nat.reduceMul, Nat.reduceSub, Nat.reduceEqDiff, Nat.reduceLT, Nat.reduceLeDiff, Int.reduceToNat, Int.reduceLE, Int.reduceLT, Int.toNat_natCast, reduceCtorEq] <;> (first | with_reducible rfl | rfl)) | (refine aops_grd rfl (by simp only [avs] <;> rfl) (by rfl) ?_; first | refine grd_on ?_ | refine grd_off (by simp only [avs] <;> rfl) ?_))
 refine aops_call rfl (by simp only [avs] <;> rfl) ⟨_, by rw [hbl]; exact add_a hT (hB4.app _) (s := st5) (fun _ => fits_sgn p5) (sized_sgn p5) okb3.n okb3.nx okb3.l okb3.i okb3.h, ?_⟩
 rintro r5 K5 ⟨hr5, Y5, hy5, hb5, hq5⟩ hlk5
 rw [a5] at hr5 hb5
 have hB5 : Book K5 Y5 B3 := hb5
 have hr5' : r5 = iA ((7 : Int)) := hr5
 have hkk5 : KeepO H K5 := (hkk4.trans (.app _ _)).trans hq5
 rw [← hy5] at hbl
 rw [hr5']
 clear hb5 hr5 hr5' hB4 hkk4 hq5
 repeat (refine aops_cons ?_; first | (apply aops_o; rfl; simp only [estep, avs, tts, Nat.reduceAdd, Nat.reduceMul, Nat.reduceSub, Nat.reduceEqDiff, Nat.reduceLT, Nat.reduceLeDiff, Int.reduceToNat, Int.reduceLE, Int.reduceLT, Int.toNat_natCast, reduceCtorEq, iA] <;> (first | with_reducible rfl | rfl)) | (refine aops_grd rfl (by simp only [avs] <;> rfl) (by rfl) ?_; first | refine grd_on ?_ | refine grd_off (by simp only [avs] <;> rfl) ?_))
 refine aops_nil ?_
 repeat refine aw_seq ?_
 refine aw_region ttOk (by kernel_rfl) ?_
 repeat (refine aops_cons ?_; first | (apply aops_o; rfl; simp only [estep, avs, tts, Nat.reduceAdd, Nat.reduceMul, Nat.reduceSub, Nat.reduceEqDiff, Nat.reduceLT, Nat.reduceLeDiff, Int.reduceToNat, Int.reduceLE, Int.reduceLT, Int.toNat_natCast, reduceCtorEq] <;> (first | with_reducible rfl | rfl)) | (refine aops_grd rfl (by simp only [avs] <;> rfl) (by rfl) ?_; first | refine grd_on ?_ | refine grd_off (by simp only [avs] <;> rfl) ?_))
 refine aops_pureF ((K5.length+0)) rfl (by simp only [avs] <;> rfl) (by simp only [avs, tts, Nat.reduceAdd, Nat.reduceMul, Nat.reduceSub, Nat.reduceEqDiff, Nat.reduceLT, Nat.reduceLeDiff, Int.reduceToNat, Int.reduceLE, Int.reduceLT, Int.toNat_natCast, reduceCtorEq, frzL, frzA, frzO, unI_dI, dI_len, unI, unL, rowS, Nat.add_eq_left, Nat.left_eq_add, Nat.one_ne_zero] <;> rfl) (by simp only [avs, tts, Nat.reduceAdd, Nat.reduceMul, Nat.reduceSub, Nat.reduceEqDiff, Nat.reduceLT, Nat.reduceLeDiff, Int.reduceToNat, Int.reduceLE, Int.reduceLT, Int.toNat_natCast, reduceCtorEq, frzL, frzA, frzO, unI_dI, dI_len, unI, unL, rowS, Nat.add_eq_left, Nat.left_eq_add, Nat.one_ne_zero] <;> rfl) (stm29_a hT id4 60 sC1 [sCiv] [(id2, 60)] (by decide)) (by simp only [avs] <;> rfl) ?_
 repeat (refine aops_cons ?_; first | (apply aops_o; rfl; simp only [estep, avs, tts, Nat.reduceAdd, Nat.reduceMul, Nat.reduceSub, Nat.reduceEqDiff, Nat.reduceLT, Nat.reduceLeDiff, Int.reduceToNat, Int.reduceLE, Int.reduceLT, Int.toNat_natCast, reduceCtorEq] <;> (first | with_reducible rfl | rfl)) | (refine aops_grd rfl (by simp only [avs] <;> rfl) (by rfl) ?_; first | refine grd_on ?_ | refine grd_off (by simp only [avs] <;> rfl) ?_))
 refine aops_pure rfl (by simp only [avs] <;> rfl) (sign29_a hT (stS id4 60 sC1 [sCiv] [(id2, 60)]) sA1 2 (by decide) (by decide) (raw_fits p6 rfl rfl)) (by simp only [avs] <;> rfl) ?_
 repeat (refine aops_cons ?_; first | (apply aops_o; rfl; simp only [estep, avs, tts, Nat.reduceAdd, Nat.reduceMul, Nat.reduceSub, Nat.reduceEqDiff, Nat.reduceLT, Nat.reduceLeDiff, Int.reduceToNat, Int.reduceLE, Int.reduceLT, Int.toNat_natCast, reduceCtorEq] <;> (first | with_reducible rfl | rfl)) | (refine aops_grd rfl (by simp only [avs] <;> rfl) (by rfl) ?_; first | refine grd_on ?_ | refine grd_off (by simp only [avs] <;> rfl) ?_))
 refine aops_call rfl (by simp only [avs] <;> rfl) ⟨_, by rw [hbl]; exact add_a hT (hB5.app _) (s := st6) (fun _ => fits_sgn p6) (sized_sgn p6) okb3.n okb3.nx okb3.l okb3.i okb3.h, ?_⟩
 rintro r6 K6 ⟨hr6, Y6, hy6, hb6, hq6⟩ hlk6
 rw [a6] at hr6 hb6
 have hB6 : Book K6 Y6 B3 := hb6
 have hr6' : r6 = iA ((16 : Int)) := hr6
 have hkk6 : KeepO H K6 := (hkk5.trans (.app _ _)).trans hq6
 rw [← hy6] at hbl
 rw [hr6']
 clear hb6 hr6 hr6' hB5 hkk5 hq6
 repeat (refine aops_cons ?_; first | (apply aops_o; rfl; simp only [estep, avs, tts, Nat.reduceAdd, Nat.reduceMul, Nat.reduceSub, Nat.reduceEqDiff, Nat.reduceLT, Nat.reduceLeDiff, Int.reduceToNat, Int.reduceLE, Int.reduceLT, Int.toNat_natCast, reduceCtorEq, iA] <;> (first | with_reducible rfl | rfl)) | (refine aops_grd rfl (by simp only [avs] <;> rfl) (by rfl) ?_; first | refine grd_on ?_ | refine grd_off (by simp only [avs] <;> rfl) ?_))
 refine aops_nil ?_
 repeat refine aw_seq ?_
 refine aw_region ttOk (by kernel_rfl) ?_
 repeat (refine aops_cons ?_; first | (apply aops_o; rfl; simp only [estep, avs, tts, Nat.reduceAdd, Nat.reduceMul, Nat.reduceSub, Nat.reduceEqDiff, Nat.reduceLT, Nat.reduceLeDiff, Int.reduceToNat, Int.reduceLE, Int.reduceLT, Int.toNat_natCast, reduceCtorEq] <;> (first | with_reducible rfl | rfl)) | (refine aops_grd rfl (by simp only [avs] <;> rfl) (by rfl) ?_; first | refine grd_on ?_ | refine grd_off (by simp only [avs] <;> rfl) ?_))
 refine aops_call rfl (by simp only [avs] <;> rfl) ⟨_, by rw [hbl]; exact revoke_a hB6 okb3.n okb3.nx id1, ?_⟩
 rintro r7 K7 ⟨hr7, hb7, hq7⟩ hlk7
 rw [a7] at hr7 hb7
 have hB7 : Book K7 Y6 B4 := hb7
 have hr7' : r7 = iA ((0 : Int)) := hr7
 have hkk7 : KeepO H K7 := hkk6.trans fun l o ho hx => hq7 l o ho fun cs e => by subst e; cases hx
 rw [hr7']
 clear hb7 hr7 hr7' hq7
 repeat (refine aops_cons ?_; first | (apply aops_o; rfl; simp only [estep, avs, tts, Nat.reduceAdd, Nat.reduceMul, Nat.reduceSub, Nat.reduceEqDiff, Nat.reduceLT, Nat.reduceLeDiff, Int.reduceToNat, Int.reduceLE, Int.reduceLT, Int.toNat_natCast, reduceCtorEq, iA] <;> (first | with_reducible rfl | rfl)) | (refine aops_grd rfl (by simp only [avs] <;> rfl) (by rfl) ?_; first | refine grd_on ?_ | refine grd_off (by simp only [avs] <;> rfl) ?_))
 refine aops_nil ?_
 repeat refine aw_seq ?_
 refine aw_region ttOk (by kernel_rfl) ?_
 repeat (refine aops_cons ?_; first | (apply aops_o; rfl; simp only [estep, avs, tts, Nat.reduceAdd, Nat.reduceMul, Nat.reduceSub, Nat.reduceEqDiff, Nat.reduceLT, Nat.reduceLeDiff, Int.reduceToNat, Int.reduceLE, Int.reduceLT, Int.toNat_natCast, reduceCtorEq] <;> (first | with_reducible rfl | rfl)) | (refine aops_grd rfl (by simp only [avs] <;> rfl) (by rfl) ?_; first | refine grd_on ?_ | refine grd_off (by simp only [avs] <;> rfl) ?_))
 refine aops_read rfl (by simp only [avs] <;> rfl) ((by rw [hbl]; exact uses_a hB7 uok4 id3)) (by simp only [avs] <;> rfl) ?_
 repeat (refine aops_cons ?_; first | (apply aops_o; rfl; simp only [estep, avs, tts, Nat.reduceAdd, Nat.reduceMul, Nat.reduceSub, Nat.reduceEqDiff, Nat.reduceLT, Nat.reduceLeDiff, Int.reduceToNat, Int.reduceLE, Int.reduceLT, Int.toNat_natCast, reduceCtorEq, uses3, iA] <;> (first | with_reducible rfl | rfl)) | (refine aops_grd rfl (by simp only [avs] <;> rfl) (by rfl) ?_; first | refine grd_on ?_ | refine grd_off (by simp only [avs] <;> rfl) ?_))
 refine aops_nil ?_
 repeat refine aw_seq ?_
 refine aw_region ttOk (by kernel_rfl) ?_
 repeat (refine aops_cons ?_; first | (apply aops_o; rfl; simp only [estep, avs, tts, Nat.reduceAdd, Nat.reduceMul, Nat.reduceSub, Nat.reduceEqDiff, Nat.reduceLT, Nat.reduceLeDiff, Int.reduceToNat, Int.reduceLE, Int.reduceLT, Int.toNat_natCast, reduceCtorEq] <;> (first | with_reducible rfl | rfl)) | (refine aops_grd rfl (by simp only [avs] <;> rfl) (by rfl) ?_; first | refine grd_on ?_ | refine grd_off (by simp only [avs] <;> rfl) ?_))
 refine aops_nil ?_
 repeat refine aw_seq ?_
 refine aw_region ttOk (by kernel_rfl) ?_
 repeat (refine aops_cons ?_; first | (apply aops_o; rfl; simp only [estep, avs, tts, Nat.reduceAdd, Nat.reduceMul, Nat.reduceSub, Nat.reduceEqDiff, Nat.reduceLT, Nat.reduceLeDiff, Int.reduceToNat, Int.reduceLE, Int.reduceLT, Int.toNat_natCast, reduceCtorEq] <;> (first | with_reducible rfl | rfl)) | (refine aops_grd rfl (by simp only [avs] <;> rfl) (by rfl) ?_; first | refine grd_on ?_ | refine grd_off (by simp only [avs] <;> rfl) ?_))
 refine aops_nil ?_
 exact aw_ret ⟨_, rfl, rfl, hkk7⟩
end Av
end Go.Proofs.YtnkepmfgmfeabaaGreatDoor
set_option linter.unusedVariables false
set_option linter.unusedSimpArgs false
namespace Go.Proofs.YtnkepmfgmfeabaaGreatDoor
open Go Go.RowKit
namespace Av

/-! A law's arguments, az pure data; a law's end. -/
def rowSt (w : World) : St := ⟨fun _ => none, [], w⟩
theorem rowSt_imm (w : World) (b : Nat) (h : b < w.heap.size) : (rowSt w).imm b := ⟨h, fun ⟨l, o, h1, _⟩ => by simp [rowSt] at h1⟩
theorem rowSt_sim (w : World) : Sim w (rowSt w) := ⟨Below.refl _ _, fun l o h => by simp [rowSt] at h, fun l l' o o' b h => by simp [rowSt] at h⟩
def ptStm : List PT := [.s, .s, .i .i64, .s, .sl [.s], .sl [.s, .i .i64], .i .i64, .sl [.s], .sl [.s]]
theorem fits_inps {p : PD} (h : PT.fits (.sl [.s, .i .i64]) p) : ∃ l : List (ByteArray × Int), p = inpsP l := by
 obtain ⟨l, rfl, hl⟩ := fits_sl h
 obtain ⟨xs, rfl⟩ := list_of (f := fun x : ByteArray × Int => [PD.v (.string x.1), PD.v (.int .i64 x.2)]) (l := l) fun it hi => by
  obtain ⟨p, r, rfl, h1, h2⟩ := fits_cons (hl it hi)
  obtain ⟨q, r, rfl, h3, h4⟩ := fits_cons h2
  obtain ⟨x, rfl⟩ := fits_s h1
  obtain ⟨y, rfl⟩ := fits_i h3
  exact ⟨(x, y), by rw [fits_nil h4]⟩
 exact ⟨xs, rfl⟩
theorem fits_stm {ps : List PD} {ts : List PT} {r : List PD} (h : fitsL (ptStm ++ ts) ps) : ∃ (x : Stm) (r : List PD), ps = stmC x ++ r ∧ fitsL ts r := by
 obtain ⟨p1, r1, rfl, h1, k1⟩ := fits_cons h
 obtain ⟨p2, r2, rfl, h2, k2⟩ := fits_cons k1
 obtain ⟨p3, r3, rfl, h3, k3⟩ := fits_cons k2
 obtain ⟨p4, r4, rfl, h4, k4⟩ := fits_cons k3
 obtain ⟨p5, r5, rfl, h5, k5⟩ := fits_cons k4
 obtain ⟨p6, r6, rfl, h6, k6⟩ := fits_cons k5
 obtain ⟨p7, r7, rfl, h7, k7⟩ := fits_cons k6
 obtain ⟨p8, r8, rfl, h8, k8⟩ := fits_cons k7
 obtain ⟨p9, r9, rfl, h9, k9⟩ := fits_cons k8
 obtain ⟨x1, rfl⟩ := fits_s h1
 obtain ⟨x2, rfl⟩ := fits_s h2
 obtain ⟨x3, rfl⟩ := fits_i h3
 obtain ⟨x4, rfl⟩ := fits_s h4
 obtain ⟨x5, rfl⟩ := fits_strs h5
 obtain ⟨x6, rfl⟩ := fits_inps h6
 obtain ⟨x7, rfl⟩ := fits_i h7
 obtain ⟨x8, rfl⟩ := fits_strs h8
 obtain ⟨x9, rfl⟩ := fits_strs h9
 exact ⟨⟨x1, x2, x3, x4, x5, x6, x7, x8, x9⟩, r9, rfl, k9⟩
/-- what a represented statement's sizes are -/
theorem sized_of_fct {s : Stm} (h : fctA (.agg ((stmC s).map .d))) : s.Sized 9223372036854775807 := by
 simp only [stmC, List.map_cons, List.map_nil, fctL, fctA, fctP, strsP, inpsP, fctI_map, fctC, and_true] at h
 obtain ⟨h1, h2, h3, h4, h5, h6, h7, h8, h9⟩ := h
 exact ⟨h1, h2, h4, fun t ht => h5.2 t ht, fun y hy => (h6.2 y hy).1, fun t ht => h8.2 t ht, fun t ht => h9.2 t ht⟩
theorem calls_of_a {P : Program} {w : World} {f : FuncId} {args : List AV} {vs : Array Value} {R : AV → AHeap → Prop} (h : CallsA P w f args [] R) (ha : RepL (rowSt w) args vs.toList) (hR : ∀ r H', R r H' → r = .d (.v (.bool true))) :
  Calls P f vs w fun e w' => e = .returned (.bool true) ∧ Below w.heap.size w w' := by
 refine (h.run (fun _ => none) w vs (rowSt_sim w) ha).mono fun e w' ⟨v, r, H', μ', h1, h2, h3, h4, h5, h6⟩ => ?_
 rw [hR r H' h2] at h5
 simp only [Rep, PRep] at h5
 exact ⟨by rw [h1, h5.1], h4.below⟩
end Av
end Go.Proofs.YtnkepmfgmfeabaaGreatDoor
set_option linter.unusedVariables false
namespace Go.Proofs.YtnkepmfgmfeabaaGreatDoor
open Go Go.RowKit

/-- the variables that the rows list, in their order -/
def laidList : List (String × DataW Unit) := [("math/bits.deBruijn32tab", Rows.laid_math_bits_deBruijn32tab), ("math/bits.deBruijn64tab", Rows.laid_math_bits_deBruijn64tab), ("internal/strconv.uint64pow10", Rows.laid_internal_strconv_uint64pow10), ("unicode/utf8.acceptRanges", Rows.laid_unicode_utf8_acceptRanges), ("unicode/utf8.first", Rows.laid_unicode_utf8_first)]
def bru64 : List Int := [0, 1, 56, 2, 57, 49, 28, 3, 61, 58, 42, 50, 38, 29, 17, 4, 62, 47, 59, 36, 45, 43, 51, 22, 53, 39, 33, 30, 24, 18, 12, 5, 63, 55, 48, 27, 60, 41, 37, 16, 46, 35, 44, 21, 52, 32, 23, 11, 54, 26, 40, 15, 34, 20, 31, 10, 25, 14, 19, 9, 13, 8, 7, 6]
theorem tabs_of {W : World} (h : laidMet Tryz.prog laidList W) : Tabs W := by
 have h1 : laidMet Tryz.prog (("math/bits.deBruijn64tab", Lib.tabData .u8 bru64) :: [("internal/strconv.uint64pow10", Lib.tabData .u64 Lib.pow10Tab), ("unicode/utf8.acceptRanges", Rows.laid_unicode_utf8_acceptRanges), ("unicode/utf8.first", Rows.laid_unicode_utf8_first)]) W := laidMet.tail h
 have t1 := Lib.tabIs_of_head (g := 3) (t := 176) (e := 5) (n := 64) (by kernel_rfl) (by kernel_rfl) (by kernel_rfl) (by kernel_rfl) (by kernel_rfl) (by kernel_rfl) h1
 have t2 := Lib.tabIs_of_head (g := 0) (t := 158) (e := 66) (n := 20) (by kernel_rfl) (by kernel_rfl) (by kernel_rfl) (by kernel_rfl) (by kernel_rfl) (by kernel_rfl) (laidMet.tail h1)
 have hc := t1.cell (g := 3) (by kernel_rfl) 15 (by decide)
 refine ⟨t2, hc, ?_⟩
 rcases Nat.lt_or_ge 3 W.heap.size with h' | h'
 ·exact h'
 ·rw [World.cell?, Array.getElem?_eq_none h'] at hc
  cases hc
end Go.Proofs.YtnkepmfgmfeabaaGreatDoor
set_option linter.unusedVariables false
set_option linter.unusedSimpArgs false
namespace Go.Proofs.YtnkepmfgmfeabaaGreatDoor
open Go Go.RowKit
namespace Av
attribute [local irreducible] AW AOps AHOps
attribute [local irreducible] messT sigT pubT verT

/-! The law Binds. -/
theorem short_sized {s : Stm} (h : shortS s = true) : s.Sized 4611686018427387904 := by
 unfold shortS at h
 simp only [Bool.and_eq_true, List.all_eq_true, decide_eq_true_eq] at h
 obtain ⟨⟨⟨⟨⟨⟨⟨h1, h2⟩, h3⟩, h4⟩, h5⟩, h6⟩, h7⟩, h8⟩ := h
 unfold fewS at h6
 simp only [Bool.and_eq_true, List.all_eq_true, decide_eq_true_eq] at h6
 refine ⟨by omega, by omega, by omega, fun t ht => by have := h7 t ht; omega, fun y hy => by have := h8 y hy; omega, ?_, ?_⟩
 ·intro t ht
  have := List.all_eq_true.1 h6.2.2.1 t ht
  simp only [decide_eq_true_eq] at this
  omega
 ·intro t ht
  have := List.all_eq_true.1 h6.2.2.2 t ht
  simp only [decide_eq_true_eq] at this
  omega
end Av
end Go.Proofs.YtnkepmfgmfeabaaGreatDoor
set_option linter.unusedVariables false
set_option linter.unusedSimpArgs false
namespace Go.Proofs.YtnkepmfgmfeabaaGreatDoor
open Go Go.RowKit
namespace Av
attribute [local irreducible] messT sigT pubT verT

/-! Revoking, in plain words: marks go along what follows. -/
def Mk (E : List Ent) (j : Nat) : Prop := ∃ x, E[j]? = some x ∧ x.rev = true
def nxE (E : List Ent) (j : Nat) : List Nat := ((E[j]?).map Ent.next).getD []
theorem nx_at {E : List Ent} {j : Nat} {x : Ent} (h : E[j]? = some x) : nxE E j = x.next := by unfold nxE; rw [h]; rfl
theorem Frm.back {E E' : List Ent} (h : Frm E E') {i : Nat} {y : Ent} (hy : E'[i]? = some y) : ∃ x, E[i]? = some x ∧ y = { x with rev := y.rev } := by
 have hi : i < E.length := by rw [← h.1]; exact (List.getElem?_eq_some_iff.1 hy).1
 obtain ⟨r, h1⟩ := h.2 i _ (List.getElem?_eq_getElem hi)
 rw [hy] at h1
 have h2 := Option.some.inj h1
 exact ⟨_, List.getElem?_eq_getElem hi, by rw [h2]⟩
theorem Frm.nx {E E' : List Ent} (h : Frm E E') (j : Nat) : nxE E' j = nxE E j := by
 cases hx : E[j]? with
 | some x =>
  obtain ⟨r, h1⟩ := h.2 j x hx
  rw [nx_at h1, nx_at hx]
 | none =>
  have : E'[j]? = none := by rw [List.getElem?_eq_none_iff] at hx ⊢; rw [h.1]; exact hx
  unfold nxE; rw [hx, this]
/-- what a round of marking does -/
structure VS (E E' : List Ent) (l : List Nat) : Prop where
 hit : ∀ k ∈ l, Mk E' k
 mono : ∀ j, Mk E j → Mk E' j
 clo : ∀ j, Mk E' j → ¬ Mk E j → ∀ k ∈ nxE E j, Mk E' k
 src : ∀ j, Mk E' j → ¬ Mk E j → j ∈ l ∨ ∃ p, Mk E' p ∧ j ∈ nxE E p
def Ord (E : List Ent) : Prop := ∀ j, ∀ k ∈ nxE E j, j < k ∧ k < E.length
theorem Ord.frm {E E' : List Ent} (h : Frm E E') (o : Ord E) : Ord E' := fun j k hk => by
 rw [h.nx] at hk; rw [h.1]; exact o j k hk
theorem fold_vs (f : Nat) (ih : ∀ i E, E.length - i ≤ f → i < E.length → Ord E → VS E (visit f i E) [i]) : ∀ (l : List Nat) (E : List Ent), (∀ k ∈ l, E.length - k ≤ f ∧ k < E.length) → Ord E → VS E (l.foldl (fun E j => visit f j E) E) l
 | [], E, _, _ => ⟨fun k hk => by simp at hk, fun _ h => h, fun j h1 h2 => absurd h1 h2, fun j h1 h2 => absurd h1 h2⟩
 | i :: l, E, hl, o => by
  have hi := hl i (by simp)
  have v := ih i E hi.1 hi.2 o
  have hf := visit_frm f i E
  have w := fold_vs f ih l (visit f i E) (fun k hk => by rw [hf.1]; exact hl k (by simp [hk])) (o.frm hf)
  rw [List.foldl_cons]
  refine ⟨fun k hk => ?_, fun j h => w.mono j (v.mono j h), fun j h1 h2 k hk => ?_, fun j h1 h2 => ?_⟩
  ·rcases List.mem_cons.1 hk with rfl | hk
   ·exact w.mono _ (v.hit _ (by simp))
   ·exact w.hit k hk
  ·by_cases hm : Mk (visit f i E) j
   ·exact w.mono _ (v.clo j hm h2 k hk)
   ·exact w.clo j h1 hm k (by rw [hf.nx]; exact hk)
  ·by_cases hm : Mk (visit f i E) j
   ·rcases v.src j hm h2 with h | ⟨p, hp, hj⟩
    ·simp only [List.mem_singleton] at h
     exact .inl (by simp [h])
    ·exact .inr ⟨p, w.mono p hp, hj⟩
   ·rcases w.src j h1 hm with h | ⟨p, hp, hj⟩
    ·exact .inl (by simp [h])
    ·exact .inr ⟨p, hp, by rw [hf.nx] at hj; exact hj⟩
theorem mk_set {E : List Ent} {i : Nat} {x : Ent} (h : E[i]? = some x) (j : Nat) : Mk (E.set i { x with rev := true }) j ↔ j = i ∨ Mk E j := by
 have hi := (List.getElem?_eq_some_iff.1 h).1
 unfold Mk
 by_cases e : i = j
 ·subst e
  rw [List.getElem?_set_self hi]
  exact ⟨fun _ => .inl rfl, fun _ => ⟨_, rfl, rfl⟩⟩
 ·rw [List.getElem?_set_ne e]
  exact ⟨.inr, fun h => h.resolve_left fun e' => e e'.symm⟩
theorem visit_vs : ∀ (f i : Nat) (E : List Ent), E.length - i ≤ f → i < E.length → Ord E → VS E (visit f i E) [i]
 | 0, i, E, h, hi, _ => by omega
 | f + 1, i, E, h, hi, o => by
  have hx : E[i]? = some E[i] := List.getElem?_eq_getElem hi
  generalize E[i] = x at hx
  unfold visit
  rw [hx]
  simp only
  split
  ·rename_i hr
   exact ⟨fun k hk => by simp only [List.mem_singleton] at hk; subst hk; exact ⟨x, hx, hr⟩, fun _ h => h, fun j h1 h2 => absurd h1 h2, fun j h1 h2 => absurd h1 h2⟩
  ·rename_i hr
   have hf : Frm E (E.set i { x with rev := true }) := Frm.mark hx true
   have hn : nxE E i = x.next := nx_at hx
   have w := fold_vs f (visit_vs f) x.next (E.set i { x with rev := true }) (fun k hk => by
    have := o i k (by rw [hn]; exact hk)
    rw [hf.1]; omega) (o.frm hf)
   generalize x.next.foldl (fun E j => visit f j E) (E.set i { x with rev := true }) = E' at w
   have hii : Mk E' i := w.mono i ((mk_set hx i).2 (.inl rfl))
   refine ⟨fun k hk => by simp only [List.mem_singleton] at hk; subst hk; exact hii, fun j hj => w.mono j ((mk_set hx j).2 (.inr hj)), fun j h1 h2 k hk => ?_, fun j h1 h2 => ?_⟩
   ·by_cases e : j = i
    ·subst e
     rw [hn] at hk
     exact w.hit k hk
    ·exact w.clo j h1 (fun h => ((mk_set hx j).1 h).elim e h2) k (by rw [hf.nx]; exact hk)
   ·by_cases e : j = i
    ·exact .inl (by simp [e])
    ·rcases w.src j h1 (fun h => ((mk_set hx j).1 h).elim e h2) with h | ⟨p, hp, hj⟩
     ·exact .inr ⟨i, hii, by rw [hn]; exact h⟩
     ·exact .inr ⟨p, hp, by rw [hf.nx] at hj; exact hj⟩
/-- what holds of a book and of the Ids that were revoked -/
structure Good (B : Bk) (rv : List ByteArray) : Prop where
 uniq : ∀ (i : Nat) (x : Ent), B.ents[i]? = some x → findB B x.st.id = some i
 inp : ∀ (i : Nat) (x : Ent), B.ents[i]? = some x → ∀ y ∈ x.st.inputs, ∃ j, findB B y.1 = some j ∧ j < i
 next : ∀ (j : Nat) (z : Ent), B.ents[j]? = some z → ∀ i, i ∈ z.next ↔ ∃ x, B.ents[i]? = some x ∧ ∃ y ∈ x.st.inputs, y.1 = z.st.id
 rev : ∀ (i : Nat) (x : Ent), B.ents[i]? = some x → (x.rev = true ↔ x.st.id ∈ rv ∨ ∃ y ∈ x.st.inputs, ∃ j, findB B y.1 = some j ∧ Mk B.ents j)
 known : ∀ id ∈ rv, ∃ i, findB B id = some i
theorem Good.ord {B : Bk} {rv : List ByteArray} (g : Good B rv) : Ord B.ents := fun j k hk => by
 cases hz : B.ents[j]? with
 | none => unfold nxE at hk; rw [hz] at hk; simp at hk
 | some z =>
  rw [nx_at hz] at hk
  obtain ⟨x, hx, y, hy, he⟩ := (g.next j z hz k).1 hk
  obtain ⟨j', h1, h2⟩ := g.inp k x hx y hy
  rw [he, g.uniq j z hz] at h1
  cases h1
  exact ⟨h2, (List.getElem?_eq_some_iff.1 hx).1⟩
theorem findB_on {B B' : Bk} (hl : B'.ents.length = B.ents.length) (h : ∀ (i : Nat) x y, B.ents[i]? = some x → B'.ents[i]? = some y → y.st.id = x.st.id) (id : ByteArray) : findB B' id = findB B id := by
 have hm : B'.ents.map (fun x => x.st.id) = B.ents.map (fun x => x.st.id) := by
  apply List.ext_getElem (by simp [hl])
  intro i h1 h2
  simp only [List.length_map] at h1 h2
  simp only [List.getElem_map]
  exact h i _ _ (List.getElem?_eq_getElem h2) (List.getElem?_eq_getElem h1)
 have hf : ∀ E : List Ent, E.findIdx? (fun x => decide (x.st.id = id)) = (E.map fun x => x.st.id).findIdx? fun t => decide (t = id) := fun E => by rw [List.findIdx?_map]; rfl
 unfold findB
 rw [hf, hf, hm]
theorem good_revoke {B : Bk} {rv : List ByteArray} (g : Good B rv) {id : ByteArray} {k : Nat} (hk : findB B id = some k) : Good { B with ents := visit B.ents.length k B.ents } (rv ++ [id]) := by
 obtain ⟨xk, hxk, hid⟩ := findB_some hk
 have hkl := (List.getElem?_eq_some_iff.1 hxk).1
 have hf := visit_frm B.ents.length k B.ents
 have v := visit_vs B.ents.length k B.ents (by omega) hkl g.ord
 generalize visit B.ents.length k B.ents = E' at hf v
 have hfi : ∀ id, findB { B with ents := E' } id = findB B id := findB_on hf.1 fun i x y hx hy => by
  obtain ⟨x', hx', e⟩ := hf.back hy
  rw [hx] at hx'; cases hx'
  rw [e]
 refine ⟨fun i y hy => ?_, fun i y hy z hz => ?_, fun j z hz i => ?_, fun i y hy => ?_, fun t ht => ?_⟩
 ·obtain ⟨x, hx, e⟩ := hf.back hy
  rw [hfi, e]
  exact g.uniq i x hx
 ·obtain ⟨x, hx, e⟩ := hf.back hy
  rw [e] at hz
  obtain ⟨j, h1, h2⟩ := g.inp i x hx z hz
  exact ⟨j, by rw [hfi]; exact h1, h2⟩
 ·obtain ⟨x, hx, e⟩ := hf.back hz
  rw [e]
  refine (g.next j x hx i).trans ⟨fun ⟨w, hw, y, hy, h⟩ => ?_, fun ⟨w, hw, y, hy, h⟩ => ?_⟩
  ·obtain ⟨r, hr⟩ := hf.2 i w hw
   exact ⟨_, hr, y, hy, h⟩
  ·obtain ⟨w', hw', e'⟩ := hf.back hw
   rw [e'] at hy
   exact ⟨w', hw', y, hy, h⟩
 ·obtain ⟨x, hx, e⟩ := hf.back hy
  have hmk : y.rev = true ↔ Mk E' i := ⟨fun h => ⟨y, hy, h⟩, fun ⟨y', h1, h2⟩ => by rw [hy] at h1; cases h1; exact h2⟩
  have hmo : x.rev = true ↔ Mk B.ents i := ⟨fun h => ⟨x, hx, h⟩, fun ⟨y', h1, h2⟩ => by rw [hx] at h1; cases h1; exact h2⟩
  have hst : y.st = x.st := by rw [e]
  rw [hmk, hst]
  simp only [hfi, List.mem_append, List.mem_singleton]
  constructor
  ·intro h
   by_cases ho : Mk B.ents i
   ·rcases (g.rev i x hx).1 (hmo.2 ho) with h1 | ⟨z, hz, j, h1, h2⟩
    ·exact .inl (.inl h1)
    ·exact .inr ⟨z, hz, j, h1, v.mono j h2⟩
   ·rcases v.src i h ho with h1 | ⟨p, h1, h2⟩
    ·simp only [List.mem_singleton] at h1
     subst h1
     rw [hx] at hxk; cases hxk
     exact .inl (.inr hid)
    ·right
     have hpm := h1
     obtain ⟨q, hq, _⟩ := h1
     obtain ⟨z, hz, _⟩ := hf.back hq
     rw [nx_at hz] at h2
     obtain ⟨x', hx', w, hw, he⟩ := (g.next p z hz i).1 h2
     rw [hx] at hx'; cases hx'
     exact ⟨w, hw, p, by rw [he]; exact g.uniq p z hz, hpm⟩
  ·rintro ((h | h) | ⟨z, hz, j, h1, h2⟩)
   ·exact v.mono i (hmo.1 ((g.rev i x hx).2 (.inl h)))
   ·have := g.uniq i x hx
    rw [h, hk] at this
    cases this
    exact v.hit k (by simp)
   ·by_cases ho : Mk B.ents j
    ·exact v.mono i (hmo.1 ((g.rev i x hx).2 (.inr ⟨z, hz, j, h1, ho⟩)))
    ·obtain ⟨q, hq, hid2⟩ := findB_some h1
     refine v.clo j h2 ho i ?_
     rw [nx_at hq]
     exact (g.next j q hq i).2 ⟨x, hx, z, hz, hid2.symm⟩
 ·rcases List.mem_append.1 ht with ht | ht
  ·obtain ⟨i, hi⟩ := g.known t ht
   exact ⟨i, by rw [hfi]; exact hi⟩
  ·simp only [List.mem_singleton] at ht
   subst ht
   exact ⟨k, by rw [hfi]; exact hk⟩
theorem resolve_mem {B : Bk} : ∀ {l : List (ByteArray × Int)} {ins : List Nat}, resolve B l = some ins → (∀ y ∈ l, ∃ j ∈ ins, findB B y.1 = some j) ∧ ∀ j ∈ ins, ∃ y ∈ l, findB B y.1 = some j
 | [], ins, h => by simp only [resolve, Option.some.injEq] at h; subst h; simp
 | z :: l, ins, h => by
  simp only [resolve] at h
  cases hz : findB B z.1 with
  | none => rw [hz] at h; cases h
  | some i =>
   rw [hz] at h
   simp only [Option.map_eq_some_iff] at h
   obtain ⟨t, h1, rfl⟩ := h
   obtain ⟨k1, k2⟩ := resolve_mem h1
   refine ⟨fun y hy => ?_, fun j hj => ?_⟩
   ·rcases List.mem_cons.1 hy with rfl | hy
    ·exact ⟨i, by simp, hz⟩
    ·obtain ⟨j, hj, e⟩ := k1 y hy
     exact ⟨j, by simp [hj], e⟩
   ·rcases List.mem_cons.1 hj with rfl | hj
    ·exact ⟨z, by simp, hz⟩
    ·obtain ⟨y, hy, e⟩ := k2 j hj
     exact ⟨y, by simp [hy], e⟩
/-- whom a row of takings makes follow -/
theorem fold_nx (n : Nat) : ∀ (l : List (Nat × Int)) (E : List Ent), (∀ p ∈ l, p.1 < E.length) → ∀ j i, i ∈ nxE (l.foldl (takeE n) E) j ↔ i ∈ nxE E j ∨ (i = n ∧ ∃ p ∈ l, p.1 = j)
 | [], E, _, j, i => by simp
 | p :: l, E, hl, j, i => by
  have hp := hl p (by simp)
  have ha := takeE_alike n E p
  rw [List.foldl_cons, fold_nx n l _ (fun q hq => by rw [ha.1]; exact hl q (by simp [hq])) j i]
  have hx : E[p.1]? = some E[p.1] := List.getElem?_eq_getElem hp
  rw [takeE_some hx]
  have hn : i ∈ nxE (E.set p.1 { E[p.1] with left := E[p.1].left - p.2, next := E[p.1].next ++ [n] }) j ↔ i ∈ nxE E j ∨ (i = n ∧ p.1 = j) := by
   by_cases e : p.1 = j
   ·subst e
    rw [nx_at (List.getElem?_set_self hp), nx_at hx]
    simp
   ·unfold nxE
    rw [List.getElem?_set_ne e]
    simp [e]
  rw [hn]
  constructor
  ·rintro ((h | ⟨h1, h2⟩) | ⟨h1, q, hq, h2⟩)
   ·exact .inl h
   ·exact .inr ⟨h1, p, by simp, h2⟩
   ·exact .inr ⟨h1, q, by simp [hq], h2⟩
  ·rintro (h | ⟨h1, q, hq, h2⟩)
   ·exact .inl (.inl h)
   ·rcases List.mem_cons.1 hq with rfl | hq
    ·exact .inl (.inr ⟨h1, h2⟩)
    ·exact .inr ⟨h1, q, hq, h2⟩
theorem Alike.back {E E' : List Ent} (h : Alike E E') {i : Nat} {y : Ent} (hy : E'[i]? = some y) : ∃ x, E[i]? = some x ∧ y.st = x.st ∧ y.rev = x.rev ∧ y.sgn = x.sgn := by
 have hi : i < E.length := by rw [← h.1]; exact (List.getElem?_eq_some_iff.1 hy).1
 obtain ⟨l, nx, h1⟩ := h.2 i _ (List.getElem?_eq_getElem hi)
 rw [hy] at h1
 have h2 := Option.some.inj h1
 exact ⟨_, List.getElem?_eq_getElem hi, by rw [h2], by rw [h2], by rw [h2]⟩
theorem zip_fst {α β : Type} {l : List α} {m : List β} (h : l.length = m.length) (j : α) : (∃ p ∈ l.zip m, p.1 = j) ↔ j ∈ l := by
 rw [show (∃ p ∈ l.zip m, p.1 = j) ↔ j ∈ (l.zip m).map Prod.fst by simp, List.map_fst_zip (by omega)]
theorem good_add {B : Bk} {rv : List ByteArray} (g : Good B rv) {s : Stm} {ins : List Nat} (hnew : findB B s.id = none) (hres : resolve B s.inputs = some ins) (hrev : anyP (pRev B) ins = false) : Good (finalB B s ins) rv := by
 obtain ⟨m1, m2⟩ := resolve_mem hres
 have hil := resolve_len hres
 have hins : ∀ j ∈ ins, j < B.ents.length := fun j hj => by
  obtain ⟨y, _, h⟩ := m2 j hj
  obtain ⟨x, hx, _⟩ := findB_some h
  exact (List.getElem?_eq_some_iff.1 hx).1
 have ha := offE_alike B s ins (ins.zip (s.inputs.map (·.2))).length
 have hnx := fun j i => fold_nx B.ents.length ((ins.zip (s.inputs.map (·.2))).take (ins.zip (s.inputs.map (·.2))).length) (B.ents ++ [newE B s ins]) (fun p hp => by
  rw [List.take_length] at hp
  have := hins p.1 ((zip_fst (by simp [hil]) p.1).1 ⟨p, hp, rfl⟩)
  simp; omega) j i
 rw [List.take_length] at hnx
 simp only [zip_fst (show ins.length = (s.inputs.map (·.2)).length by simp [hil])] at hnx
 have hfe : finalB B s ins = { B with ents := (ins.zip (s.inputs.map (·.2))).foldl (takeE B.ents.length) (B.ents ++ [newE B s ins]) } := by unfold finalB offE; rw [List.take_length]
 have ha' : Alike (B.ents ++ [newE B s ins]) ((ins.zip (s.inputs.map (·.2))).foldl (takeE B.ents.length) (B.ents ++ [newE B s ins])) := fold_alike _ _ _
 rw [hfe]
 clear ha hfe
 generalize (ins.zip (s.inputs.map (·.2))).foldl (takeE B.ents.length) (B.ents ++ [newE B s ins]) = E' at hnx ha'
 have hold : ∀ {id i}, findB B id = some i → findB { B with ents := E' } id = some i := fun {id i} h => by
  rw [findB_on (B := { B with ents := B.ents ++ [newE B s ins] }) ha'.1 fun i x y hx hy => by
   obtain ⟨x', h1, h2, _⟩ := ha'.back hy
   rw [hx] at h1; cases h1
   rw [h2]]
  unfold findB at h ⊢
  rw [List.findIdx?_append, h]; rfl
 have hnw : findB { B with ents := E' } s.id = some B.ents.length := by
  rw [findB_on (B := { B with ents := B.ents ++ [newE B s ins] }) ha'.1 fun i x y hx hy => by
   obtain ⟨x', h1, h2, _⟩ := ha'.back hy
   rw [hx] at h1; cases h1
   rw [h2]]
  unfold findB at hnew ⊢
  rw [List.findIdx?_append, hnew]
  simp [newE]
 have hat : ∀ {i : Nat} {y : Ent}, E'[i]? = some y → (∃ x, B.ents[i]? = some x ∧ y.st = x.st ∧ y.rev = x.rev) ∨ (i = B.ents.length ∧ y.st = s ∧ y.rev = false) := fun {i y} hy => by
  obtain ⟨x, h1, h2, h3, _⟩ := ha'.back hy
  rcases snoc_get h1 with h1 | ⟨h4, rfl⟩
  ·exact .inl ⟨x, h1, h2, h3⟩
  ·exact .inr ⟨h4, h2, h3⟩
 have hto : ∀ {i : Nat} {x : Ent}, B.ents[i]? = some x → ∃ y, E'[i]? = some y ∧ y.st = x.st ∧ y.rev = x.rev := fun {i x} hx => by
  obtain ⟨l, nx, h⟩ := ha'.2 i x (by rw [List.getElem?_append_left (List.getElem?_eq_some_iff.1 hx).1]; exact hx)
  exact ⟨_, h, rfl, rfl⟩
 have hmk : ∀ j, j < B.ents.length → (Mk E' j ↔ Mk B.ents j) := fun j hj => ⟨fun ⟨y, hy, h⟩ => by
   rcases hat hy with ⟨x, hx, _, h2⟩ | ⟨h1, _⟩
   ·exact ⟨x, hx, h2 ▸ h⟩
   ·omega, fun ⟨x, hx, h⟩ => by
   obtain ⟨y, hy, _, h2⟩ := hto hx
   exact ⟨y, hy, h2.trans h⟩⟩
 have hlt : ∀ {id i}, findB B id = some i → i < B.ents.length := fun {id i} h => by
  obtain ⟨x, hx, _⟩ := findB_some h
  exact (List.getElem?_eq_some_iff.1 hx).1
 refine ⟨fun i y hy => ?_, fun i y hy z hz => ?_, fun j z hz i => ?_, fun i y hy => ?_, fun t ht => ?_⟩
 ·rcases hat hy with ⟨x, hx, h1, _⟩ | ⟨h1, h2, _⟩
  ·rw [h1]; exact hold (g.uniq i x hx)
  ·rw [h2, h1]; exact hnw
 ·rcases hat hy with ⟨x, hx, h1, _⟩ | ⟨h1, h2, _⟩
  ·rw [h1] at hz
   obtain ⟨j, k1, k2⟩ := g.inp i x hx z hz
   exact ⟨j, hold k1, k2⟩
  ·rw [h2] at hz
   obtain ⟨j, hj, k1⟩ := m1 z hz
   exact ⟨j, hold k1, by rw [h1]; exact hins j hj⟩
 ·have h0 := hnx j i
  rw [nx_at hz] at h0
  rw [h0]
  have hin : (i = B.ents.length ∧ j ∈ ins) ∨ ((i = B.ents.length → ¬ j ∈ ins)) := by
   by_cases e : i = B.ents.length
   ·by_cases e' : j ∈ ins
    ·exact .inl ⟨e, e'⟩
    ·exact .inr fun _ => e'
   ·exact .inr fun h => absurd h e
  rcases hat hz with ⟨x, hx, h1, _⟩ | ⟨h1, h2, _⟩
  ·have h3 : nxE (B.ents ++ [newE B s ins]) j = x.next := nx_at (by rw [List.getElem?_append_left (List.getElem?_eq_some_iff.1 hx).1]; exact hx)
   rw [h3, h1]
   constructor
   ·rintro (h | ⟨rfl, h⟩)
    ·obtain ⟨w, hw, y, hy, he⟩ := (g.next j x hx i).1 h
     obtain ⟨w', hw', e1, _⟩ := hto hw
     exact ⟨w', hw', y, by rw [e1]; exact hy, he⟩
    ·obtain ⟨y, hy, he⟩ := m2 j h
     obtain ⟨x', hx', e1⟩ := findB_some he
     rw [hx] at hx'; cases hx'
     have hl : B.ents.length < E'.length := by rw [ha'.1]; simp
     have hw : E'[B.ents.length]? = some E'[B.ents.length] := List.getElem?_eq_getElem hl
     rcases hat hw with ⟨x', hx', _⟩ | ⟨_, e2, _⟩
     ·have := (List.getElem?_eq_some_iff.1 hx').1; omega
     ·exact ⟨_, hw, y, by rw [e2]; exact hy, e1.symm⟩
   ·rintro ⟨w, hw, y, hy, he⟩
    rcases hat hw with ⟨x', hx', e1, _⟩ | ⟨e1, e2, _⟩
    ·rw [e1] at hy
     exact .inl ((g.next j x hx i).2 ⟨x', hx', y, hy, he⟩)
    ·rw [e2] at hy
     obtain ⟨j', hj', k1⟩ := m1 y hy
     rw [he, g.uniq j x hx] at k1
     cases k1
     exact .inr ⟨e1, hj'⟩
  ·have h3 : nxE (B.ents ++ [newE B s ins]) j = [] := by rw [h1]; exact nx_at (x := newE B s ins) (by simp)
   rw [h3, h2]
   constructor
   ·rintro (h | ⟨_, h⟩)
    ·simp at h
    ·have := hins j h; omega
   ·rintro ⟨w, hw, y, hy, he⟩
    exfalso
    rcases hat hw with ⟨x', hx', e1, _⟩ | ⟨e1, e2, _⟩
    ·rw [e1] at hy
     obtain ⟨j', k1, _⟩ := g.inp i x' hx' y hy
     rw [he, hnew] at k1; cases k1
    ·rw [e2] at hy
     obtain ⟨j', _, k1⟩ := m1 y hy
     rw [he, hnew] at k1; cases k1
 ·rcases hat hy with ⟨x, hx, h1, h2⟩ | ⟨h1, h2, h3⟩
  ·rw [h1, h2]
   refine (g.rev i x hx).trans ⟨?_, ?_⟩
   ·rintro (h | ⟨z, hz, j, k1, k2⟩)
    ·exact .inl h
    ·exact .inr ⟨z, hz, j, hold k1, (hmk j (hlt k1)).2 k2⟩
   ·rintro (h | ⟨z, hz, j, k1, k2⟩)
    ·exact .inl h
    ·obtain ⟨j', k3, _⟩ := g.inp i x hx z hz
     rw [hold k3] at k1
     rw [← Option.some.inj k1] at k2
     exact .inr ⟨z, hz, j', k3, (hmk j' (hlt k3)).1 k2⟩
  ·rw [h2, h3]
   constructor
   ·intro h; cases h
   ·rintro (h | ⟨z, hz, j, k1, k2⟩)
    ·obtain ⟨i', h'⟩ := g.known _ h
     rw [hnew] at h'; cases h'
    ·exfalso
     obtain ⟨j', hj', k3⟩ := m1 z hz
     rw [hold k3] at k1
     rw [← Option.some.inj k1] at k2
     obtain ⟨x, hx, hr⟩ := (hmk j' (hins j' hj')).1 k2
     obtain ⟨q, hq, rfl⟩ := List.mem_iff_getElem.1 hj'
     unfold anyP at hrev
     rw [List.any_eq_false] at hrev
     refine hrev q (by simpa using hq) ?_
     have hg : ins.getD q 0 = ins[q] := by simp [hq]
     unfold pRev onE
     rw [hg, hx]
     exact hr
 ·obtain ⟨i, hi⟩ := g.known t ht
  exact ⟨i, hold hi⟩
/-- bounds that a book keeps to after some steps -/
structure Bnd (B : Bk) (k : Nat) : Prop where
 n : B.ents.length ≤ k
 nx : ∀ x ∈ B.ents, x.next.length ≤ 12 * k
 l : ∀ x ∈ B.ents, -1000000000 * (12 * k : Int) ≤ x.left ∧ x.left ≤ 1000000000
 h : ∀ x ∈ B.ents, x.st.holder.size ≤ 60
 u : ∀ x ∈ B.ents, x.st.uses.length ≤ 12
 i : ∀ x ∈ B.ents, x.st.inputs.length ≤ 12
theorem Bnd.more {B : Bk} {k : Nat} (h : Bnd B k) : Bnd B (k + 1) where
 n := Nat.le_succ_of_le h.n
 nx := fun x hx => by have := h.nx x hx; omega
 l := fun x hx => by have := h.l x hx; omega
 h := h.h
 u := h.u
 i := h.i
theorem Bnd.okb {B : Bk} {k : Nat} (h : Bnd B k) (hk : k ≤ 8) (hi : B.issuer.size ≤ 60) : OkB B := ⟨by have := h.n; omega, fun x hx => by have := h.nx x hx; omega, fun x hx => by have := h.l x hx; omega, by omega, fun x hx => by have := h.h x hx; omega⟩
theorem bnd_revoke {B : Bk} {k j : Nat} (h : Bnd B k) : Bnd { B with ents := visit B.ents.length j B.ents } (k + 1) := by
 have hf := visit_frm B.ents.length j B.ents
 have h' := h.more
 generalize visit B.ents.length j B.ents = E' at hf
 have bk : ∀ y ∈ E', ∃ x ∈ B.ents, y = { x with rev := y.rev } := fun y hy => by
  obtain ⟨i, hi⟩ := List.mem_iff_getElem?.1 hy
  obtain ⟨x, hx, e⟩ := hf.back hi
  exact ⟨x, List.mem_of_getElem? hx, e⟩
 refine ⟨by have := h'.n; have := hf.1; simp only; omega, fun y hy => ?_, fun y hy => ?_, fun y hy => ?_, fun y hy => ?_, fun y hy => ?_⟩ <;> obtain ⟨x, hx, e⟩ := bk y hy <;> rw [e]
 ·exact h'.nx x hx
 ·exact h'.l x hx
 ·exact h'.h x hx
 ·exact h'.u x hx
 ·exact h'.i x hx
theorem bnd_add {B : Bk} {k : Nat} (h : Bnd B k) {s : Stm} {ins : List Nat} (hp : properB s = true) (hil : ins.length = s.inputs.length) : Bnd (finalB B s ins) (k + 1) := by
 obtain ⟨p1, p2, p3, p4, p5, p6, p7, p8, p9⟩ := proper_parts hp
 have ha' : Alike (B.ents ++ [newE B s ins]) ((ins.zip (s.inputs.map (·.2))).foldl (takeE B.ents.length) (B.ents ++ [newE B s ins])) := fold_alike _ _ _
 have hfe : finalB B s ins = { B with ents := (ins.zip (s.inputs.map (·.2))).foldl (takeE B.ents.length) (B.ents ++ [newE B s ins]) } := by unfold finalB offE; rw [List.take_length]
 have hll : (ins.zip (s.inputs.map (·.2))).length ≤ 12 := by simp [hil]; omega
 have hnx := fold_next B.ents.length (12 * k) (ins.zip (s.inputs.map (·.2))) (B.ents ++ [newE B s ins]) fun y hy => by
  rcases List.mem_append.1 hy with hy | hy
  ·exact h.nx y hy
  ·simp only [List.mem_singleton] at hy; subst hy; simp [newE]
 have hlf := fold_left B.ents.length (-1000000000 * (12 * k : Int)) 1000000000 1000000000 (by omega) (ins.zip (s.inputs.map (·.2))) (B.ents ++ [newE B s ins]) (fun p hp => by
  have h1 : p.2 ∈ s.inputs.map (·.2) := (List.of_mem_zip hp).2
  obtain ⟨y, hy, e⟩ := List.mem_map.1 h1
  have := p5 y hy
  omega) fun y hy => by
  rcases List.mem_append.1 hy with hy | hy
  ·exact h.l y hy
  ·simp only [List.mem_singleton] at hy; subst hy
   simp only [newE]; omega
 rw [hfe]
 generalize hz : ins.zip (s.inputs.map (·.2)) = Z at *
 generalize Z.foldl (takeE B.ents.length) (B.ents ++ [newE B s ins]) = E' at *
 have bk : ∀ y ∈ E', y.st = s ∨ ∃ x ∈ B.ents, y.st = x.st := fun y hy => by
  obtain ⟨i, hi⟩ := List.mem_iff_getElem?.1 hy
  obtain ⟨x, hx, e, _⟩ := ha'.back hi
  rcases snoc_get hx with hx | ⟨_, rfl⟩
  ·exact .inr ⟨x, List.mem_of_getElem? hx, e⟩
  ·exact .inl e
 refine ⟨by have := ha'.1; have := h.n; simp at *; omega, fun y hy => ?_, fun y hy => ?_, fun y hy => ?_, fun y hy => ?_, fun y hy => ?_⟩
 ·have := hnx y hy; omega
 ·have := hlf y hy; omega
 ·rcases bk y hy with e | ⟨x, hx, e⟩ <;> rw [e]
  ·omega
  ·exact h.h x hx
 ·rcases bk y hy with e | ⟨x, hx, e⟩ <;> rw [e]
  ·exact p8
  ·exact h.u x hx
 ·rcases bk y hy with e | ⟨x, hx, e⟩ <;> rw [e]
  ·exact p9
  ·exact h.i x hx
/-- a step -/
def nextV (rv : List ByteArray) (c : Int) (x : Step29) : List ByteArray := if c = 0 ∧ ¬ x.kind = 0 then rv ++ [x.id] else rv
theorem good_do {B : Bk} {rv : List ByteArray} {k : Nat} (g : Good B rv) (b : Bnd B k) (x : Step29) :
  Good (doR B x).2 (nextV rv (doR B x).1 x) ∧ Bnd (doR B x).2 (k + 1) ∧ (doR B x).2.issuer = B.issuer ∧ ((doR B x).1 ≠ 0 → (doR B x).2 = B) := by
 have same : ∀ c : Int, c ≠ 0 → Good B (nextV rv c x) ∧ Bnd B (k + 1) ∧ B.issuer = B.issuer ∧ (c ≠ 0 → B = B) := fun c hc => ⟨by unfold nextV; rw [if_neg fun h => hc h.1]; exact g, b.more, rfl, fun _ => rfl⟩
 unfold doR
 by_cases hk : x.kind = 0
 ·rw [if_pos hk]
  unfold addR
  cases hp : properB x.st with
  | false => exact same 1 (by decide)
  | true =>
  simp only [Bool.not_true, Bool.false_eq_true, if_false]
  cases hf : findB B x.st.id with
  | some i => exact same 9 (by decide)
  | none =>
  simp only [Option.isSome_none, Bool.false_eq_true, if_false]
  split
  ·exact same 28 (by decide)
  cases hr : resolve B x.st.inputs with
  | none => exact same 11 (by decide)
  | some ins =>
  simp only
  split
  ·rename_i h0
   refine ⟨?_, bnd_add b hp (resolve_len hr), rfl, fun h => absurd h0 h⟩
   unfold nextV
   rw [if_neg fun h => h.2 hk]
   refine good_add g hf hr ?_
   cases ha : anyP (pRev B) ins with
   | false => rfl
   | true =>
    unfold codesR at h0
    rw [ha] at h0
    simp [firstNZ] at h0
  ·rename_i h0
   exact same _ h0
 ·rw [if_neg hk]
  unfold revokeR
  cases hf : findB B x.id with
  | none => exact same 11 (by decide)
  | some i =>
  obtain ⟨z, hz, _⟩ := findB_some hf
  simp only [hz]
  split
  ·exact same 12 (by decide)
  ·refine ⟨?_, bnd_revoke b, rfl, fun h => absurd rfl h⟩
   unfold nextV
   rw [if_pos ⟨rfl, hk⟩]
   exact good_revoke g hf
theorem good_nil (is : ByteArray) : Good ⟨is, []⟩ [] := ⟨fun i x h => by simp at h, fun i x h => by simp at h, fun j z h => by simp at h, fun i x h => by simp at h, fun id h => by simp at h⟩
theorem bnd_nil (is : ByteArray) : Bnd ⟨is, []⟩ 0 := ⟨Nat.le_refl _, fun x h => by simp at h, fun x h => by simp at h, fun x h => by simp at h, fun x h => by simp at h, fun x h => by simp at h⟩
/-- the place of an input among the entries before -/
theorem place_good {B : Bk} {rv : List ByteArray} (g : Good B rv) {i : Nat} {x : Ent} (hx : B.ents[i]? = some x) {y : ByteArray × Int} (hy : y ∈ x.st.inputs) : ∃ j, findB B y.1 = some j ∧ j < i ∧ placeS ((B.ents.map (·.st)).take i) y.1 = (j : Int) := by
 obtain ⟨j, h1, h2⟩ := g.inp i x hx y hy
 refine ⟨j, h1, h2, ?_⟩
 unfold findB at h1
 rw [List.findIdx?_eq_some_iff_getElem] at h1
 obtain ⟨k1, k2, k3⟩ := h1
 have hl : j < ((B.ents.map (·.st)).take i).length := by
  have := (List.getElem?_eq_some_iff.1 hx).1
  simp; omega
 refine place_some hl (fun q hq h => ?_) ?_
 ·have := k3 q hq
  simpa using this
 ·simpa using k2
end Av
end Go.Proofs.YtnkepmfgmfeabaaGreatDoor
set_option linter.unusedVariables false
set_option linter.unusedSimpArgs false
namespace Go.Proofs.YtnkepmfgmfeabaaGreatDoor
open Go Go.RowKit
namespace Av

/-! A nil slice az an empty row of one's own: what is appended to it needs no way of its own. -/
theorem Sim.nilrow {base : World} {s : St} (hs : Sim base s) (ty k : Nat) : ∃ μ', Sim base ⟨μ', s.H ++ [.row ty k 0 []], s.w⟩ ∧ Evo s.H.length s ⟨μ', s.H ++ [.row ty k 0 []], s.w⟩ ∧ Rep ⟨μ', s.H ++ [.row ty k 0 []], s.w⟩ (.ms s.H.length 0 0) (.slice none 0 0) := by
 obtain ⟨f1, f2⟩ := hs.free
 have ho : (s.H ++ [AObj.free])[s.H.length]? = some .free := H_get0 s.H _
 have hd := f1.drop ho (o' := .row ty k 0 []) (.inr (.inl ⟨rfl, ty, k, 0, rfl⟩))
 have hset : (s.H ++ [AObj.free]).set s.H.length (.row ty k 0 []) = s.H ++ [.row ty k 0 []] := H_set0 s.H _ _
 simp only [hset] at hd
 refine ⟨_, hd.1, f2.trans (hd.2.mono (by simp)), ?_⟩
 simp only [Rep, MsRep, H_get0, List.getElem?_cons_zero]
 exact ⟨⟨_, _, rfl⟩, lexle.refl _ _, fun _ _ => .inl ⟨upd_same _ _ _, by first | rfl | trivial, by first | rfl | trivial⟩⟩
theorem RepL.nilrow {s s' : St} {x : AV} (hx : Rep s' x (.slice none 0 0)) (he : Evo s.H.length s s') : ∀ {l : List AV} {vs : List Value} (i : Nat), RepL s l vs → l[i]? = some (.d (.v (.slice none 0 0))) → RepL s' (l.set i x) vs
 | [], vs, i, h, e => by simp at e
 | a :: r, vs, 0, h, e => by
  simp only [List.getElem?_cons_zero, Option.some.injEq] at e
  subst e
  simp only [RepL, List.set_cons_zero] at h ⊢
  obtain ⟨y, t, h1, h2, h3⟩ := h
  simp only [Rep, PRep] at h2
  exact ⟨y, t, h1, by rw [h2.1]; exact hx, RepL.evo he _ _ h3⟩
 | a :: r, vs, i + 1, h, e => by
  simp only [RepL, List.set_cons_succ] at h ⊢
  obtain ⟨y, t, h1, h2, h3⟩ := h
  exact ⟨y, t, h1, Rep.evo he _ _ h2, RepL.nilrow hx he i h3 (by simpa using e)⟩
theorem aw_nilrow (i ty k : Nat) {X : Ctx} {Q : Exit → List AV → AHeap → Prop} {env env' : List AV} {H : AHeap} {c : Code} (hi : env[i]? = some (.d (.v (.slice none 0 0)))) (he : env.set i (.ms H.length 0 0) = env') (h : AW X c Q env' (H ++ [.row ty k 0 []])) : AW X c Q env H := by
 subst he
 intro s0 μ a w hN hs he hev
 obtain ⟨μ', h1, h2, h3⟩ := hs.nilrow ty k
 exact h s0 μ' a w (by simp; omega) h1 ⟨he.defers, RepL.nilrow h3 h2 i he.rep hi⟩ (hev.trans (h2.mono hN))
end Av
end Go.Proofs.YtnkepmfgmfeabaaGreatDoor
set_option linter.unusedVariables false
set_option linter.unusedSimpArgs false
namespace Go.Proofs.YtnkepmfgmfeabaaGreatDoor
open Go Go.RowKit
namespace Av
attribute [local irreducible] AW AOps AHOps
attribute [local irreducible] messT sigT pubT verT

/-! Steps of a moderate size. -/
def stepsP (l : List Step29) : PD := .sl 11 (l.map stepC)
def fewB (l : List Step29) : Bool := l.all (fun x => shortS x.st && decide (x.id.size ≤ 60)) && decide (l.length ≤ 8)
theorem sized_step {x : Step29} (h : fctC (stepC x)) : x.st.Sized 9223372036854775807 := by
 refine sized_of_fct (s := x.st) ?_
 simp only [stepC, stmC, List.cons_append, List.nil_append, fctC, List.map_cons, List.map_nil, fctA, fctL] at h ⊢
 exact ⟨h.2.1, h.2.2.1, h.2.2.2.1, h.2.2.2.2.1, h.2.2.2.2.2.1, h.2.2.2.2.2.2.1, h.2.2.2.2.2.2.2.1, h.2.2.2.2.2.2.2.2.1, h.2.2.2.2.2.2.2.2.2.1, trivial⟩
theorem few_a (base : World) (l : List Step29) : PureA Tryz.prog base 37 [.d (stepsP l)] (bA (fewB l)) := by
 refine pure_enter ttOk Tryz.call37 Tryz.func37 rfl fun H hB hb hF => ?_
 rw [Tryz.results37, Tryz.ntmps37]
 simp only [arr_list, List.length_cons, List.length_nil, List.replicate, List.cons_append, List.nil_append, Nat.reduceAdd, Nat.reduceSub]
 simp only [fctL, fctA, stepsP, fctP, List.length_map, fctI_map] at hF
 have hL := hF.1.1
 have hZ := hF.1.2
 clear hF hb hB
 repeat refine aw_seq ?_
 refine aw_region ttOk (by kernel_rfl) ?_
 repeat (refine aops_cons ?_; first | (apply aops_o; rfl; simp only [estep, avs, tts, Nat.reduceAdd, Nat.reduceMul, Nat.reduceSub, Nat.reduceEqDiff, Nat.reduceLT, Nat.reduceLeDiff, Int.reduceToNat, Int.reduceLE, Int.reduceLT, Int.toNat_natCast, reduceCtorEq] <;> (first | with_reducible rfl | rfl)) | (refine aops_grd rfl (by simp only [avs] <;> rfl) (by rfl) ?_; first | refine grd_on ?_ | refine grd_off (by simp only [avs] <;> rfl) ?_))
 refine aops_nil ?_
 repeat refine aw_seq ?_
 refine aw_region ttOk (by kernel_rfl) ?_
 repeat (refine aops_cons ?_; first | (apply aops_o; rfl; simp only [estep, avs, tts, Nat.reduceAdd, Nat.reduceMul, Nat.reduceSub, Nat.reduceEqDiff, Nat.reduceLT, Nat.reduceLeDiff, Int.reduceToNat, Int.reduceLE, Int.reduceLT, Int.toNat_natCast, reduceCtorEq] <;> (first | with_reducible rfl | rfl)) | (refine aops_grd rfl (by simp only [avs] <;> rfl) (by rfl) ?_; first | refine grd_on ?_ | refine grd_off (by simp only [avs] <;> rfl) ?_))
 refine aops_nil ?_
 refine aw_block (aw_loop (fun n env H' => ∃ k, n = l.length - k ∧ k ≤ l.length ∧ H' = H ∧ (∀ j, j < k → ∀ h : j < l.length, (shortS l[j].st && decide (l[j].id.size ≤ 60)) = true) ∧ env = .d (stepsP l) :: .undef :: .undef :: iA k :: List.replicate 25 .undef) ?_ ⟨0, rfl, Nat.zero_le _, rfl, fun j hj => by omega, rfl⟩ ?_)
 ·simp [Goes, EnvLe, List.replicate, iA, stepsP]
 rintro n env H' ⟨k, rfl, hk, rfl, hj, rfl⟩ hN
 simp only [List.replicate, iA, stepsP]
 repeat refine aw_seq ?_
 refine aw_region ttOk (by kernel_rfl) ?_
 repeat (refine aops_cons ?_; first | (apply aops_o; rfl; simp only [estep, avs, tts, Nat.reduceAdd, Nat.reduceMul, Nat.reduceSub, Nat.reduceEqDiff, Nat.reduceLT, Nat.reduceLeDiff, Int.reduceToNat, Int.reduceLE, Int.reduceLT, Int.toNat_natCast, reduceCtorEq] <;> (first | with_reducible rfl | rfl)) | (refine aops_grd rfl (by simp only [avs] <;> rfl) (by rfl) ?_; first | refine grd_on ?_ | refine grd_off (by simp only [avs] <;> rfl) ?_))
 refine aops_nil ?_
 repeat refine aw_seq ?_
 refine aw_cond rfl rfl (fun hb => ?_) fun hb => ?_
 ·have hlt : k < l.length := by simpa using hb
  have hix : (0 : Int) ≤ (k : Int) := by omega
  have hgd : (l.map stepC).getD k [] = stepC l[k] := by simp [hlt]
  have hx := hZ _ (List.getElem_mem hlt)
  have c1 := short_a base l[k].st (sized_step hx)
  generalize hxe : l[k] = x at *
  refine aw_skip ?_
  repeat refine aw_seq ?_
  refine aw_block ?_
  cases hs : shortS x.st with
  | false =>
   rw [hs] at c1
   repeat refine aw_seq ?_
   refine aw_region ttOk (by kernel_rfl) ?_
   repeat (refine aops_cons ?_; first | (apply aops_o; rfl; simp only [estep, avs, tts, Nat.reduceAdd, Nat.reduceMul, Nat.reduceSub, Nat.reduceEqDiff, Nat.reduceLT, Nat.reduceLeDiff, Int.reduceToNat, Int.reduceLE, Int.reduceLT, Int.toNat_natCast, reduceCtorEq, hgd, hix, hlt, stepC, stmC] <;> (first | with_reducible rfl | rfl)) | (refine aops_grd rfl (by simp only [avs] <;> rfl) (by rfl) ?_; first | refine grd_on ?_ | refine grd_off (by simp only [avs] <;> rfl) ?_))
   refine aops_pure rfl (by simp only [avs] <;> rfl) (c1) (by simp only [avs] <;> rfl) ?_
   repeat (refine aops_cons ?_; first | (apply aops_o; rfl; simp only [estep, avs, tts, Nat.reduceAdd, Nat.reduceMul, Nat.reduceSub, Nat.reduceEqDiff, Nat.reduceLT, Nat.reduceLeDiff, Int.reduceToNat, Int.reduceLE, Int.reduceLT, Int.toNat_natCast, reduceCtorEq, hgd, hix, hlt, stepC, stmC, Bool.not_false, Bool.not_true] <;> (first | with_reducible rfl | rfl)) | (refine aops_grd rfl (by simp only [avs] <;> rfl) (by rfl) ?_; first | refine grd_on ?_ | refine grd_off (by simp only [avs] <;> rfl) ?_))
   refine aops_nil ?_
   repeat refine aw_seq ?_
   refine aw_cond rfl rfl (fun hb => ?_) fun hb => ?_
   ·repeat refine aw_seq ?_
    refine aw_region ttOk (by kernel_rfl) ?_
    repeat (refine aops_cons ?_; first | (apply aops_o; rfl; simp only [estep, avs, tts, Nat.reduceAdd, Nat.reduceMul, Nat.reduceSub, Nat.reduceEqDiff, Nat.reduceLT, Nat.reduceLeDiff, Int.reduceToNat, Int.reduceLE, Int.reduceLT, Int.toNat_natCast, reduceCtorEq] <;> (first | with_reducible rfl | rfl)) | (refine aops_grd rfl (by simp only [avs] <;> rfl) (by rfl) ?_; first | refine grd_on ?_ | refine grd_off (by simp only [avs] <;> rfl) ?_))
    refine aops_nil ?_
    refine aw_ret ⟨_, rfl, [], by simp, ?_⟩
    have : fewB l = false := by
     unfold fewB
     rw [Bool.and_eq_false_iff]
     left
     rw [List.all_eq_false]
     exact ⟨x, by rw [← hxe]; exact List.getElem_mem hlt, by simp [hs]⟩
    rw [this]; rfl
   ·cases hb
  | true =>
   rw [hs] at c1
   by_cases hi : x.id.size ≤ 60
   ·have e1 : decide ((x.id.size : Int) > 60) = false := by simp; omega
    repeat refine aw_seq ?_
    refine aw_region ttOk (by kernel_rfl) ?_
    repeat (refine aops_cons ?_; first | (apply aops_o; rfl; simp only [estep, avs, tts, Nat.reduceAdd, Nat.reduceMul, Nat.reduceSub, Nat.reduceEqDiff, Nat.reduceLT, Nat.reduceLeDiff, Int.reduceToNat, Int.reduceLE, Int.reduceLT, Int.toNat_natCast, reduceCtorEq, hgd, hix, hlt, stepC, stmC] <;> (first | with_reducible rfl | rfl)) | (refine aops_grd rfl (by simp only [avs] <;> rfl) (by rfl) ?_; first | refine grd_on ?_ | refine grd_off (by simp only [avs] <;> rfl) ?_))
    refine aops_pure rfl (by simp only [avs] <;> rfl) (c1) (by simp only [avs] <;> rfl) ?_
    repeat (refine aops_cons ?_; first | (apply aops_o; rfl; simp only [estep, avs, tts, Nat.reduceAdd, Nat.reduceMul, Nat.reduceSub, Nat.reduceEqDiff, Nat.reduceLT, Nat.reduceLeDiff, Int.reduceToNat, Int.reduceLE, Int.reduceLT, Int.toNat_natCast, reduceCtorEq, hgd, hix, hlt, stepC, stmC, Bool.not_false, Bool.not_true, e1] <;> (first | with_reducible rfl | rfl)) | (refine aops_grd rfl (by simp only [avs] <;> rfl) (by rfl) ?_; first | refine grd_on ?_ | refine grd_off (by simp only [avs] <;> rfl) ?_))
    refine aops_nil ?_
    repeat refine aw_seq ?_
    refine aw_cond rfl rfl (fun hb => ?_) fun hb => ?_
    ·cases hb
    refine aw_skip ?_
    repeat refine aw_seq ?_
    refine aw_region ttOk (by kernel_rfl) ?_
    repeat (refine aops_cons ?_; first | (apply aops_o; rfl; simp only [estep, avs, tts, Nat.reduceAdd, Nat.reduceMul, Nat.reduceSub, Nat.reduceEqDiff, Nat.reduceLT, Nat.reduceLeDiff, Int.reduceToNat, Int.reduceLE, Int.reduceLT, Int.toNat_natCast, reduceCtorEq, wrap_succ hlt hL] <;> (first | with_reducible rfl | rfl)) | (refine aops_grd rfl (by simp only [avs] <;> rfl) (by rfl) ?_; first | refine grd_on ?_ | refine grd_off (by simp only [avs] <;> rfl) ?_))
    refine aops_nil ?_
    refine ⟨l.length - (k + 1), _, _, by omega, ⟨?_, .inl rfl⟩, k + 1, rfl, hlt, rfl, fun j hjk h => ?_, rfl⟩
    ·simp [EnvLe, stepsP, iA, List.replicate]
    ·rcases Nat.lt_succ_iff_lt_or_eq.1 hjk with h1 | rfl
     ·exact hj j h1 h
     ·rw [hxe, hs]; simpa using hi
   ·have e1 : decide ((x.id.size : Int) > 60) = true := by simp; omega
    repeat refine aw_seq ?_
    refine aw_region ttOk (by kernel_rfl) ?_
    repeat (refine aops_cons ?_; first | (apply aops_o; rfl; simp only [estep, avs, tts, Nat.reduceAdd, Nat.reduceMul, Nat.reduceSub, Nat.reduceEqDiff, Nat.reduceLT, Nat.reduceLeDiff, Int.reduceToNat, Int.reduceLE, Int.reduceLT, Int.toNat_natCast, reduceCtorEq, hgd, hix, hlt, stepC, stmC] <;> (first | with_reducible rfl | rfl)) | (refine aops_grd rfl (by simp only [avs] <;> rfl) (by rfl) ?_; first | refine grd_on ?_ | refine grd_off (by simp only [avs] <;> rfl) ?_))
    refine aops_pure rfl (by simp only [avs] <;> rfl) (c1) (by simp only [avs] <;> rfl) ?_
    repeat (refine aops_cons ?_; first | (apply aops_o; rfl; simp only [estep, avs, tts, Nat.reduceAdd, Nat.reduceMul, Nat.reduceSub, Nat.reduceEqDiff, Nat.reduceLT, Nat.reduceLeDiff, Int.reduceToNat, Int.reduceLE, Int.reduceLT, Int.toNat_natCast, reduceCtorEq, hgd, hix, hlt, stepC, stmC, Bool.not_false, Bool.not_true, e1] <;> (first | with_reducible rfl | rfl)) | (refine aops_grd rfl (by simp only [avs] <;> rfl) (by rfl) ?_; first | refine grd_on ?_ | refine grd_off (by simp only [avs] <;> rfl) ?_))
    refine aops_nil ?_
    repeat refine aw_seq ?_
    refine aw_cond rfl rfl (fun hb => ?_) fun hb => ?_
    ·repeat refine aw_seq ?_
     refine aw_region ttOk (by kernel_rfl) ?_
     repeat (refine aops_cons ?_; first | (apply aops_o; rfl; simp only [estep, avs, tts, Nat.reduceAdd, Nat.reduceMul, Nat.reduceSub, Nat.reduceEqDiff, Nat.reduceLT, Nat.reduceLeDiff, Int.reduceToNat, Int.reduceLE, Int.reduceLT, Int.toNat_natCast, reduceCtorEq] <;> (first | with_reducible rfl | rfl)) | (refine aops_grd rfl (by simp only [avs] <;> rfl) (by rfl) ?_; first | refine grd_on ?_ | refine grd_off (by simp only [avs] <;> rfl) ?_))
     refine aops_nil ?_
     refine aw_ret ⟨_, rfl, [], by simp, ?_⟩
     have : fewB l = false := by
      unfold fewB
      rw [Bool.and_eq_false_iff]
      left
      rw [List.all_eq_false]
      exact ⟨x, by rw [← hxe]; exact List.getElem_mem hlt, by simp [hi]⟩
     rw [this]; rfl
    ·cases hb
 ·refine aw_exit ?_
  have hkl : k = l.length := by simp at hb; omega
  repeat refine aw_seq ?_
  refine aw_region ttOk (by kernel_rfl) ?_
  repeat (refine aops_cons ?_; first | (apply aops_o; rfl; simp only [estep, avs, tts, Nat.reduceAdd, Nat.reduceMul, Nat.reduceSub, Nat.reduceEqDiff, Nat.reduceLT, Nat.reduceLeDiff, Int.reduceToNat, Int.reduceLE, Int.reduceLT, Int.toNat_natCast, reduceCtorEq] <;> (first | with_reducible rfl | rfl)) | (refine aops_grd rfl (by simp only [avs] <;> rfl) (by rfl) ?_; first | refine grd_on ?_ | refine grd_off (by simp only [avs] <;> rfl) ?_))
  refine aops_nil ?_
  refine aw_ret ⟨_, rfl, [], by simp, ?_⟩
  have : fewB l = decide (l.length ≤ 8) := by
   unfold fewB
   rw [show l.all (fun x => shortS x.st && decide (x.id.size ≤ 60)) = true from List.all_eq_true.2 fun x hx => by
    obtain ⟨i, hi, rfl⟩ := List.mem_iff_getElem.1 hx
    exact hj i (by omega) hi]
   rfl
  rw [this, show decide (l.length ≤ 8) = decide ((l.length : Int) ≤ 8) by simp; omega]
  rfl
theorem few13_a (base : World) (l : List Step29) : PureA Tryz.prog base 13 [.d (stepsP l)] (bA (fewB l)) := by
 refine pure_enter ttOk Tryz.call13 Tryz.func13 rfl fun H hB hb hF => ?_
 rw [Tryz.results13, Tryz.ntmps13]
 simp only [arr_list, List.length_cons, List.length_nil, List.replicate, List.cons_append, List.nil_append, Nat.reduceAdd, Nat.reduceSub]
 repeat refine aw_seq ?_
 refine aw_region ttOk (by kernel_rfl) ?_
 repeat (refine aops_cons ?_; first | (apply aops_o; rfl; simp only [estep, avs, tts, Nat.reduceAdd, Nat.reduceMul, Nat.reduceSub, Nat.reduceEqDiff, Nat.reduceLT, Nat.reduceLeDiff, Int.reduceToNat, Int.reduceLE, Int.reduceLT, Int.toNat_natCast, reduceCtorEq] <;> (first | with_reducible rfl | rfl)) | (refine aops_grd rfl (by simp only [avs] <;> rfl) (by rfl) ?_; first | refine grd_on ?_ | refine grd_off (by simp only [avs] <;> rfl) ?_))
 refine aops_nil ?_
 repeat refine aw_seq ?_
 refine aw_region ttOk (by kernel_rfl) ?_
 repeat (refine aops_cons ?_; first | (apply aops_o; rfl; simp only [estep, avs, tts, Nat.reduceAdd, Nat.reduceMul, Nat.reduceSub, Nat.reduceEqDiff, Nat.reduceLT, Nat.reduceLeDiff, Int.reduceToNat, Int.reduceLE, Int.reduceLT, Int.toNat_natCast, reduceCtorEq] <;> (first | with_reducible rfl | rfl)) | (refine aops_grd rfl (by simp only [avs] <;> rfl) (by rfl) ?_; first | refine grd_on ?_ | refine grd_off (by simp only [avs] <;> rfl) ?_))
 refine aops_pure rfl (by simp only [avs] <;> rfl) (few_a base l) (by simp only [avs] <;> rfl) ?_
 repeat (refine aops_cons ?_; first | (apply aops_o; rfl; simp only [estep, avs, tts, Nat.reduceAdd, Nat.reduceMul, Nat.reduceSub, Nat.reduceEqDiff, Nat.reduceLT, Nat.reduceLeDiff, Int.reduceToNat, Int.reduceLE, Int.reduceLT, Int.toNat_natCast, reduceCtorEq, bA] <;> (first | with_reducible rfl | rfl)) | (refine aops_grd rfl (by simp only [avs] <;> rfl) (by rfl) ?_; first | refine grd_on ?_ | refine grd_off (by simp only [avs] <;> rfl) ?_))
 refine aops_nil ?_
 exact aw_ret ⟨_, rfl, [], by simp, rfl⟩
/-- a book whose own objects are az they were -/
theorem BookAt.keep {H H2 : AHeap} {Y : Lay} {B : Bk} (h : BookAt H Y B) (hs : ∀ (l : Nat) (o : AObj), H[l]? = some o → otherO o = false → H2[l]? = some o) : BookAt H2 Y B :=
 ⟨h.len, hs _ _ h.book rfl, h.ord.on fun a ha o ho => by
  refine hs _ _ ho ?_
  have h2 := h.ord
  rw [ha] at h2
  have h3 : H[a.1]? = some (.row 77 1 a.2 _) := h2
  rw [h3] at ho; cases ho; rfl, hs _ _ h.byId rfl, hs _ _ h.used rfl, fun i e x he hx => ⟨hs _ _ (h.ent i e x he hx).1 rfl, (h.ent i e x he hx).2.1.on fun a ha o ho => by
  refine hs _ _ ho ?_
  have h2 := (h.ent i e x he hx).2.1
  rw [ha] at h2
  have h3 : H[a.1]? = some (.row 77 1 a.2 _) := h2
  rw [h3] at ho; cases ho; rfl, (h.ent i e x he hx).2.2⟩, h.dbox, h.drow, h.dord⟩
theorem Book.keep {H H2 : AHeap} {Y : Lay} {B : Bk} (h : Book H Y B) (hs : ∀ (l : Nat) (o : AObj), H[l]? = some o → otherO o = false → H2[l]? = some o) : Book H2 Y B := ⟨h.toBookAt.keep hs, h.n1, h.n2, h.n3⟩
/-- rows of strings, numbers, truths -/
def sI (l : List ByteArray) : List (List AV) := l.map fun t => [.d (.v (.string t))]
def nI (l : List Int) : List (List AV) := l.map fun n => [iA n]
def bI (l : List Bool) : List (List AV) := l.map fun b => [bA b]
theorem sI_len (l : List ByteArray) : (sI l).length = l.length := List.length_map _
theorem nI_len (l : List Int) : (nI l).length = l.length := List.length_map _
theorem bI_len (l : List Bool) : (bI l).length = l.length := List.length_map _
theorem sI_get (l : List ByteArray) {i : Nat} (h : i < l.length) : (sI l).getD i [] = [.d (.v (.string l[i]))] := by simp [sI, List.getD, h]
theorem nI_get (l : List Int) {i : Nat} (h : i < l.length) : (nI l).getD i [] = [iA l[i]] := by simp [nI, List.getD, h]
theorem bI_get (l : List Bool) {i : Nat} (h : i < l.length) : (bI l).getD i [] = [bA l[i]] := by simp [bI, List.getD, h]
theorem sI_snoc (l : List ByteArray) (t : ByteArray) : sI l ++ [[.d (.v (.string t))]] = sI (l ++ [t]) := by simp [sI]
theorem nI_snoc (l : List Int) (t : Int) : nI l ++ [[iA t]] = nI (l ++ [t]) := by simp [nI]
theorem bI_set (l : List Bool) (i : Nat) (b : Bool) : (bI l).set i [bA b] = bI (l.set i b) := by simp [bI, List.map_set]
end Av
end Go.Proofs.YtnkepmfgmfeabaaGreatDoor
set_option linter.unusedVariables false
set_option linter.unusedSimpArgs false
namespace Go.Proofs.YtnkepmfgmfeabaaGreatDoor
open Go Go.RowKit
namespace Av
attribute [local irreducible] AW AOps AHOps
attribute [local irreducible] messT sigT pubT verT

/-! Law Revokes, its end: what is revoked is reckoned again. -/
def goneI (B : Bk) (i : Nat) : List Bool := (B.ents.take i).map (·.rev) ++ List.replicate (B.ents.length - i) false
theorem goneI_len (B : Bk) {i : Nat} (h : i ≤ B.ents.length) : (goneI B i).length = B.ents.length := by
 unfold goneI; simp; omega
theorem goneI_at (B : Bk) {i : Nat} (h : i < B.ents.length) : (goneI B i).set i false = goneI B i := by
 apply List.ext_getElem?
 intro j
 by_cases e : i = j
 ·subst e
  rw [List.getElem?_set_self (by rw [goneI_len B (by omega)]; exact h)]
  unfold goneI
  rw [List.getElem?_append_right (by simp; omega)]
  rw [List.getElem?_replicate, if_pos (by simp; omega)]
 ·rw [List.getElem?_set_ne e]
theorem goneI_succ (B : Bk) {i : Nat} {x : Ent} (h : B.ents[i]? = some x) : (goneI B i).set i x.rev = goneI B (i + 1) := by
 have hi := (List.getElem?_eq_some_iff.1 h).1
 unfold goneI
 rw [List.take_add_one, h, show B.ents.length - i = (B.ents.length - (i + 1)) + 1 by omega, List.replicate_succ]
 simp [List.set_append, Nat.min_eq_left (Nat.le_of_lt hi)]
theorem goneI_get (B : Bk) {i j : Nat} {z : Ent} (hz : B.ents[j]? = some z) (h : j < i) (b : Bool) (hi : i < B.ents.length) (hl : j < ((goneI B i).set i b).length) : ((goneI B i).set i b)[j] = z.rev := by
 have h1 : ((goneI B i).set i b)[j]? = some z.rev := by
  rw [List.getElem?_set_ne (by omega)]
  unfold goneI
  rw [List.getElem?_append_left (by have := (List.getElem?_eq_some_iff.1 hz).1; simp; omega)]
  simp [h, hz]
 rw [List.getElem?_eq_getElem hl] at h1
 exact Option.some.inj h1
theorem bI_set' (l : List Bool) (i : Nat) (b : Bool) : (bI l).set i [.d (.v (.bool b))] = bI (l.set i b) := bI_set l i b
def markedB (B : Bk) (id : ByteArray) : Bool := match findB B id with
 | some j => match B.ents[j]? with
  | some z => z.rev
  | none => false
 | none => false
theorem markedB_iff {B : Bk} {rv : List ByteArray} (g : Good B rv) {i : Nat} {x : Ent} (hx : B.ents[i]? = some x) : x.rev = (rv.any (fun t => decide (t = x.st.id)) || x.st.inputs.any fun y => markedB B y.1) := by
 have h := g.rev i x hx
 rw [Bool.eq_iff_iff, h]
 simp only [Bool.or_eq_true, List.any_eq_true, decide_eq_true_eq]
 refine or_congr ⟨fun h => ⟨_, h, rfl⟩, fun ⟨t, h1, h2⟩ => h2 ▸ h1⟩ ⟨fun ⟨y, hy, j, h1, z, h2, h3⟩ => ⟨y, hy, ?_⟩, fun ⟨y, hy, h1⟩ => ⟨y, hy, ?_⟩⟩
 ·unfold markedB; rw [h1]; simp only; rw [h2]; exact h3
 ·unfold markedB at h1
  split at h1
  ·rename_i j hj
   split at h1
   ·rename_i z hz; exact ⟨j, hj, z, hz, h1⟩
   ·cases h1
  ·cases h1
theorem usesR_at {B : Bk} {rv : List ByteArray} (g : Good B rv) {i : Nat} {x : Ent} (hx : B.ents[i]? = some x) : usesR B x.st.id = if x.rev then (nilS, 12) else (.d (strsP x.st.uses), 0) := by
 unfold usesR; rw [g.uniq i x hx]; simp only; rw [hx]
theorem stL_get {E : List Ent} {i : Nat} {x : Ent} (h : E[i]? = some x) : (stL E).getD i [] = stmC x.st := by simp [stL, List.getD, h]
theorem stL_len (E : List Ent) : (stL E).length = E.length := List.length_map _
theorem stL_take (E : List Ent) (i : Nat) : ((stL E).drop 0).take (i - 0) = (((E.map (·.st)).take i).map stmC) := by simp [stL, List.map_take, Function.comp_def]
theorem take_any {α : Type} (p : α → Bool) {l : List α} {k : Nat} {x : α} (h : l[k]? = some x) : (l.take (k + 1)).any p = ((l.take k).any p || p x) := by
 rw [List.take_add_one, h]; simp
set_option maxRecDepth 100000 in
set_option maxHeartbeats 8000000 in
theorem rev_end {base : World} {N : Nat} {H : AHeap} {Y : Lay} {B : Bk} {rv : List ByteArray} {is : ByteArray} {l : List Step29} {lv : Nat} (hB : Book H Y B) (g : Good B rv) (hb8 : Bnd B 8) (hrv : H[lv]? = some (.row 9 1 0 (sI rv))) (hrl : rv.length ≤ 8) :
  (Tryz.f4.body.bind (restC 7)).elim False fun c => AW ⟨Tryz.prog, tt, base, N⟩ c (retA tt [.tmp 4] fun r H' => r = bA true)
   (.d (.v (.string is)) :: .d (stepsP l) :: .undef :: .undef :: .undef :: bA true :: .ptr Y.bl 0 :: .undef :: .ms lv 0 rv.length :: List.replicate 239 .undef) H := by
 show AW _ _ _ _ _
 simp only [List.replicate, bA, stepsP]
 have hn := hb8.n
 have hlv := lt_of_get hrv
 repeat refine aw_seq ?_
 refine aw_region ttOk (by kernel_rfl) ?_
 repeat (refine aops_cons ?_; first | (apply aops_o; rfl; simp only [estep, avs, tts, Nat.reduceAdd, Nat.reduceMul, Nat.reduceSub, Nat.reduceEqDiff, Nat.reduceLT, Nat.reduceLeDiff, Int.reduceToNat, Int.reduceLE, Int.reduceLT, Int.toNat_natCast, reduceCtorEq] <;> (first | with_reducible rfl | rfl)) | (refine aops_grd rfl (by simp only [avs] <;> rfl) (by rfl) ?_; first | refine grd_on ?_ | refine grd_off (by simp only [avs] <;> rfl) ?_))
 refine aops_read rfl (by simp only [avs] <;> rfl) (listb_a hB (by omega)) (by simp only [avs] <;> rfl) ?_
 repeat (refine aops_cons ?_; first | (apply aops_o; rfl; simp only [estep, avs, tts, Nat.reduceAdd, Nat.reduceMul, Nat.reduceSub, Nat.reduceEqDiff, Nat.reduceLT, Nat.reduceLeDiff, Int.reduceToNat, Int.reduceLE, Int.reduceLT, Int.toNat_natCast, reduceCtorEq, stepsP] <;> (first | with_reducible rfl | rfl)) | (refine aops_grd rfl (by simp only [avs] <;> rfl) (by rfl) ?_; first | refine grd_on ?_ | refine grd_off (by simp only [avs] <;> rfl) ?_))
 refine aops_nil ?_
 have hE : ∀ i x, B.ents[i]? = some x → (stL B.ents).getD i [] = stmC x.st := fun i x h => stL_get h
 have hEl : (stL B.ents).length = B.ents.length := stL_len _
 have c1 : (0 : Int) ≤ (B.ents.length : Int) := by omega
 have c2 : (B.ents.length : Int) ≤ 9223372036854775807 := by omega
 have c3 : ((1 : Nat) : Int) * (B.ents.length : Int) ≤ 281474976710656 := by omega
 repeat refine aw_seq ?_
 refine aw_region ttOk (by kernel_rfl) ?_
 repeat (refine aops_cons ?_; first | (apply aops_o; rfl; simp only [estep, avs, tts, Nat.reduceAdd, Nat.reduceMul, Nat.reduceSub, Nat.reduceEqDiff, Nat.reduceLT, Nat.reduceLeDiff, Int.reduceToNat, Int.reduceLE, Int.reduceLT, Int.toNat_natCast, reduceCtorEq, stepsP, hEl, c1, c2, c3, Int.le_refl] <;> (first | with_reducible rfl | rfl)) | (refine aops_grd rfl (by simp only [avs] <;> rfl) (by rfl) ?_; first | refine grd_on ?_ | refine grd_off (by simp only [avs] <;> rfl) ?_))
 refine aops_nil ?_
 repeat refine aw_seq ?_
 refine aw_region ttOk (by kernel_rfl) ?_
 repeat (refine aops_cons ?_; first | (apply aops_o; rfl; simp only [estep, avs, tts, Nat.reduceAdd, Nat.reduceMul, Nat.reduceSub, Nat.reduceEqDiff, Nat.reduceLT, Nat.reduceLeDiff, Int.reduceToNat, Int.reduceLE, Int.reduceLT, Int.toNat_natCast, reduceCtorEq] <;> (first | with_reducible rfl | rfl)) | (refine aops_grd rfl (by simp only [avs] <;> rfl) (by rfl) ?_; first | refine grd_on ?_ | refine grd_off (by simp only [avs] <;> rfl) ?_))
 refine aops_nil ?_
 have hgl0 : (H ++ [AObj.row 4 1 0 (List.replicate B.ents.length [AV.d (.v (.bool false))])])[H.length]? = some (.row 4 1 0 (bI (goneI B 0))) := by
  rw [H_get0]; simp [goneI, bI, bA]
 refine aw_block (aw_loop (fun n env H' => ∃ i, n = B.ents.length - i ∧ i ≤ B.ents.length ∧ H' = H ++ [.row 4 1 0 (bI (goneI B i))] ∧ env = .d (.v (.string is)) :: .d (stepsP l) :: .undef :: .undef :: .undef :: bA true :: .ptr Y.bl 0 :: .undef :: .ms lv 0 rv.length :: List.replicate 11 .undef ++ .d (.sl 9 (stL B.ents)) :: .ms H.length 0 B.ents.length :: iA i :: List.replicate 225 .undef) ?_ ⟨0, rfl, Nat.zero_le _, rfl, rfl⟩ ?_)
 ·refine ⟨by simp [EnvLe, List.replicate, iA, bA, stepsP], .inl ?_⟩
  simp [goneI, bI, bA]
 clear hgl0
 rintro n env H' ⟨i, rfl, hi, rfl, rfl⟩ hN
 simp only [List.replicate, iA, bA, stepsP, List.cons_append, List.nil_append]
 repeat refine aw_seq ?_
 refine aw_region ttOk (by kernel_rfl) ?_
 repeat (refine aops_cons ?_; first | (apply aops_o; rfl; simp only [estep, avs, tts, Nat.reduceAdd, Nat.reduceMul, Nat.reduceSub, Nat.reduceEqDiff, Nat.reduceLT, Nat.reduceLeDiff, Int.reduceToNat, Int.reduceLE, Int.reduceLT, Int.toNat_natCast, reduceCtorEq, hEl] <;> (first | with_reducible rfl | rfl)) | (refine aops_grd rfl (by simp only [avs] <;> rfl) (by rfl) ?_; first | refine grd_on ?_ | refine grd_off (by simp only [avs] <;> rfl) ?_))
 refine aops_nil ?_
 repeat refine aw_seq ?_
 refine aw_cond rfl rfl (fun hb => ?_) fun hb => ?_
 rotate_left
 ·refine aw_exit ?_
  repeat refine aw_seq ?_
  refine aw_region ttOk (by kernel_rfl) ?_
  repeat (refine aops_cons ?_; first | (apply aops_o; rfl; simp only [estep, avs, tts, Nat.reduceAdd, Nat.reduceMul, Nat.reduceSub, Nat.reduceEqDiff, Nat.reduceLT, Nat.reduceLeDiff, Int.reduceToNat, Int.reduceLE, Int.reduceLT, Int.toNat_natCast, reduceCtorEq] <;> (first | with_reducible rfl | rfl)) | (refine aops_grd rfl (by simp only [avs] <;> rfl) (by rfl) ?_; first | refine grd_on ?_ | refine grd_off (by simp only [avs] <;> rfl) ?_))
  refine aops_nil ?_
  exact aw_ret ⟨_, rfl, rfl⟩
 have hlt : i < B.ents.length := by simpa using hb
 have hix : (0 : Int) ≤ (i : Int) := by omega
 obtain ⟨x, hx⟩ : ∃ x, B.ents[i]? = some x := ⟨_, List.getElem?_eq_getElem hlt⟩
 have hEx := hE i x hx
 have hg0 : (bI (goneI B i)).length = B.ents.length := by rw [bI_len, goneI_len B hi]
 have hI := hb8.i x (List.mem_of_getElem? hx)
 refine aw_skip ?_
 repeat refine aw_seq ?_
 refine aw_block ?_
 repeat refine aw_seq ?_
 refine aw_region ttOk (by kernel_rfl) ?_
 repeat (refine aops_cons ?_; first | (apply aops_o; rfl; simp only [estep, avs, tts, Nat.reduceAdd, Nat.reduceMul, Nat.reduceSub, Nat.reduceEqDiff, Nat.reduceLT, Nat.reduceLeDiff, Int.reduceToNat, Int.reduceLE, Int.reduceLT, Int.toNat_natCast, reduceCtorEq] <;> (first | with_reducible rfl | rfl)) | (refine aops_grd rfl (by simp only [avs] <;> rfl) (by rfl) ?_; first | refine grd_on ?_ | refine grd_off (by simp only [avs] <;> rfl) ?_))
 refine aops_nil ?_
 -- which were revoked themselves
 refine aw_mid (env0 := .d (.v (.string is)) :: .d (stepsP l) :: .undef :: .undef :: .undef :: bA true :: .ptr Y.bl 0 :: .undef :: .ms lv 0 rv.length :: List.replicate 11 .undef ++ .d (.sl 9 (stL B.ents)) :: .ms H.length 0 B.ents.length :: iA i :: List.replicate 225 .undef) (H0 := H ++ [.row 4 1 0 (bI ((goneI B i).set i (rv.any fun t => decide (t = x.st.id))))]) ?_ ?_
 ·refine aw_block (aw_loop (fun n env H' => ∃ k, n = rv.length - k ∧ k ≤ rv.length ∧ H' = H ++ [.row 4 1 0 (bI ((goneI B i).set i ((rv.take k).any fun t => decide (t = x.st.id))))] ∧ env = .d (.v (.string is)) :: .d (stepsP l) :: .undef :: .undef :: .undef :: bA true :: .ptr Y.bl 0 :: .undef :: .ms lv 0 rv.length :: List.replicate 11 .undef ++ .d (.sl 9 (stL B.ents)) :: .ms H.length 0 B.ents.length :: iA i :: iA k :: List.replicate 224 .undef) ?_ ⟨0, rfl, Nat.zero_le _, rfl, rfl⟩ ?_)
  ·refine ⟨by simp [EnvLe, List.replicate, iA, bA, stepsP], .inl ?_⟩
   simp [goneI_at B hlt]
  rintro n env H' ⟨k, rfl, hk, rfl, rfl⟩ hN
  simp only [List.replicate, iA, bA, stepsP, List.cons_append, List.nil_append]
  have hrv' := got hrv
  have hsl := sI_len rv
  repeat refine aw_seq ?_
  refine aw_region ttOk (by kernel_rfl) ?_
  repeat (refine aops_cons ?_; first | (apply aops_o; rfl; simp only [estep, avs, tts, Nat.reduceAdd, Nat.reduceMul, Nat.reduceSub, Nat.reduceEqDiff, Nat.reduceLT, Nat.reduceLeDiff, Int.reduceToNat, Int.reduceLE, Int.reduceLT, Int.toNat_natCast, reduceCtorEq, hrv', hsl] <;> (first | with_reducible rfl | rfl)) | (refine aops_grd rfl (by simp only [avs] <;> rfl) (by rfl) ?_; first | refine grd_on ?_ | refine grd_off (by simp only [avs] <;> rfl) ?_))
  refine aops_nil ?_
  repeat refine aw_seq ?_
  refine aw_cond rfl rfl (fun hb => ?_) fun hb => ?_
  ·have hkl : k < rv.length := by simpa using hb
   have hkx : (0 : Int) ≤ (k : Int) := by omega
   have hsg := sI_get rv hkl
   have hkg : rv[k]? = some rv[k] := List.getElem?_eq_getElem hkl
   have hta := take_any (fun t => decide (t = x.st.id)) hkg
   generalize rv[k] = t at *
   generalize hbe : (rv.take k).any (fun t => decide (t = x.st.id)) = b at *
   have hgi : (bI ((goneI B i).set i b)).getD i [] = [.d (.v (.bool b))] := by rw [bI_get _ (by rw [List.length_set, goneI_len B hi]; exact hlt)]; simp [bA]
   have hgl : (bI ((goneI B i).set i b)).length = B.ents.length := by rw [bI_len, List.length_set, goneI_len B hi]
   refine aw_skip ?_
   repeat refine aw_seq ?_
   refine aw_block ?_
   cases b with
   | true =>
    repeat refine aw_seq ?_
    refine aw_draw 19 ttOk mixed (by kernel_rfl) (by kernel_rfl) (by kernel_rfl) ?_
    repeat (refine ahops_cons ?_; first | (apply ahops_o; rfl; simp only [hstep, avs, tts, Nat.reduceAdd, Nat.reduceMul, Nat.reduceSub, Nat.reduceEqDiff, Nat.reduceLT, Nat.reduceLeDiff, Int.reduceToNat, Int.reduceLE, Int.reduceLT, Int.toNat_natCast, reduceCtorEq, hrv', hsl, hsg, hkl, hkx, hgi, hgl, hlt, hix, hEl, hEx, stmC] <;> (first | with_reducible rfl | rfl); first | trivial | omega) | (refine ahops_grd rfl (by simp only [avs] <;> rfl) (by rfl) ?_; first | refine hgrd_on ?_ | refine hgrd_off (by simp only [avs] <;> rfl) ?_))
    refine ahops_nil ?_
    repeat (refine aops_cons ?_; first | (apply aops_o; rfl; simp only [estep, avs, tts, Nat.reduceAdd, Nat.reduceMul, Nat.reduceSub, Nat.reduceEqDiff, Nat.reduceLT, Nat.reduceLeDiff, Int.reduceToNat, Int.reduceLE, Int.reduceLT, Int.toNat_natCast, reduceCtorEq, hrv', hsl, hsg, hkl, hkx, hgi, hgl, hlt, hix, hEl, hEx, stmC] <;> (first | with_reducible rfl | rfl)) | (refine aops_grd rfl (by simp only [avs] <;> rfl) (by rfl) ?_; first | refine grd_on ?_ | refine grd_off (by simp only [avs] <;> rfl) ?_))
    refine aops_nil ?_
    repeat refine aw_seq ?_
    refine aw_region ttOk (by kernel_rfl) ?_
    repeat (refine aops_cons ?_; first | (apply aops_o; rfl; simp only [estep, avs, tts, Nat.reduceAdd, Nat.reduceMul, Nat.reduceSub, Nat.reduceEqDiff, Nat.reduceLT, Nat.reduceLeDiff, Int.reduceToNat, Int.reduceLE, Int.reduceLT, Int.toNat_natCast, reduceCtorEq, wrap_succ hkl (by omega : rv.length ≤ 9223372036854775807)] <;> (first | with_reducible rfl | rfl)) | (refine aops_grd rfl (by simp only [avs] <;> rfl) (by rfl) ?_; first | refine grd_on ?_ | refine grd_off (by simp only [avs] <;> rfl) ?_))
    refine aops_nil ?_
    refine ⟨rv.length - (k + 1), _, _, by omega, ⟨?_, .inl ?_⟩, k + 1, rfl, hkl, rfl, rfl⟩
    ·simp [EnvLe, List.replicate, iA, bA, stepsP]
    ·rw [hta]; simp [bI_set', splice]
   | false =>
    repeat refine aw_seq ?_
    refine aw_draw 19 ttOk mixed (by kernel_rfl) (by kernel_rfl) (by kernel_rfl) ?_
    repeat (refine ahops_cons ?_; first | (apply ahops_o; rfl; simp only [hstep, avs, tts, Nat.reduceAdd, Nat.reduceMul, Nat.reduceSub, Nat.reduceEqDiff, Nat.reduceLT, Nat.reduceLeDiff, Int.reduceToNat, Int.reduceLE, Int.reduceLT, Int.toNat_natCast, reduceCtorEq, hrv', hsl, hsg, hkl, hkx, hgi, hgl, hlt, hix, hEl, hEx, stmC] <;> (first | with_reducible rfl | rfl); first | trivial | omega) | (refine ahops_grd rfl (by simp only [avs] <;> rfl) (by rfl) ?_; first | refine hgrd_on ?_ | refine hgrd_off (by simp only [avs] <;> rfl) ?_))
    refine ahops_nil ?_
    repeat (refine aops_cons ?_; first | (apply aops_o; rfl; simp only [estep, avs, tts, Nat.reduceAdd, Nat.reduceMul, Nat.reduceSub, Nat.reduceEqDiff, Nat.reduceLT, Nat.reduceLeDiff, Int.reduceToNat, Int.reduceLE, Int.reduceLT, Int.toNat_natCast, reduceCtorEq, hrv', hsl, hsg, hkl, hkx, hgi, hgl, hlt, hix, hEl, hEx, stmC] <;> (first | with_reducible rfl | rfl)) | (refine aops_grd rfl (by simp only [avs] <;> rfl) (by rfl) ?_; first | refine grd_on ?_ | refine grd_off (by simp only [avs] <;> rfl) ?_))
    refine aops_nil ?_
    repeat refine aw_seq ?_
    refine aw_region ttOk (by kernel_rfl) ?_
    repeat (refine aops_cons ?_; first | (apply aops_o; rfl; simp only [estep, avs, tts, Nat.reduceAdd, Nat.reduceMul, Nat.reduceSub, Nat.reduceEqDiff, Nat.reduceLT, Nat.reduceLeDiff, Int.reduceToNat, Int.reduceLE, Int.reduceLT, Int.toNat_natCast, reduceCtorEq, wrap_succ hkl (by omega : rv.length ≤ 9223372036854775807)] <;> (first | with_reducible rfl | rfl)) | (refine aops_grd rfl (by simp only [avs] <;> rfl) (by rfl) ?_; first | refine grd_on ?_ | refine grd_off (by simp only [avs] <;> rfl) ?_))
    refine aops_nil ?_
    refine ⟨rv.length - (k + 1), _, _, by omega, ⟨?_, .inl ?_⟩, k + 1, rfl, hkl, rfl, rfl⟩
    ·simp [EnvLe, List.replicate, iA, bA, stepsP]
    ·rw [hta]; simp [bI_set', splice]
  ·refine aw_exit ?_
   have hkl : k = rv.length := by simp at hb; omega
   rw [hkl, List.take_length]
   exact ⟨rfl, by simp [EnvLe, List.replicate, iA, bA, stepsP], .inl rfl⟩
 simp only [List.replicate, iA, bA, stepsP, List.cons_append, List.nil_append]
 generalize hr0 : rv.any (fun t => decide (t = x.st.id)) = r0 at *
 repeat refine aw_seq ?_
 refine aw_region ttOk (by kernel_rfl) ?_
 repeat (refine aops_cons ?_; first | (apply aops_o; rfl; simp only [estep, avs, tts, Nat.reduceAdd, Nat.reduceMul, Nat.reduceSub, Nat.reduceEqDiff, Nat.reduceLT, Nat.reduceLeDiff, Int.reduceToNat, Int.reduceLE, Int.reduceLT, Int.toNat_natCast, reduceCtorEq] <;> (first | with_reducible rfl | rfl)) | (refine aops_grd rfl (by simp only [avs] <;> rfl) (by rfl) ?_; first | refine grd_on ?_ | refine grd_off (by simp only [avs] <;> rfl) ?_))
 refine aops_nil ?_
 refine aw_mid (env0 := .d (.v (.string is)) :: .d (stepsP l) :: .undef :: .undef :: .undef :: bA true :: .ptr Y.bl 0 :: .undef :: .ms lv 0 rv.length :: List.replicate 11 .undef ++ .d (.sl 9 (stL B.ents)) :: .ms H.length 0 B.ents.length :: iA i :: List.replicate 225 .undef) (H0 := H ++ [.row 4 1 0 (bI ((goneI B i).set i x.rev))]) ?_ ?_
 ·refine aw_block (aw_loop (fun n env H' => ∃ k, n = x.st.inputs.length - k ∧ k ≤ x.st.inputs.length ∧ H' = H ++ [.row 4 1 0 (bI ((goneI B i).set i (r0 || (x.st.inputs.take k).any fun y => markedB B y.1)))] ∧ env = .d (.v (.string is)) :: .d (stepsP l) :: .undef :: .undef :: .undef :: bA true :: .ptr Y.bl 0 :: .undef :: .ms lv 0 rv.length :: List.replicate 11 .undef ++ .d (.sl 9 (stL B.ents)) :: .ms H.length 0 B.ents.length :: iA i :: .undef :: iA k :: List.replicate 223 .undef) ?_ ⟨0, rfl, Nat.zero_le _, rfl, rfl⟩ ?_)
  ·refine ⟨by simp [EnvLe, List.replicate, iA, bA, stepsP], .inl ?_⟩
   simp
  rintro n env H' ⟨k, rfl, hk, rfl, rfl⟩ hN
  simp only [List.replicate, iA, bA, stepsP, List.cons_append, List.nil_append]
  repeat refine aw_seq ?_
  refine aw_region ttOk (by kernel_rfl) ?_
  repeat (refine aops_cons ?_; first | (apply aops_o; rfl; simp only [estep, avs, tts, Nat.reduceAdd, Nat.reduceMul, Nat.reduceSub, Nat.reduceEqDiff, Nat.reduceLT, Nat.reduceLeDiff, Int.reduceToNat, Int.reduceLE, Int.reduceLT, Int.toNat_natCast, reduceCtorEq, hlt, hix, hEl, hEx, stmC, inpsP] <;> (first | with_reducible rfl | rfl)) | (refine aops_grd rfl (by simp only [avs] <;> rfl) (by rfl) ?_; first | refine grd_on ?_ | refine grd_off (by simp only [avs] <;> rfl) ?_))
  refine aops_nil ?_
  repeat refine aw_seq ?_
  refine aw_cond rfl rfl (fun hb => ?_) fun hb => ?_
  ·have hkl : k < x.st.inputs.length := by simpa using hb
   have hkx : (0 : Int) ≤ (k : Int) := by omega
   have hkg : x.st.inputs[k]? = some x.st.inputs[k] := List.getElem?_eq_getElem hkl
   have hta := take_any (fun y => markedB B y.1) hkg
   have hgd : (x.st.inputs.map fun x => [PD.v (.string x.1), PD.v (.int .i64 x.2)]).getD k [] = [.v (.string x.st.inputs[k].1), .v (.int .i64 x.st.inputs[k].2)] := by simp [hkl]
   have hym := List.getElem_mem hkl
   generalize x.st.inputs[k] = y at *
   obtain ⟨j, hj1, hj2, hj3⟩ := place_good g hx hym
   obtain ⟨z, hz, _⟩ := findB_some hj1
   have hmy : markedB B y.1 = z.rev := by unfold markedB; rw [hj1]; simp only; rw [hz]
   have cp := place_a base ((B.ents.map (·.st)).take i) y.1
   rw [hj3, ← stL_take] at cp
   generalize hbe : (r0 || (x.st.inputs.take k).any fun y => markedB B y.1) = b at *
   have hgi : (bI ((goneI B i).set i b)).getD i [] = [.d (.v (.bool b))] := by rw [bI_get _ (by rw [List.length_set, goneI_len B hi]; exact hlt)]; simp [bA]
   have hgj : (bI ((goneI B i).set i b)).getD j [] = [.d (.v (.bool z.rev))] := by rw [bI_get _ (by rw [List.length_set, goneI_len B hi]; omega), goneI_get B hz hj2 b hlt]; rfl
   have hgl : (bI ((goneI B i).set i b)).length = B.ents.length := by rw [bI_len, List.length_set, goneI_len B hi]
   have hjx : (0 : Int) ≤ (j : Int) := by omega
   have hjl : j < B.ents.length := by omega
   have hge : decide ((j : Int) ≥ 0) = true := by simp
   have hfin : (r0 || (x.st.inputs.take (k + 1)).any fun y => markedB B y.1) = (b || z.rev) := by rw [hta, ← Bool.or_assoc, hbe, hmy]
   refine aw_skip ?_
   repeat refine aw_seq ?_
   refine aw_block ?_
   repeat refine aw_seq ?_
   refine aw_draw 14 ttOk mixed (by kernel_rfl) (by kernel_rfl) (by kernel_rfl) ?_
   repeat (refine ahops_cons ?_; first | (apply ahops_o; rfl; simp only [hstep, avs, tts, Nat.reduceAdd, Nat.reduceMul, Nat.reduceSub, Nat.reduceEqDiff, Nat.reduceLT, Nat.reduceLeDiff, Int.reduceToNat, Int.reduceLE, Int.reduceLT, Int.toNat_natCast, reduceCtorEq, hlt, hix, hi, Nat.zero_le, hEl, hEx, stmC, inpsP, hgd, hkl, hkx] <;> (first | with_reducible rfl | rfl); first | trivial | omega) | (refine ahops_grd rfl (by simp only [avs] <;> rfl) (by rfl) ?_; first | refine hgrd_on ?_ | refine hgrd_off (by simp only [avs] <;> rfl) ?_))
   refine ahops_pure rfl (by simp only [avs] <;> rfl) (cp) trivial (by simp only [avs] <;> rfl) ?_
   repeat (refine ahops_cons ?_; first | (apply ahops_o; rfl; simp only [hstep, avs, tts, Nat.reduceAdd, Nat.reduceMul, Nat.reduceSub, Nat.reduceEqDiff, Nat.reduceLT, Nat.reduceLeDiff, Int.reduceToNat, Int.reduceLE, Int.reduceLT, Int.toNat_natCast, reduceCtorEq, hlt, hix, hi, Nat.zero_le, hEl, hEx, stmC, inpsP, hgd, hkl, hkx] <;> (first | with_reducible rfl | rfl); first | trivial | omega) | (refine ahops_grd rfl (by simp only [avs] <;> rfl) (by rfl) ?_; first | refine hgrd_on ?_ | refine hgrd_off (by simp only [avs] <;> rfl) ?_))
   refine ahops_nil ?_
   repeat (refine aops_cons ?_; first | (apply aops_o; rfl; simp only [estep, avs, tts, Nat.reduceAdd, Nat.reduceMul, Nat.reduceSub, Nat.reduceEqDiff, Nat.reduceLT, Nat.reduceLeDiff, Int.reduceToNat, Int.reduceLE, Int.reduceLT, Int.toNat_natCast, reduceCtorEq] <;> (first | with_reducible rfl | rfl)) | (refine aops_grd rfl (by simp only [avs] <;> rfl) (by rfl) ?_; first | refine grd_on ?_ | refine grd_off (by simp only [avs] <;> rfl) ?_))
   refine aops_nil ?_
   cases b with
   | true =>
    repeat refine aw_seq ?_
    refine aw_region ttOk (by kernel_rfl) ?_
    repeat (refine aops_cons ?_; first | (apply aops_o; rfl; simp only [estep, avs, tts, Nat.reduceAdd, Nat.reduceMul, Nat.reduceSub, Nat.reduceEqDiff, Nat.reduceLT, Nat.reduceLeDiff, Int.reduceToNat, Int.reduceLE, Int.reduceLT, Int.toNat_natCast, reduceCtorEq, hgi, hgj, hgl, hlt, hix, hjx, hjl, hge] <;> (first | with_reducible rfl | rfl)) | (refine aops_grd rfl (by simp only [avs] <;> rfl) (by rfl) ?_; first | refine grd_on ?_ | refine grd_off (by simp only [avs] <;> rfl) ?_))
    refine aops_nil ?_
    repeat refine aw_seq ?_
    refine aw_region ttOk (by kernel_rfl) ?_
    repeat (refine aops_cons ?_; first | (apply aops_o; rfl; simp only [estep, avs, tts, Nat.reduceAdd, Nat.reduceMul, Nat.reduceSub, Nat.reduceEqDiff, Nat.reduceLT, Nat.reduceLeDiff, Int.reduceToNat, Int.reduceLE, Int.reduceLT, Int.toNat_natCast, reduceCtorEq, wrap_succ hkl (by omega : x.st.inputs.length ≤ 9223372036854775807)] <;> (first | with_reducible rfl | rfl)) | (refine aops_grd rfl (by simp only [avs] <;> rfl) (by rfl) ?_; first | refine grd_on ?_ | refine grd_off (by simp only [avs] <;> rfl) ?_))
    refine aops_nil ?_
    refine ⟨x.st.inputs.length - (k + 1), _, _, by omega, ⟨?_, .inl ?_⟩, k + 1, rfl, hkl, rfl, rfl⟩
    ·simp [EnvLe, List.replicate, iA, bA, stepsP]
    ·rw [hfin]; simp [bI_set', splice]
   | false =>
    repeat refine aw_seq ?_
    refine aw_region ttOk (by kernel_rfl) ?_
    repeat (refine aops_cons ?_; first | (apply aops_o; rfl; simp only [estep, avs, tts, Nat.reduceAdd, Nat.reduceMul, Nat.reduceSub, Nat.reduceEqDiff, Nat.reduceLT, Nat.reduceLeDiff, Int.reduceToNat, Int.reduceLE, Int.reduceLT, Int.toNat_natCast, reduceCtorEq, hgi, hgj, hgl, hlt, hix, hjx, hjl, hge] <;> (first | with_reducible rfl | rfl)) | (refine aops_grd rfl (by simp only [avs] <;> rfl) (by rfl) ?_; first | refine grd_on ?_ | refine grd_off (by simp only [avs] <;> rfl) ?_))
    refine aops_nil ?_
    repeat refine aw_seq ?_
    refine aw_region ttOk (by kernel_rfl) ?_
    repeat (refine aops_cons ?_; first | (apply aops_o; rfl; simp only [estep, avs, tts, Nat.reduceAdd, Nat.reduceMul, Nat.reduceSub, Nat.reduceEqDiff, Nat.reduceLT, Nat.reduceLeDiff, Int.reduceToNat, Int.reduceLE, Int.reduceLT, Int.toNat_natCast, reduceCtorEq, wrap_succ hkl (by omega : x.st.inputs.length ≤ 9223372036854775807)] <;> (first | with_reducible rfl | rfl)) | (refine aops_grd rfl (by simp only [avs] <;> rfl) (by rfl) ?_; first | refine grd_on ?_ | refine grd_off (by simp only [avs] <;> rfl) ?_))
    refine aops_nil ?_
    refine ⟨x.st.inputs.length - (k + 1), _, _, by omega, ⟨?_, .inl ?_⟩, k + 1, rfl, hkl, rfl, rfl⟩
    ·simp [EnvLe, List.replicate, iA, bA, stepsP]
    ·rw [hfin]; simp [bI_set', splice]
  ·refine aw_exit ?_
   have hkl : k = x.st.inputs.length := by simp at hb; omega
   rw [hkl, List.take_length, ← hr0, ← markedB_iff g hx]
   exact ⟨rfl, by simp [EnvLe, List.replicate, iA, bA, stepsP], .inl rfl⟩
 simp only [List.replicate, iA, bA, stepsP, List.cons_append, List.nil_append]
 have hgi : (bI ((goneI B i).set i x.rev)).getD i [] = [.d (.v (.bool x.rev))] := by rw [bI_get _ (by rw [List.length_set, goneI_len B hi]; exact hlt)]; simp [bA]
 have hgl : (bI ((goneI B i).set i x.rev)).length = B.ents.length := by rw [bI_len, List.length_set, goneI_len B hi]
 have hsu := goneI_succ B hx
 have cu := uses_a (base := base) (hB.app [.row 4 1 0 (bI ((goneI B i).set i x.rev))]) (fun y hy => by have := hb8.u y hy; omega) x.st.id
 rw [usesR_at g hx] at cu
 cases hr : x.rev with
 | true =>
  rw [hr] at hgi hgl cu hsu
  simp only [if_true, Bool.false_eq_true, if_false, nilS, iA] at cu
  repeat refine aw_seq ?_
  refine aw_region ttOk (by kernel_rfl) ?_
  repeat (refine aops_cons ?_; first | (apply aops_o; rfl; simp only [estep, avs, tts, Nat.reduceAdd, Nat.reduceMul, Nat.reduceSub, Nat.reduceEqDiff, Nat.reduceLT, Nat.reduceLeDiff, Int.reduceToNat, Int.reduceLE, Int.reduceLT, Int.toNat_natCast, reduceCtorEq, hlt, hix, hEl, hEx, stmC] <;> (first | with_reducible rfl | rfl)) | (refine aops_grd rfl (by simp only [avs] <;> rfl) (by rfl) ?_; first | refine grd_on ?_ | refine grd_off (by simp only [avs] <;> rfl) ?_))
  refine aops_read rfl (by simp only [avs] <;> rfl) (cu) (by simp only [avs] <;> rfl) ?_
  repeat (refine aops_cons ?_; first | (apply aops_o; rfl; simp only [estep, avs, tts, Nat.reduceAdd, Nat.reduceMul, Nat.reduceSub, Nat.reduceEqDiff, Nat.reduceLT, Nat.reduceLeDiff, Int.reduceToNat, Int.reduceLE, Int.reduceLT, Int.toNat_natCast, reduceCtorEq, hlt, hix, hEl, hEx, stmC] <;> (first | with_reducible rfl | rfl)) | (refine aops_grd rfl (by simp only [avs] <;> rfl) (by rfl) ?_; first | refine grd_on ?_ | refine grd_off (by simp only [avs] <;> rfl) ?_))
  refine aops_nil ?_
  repeat refine aw_seq ?_
  refine aw_region ttOk (by kernel_rfl) ?_
  repeat (refine aops_cons ?_; first | (apply aops_o; rfl; simp only [estep, avs, tts, Nat.reduceAdd, Nat.reduceMul, Nat.reduceSub, Nat.reduceEqDiff, Nat.reduceLT, Nat.reduceLeDiff, Int.reduceToNat, Int.reduceLE, Int.reduceLT, Int.toNat_natCast, reduceCtorEq, hgi, hgl, hlt, hix, Bool.not_true, Bool.not_false] <;> (first | with_reducible rfl | rfl)) | (refine aops_grd rfl (by simp only [avs] <;> rfl) (by rfl) ?_; first | refine grd_on ?_ | refine grd_off (by simp only [avs] <;> rfl) ?_))
  refine aops_nil ?_
  repeat refine aw_seq ?_
  refine aw_cond rfl rfl (fun hb => ?_) fun hb => ?_
  ·simp at hb
  refine aw_skip ?_
  repeat refine aw_seq ?_
  refine aw_region ttOk (by kernel_rfl) ?_
  repeat (refine aops_cons ?_; first | (apply aops_o; rfl; simp only [estep, avs, tts, Nat.reduceAdd, Nat.reduceMul, Nat.reduceSub, Nat.reduceEqDiff, Nat.reduceLT, Nat.reduceLeDiff, Int.reduceToNat, Int.reduceLE, Int.reduceLT, Int.toNat_natCast, reduceCtorEq, wrap_succ hlt (by omega : B.ents.length ≤ 9223372036854775807)] <;> (first | with_reducible rfl | rfl)) | (refine aops_grd rfl (by simp only [avs] <;> rfl) (by rfl) ?_; first | refine grd_on ?_ | refine grd_off (by simp only [avs] <;> rfl) ?_))
  refine aops_nil ?_
  refine ⟨B.ents.length - (i + 1), _, _, by omega, ⟨?_, .inl ?_⟩, i + 1, rfl, hlt, rfl, rfl⟩
  ·simp [EnvLe, List.replicate, iA, bA, stepsP]
  ·rw [hsu]
 | false =>
  rw [hr] at hgi hgl cu hsu
  simp only [if_true, Bool.false_eq_true, if_false, nilS, iA] at cu
  repeat refine aw_seq ?_
  refine aw_region ttOk (by kernel_rfl) ?_
  repeat (refine aops_cons ?_; first | (apply aops_o; rfl; simp only [estep, avs, tts, Nat.reduceAdd, Nat.reduceMul, Nat.reduceSub, Nat.reduceEqDiff, Nat.reduceLT, Nat.reduceLeDiff, Int.reduceToNat, Int.reduceLE, Int.reduceLT, Int.toNat_natCast, reduceCtorEq, hlt, hix, hEl, hEx, stmC] <;> (first | with_reducible rfl | rfl)) | (refine aops_grd rfl (by simp only [avs] <;> rfl) (by rfl) ?_; first | refine grd_on ?_ | refine grd_off (by simp only [avs] <;> rfl) ?_))
  refine aops_read rfl (by simp only [avs] <;> rfl) (cu) (by simp only [avs] <;> rfl) ?_
  repeat (refine aops_cons ?_; first | (apply aops_o; rfl; simp only [estep, avs, tts, Nat.reduceAdd, Nat.reduceMul, Nat.reduceSub, Nat.reduceEqDiff, Nat.reduceLT, Nat.reduceLeDiff, Int.reduceToNat, Int.reduceLE, Int.reduceLT, Int.toNat_natCast, reduceCtorEq, hlt, hix, hEl, hEx, stmC] <;> (first | with_reducible rfl | rfl)) | (refine aops_grd rfl (by simp only [avs] <;> rfl) (by rfl) ?_; first | refine grd_on ?_ | refine grd_off (by simp only [avs] <;> rfl) ?_))
  refine aops_nil ?_
  repeat refine aw_seq ?_
  refine aw_region ttOk (by kernel_rfl) ?_
  repeat (refine aops_cons ?_; first | (apply aops_o; rfl; simp only [estep, avs, tts, Nat.reduceAdd, Nat.reduceMul, Nat.reduceSub, Nat.reduceEqDiff, Nat.reduceLT, Nat.reduceLeDiff, Int.reduceToNat, Int.reduceLE, Int.reduceLT, Int.toNat_natCast, reduceCtorEq, hgi, hgl, hlt, hix, Bool.not_true, Bool.not_false] <;> (first | with_reducible rfl | rfl)) | (refine aops_grd rfl (by simp only [avs] <;> rfl) (by rfl) ?_; first | refine grd_on ?_ | refine grd_off (by simp only [avs] <;> rfl) ?_))
  refine aops_nil ?_
  repeat refine aw_seq ?_
  refine aw_cond rfl rfl (fun hb => ?_) fun hb => ?_
  ·simp at hb
  refine aw_skip ?_
  repeat refine aw_seq ?_
  refine aw_region ttOk (by kernel_rfl) ?_
  repeat (refine aops_cons ?_; first | (apply aops_o; rfl; simp only [estep, avs, tts, Nat.reduceAdd, Nat.reduceMul, Nat.reduceSub, Nat.reduceEqDiff, Nat.reduceLT, Nat.reduceLeDiff, Int.reduceToNat, Int.reduceLE, Int.reduceLT, Int.toNat_natCast, reduceCtorEq, wrap_succ hlt (by omega : B.ents.length ≤ 9223372036854775807)] <;> (first | with_reducible rfl | rfl)) | (refine aops_grd rfl (by simp only [avs] <;> rfl) (by rfl) ?_; first | refine grd_on ?_ | refine grd_off (by simp only [avs] <;> rfl) ?_))
  refine aops_nil ?_
  refine ⟨B.ents.length - (i + 1), _, _, by omega, ⟨?_, .inl ?_⟩, i + 1, rfl, hlt, rfl, rfl⟩
  ·simp [EnvLe, List.replicate, iA, bA, stepsP]
  ·rw [hsu]
end Av
end Go.Proofs.YtnkepmfgmfeabaaGreatDoor
