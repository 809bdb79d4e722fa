import Derived.Test.YtdekcppfpgeneaaGreatDoorU2
import Derived.RangeFuncNested
import Derived.RangeFuncBound
import Derived.RangeFuncLeaves
import Derived.WalkKit
import Derived.OwnWalkIn
import Derived.TacticsInMore
import Derived.LoopNIn
import Derived.LoopIn
import Derived.Lib.Hide
import Derived.Shelf.Strings.BuilderK
import Derived.Lib.UnsafeStr
import Derived.Shelf.Strconv.ParseUint10b64
import Derived.RangeFuncSeq
set_option linter.unusedVariables false
set_option linter.unusedSimpArgs false
namespace Go.Proofs.YtdekcppfpgeneaaGreatDoor
open Go Go.RowKit
namespace Av
--nosv
attribute [local irreducible] AW AOps AHOps
open Nt

theorem numD_zero (n : Nat) : List.replicate n [AV.d (.v (.int .u64 0))] = dI (numR (List.replicate n 0)) := by simp [numR, dI, dL]
theorem set_mid {l : List Nat} {k j x : Nat} (h : l.length = k) : (l ++ List.replicate (j + 1) 0).set k x = (l ++ [x]) ++ List.replicate j 0 := by
 subst h
 rw [List.set_append_right _ _ (Nat.le_refl _), Nat.sub_self, List.replicate_succ]
 simp
set_option maxRecDepth 100000 in
set_option maxHeartbeats 4000000 in
theorem sub_a (base : World) (p q : List Nat) (hp : LimbsOk p) (hq : LimbsOk q) (hbp : p.length ≤ 1000000) (hpq : q.length ≤ p.length) (hv : valL q ≤ valL p) : PureA Tryz.prog base 145 [.d (numP p), .d (numP q)] (.d (numP (limbs (valL p - valL q)))) := by
 refine pure_enter ttOk Tryz.call145 Tryz.func145 rfl fun H hB hb hF => ?_
 rw [Tryz.results145, Tryz.ntmps145]
 simp only [arr_list, List.length_cons, List.length_nil, List.replicate, List.cons_append, List.nil_append, Nat.reduceAdd, Nat.reduceSub]
 clear hF hb
 have hnl := numR_len p
 have hml := numR_len q
 have c1 : (0 : Int) ≤ (p.length : Int) := by omega
 have c2 : (p.length : Int) ≤ 9223372036854775807 := by omega
 have c3 : ((8 : Nat) : Int) * (p.length : Int) ≤ 281474976710656 := by omega
 repeat refine aw_seq ?_
 refine zr ttOk ?_
 repeat (refine aops_cons ?_; first | (apply aops_o; rfl; simp only [estep, avs, tts, Nat.reduceAdd, Nat.reduceMul, Nat.reduceSub, Nat.reduceEqDiff, Nat.reduceLT, Nat.reduceLeDiff, Int.reduceToNat, Int.reduceLE, Int.reduceLT, Int.toNat_natCast, reduceCtorEq] <;> exact rr) | (refine zg rfl ?_; first | refine grd_on ?_ | refine zo ?_))
 refine aops_nil ?_
 repeat refine aw_seq ?_
 refine zr ttOk ?_
 repeat (refine aops_cons ?_; first | (apply aops_o; rfl; simp only [estep, avs, tts, Nat.reduceAdd, Nat.reduceMul, Nat.reduceSub, Nat.reduceEqDiff, Nat.reduceLT, Nat.reduceLeDiff, Int.reduceToNat, Int.reduceLE, Int.reduceLT, Int.toNat_natCast, reduceCtorEq, numP, hnl, c1, c2, c3, Int.le_refl, numD_zero] <;> exact rr) | (refine zg rfl ?_; first | refine grd_on ?_ | refine zo ?_))
 refine aops_nil ?_
 repeat refine aw_seq ?_
 refine zr ttOk ?_
 repeat (refine aops_cons ?_; first | (apply aops_o; rfl; simp only [estep, avs, tts, Nat.reduceAdd, Nat.reduceMul, Nat.reduceSub, Nat.reduceEqDiff, Nat.reduceLT, Nat.reduceLeDiff, Int.reduceToNat, Int.reduceLE, Int.reduceLT, Int.toNat_natCast, reduceCtorEq] <;> exact rr) | (refine zg rfl ?_; first | refine grd_on ?_ | refine zo ?_))
 refine aops_nil ?_
 repeat refine aw_seq ?_
 refine zr ttOk ?_
 repeat (refine aops_cons ?_; first | (apply aops_o; rfl; simp only [estep, avs, tts, Nat.reduceAdd, Nat.reduceMul, Nat.reduceSub, Nat.reduceEqDiff, Nat.reduceLT, Nat.reduceLeDiff, Int.reduceToNat, Int.reduceLE, Int.reduceLT, Int.toNat_natCast, reduceCtorEq, numP, hnl] <;> exact rr) | (refine zg rfl ?_; first | refine grd_on ?_ | refine zo ?_))
 refine aops_nil ?_
 refine aw_block (aw_loop (H0 := H ++ [.row 167 1 0 (dI (numR (List.replicate p.length 0)))]) (fun r env K' => ∃ k, r = p.length - k ∧ k ≤ p.length ∧ K' = H ++ [.row 167 1 0 (dI (numR ((subS p q k).1 ++ List.replicate (p.length - k) 0)))] ∧ env = .undef :: .d (numP q) :: .undef :: .undef :: .undef :: .ms H.length 0 p.length :: .d (.v (.int .u64 ((subS p q k).2 : Int))) :: List.replicate 6 .undef ++ .d (numP p) :: iA p.length :: iA k :: List.replicate 29 .undef) ?_ ⟨0, rfl, Nat.zero_le _, rfl, rfl⟩ ?_)
 ·exact ⟨by simp [EnvLe, List.replicate, numP, iA, subS], .inl rfl⟩
 rintro r env K' ⟨k, rfl, hk, rfl, rfl⟩ hN
 simp only [List.replicate, numP, iA, List.cons_append, List.nil_append]
 repeat refine aw_seq ?_
 refine zr ttOk ?_
 repeat (refine aops_cons ?_; first | (apply aops_o; rfl; simp only [estep, avs, tts, Nat.reduceAdd, Nat.reduceMul, Nat.reduceSub, Nat.reduceEqDiff, Nat.reduceLT, Nat.reduceLeDiff, Int.reduceToNat, Int.reduceLE, Int.reduceLT, Int.toNat_natCast, reduceCtorEq] <;> exact rr) | (refine zg rfl ?_; first | refine grd_on ?_ | refine zo ?_))
 refine aops_nil ?_
 repeat refine aw_seq ?_
 refine aw_cond rfl rfl (fun hb => ?_) fun hb => ?_
 ·have hlt : k < p.length := by simpa using hb
  have hix : (0 : Int) ≤ (k : Int) := by omega
  have g1 := numR_get p hlt
  rw [getD_at hlt] at g1
  have b1 : p.getD k 0 < 1000000000 := getD_lt hp k
  have b2 : q.getD k 0 < 1000000000 := getD_lt hq k
  have b3 := subS_b p q k
  have hol : (dI (numR ((subS p q k).1 ++ List.replicate (p.length - k) 0))).length = p.length := by rw [dI_len, numR_len, List.length_append, subS_len, List.length_replicate]; omega
  have hgl : (dI (numR ((subS p q k).1 ++ List.replicate (p.length - k) 0))).getD k [] = [.d (.v (.int .u64 0))] := by
   rw [numD_get _ (by rw [List.length_append, subS_len, List.length_replicate]; omega), List.getElem_append_right (by rw [subS_len]; omega)]; simp
  refine aw_skip ?_
  repeat refine aw_seq ?_
  refine aw_block ?_
  repeat refine aw_seq ?_
  refine zr ttOk ?_
  repeat (refine aops_cons ?_; first | (apply aops_o; rfl; simp only [estep, avs, tts, Nat.reduceAdd, Nat.reduceMul, Nat.reduceSub, Nat.reduceEqDiff, Nat.reduceLT, Nat.reduceLeDiff, Int.reduceToNat, Int.reduceLE, Int.reduceLT, Int.toNat_natCast, reduceCtorEq, hnl, hix, hlt, g1] <;> exact rr) | (refine zg rfl ?_; first | refine grd_on ?_ | refine zo ?_))
  refine aops_nil ?_
  repeat refine aw_seq ?_
  refine zr ttOk ?_
  repeat (refine aops_cons ?_; first | (apply aops_o; rfl; simp only [estep, avs, tts, Nat.reduceAdd, Nat.reduceMul, Nat.reduceSub, Nat.reduceEqDiff, Nat.reduceLT, Nat.reduceLeDiff, Int.reduceToNat, Int.reduceLE, Int.reduceLT, Int.toNat_natCast, reduceCtorEq] <;> exact rr) | (refine zg rfl ?_; first | refine grd_on ?_ | refine zo ?_))
  refine aops_nil ?_
  repeat refine aw_seq ?_
  refine zr ttOk ?_
  repeat (refine aops_cons ?_; first | (apply aops_o; rfl; simp only [estep, avs, tts, Nat.reduceAdd, Nat.reduceMul, Nat.reduceSub, Nat.reduceEqDiff, Nat.reduceLT, Nat.reduceLeDiff, Int.reduceToNat, Int.reduceLE, Int.reduceLT, Int.toNat_natCast, reduceCtorEq, hml] <;> exact rr) | (refine zg rfl ?_; first | refine grd_on ?_ | refine zo ?_))
  refine aops_nil ?_
  repeat refine aw_seq ?_
  refine aw_mid2 (Q0 := fun env K' => K' = H ++ [.row 167 1 0 (dI (numR ((subS p q k).1 ++ List.replicate (p.length - k) 0)))] ∧ env = .undef :: .d (numP q) :: .undef :: .undef :: .undef :: .ms H.length 0 p.length :: .undef :: iA k :: .d (.v (.int .u64 (p.getD k 0 : Int))) :: .d (.v (.int .u64 (((subS p q k).2 + q.getD k 0 : Nat) : Int))) :: List.replicate 3 .undef ++ .d (numP p) :: iA p.length :: iA k :: List.replicate 29 .undef) ?_ ?_
  ·repeat refine aw_seq ?_
   refine aw_cond rfl rfl (fun hb => ?_) fun hb => ?_
   ·have hlq : k < q.length := by simpa using hb
    have g2 := numR_get q hlq
    rw [getD_at hlq] at g2
    have s2 := u_add (a := (subS p q k).2) (b := q.getD k 0) (by omega)
    repeat refine aw_seq ?_
    refine zr ttOk ?_
    repeat (refine aops_cons ?_; first | (apply aops_o; rfl; simp only [estep, avs, tts, Nat.reduceAdd, Nat.reduceMul, Nat.reduceSub, Nat.reduceEqDiff, Nat.reduceLT, Nat.reduceLeDiff, Int.reduceToNat, Int.reduceLE, Int.reduceLT, Int.toNat_natCast, reduceCtorEq, hml, hix, hlq, g2, s2] <;> exact rr) | (refine zg rfl ?_; first | refine grd_on ?_ | refine zo ?_))
    refine aops_nil ?_
    exact ⟨rfl, _, _, ⟨by simp [EnvLe, List.replicate, numP, iA], .inl rfl⟩, rfl, rfl⟩
   ·have hlq : ¬ k < q.length := by simpa using hb
    have g2 : q.getD k 0 = 0 := by simp [List.getD, Nat.le_of_not_lt hlq]
    refine aw_skip ⟨rfl, _, _, ⟨?_, .inl rfl⟩, rfl, rfl⟩
    rw [g2]
    simp [EnvLe, List.replicate, numP, iA]
  rintro env K' ⟨rfl, rfl⟩
  simp only [List.replicate, numP, iA, List.cons_append, List.nil_append]
  have hsx := subS_succ p q k
  have hl0 := subS_len p q k
  have hj : p.length - k = (p.length - (k + 1)) + 1 := by omega
  repeat refine aw_seq ?_
  refine zr ttOk ?_
  repeat (refine aops_cons ?_; first | (apply aops_o; rfl; simp only [estep, avs, tts, Nat.reduceAdd, Nat.reduceMul, Nat.reduceSub, Nat.reduceEqDiff, Nat.reduceLT, Nat.reduceLeDiff, Int.reduceToNat, Int.reduceLE, Int.reduceLT, Int.toNat_natCast, reduceCtorEq] <;> exact rr) | (refine zg rfl ?_; first | refine grd_on ?_ | refine zo ?_))
  refine aops_nil ?_
  have fin : ∀ (c x : Nat), subS p q (k + 1) = ((subS p q k).1 ++ [x], c) → (dI (numR ((subS p q k).1 ++ List.replicate (p.length - k) 0))).set k [.d (.v (.int .u64 (x : Int)))] = dI (numR ((subS p q (k + 1)).1 ++ List.replicate (p.length - (k + 1)) 0)) := fun c x he => by
   rw [numD_set, hj, set_mid hl0, he]
  generalize htk : (subS p q k).2 + q.getD k 0 = t at *
  repeat refine aw_seq ?_
  refine zr ttOk ?_
  repeat (refine aops_cons ?_; first | (apply aops_o; rfl; simp only [estep, avs, tts, Nat.reduceAdd, Nat.reduceMul, Nat.reduceSub, Nat.reduceEqDiff, Nat.reduceLT, Nat.reduceLeDiff, Int.reduceToNat, Int.reduceLE, Int.reduceLT, Int.toNat_natCast, reduceCtorEq] <;> exact rr) | (refine zg rfl ?_; first | refine grd_on ?_ | refine zo ?_))
  refine aops_nil ?_
  repeat refine aw_seq ?_
  by_cases hlt2 : p.getD k 0 < t
  ·have e0 : decide (((p.getD k 0 : Nat) : Int) < (t : Int)) = true := decide_eq_true (by omega)
   have s3 : IntKind.u64.wrap (((p.getD k 0 : Nat) : Int) + 1000000000) = ((p.getD k 0 + B9 : Nat) : Int) := u_add (a := p.getD k 0) (b := B9) (by show _ + 1000000000 < _; omega)
   have s4 := u_sub (a := p.getD k 0 + B9) (b := t) (by show t ≤ _ + 1000000000; omega) (by show _ + 1000000000 < _; omega)
   rw [if_pos hlt2] at hsx
   have hfin := fin _ _ hsx
   refine aw_mid2 (Q0 := fun env K' => K' = H ++ [.row 167 1 0 (dI (numR ((subS p q k).1 ++ List.replicate (p.length - k) 0)))] ∧ env = .undef :: .d (numP q) :: .undef :: .undef :: .undef :: .ms H.length 0 p.length :: .d (.v (.int .u64 ((1 : Nat) : Int))) :: iA k :: .d (.v (.int .u64 ((p.getD k 0 + B9 : Nat) : Int))) :: .d (.v (.int .u64 (t : Int))) :: List.replicate 3 .undef ++ .d (numP p) :: iA p.length :: iA k :: List.replicate 29 .undef) ?_ ?_
   ·repeat refine aw_seq ?_
    refine aw_cond rfl rfl (fun hb => ?_) fun hb => ?_
    rotate_left
    ·rw [e0] at hb; cases hb
    repeat refine aw_seq ?_
    refine zr ttOk ?_
    repeat (refine aops_cons ?_; first | (apply aops_o; rfl; simp only [estep, avs, tts, Nat.reduceAdd, Nat.reduceMul, Nat.reduceSub, Nat.reduceEqDiff, Nat.reduceLT, Nat.reduceLeDiff, Int.reduceToNat, Int.reduceLE, Int.reduceLT, Int.toNat_natCast, reduceCtorEq, s3] <;> exact rr) | (refine zg rfl ?_; first | refine grd_on ?_ | refine zo ?_))
    refine aops_nil ?_
    repeat refine aw_seq ?_
    refine zr ttOk ?_
    repeat (refine aops_cons ?_; first | (apply aops_o; rfl; simp only [estep, avs, tts, Nat.reduceAdd, Nat.reduceMul, Nat.reduceSub, Nat.reduceEqDiff, Nat.reduceLT, Nat.reduceLeDiff, Int.reduceToNat, Int.reduceLE, Int.reduceLT, Int.toNat_natCast, reduceCtorEq] <;> exact rr) | (refine zg rfl ?_; first | refine grd_on ?_ | refine zo ?_))
    refine aops_nil ?_
    exact ⟨rfl, _, _, ⟨by simp [EnvLe, List.replicate, numP, iA], .inl rfl⟩, rfl, rfl⟩
   rintro env K' ⟨rfl, rfl⟩
   simp only [List.replicate, numP, iA, List.cons_append, List.nil_append]
   repeat refine aw_seq ?_
   refine zr ttOk ?_
   repeat (refine aops_cons ?_; first | (apply aops_o; rfl; simp only [estep, avs, tts, Nat.reduceAdd, Nat.reduceMul, Nat.reduceSub, Nat.reduceEqDiff, Nat.reduceLT, Nat.reduceLeDiff, Int.reduceToNat, Int.reduceLE, Int.reduceLT, Int.toNat_natCast, reduceCtorEq, s4, hol, hgl, hix, hlt, hfin, splice] <;> exact rr) | (refine zg rfl ?_; first | refine grd_on ?_ | refine zo ?_))
   refine aops_nil ?_
   repeat refine aw_seq ?_
   refine zr ttOk ?_
   repeat (refine aops_cons ?_; first | (apply aops_o; rfl; simp only [estep, avs, tts, Nat.reduceAdd, Nat.reduceMul, Nat.reduceSub, Nat.reduceEqDiff, Nat.reduceLT, Nat.reduceLeDiff, Int.reduceToNat, Int.reduceLE, Int.reduceLT, Int.toNat_natCast, reduceCtorEq, wrap_succ hlt (by omega : p.length ≤ 9223372036854775807)] <;> exact rr) | (refine zg rfl ?_; first | refine grd_on ?_ | refine zo ?_))
   refine aops_nil ?_
   refine ⟨p.length - (k + 1), _, _, by omega, ⟨?_, .inl rfl⟩, k + 1, rfl, hlt, rfl, rfl⟩
   rw [hsx]; simp [EnvLe, List.replicate, numP, iA]
  ·have e0 : decide (((p.getD k 0 : Nat) : Int) < (t : Int)) = false := decide_eq_false (by omega)
   have s4 := u_sub (a := p.getD k 0) (b := t) (by omega) (by omega)
   rw [if_neg hlt2] at hsx
   have hfin := fin _ _ hsx
   refine aw_mid2 (Q0 := fun env K' => K' = H ++ [.row 167 1 0 (dI (numR ((subS p q k).1 ++ List.replicate (p.length - k) 0)))] ∧ env = .undef :: .d (numP q) :: .undef :: .undef :: .undef :: .ms H.length 0 p.length :: .d (.v (.int .u64 ((0 : Nat) : Int))) :: iA k :: .d (.v (.int .u64 ((p.getD k 0 : Nat) : Int))) :: .d (.v (.int .u64 (t : Int))) :: List.replicate 3 .undef ++ .d (numP p) :: iA p.length :: iA k :: List.replicate 29 .undef) ?_ ?_
   ·repeat refine aw_seq ?_
    refine aw_cond rfl rfl (fun hb => ?_) fun hb => ?_
    ·rw [e0] at hb; cases hb
    exact aw_skip ⟨rfl, _, _, ⟨by simp [EnvLe, List.replicate, numP, iA], .inl rfl⟩, rfl, rfl⟩
   rintro env K' ⟨rfl, rfl⟩
   simp only [List.replicate, numP, iA, List.cons_append, List.nil_append]
   repeat refine aw_seq ?_
   refine zr ttOk ?_
   repeat (refine aops_cons ?_; first | (apply aops_o; rfl; simp only [estep, avs, tts, Nat.reduceAdd, Nat.reduceMul, Nat.reduceSub, Nat.reduceEqDiff, Nat.reduceLT, Nat.reduceLeDiff, Int.reduceToNat, Int.reduceLE, Int.reduceLT, Int.toNat_natCast, reduceCtorEq, s4, hol, hgl, hix, hlt, hfin, splice] <;> exact rr) | (refine zg rfl ?_; first | refine grd_on ?_ | refine zo ?_))
   refine aops_nil ?_
   repeat refine aw_seq ?_
   refine zr ttOk ?_
   repeat (refine aops_cons ?_; first | (apply aops_o; rfl; simp only [estep, avs, tts, Nat.reduceAdd, Nat.reduceMul, Nat.reduceSub, Nat.reduceEqDiff, Nat.reduceLT, Nat.reduceLeDiff, Int.reduceToNat, Int.reduceLE, Int.reduceLT, Int.toNat_natCast, reduceCtorEq, wrap_succ hlt (by omega : p.length ≤ 9223372036854775807)] <;> exact rr) | (refine zg rfl ?_; first | refine grd_on ?_ | refine zo ?_))
   refine aops_nil ?_
   refine ⟨p.length - (k + 1), _, _, by omega, ⟨?_, .inl rfl⟩, k + 1, rfl, hlt, rfl, rfl⟩
   rw [hsx]; simp [EnvLe, List.replicate, numP, iA]
 ·refine aw_exit ?_
  have hkl : k = p.length := by simp at hb; omega
  subst hkl
  have ct := trim_a base (subS p q p.length).1 (by rw [subS_len]; omega)
  rw [sub_val hp hq hpq hv] at ct
  have hol2 : (numR (subS p q p.length).1).length = p.length := by rw [numR_len, subS_len]
  rw [Nat.sub_self, List.replicate_zero, List.append_nil]
  repeat refine aw_seq ?_
  refine zr ttOk ?_
  repeat (refine aops_cons ?_; first | (apply aops_o; rfl; simp only [estep, avs, tts, Nat.reduceAdd, Nat.reduceMul, Nat.reduceSub, Nat.reduceEqDiff, Nat.reduceLT, Nat.reduceLeDiff, Int.reduceToNat, Int.reduceLE, Int.reduceLT, Int.toNat_natCast, reduceCtorEq] <;> exact rr) | (refine zg rfl ?_; first | refine grd_on ?_ | refine zo ?_))
  refine aops_pureF (H.length) rfl (by simp only [avs] <;> rfl) (by simp only [avs, tts, Nat.reduceAdd, Nat.reduceMul, Nat.reduceSub, Nat.reduceEqDiff, Nat.reduceLT, Nat.reduceLeDiff, Int.reduceToNat, Int.reduceLE, Int.reduceLT, Int.toNat_natCast, reduceCtorEq, frzL, frzA, frzO, unI_dI, dI_len, unI, unL, Nat.add_eq_left, Nat.left_eq_add, Nat.one_ne_zero, hol2] <;> rfl) (by simp only [avs, tts, Nat.reduceAdd, Nat.reduceMul, Nat.reduceSub, Nat.reduceEqDiff, Nat.reduceLT, Nat.reduceLeDiff, Int.reduceToNat, Int.reduceLE, Int.reduceLT, Int.toNat_natCast, reduceCtorEq, frzL, frzA, frzO, unI_dI, dI_len, unI, unL, Nat.add_eq_left, Nat.left_eq_add, Nat.one_ne_zero, hol2] <;> rfl) (ct) (by simp only [avs] <;> rfl) ?_
  repeat (refine aops_cons ?_; first | (apply aops_o; rfl; simp only [estep, avs, tts, Nat.reduceAdd, Nat.reduceMul, Nat.reduceSub, Nat.reduceEqDiff, Nat.reduceLT, Nat.reduceLeDiff, Int.reduceToNat, Int.reduceLE, Int.reduceLT, Int.toNat_natCast, reduceCtorEq] <;> exact rr) | (refine zg rfl ?_; first | refine grd_on ?_ | refine zo ?_))
  refine aops_nil ?_
  exact aw_ret ⟨_, rfl, [.dead], by simp, rfl⟩
end Av
end Go.Proofs.YtdekcppfpgeneaaGreatDoor
set_option linter.unusedVariables false
namespace Go.Proofs.YtdekcppfpgeneaaGreatDoor
open Go
namespace Nt

/-! Products. -/
structure MulO (p q : List Nat) (i : Nat) (out : List Nat) : Prop where
 len : out.length = p.length + q.length
 ok : LimbsOk out
 val : valL out = valL (p.take i) * valL q
 hi : ∀ j, i + q.length ≤ j → out.getD j 0 = 0
structure MulI (p q : List Nat) (i k : Nat) (out : List Nat) (c : Nat) : Prop where
 len : out.length = p.length + q.length
 ok : LimbsOk out
 car : c < 1000000000
 val : valL out + B9 ^ (i + k) * c = valL (p.take i) * valL q + p.getD i 0 * (B9 ^ i * valL (q.take k))
 hi : ∀ j, i + q.length ≤ j → out.getD j 0 = 0
theorem MulO.start (p q : List Nat) : MulO p q 0 (List.replicate (p.length + q.length) 0) := ⟨by simp, fun x hx => by rw [List.eq_of_mem_replicate hx]; decide, by rw [valL_zero]; simp [valL], fun j _ => by simp only [List.getD, List.getElem?_replicate]; split <;> rfl⟩
theorem MulO.inner {p q out : List Nat} {i : Nat} (h : MulO p q i out) : MulI p q i 0 out 0 := ⟨h.len, h.ok, by decide, by rw [h.val]; simp [valL], h.hi⟩
theorem set_ok {l : List Nat} (h : LimbsOk l) (k : Nat) {x : Nat} (hx : x < B9) : LimbsOk (l.set k x) := fun y hy => by
 rcases List.mem_or_eq_of_mem_set hy with hy | rfl
 ·exact h y hy
 ·exact hx
theorem mul_bound {a b c d : Nat} (ha : a < 1000000000) (hb : b < 1000000000) (hc : c < 1000000000) (hd : d < 1000000000) : d + a * b + c < 1000000000 * 1000000000 := by
 have h1 : a * b ≤ 999999999 * 999999999 := Nat.mul_le_mul (by omega) (by omega)
 omega
theorem mul_key {V P B o a b c x y z w : Nat} (h1 : V + P * o = z + P * (x % B)) (h2 : z + P * c = w) (hx : x = o + a * b + c) : V + P * B * (x / B) = w + P * (a * b) := by
 have h3 := Nat.mod_add_div x B
 have h4 : P * (x % B) + P * B * (x / B) = P * x := by rw [Nat.mul_assoc, ← Nat.mul_add, h3]
 rw [hx] at h4
 rw [hx]
 rw [hx] at h1
 rw [Nat.mul_add P (o + a * b) c, Nat.mul_add P o (a * b)] at h4
 generalize P * ((o + a * b + c) % B) = u at *
 generalize P * B * ((o + a * b + c) / B) = v at *
 generalize P * (a * b) = t at *
 generalize P * o = r at *
 generalize P * c = q at *
 omega
theorem MulI.step {p q out : List Nat} {i k c : Nat} (h : MulI p q i k out c) (hp : LimbsOk p) (hq : LimbsOk q) (hi : i < p.length) (hk : k < q.length) :
  MulI p q i (k + 1) (out.set (i + k) ((out.getD (i + k) 0 + p.getD i 0 * q.getD k 0 + c) % B9)) ((out.getD (i + k) 0 + p.getD i 0 * q.getD k 0 + c) / B9) := by
 have hlen := h.len
 have hb := mul_bound (getD_lt hp i) (getD_lt hq k) h.car (getD_lt h.ok (i + k))
 refine ⟨by simp [hlen], set_ok h.ok _ (Nat.mod_lt _ (by decide)), Nat.div_lt_of_lt_mul hb, ?_, fun j hj => ?_⟩
 ·have h1 := valL_set (l := out) (k := i + k) (by omega) ((out.getD (i + k) 0 + p.getD i 0 * q.getD k 0 + c) % B9)
  have := mul_key (y := 0) h1 h.val rfl
  rw [← Nat.add_assoc, Nat.pow_succ, this, valL_take_succ, Nat.mul_add, Nat.mul_add, Nat.pow_add, Nat.add_assoc]
  congr 2
  rw [Nat.mul_assoc, Nat.mul_left_comm (B9 ^ k), Nat.mul_left_comm (B9 ^ i)]
 ·rw [List.getD_eq_getElem?_getD, List.getElem?_set_ne (by omega), ← List.getD_eq_getElem?_getD]
  exact h.hi j hj
theorem MulI.outer {p q out : List Nat} {i c : Nat} (h : MulI p q i q.length out c) (hi : i < p.length) : MulO p q (i + 1) (out.set (i + q.length) c) := by
 have hlen := h.len
 refine ⟨by simp [hlen], set_ok h.ok _ h.car, ?_, fun j hj => ?_⟩
 ·have h1 := valL_set (l := out) (k := i + q.length) (by omega) c
  rw [h.hi _ (Nat.le_refl _), Nat.mul_zero, Nat.add_zero, h.val, List.take_length] at h1
  rw [h1, valL_take_succ, Nat.add_mul]
  congr 1
  rw [Nat.mul_comm (B9 ^ i) (p.getD i 0), Nat.mul_assoc]
 ·rw [List.getD_eq_getElem?_getD, List.getElem?_set_ne (by omega), ← List.getD_eq_getElem?_getD]
  exact h.hi j (by omega)
theorem MulO.fin {p q out : List Nat} (h : MulO p q p.length out) : trimL out = limbs (valL p * valL q) := by
 rw [trim_limbs h.ok, h.val, List.take_length]
end Nt
end Go.Proofs.YtdekcppfpgeneaaGreatDoor
set_option linter.unusedVariables false
set_option linter.unusedSimpArgs false
namespace Go.Proofs.YtdekcppfpgeneaaGreatDoor
open Go Go.RowKit
namespace Av
--nosv
attribute [local irreducible] AW AOps AHOps
open Nt

theorem wrap_add {a b : Nat} (h : a + b ≤ 9223372036854775807) : IntKind.i64.wrap ((a : Int) + (b : Int)) = ((a + b : Nat) : Int) := by rw [IntKind.wrap_i64]; omega
set_option maxRecDepth 100000 in
set_option maxHeartbeats 4000000 in
theorem mul_a (base : World) (p q : List Nat) (hp : LimbsOk p) (hq : LimbsOk q) (hbp : p.length ≤ 1000000) (hbq : q.length ≤ 1000000) : PureA Tryz.prog base 178 [.d (numP p), .d (numP q)] (.d (numP (limbs (valL p * valL q)))) := by
 refine pure_enter ttOk Tryz.call178 Tryz.func178 rfl fun H hB hb hF => ?_
 rw [Tryz.results178, Tryz.ntmps178]
 simp only [arr_list, List.length_cons, List.length_nil, List.replicate, List.cons_append, List.nil_append, Nat.reduceAdd, Nat.reduceSub]
 clear hF hb
 have hnl := numR_len p
 have hml := numR_len q
 have w0 := wrap_add (a := p.length) (b := q.length) (by omega)
 have c1 : (0 : Int) ≤ ((p.length + q.length : Nat) : Int) := by omega
 have c2 : ((p.length + q.length : Nat) : Int) ≤ 9223372036854775807 := by omega
 have c3 : ((8 : Nat) : Int) * ((p.length + q.length : Nat) : Int) ≤ 281474976710656 := by omega
 repeat refine aw_seq ?_
 refine zr ttOk ?_
 repeat (refine aops_cons ?_; first | (apply aops_o; rfl; simp only [estep, avs, tts, Nat.reduceAdd, Nat.reduceMul, Nat.reduceSub, Nat.reduceEqDiff, Nat.reduceLT, Nat.reduceLeDiff, Int.reduceToNat, Int.reduceLE, Int.reduceLT, Int.toNat_natCast, reduceCtorEq] <;> exact rr) | (refine zg rfl ?_; first | refine grd_on ?_ | refine zo ?_))
 refine aops_nil ?_
 repeat refine aw_seq ?_
 refine zr ttOk ?_
 repeat (refine aops_cons ?_; first | (apply aops_o; rfl; simp only [estep, avs, tts, Nat.reduceAdd, Nat.reduceMul, Nat.reduceSub, Nat.reduceEqDiff, Nat.reduceLT, Nat.reduceLeDiff, Int.reduceToNat, Int.reduceLE, Int.reduceLT, Int.toNat_natCast, reduceCtorEq, numP, hnl, hml, w0, c1, c2, c3, Int.le_refl, numD_zero] <;> exact rr) | (refine zg rfl ?_; first | refine grd_on ?_ | refine zo ?_))
 refine aops_nil ?_
 repeat refine aw_seq ?_
 refine zr ttOk ?_
 repeat (refine aops_cons ?_; first | (apply aops_o; rfl; simp only [estep, avs, tts, Nat.reduceAdd, Nat.reduceMul, Nat.reduceSub, Nat.reduceEqDiff, Nat.reduceLT, Nat.reduceLeDiff, Int.reduceToNat, Int.reduceLE, Int.reduceLT, Int.toNat_natCast, reduceCtorEq, numP, hnl] <;> exact rr) | (refine zg rfl ?_; first | refine grd_on ?_ | refine zo ?_))
 refine aops_nil ?_
 refine aw_mid2 (Q0 := fun env K' => ∃ out, MulO p q p.length out ∧ K' = H ++ [.row 167 1 0 (dI (numR out))] ∧ env = .d (numP p) :: .d (numP q) :: .undef :: .undef :: .undef :: .ms H.length 0 (p.length + q.length) :: List.replicate 58 .undef) ?_ ?_
 ·refine aw_block (aw_loop (H0 := H ++ [.row 167 1 0 (dI (numR (List.replicate (p.length + q.length) 0)))]) (fun r env K' => ∃ i out, r = p.length - i ∧ i ≤ p.length ∧ MulO p q i out ∧ K' = H ++ [.row 167 1 0 (dI (numR out))] ∧ env = .d (numP p) :: .d (numP q) :: .undef :: .undef :: .undef :: .ms H.length 0 (p.length + q.length) :: List.replicate 12 .undef ++ .d (numP p) :: iA p.length :: iA i :: List.replicate 43 .undef) ?_ ⟨0, _, rfl, Nat.zero_le _, .start p q, rfl, rfl⟩ ?_)
  ·exact ⟨by simp [EnvLe, List.replicate, numP, iA], .inl rfl⟩
  rintro r env K' ⟨i, out, rfl, hi, hO, rfl, rfl⟩ hN
  simp only [List.replicate, numP, iA, List.cons_append, List.nil_append]
  repeat refine aw_seq ?_
  refine zr ttOk ?_
  repeat (refine aops_cons ?_; first | (apply aops_o; rfl; simp only [estep, avs, tts, Nat.reduceAdd, Nat.reduceMul, Nat.reduceSub, Nat.reduceEqDiff, Nat.reduceLT, Nat.reduceLeDiff, Int.reduceToNat, Int.reduceLE, Int.reduceLT, Int.toNat_natCast, reduceCtorEq] <;> exact rr) | (refine zg rfl ?_; first | refine grd_on ?_ | refine zo ?_))
  refine aops_nil ?_
  repeat refine aw_seq ?_
  refine aw_cond rfl rfl (fun hb => ?_) fun hb => ?_
  rotate_left
  ·refine aw_exit ?_
   have hil : i = p.length := by simp at hb; omega
   subst hil
   exact ⟨rfl, _, _, ⟨by simp [EnvLe, List.replicate, numP, iA], .inl rfl⟩, out, hO, rfl, rfl⟩
  have hlt : i < p.length := by simpa using hb
  have hix : (0 : Int) ≤ (i : Int) := by omega
  have g1 := numR_get p hlt
  rw [getD_at hlt] at g1
  have b1 : p.getD i 0 < 1000000000 := getD_lt hp i
  refine aw_skip ?_
  repeat refine aw_seq ?_
  refine aw_block ?_
  repeat refine aw_seq ?_
  refine zr ttOk ?_
  repeat (refine aops_cons ?_; first | (apply aops_o; rfl; simp only [estep, avs, tts, Nat.reduceAdd, Nat.reduceMul, Nat.reduceSub, Nat.reduceEqDiff, Nat.reduceLT, Nat.reduceLeDiff, Int.reduceToNat, Int.reduceLE, Int.reduceLT, Int.toNat_natCast, reduceCtorEq, hnl, hix, hlt, g1] <;> exact rr) | (refine zg rfl ?_; first | refine grd_on ?_ | refine zo ?_))
  refine aops_nil ?_
  repeat refine aw_seq ?_
  refine zr ttOk ?_
  repeat (refine aops_cons ?_; first | (apply aops_o; rfl; simp only [estep, avs, tts, Nat.reduceAdd, Nat.reduceMul, Nat.reduceSub, Nat.reduceEqDiff, Nat.reduceLT, Nat.reduceLeDiff, Int.reduceToNat, Int.reduceLE, Int.reduceLT, Int.toNat_natCast, reduceCtorEq] <;> exact rr) | (refine zg rfl ?_; first | refine grd_on ?_ | refine zo ?_))
  refine aops_nil ?_
  repeat refine aw_seq ?_
  refine zr ttOk ?_
  repeat (refine aops_cons ?_; first | (apply aops_o; rfl; simp only [estep, avs, tts, Nat.reduceAdd, Nat.reduceMul, Nat.reduceSub, Nat.reduceEqDiff, Nat.reduceLT, Nat.reduceLeDiff, Int.reduceToNat, Int.reduceLE, Int.reduceLT, Int.toNat_natCast, reduceCtorEq, hml] <;> exact rr) | (refine zg rfl ?_; first | refine grd_on ?_ | refine zo ?_))
  refine aops_nil ?_
  refine aw_mid2 (Q0 := fun env K' => ∃ out c, MulI p q i q.length out c ∧ K' = H ++ [.row 167 1 0 (dI (numR out))] ∧ env = .d (numP p) :: .d (numP q) :: .undef :: .undef :: .undef :: .ms H.length 0 (p.length + q.length) :: iA i :: .undef :: .d (.v (.int .u64 ((c : Nat) : Int))) :: List.replicate 9 .undef ++ .d (numP p) :: iA p.length :: iA i :: List.replicate 43 .undef) ?_ ?_
  ·refine aw_block (aw_loop (H0 := H ++ [.row 167 1 0 (dI (numR out))]) (fun r env K' => ∃ k out c, r = q.length - k ∧ k ≤ q.length ∧ MulI p q i k out c ∧ K' = H ++ [.row 167 1 0 (dI (numR out))] ∧ env = .d (numP p) :: .d (numP q) :: .undef :: .undef :: .undef :: .ms H.length 0 (p.length + q.length) :: iA i :: .d (.v (.int .u64 ((p.getD i 0 : Nat) : Int))) :: .d (.v (.int .u64 ((c : Nat) : Int))) :: List.replicate 9 .undef ++ .d (numP p) :: iA p.length :: iA i :: List.replicate 4 .undef ++ .d (numP q) :: iA q.length :: iA k :: List.replicate 36 .undef) ?_ ⟨0, _, 0, rfl, Nat.zero_le _, hO.inner, rfl, rfl⟩ ?_)
   ·exact ⟨by simp [EnvLe, List.replicate, numP, iA], .inl rfl⟩
   clear hO hN
   rintro r env K' ⟨k, out, c, rfl, hk, hI, rfl, rfl⟩ hN
   simp only [List.replicate, numP, iA, List.cons_append, List.nil_append]
   repeat refine aw_seq ?_
   refine zr ttOk ?_
   repeat (refine aops_cons ?_; first | (apply aops_o; rfl; simp only [estep, avs, tts, Nat.reduceAdd, Nat.reduceMul, Nat.reduceSub, Nat.reduceEqDiff, Nat.reduceLT, Nat.reduceLeDiff, Int.reduceToNat, Int.reduceLE, Int.reduceLT, Int.toNat_natCast, reduceCtorEq] <;> exact rr) | (refine zg rfl ?_; first | refine grd_on ?_ | refine zo ?_))
   refine aops_nil ?_
   repeat refine aw_seq ?_
   refine aw_cond rfl rfl (fun hb => ?_) fun hb => ?_
   rotate_left
   ·refine aw_exit ?_
    have hil : k = q.length := by simp at hb; omega
    subst hil
    exact ⟨rfl, _, _, ⟨by simp [EnvLe, List.replicate, numP, iA], .inl rfl⟩, out, c, hI, rfl, rfl⟩
   have hlk : k < q.length := by simpa using hb
   have hkx : (0 : Int) ≤ (k : Int) := by omega
   have g2 := numR_get q hlk
   rw [getD_at hlk] at g2
   have b2 : q.getD k 0 < 1000000000 := getD_lt hq k
   have hik : i + k < out.length := by rw [hI.len]; omega
   have hik2 : i + k < p.length + q.length := by omega
   have hikx : (0 : Int) ≤ ((i + k : Nat) : Int) := by omega
   have g3 := numD_get out hik
   rw [getD_at hik] at g3
   have b3 : out.getD (i + k) 0 < 1000000000 := getD_lt hI.ok (i + k)
   have hol : (dI (numR out)).length = p.length + q.length := by rw [dI_len, numR_len, hI.len]
   have w2 := wrap_add (a := i) (b := k) (by omega)
   have hbd := mul_bound b1 b2 hI.car b3
   have s1 := u_mul (a := p.getD i 0) (b := q.getD k 0) (by omega)
   have s2 := u_add (a := out.getD (i + k) 0) (b := p.getD i 0 * q.getD k 0) (by omega)
   have s3 := u_add (a := out.getD (i + k) 0 + p.getD i 0 * q.getD k 0) (b := c) (by omega)
   have s4 := u_div (a := out.getD (i + k) 0 + p.getD i 0 * q.getD k 0 + c) (by omega)
   have hst := hI.step hp hq hlt hlk
   refine aw_skip ?_
   repeat refine aw_seq ?_
   refine aw_block ?_
   repeat refine aw_seq ?_
   refine zr ttOk ?_
   repeat (refine aops_cons ?_; first | (apply aops_o; rfl; simp only [estep, avs, tts, Nat.reduceAdd, Nat.reduceMul, Nat.reduceSub, Nat.reduceEqDiff, Nat.reduceLT, Nat.reduceLeDiff, Int.reduceToNat, Int.reduceLE, Int.reduceLT, Int.toNat_natCast, reduceCtorEq, hml, hkx, hlk, g2] <;> exact rr) | (refine zg rfl ?_; first | refine grd_on ?_ | refine zo ?_))
   refine aops_nil ?_
   repeat refine aw_seq ?_
   refine zr ttOk ?_
   repeat (refine aops_cons ?_; first | (apply aops_o; rfl; simp only [estep, avs, tts, Nat.reduceAdd, Nat.reduceMul, Nat.reduceSub, Nat.reduceEqDiff, Nat.reduceLT, Nat.reduceLeDiff, Int.reduceToNat, Int.reduceLE, Int.reduceLT, Int.toNat_natCast, reduceCtorEq, w2, hol, hikx, hik2, g3, s1, s2, s3] <;> exact rr) | (refine zg rfl ?_; first | refine grd_on ?_ | refine zo ?_))
   refine aops_nil ?_
   repeat refine aw_seq ?_
   refine zr ttOk ?_
   repeat (refine aops_cons ?_; first | (apply aops_o; rfl; simp only [estep, avs, tts, Nat.reduceAdd, Nat.reduceMul, Nat.reduceSub, Nat.reduceEqDiff, Nat.reduceLT, Nat.reduceLeDiff, Int.reduceToNat, Int.reduceLE, Int.reduceLT, Int.toNat_natCast, reduceCtorEq, w2, hol, hikx, hik2, g3, u_mod, b9_ne, splice, numD_set] <;> exact rr) | (refine zg rfl ?_; first | refine grd_on ?_ | refine zo ?_))
   refine aops_nil ?_
   repeat refine aw_seq ?_
   refine zr ttOk ?_
   repeat (refine aops_cons ?_; first | (apply aops_o; rfl; simp only [estep, avs, tts, Nat.reduceAdd, Nat.reduceMul, Nat.reduceSub, Nat.reduceEqDiff, Nat.reduceLT, Nat.reduceLeDiff, Int.reduceToNat, Int.reduceLE, Int.reduceLT, Int.toNat_natCast, reduceCtorEq, s4, b9_ne] <;> exact rr) | (refine zg rfl ?_; first | refine grd_on ?_ | refine zo ?_))
   refine aops_nil ?_
   repeat refine aw_seq ?_
   refine zr ttOk ?_
   repeat (refine aops_cons ?_; first | (apply aops_o; rfl; simp only [estep, avs, tts, Nat.reduceAdd, Nat.reduceMul, Nat.reduceSub, Nat.reduceEqDiff, Nat.reduceLT, Nat.reduceLeDiff, Int.reduceToNat, Int.reduceLE, Int.reduceLT, Int.toNat_natCast, reduceCtorEq, wrap_succ hlk (by omega : q.length ≤ 9223372036854775807)] <;> exact rr) | (refine zg rfl ?_; first | refine grd_on ?_ | refine zo ?_))
   refine aops_nil ?_
   refine ⟨q.length - (k + 1), _, _, by omega, ⟨?_, .inl rfl⟩, k + 1, _, _, rfl, hlk, hst, rfl, rfl⟩
   simp [EnvLe, List.replicate, numP, iA]
  clear hO
  rintro env K' ⟨out, c, hI, rfl, rfl⟩
  simp only [List.replicate, numP, iA, List.cons_append, List.nil_append]
  have hol : (dI (numR out)).length = p.length + q.length := by rw [dI_len, numR_len, hI.len]
  have w3 := wrap_add (a := i) (b := q.length) (by omega)
  have hik : i + q.length < out.length := by rw [hI.len]; omega
  have hik2 : i + q.length < p.length + q.length := by omega
  have hikx : (0 : Int) ≤ ((i + q.length : Nat) : Int) := by omega
  have g3 := numD_get out hik
  have hst := hI.outer hlt
  repeat refine aw_seq ?_
  refine zr ttOk ?_
  repeat (refine aops_cons ?_; first | (apply aops_o; rfl; simp only [estep, avs, tts, Nat.reduceAdd, Nat.reduceMul, Nat.reduceSub, Nat.reduceEqDiff, Nat.reduceLT, Nat.reduceLeDiff, Int.reduceToNat, Int.reduceLE, Int.reduceLT, Int.toNat_natCast, reduceCtorEq, hml, w3, hol, hikx, hik2, g3, splice, numD_set] <;> exact rr) | (refine zg rfl ?_; first | refine grd_on ?_ | refine zo ?_))
  refine aops_nil ?_
  repeat refine aw_seq ?_
  refine zr ttOk ?_
  repeat (refine aops_cons ?_; first | (apply aops_o; rfl; simp only [estep, avs, tts, Nat.reduceAdd, Nat.reduceMul, Nat.reduceSub, Nat.reduceEqDiff, Nat.reduceLT, Nat.reduceLeDiff, Int.reduceToNat, Int.reduceLE, Int.reduceLT, Int.toNat_natCast, reduceCtorEq, wrap_succ hlt (by omega : p.length ≤ 9223372036854775807)] <;> exact rr) | (refine zg rfl ?_; first | refine grd_on ?_ | refine zo ?_))
  refine aops_nil ?_
  refine ⟨p.length - (i + 1), _, _, by omega, ⟨?_, .inl rfl⟩, i + 1, _, rfl, hlt, hst, rfl, rfl⟩
  simp [EnvLe, List.replicate, numP, iA]
 rintro env K' ⟨out, hO, rfl, rfl⟩
 simp only [List.replicate, numP, iA, List.cons_append, List.nil_append]
 have ct := trim_a base out (by rw [hO.len]; omega)
 rw [hO.fin] at ct
 have hol2 : (numR out).length = p.length + q.length := by rw [numR_len, hO.len]
 repeat refine aw_seq ?_
 refine zr ttOk ?_
 repeat (refine aops_cons ?_; first | (apply aops_o; rfl; simp only [estep, avs, tts, Nat.reduceAdd, Nat.reduceMul, Nat.reduceSub, Nat.reduceEqDiff, Nat.reduceLT, Nat.reduceLeDiff, Int.reduceToNat, Int.reduceLE, Int.reduceLT, Int.toNat_natCast, reduceCtorEq] <;> exact rr) | (refine zg rfl ?_; first | refine grd_on ?_ | refine zo ?_))
 refine aops_pureF (H.length) rfl (by simp only [avs] <;> rfl) (by simp only [avs, tts, Nat.reduceAdd, Nat.reduceMul, Nat.reduceSub, Nat.reduceEqDiff, Nat.reduceLT, Nat.reduceLeDiff, Int.reduceToNat, Int.reduceLE, Int.reduceLT, Int.toNat_natCast, reduceCtorEq, frzL, frzA, frzO, unI_dI, dI_len, unI, unL, Nat.add_eq_left, Nat.left_eq_add, Nat.one_ne_zero, hol2] <;> rfl) (by simp only [avs, tts, Nat.reduceAdd, Nat.reduceMul, Nat.reduceSub, Nat.reduceEqDiff, Nat.reduceLT, Nat.reduceLeDiff, Int.reduceToNat, Int.reduceLE, Int.reduceLT, Int.toNat_natCast, reduceCtorEq, frzL, frzA, frzO, unI_dI, dI_len, unI, unL, Nat.add_eq_left, Nat.left_eq_add, Nat.one_ne_zero, hol2] <;> rfl) (ct) (by simp only [avs] <;> rfl) ?_
 repeat (refine aops_cons ?_; first | (apply aops_o; rfl; simp only [estep, avs, tts, Nat.reduceAdd, Nat.reduceMul, Nat.reduceSub, Nat.reduceEqDiff, Nat.reduceLT, Nat.reduceLeDiff, Int.reduceToNat, Int.reduceLE, Int.reduceLT, Int.toNat_natCast, reduceCtorEq] <;> exact rr) | (refine zg rfl ?_; first | refine grd_on ?_ | refine zo ?_))
 refine aops_nil ?_
 exact aw_ret ⟨_, rfl, [.dead], by simp, rfl⟩
end Av
end Go.Proofs.YtdekcppfpgeneaaGreatDoor
set_option linter.unusedVariables false
set_option linter.unusedSimpArgs false
namespace Go.Proofs.YtdekcppfpgeneaaGreatDoor
open Go Go.RowKit
namespace Av
open Nt
attribute [local go_sem] Oper.semAt_some

/-! slices.Backward over limbs. -/
def uA (n : Int) : AV := .d (.v (.int .u64 n))
def backE (l : List Nat) (k : Nat) : Array Value := #[.int .i64 (((l.length - 1 - k : Nat) : Int)), .int .u64 ((l.getD (l.length - 1 - k) 0 : Nat) : Int)]
def backEs (l : List Nat) : List (Array Value) := (List.range l.length).map (backE l)
theorem backEs_len (l : List Nat) : (backEs l).length = l.length := by simp [backEs]
theorem backEs_get (l : List Nat) {k : Nat} (h : k < l.length) : (backEs l).getD k #[] = backE l k := by simp [backEs, h]
theorem prows_num {w : World} {imm : Nat → Prop} {b : Nat} : ∀ (l : List Nat) (o : Nat), PRows w imm (numR l) b 1 o → ∀ j, j < l.length → w.cell? ⟨b, o + j, none⟩ = some (.int .u64 ((l.getD j 0 : Nat) : Int))
 | [], o, _, j, h => by cases h
 | a :: r, o, h, j, hj => by
  simp only [numR, List.map_cons, PRows, PCells] at h
  obtain ⟨_, ⟨⟨_, c, h1, h2⟩, _⟩, h3⟩ := h
  simp only [PRep] at h2
  cases j with
  | zero => rw [Nat.add_zero, h1, h2.1]; rfl
  | succ j =>
   have := prows_num r (o + 1) h3 j (by simpa using hj)
   rw [show o + (j + 1) = o + 1 + j by omega, this]; rfl
set_option maxRecDepth 100000 in
set_option maxHeartbeats 1000000 in
theorem back_walk {P0 : Prop} (l : List Nat) (ao : Option Addr) (b o g o2 cap : Nat) (l0 : Nat) (J : Nat → World → Prop) (Jx : World → Prop) (W : World) (hlen : l.length ≤ 1000000)
  (hc : ∀ k W1, J k W1 → W1.cell? ⟨b, o, none⟩ = some (.slice ao l.length cap) ∧ ∀ j, j < l.length → ao = some ⟨g, o2, none⟩ ∧ W1.cell? ⟨g, o2 + j, none⟩ = some (.int .u64 ((l.getD j 0 : Nat) : Int)))
  (hY : ∀ k W1, k < l.length → J k W1 → YieldAt Fence.wide 7 Tryz.prog l0 (backE l k) W1 fun e W' => (e = .returned (.bool true) ∧ J (k + 1) W') ∨ (e = .returned (.bool false) ∧ Jx W')) (h0 : J 0 W) :
  CallsIn Fence.wide 8 Tryz.prog 213 #[.func (.yield l0) #[] #[], .pointer (some ⟨b, o, none⟩)] W fun e W' => (∃ v, e = .returned v) ∧ (J l.length W' ∨ Jx W') := by
 refine callsIn_of_wp Tryz.func213 rfl trivial ?_ rfl
 simp only [Tryz.ntmps213, List.size_toArray, List.length_cons, List.length_nil, Nat.reduceAdd, Nat.reduceSub, Array.replicate_succ, Array.replicate_zero, List.push_toArray, List.append_toArray, List.nil_append, List.cons_append]
 have hc0 := (hc 0 W h0).1
 have hw0 : wrap64 ((l.length : Int) - 1) = (l.length : Int) - 1 := IntWalk.wrap64_in _ (by omega)
 gi_wp2
 gi_loopw [3] (fun i wr => ∃ k : Nat, k ≤ l.length ∧ i = .int .i64 ((l.length : Int) - 1 - k) ∧ J k wr) (fun i _ => (intOf i + 1).toNat)
 case atStart => exact ⟨0, Nat.zero_le _, by simp, h0⟩
 case round =>
  obtain ⟨k, hk, rfl, hJ⟩ := hrel
  by_cases hlt : k < l.length
  ·obtain ⟨m, hm⟩ : ∃ m : Nat, m = l.length - 1 - k := ⟨_, rfl⟩
   have e1 : (l.length : Int) - 1 - k = (m : Int) := by omega
   have hcw := hc k wr hJ
   have hcb := hcw.1
   have hcx := (hcw.2 m (by omega)).2
   have hao := (hcw.2 m (by omega)).1
   subst hao
   have hyk := hY k wr hlt hJ
   unfold backE at hyk
   rw [← hm] at hyk
   obtain ⟨fn, tmps, assign, body, hy, hR⟩ := hyk
   have hge : decide (0 ≤ (m : Int)) = true := by simp
   have hml : m < l.length := by omega
   obtain ⟨x, hx⟩ : ∃ x : Nat, x = l.getD m 0 := ⟨_, rfl⟩
   rw [← hx] at hcx hy
   have hw1 : wrap64 ((m : Int) - 1) = (m : Int) - 1 := IntWalk.wrap64_in _ (by omega)
   rw [e1]
   have E1 := Lib.hid e1
   clear hc hY hcw h0 hc0 hw0 hm e1 hx
   gi_wp2
   refine hR.mono ?_
   rintro e W3 (⟨rfl, hJ3⟩ | ⟨rfl, hJx3⟩)
   ·gi_wp2
    go_roundw
    case rel => exact ⟨k + 1, hlt, by have := E1.out; congr 1; omega, hJ3⟩
    case measure => simp [intOf] <;> omega
   ·gi_wp2
    refine bodyPost_ret (results_none rfl _ _ _) rfl ?_
    exact ⟨⟨_, rfl⟩, .inr hJx3⟩
  ·have e1 : (l.length : Int) - 1 - k = -1 := by omega
   have hkl : k = l.length := by omega
   rw [e1]
   subst hkl
   clear hc hY h0 hc0 hw0 e1
   gi_wp2
   go_end0
   exact ⟨⟨_, rfl⟩, .inl hJ⟩
end Av
end Go.Proofs.YtdekcppfpgeneaaGreatDoor
set_option linter.unusedVariables false
set_option linter.unusedSimpArgs false
namespace Go.Proofs.YtdekcppfpgeneaaGreatDoor
open Go Go.RowKit
namespace Av
attribute [local irreducible] AW AOps AHOps
open Nt

/-! cmp.Compare; slices.Backward az an iterator with known elements. -/
theorem nan_i (base : World) (x : Int) : PureA Tryz.prog base 96 [iA x] (bA false) := by
 refine pure_enter ttOk Tryz.call96 Tryz.func96 rfl fun H hB hb hF => ?_
 rw [Tryz.results96, Tryz.ntmps96]
 simp only [arr_list, List.length_cons, List.length_nil, List.replicate, List.cons_append, List.nil_append, Nat.reduceAdd, Nat.reduceSub]
 clear hF hb hB
 have e : (!decide (x = x)) = false := by simp
 simp only [iA, bA]
 repeat refine aw_seq ?_
 refine zr ttOk ?_
 repeat (refine aops_cons ?_; first | (apply aops_o; rfl; simp only [estep, avs, tts, seval] <;> exact rr) | (refine zg rfl ?_; first | refine grd_on ?_ | refine zo ?_))
 refine aops_nil ?_
 repeat refine aw_seq ?_
 refine zr ttOk ?_
 repeat (refine aops_cons ?_; first | (apply aops_o; rfl; simp only [estep, avs, tts, seval, e] <;> exact rr) | (refine zg rfl ?_; first | refine grd_on ?_ | refine zo ?_))
 refine aops_nil ?_
 exact aw_ret ⟨_, rfl, [], by simp, rfl⟩
theorem nan_u (base : World) (x : Int) : PureA Tryz.prog base 214 [uA x] (bA false) := by
 refine pure_enter ttOk Tryz.call214 Tryz.func214 rfl fun H hB hb hF => ?_
 rw [Tryz.results214, Tryz.ntmps214]
 simp only [arr_list, List.length_cons, List.length_nil, List.replicate, List.cons_append, List.nil_append, Nat.reduceAdd, Nat.reduceSub]
 clear hF hb hB
 have e : (!decide (x = x)) = false := by simp
 simp only [uA, bA]
 repeat refine aw_seq ?_
 refine zr ttOk ?_
 repeat (refine aops_cons ?_; first | (apply aops_o; rfl; simp only [estep, avs, tts, seval] <;> exact rr) | (refine zg rfl ?_; first | refine grd_on ?_ | refine zo ?_))
 refine aops_nil ?_
 repeat refine aw_seq ?_
 refine zr ttOk ?_
 repeat (refine aops_cons ?_; first | (apply aops_o; rfl; simp only [estep, avs, tts, seval, e] <;> exact rr) | (refine zg rfl ?_; first | refine grd_on ?_ | refine zo ?_))
 refine aops_nil ?_
 exact aw_ret ⟨_, rfl, [], by simp, rfl⟩
def cmpI (a b : Int) : Int := if a < b then -1 else if b < a then 1 else 0
set_option maxHeartbeats 4000000 in
theorem cmp_i (base : World) (a b : Int) : PureA Tryz.prog base 68 [iA a, iA b] (iA (cmpI a b)) := by
 refine pure_enter ttOk Tryz.call68 Tryz.func68 rfl fun H hB hb hF => ?_
 rw [Tryz.results68, Tryz.ntmps68]
 simp only [arr_list, List.length_cons, List.length_nil, List.replicate, List.cons_append, List.nil_append, Nat.reduceAdd, Nat.reduceSub]
 clear hF hb hB
 have ca := nan_i base a
 have cb := nan_i base b
 simp only [iA, bA] at ca cb ⊢
 repeat refine aw_seq ?_
 refine zr ttOk ?_
 repeat (refine aops_cons ?_; first | (apply aops_o; rfl; simp only [estep, avs, tts, seval] <;> exact rr) | (refine zg rfl ?_; first | refine grd_on ?_ | refine zo ?_))
 refine aops_nil ?_
 repeat refine aw_seq ?_
 refine zr ttOk ?_
 repeat (refine aops_cons ?_; first | (apply aops_o; rfl; simp only [estep, avs, tts, seval] <;> exact rr) | (refine zg rfl ?_; first | refine grd_on ?_ | refine zo ?_))
 refine zP rfl (ca) ?_
 repeat (refine aops_cons ?_; first | (apply aops_o; rfl; simp only [estep, avs, tts, seval] <;> exact rr) | (refine zg rfl ?_; first | refine grd_on ?_ | refine zo ?_))
 refine aops_nil ?_
 repeat refine aw_seq ?_
 refine zr ttOk ?_
 repeat (refine aops_cons ?_; first | (apply aops_o; rfl; simp only [estep, avs, tts, seval] <;> exact rr) | (refine zg rfl ?_; first | refine grd_on ?_ | refine zo ?_))
 refine zP rfl (cb) ?_
 repeat (refine aops_cons ?_; first | (apply aops_o; rfl; simp only [estep, avs, tts, seval] <;> exact rr) | (refine zg rfl ?_; first | refine grd_on ?_ | refine zo ?_))
 refine aops_nil ?_
 repeat refine aw_seq ?_
 refine zr ttOk ?_
 repeat (refine aops_cons ?_; first | (apply aops_o; rfl; simp only [estep, avs, tts, seval] <;> exact rr) | (refine zg rfl ?_; first | refine grd_on ?_ | refine zo ?_))
 refine aops_nil ?_
 repeat refine aw_seq ?_
 refine aw_cond rfl rfl (fun hb => ?_) fun hb => ?_
 ·cases hb
 refine aw_skip ?_
 repeat refine aw_seq ?_
 refine zr ttOk ?_
 repeat (refine aops_cons ?_; first | (apply aops_o; rfl; simp only [estep, avs, tts, seval] <;> exact rr) | (refine zg rfl ?_; first | refine grd_on ?_ | refine zo ?_))
 refine aops_nil ?_
 repeat refine aw_seq ?_
 refine aw_cond rfl rfl (fun hb => ?_) fun hb => ?_
 ·cases hb
 refine aw_skip ?_
 repeat refine aw_seq ?_
 refine zr ttOk ?_
 repeat (refine aops_cons ?_; first | (apply aops_o; rfl; simp only [estep, avs, tts, seval] <;> exact rr) | (refine zg rfl ?_; first | refine grd_on ?_ | refine zo ?_))
 refine aops_nil ?_
 repeat refine aw_seq ?_
 refine aw_cond rfl rfl (fun hb => ?_) fun hb => ?_
 ·repeat refine aw_seq ?_
  refine zr ttOk ?_
  repeat (refine aops_cons ?_; first | (apply aops_o; rfl; simp only [estep, avs, tts, seval] <;> exact rr) | (refine zg rfl ?_; first | refine grd_on ?_ | refine zo ?_))
  refine aops_nil ?_
  have h1 : a < b := by simpa using hb
  refine aw_ret ⟨_, rfl, [], by simp, ?_⟩
  simp [aResult, sealA, cmpI, h1]
 have h1 : ¬ a < b := by simpa using hb
 refine aw_skip ?_
 repeat refine aw_seq ?_
 refine zr ttOk ?_
 repeat (refine aops_cons ?_; first | (apply aops_o; rfl; simp only [estep, avs, tts, seval] <;> exact rr) | (refine zg rfl ?_; first | refine grd_on ?_ | refine zo ?_))
 refine aops_nil ?_
 repeat refine aw_seq ?_
 refine aw_cond rfl rfl (fun hb => ?_) fun hb => ?_
 ·repeat refine aw_seq ?_
  refine zr ttOk ?_
  repeat (refine aops_cons ?_; first | (apply aops_o; rfl; simp only [estep, avs, tts, seval] <;> exact rr) | (refine zg rfl ?_; first | refine grd_on ?_ | refine zo ?_))
  refine aops_nil ?_
  have h2 : b < a := by simpa using hb
  refine aw_ret ⟨_, rfl, [], by simp, ?_⟩
  simp [aResult, sealA, cmpI, h1, h2]
 have h2 : ¬ b < a := by simpa using hb
 refine aw_skip ?_
 repeat refine aw_seq ?_
 refine zr ttOk ?_
 repeat (refine aops_cons ?_; first | (apply aops_o; rfl; simp only [estep, avs, tts, seval] <;> exact rr) | (refine zg rfl ?_; first | refine grd_on ?_ | refine zo ?_))
 refine aops_nil ?_
 refine aw_ret ⟨_, rfl, [], by simp, ?_⟩
 simp [aResult, sealA, cmpI, h1, h2]
set_option maxHeartbeats 4000000 in
theorem cmp_u (base : World) (a b : Int) : PureA Tryz.prog base 182 [uA a, uA b] (iA (cmpI a b)) := by
 refine pure_enter ttOk Tryz.call182 Tryz.func182 rfl fun H hB hb hF => ?_
 rw [Tryz.results182, Tryz.ntmps182]
 simp only [arr_list, List.length_cons, List.length_nil, List.replicate, List.cons_append, List.nil_append, Nat.reduceAdd, Nat.reduceSub]
 clear hF hb hB
 have ca := nan_u base a
 have cb := nan_u base b
 simp only [iA, uA, bA] at ca cb ⊢
 repeat refine aw_seq ?_
 refine zr ttOk ?_
 repeat (refine aops_cons ?_; first | (apply aops_o; rfl; simp only [estep, avs, tts, seval] <;> exact rr) | (refine zg rfl ?_; first | refine grd_on ?_ | refine zo ?_))
 refine aops_nil ?_
 repeat refine aw_seq ?_
 refine zr ttOk ?_
 repeat (refine aops_cons ?_; first | (apply aops_o; rfl; simp only [estep, avs, tts, seval] <;> exact rr) | (refine zg rfl ?_; first | refine grd_on ?_ | refine zo ?_))
 refine zP rfl (ca) ?_
 repeat (refine aops_cons ?_; first | (apply aops_o; rfl; simp only [estep, avs, tts, seval] <;> exact rr) | (refine zg rfl ?_; first | refine grd_on ?_ | refine zo ?_))
 refine aops_nil ?_
 repeat refine aw_seq ?_
 refine zr ttOk ?_
 repeat (refine aops_cons ?_; first | (apply aops_o; rfl; simp only [estep, avs, tts, seval] <;> exact rr) | (refine zg rfl ?_; first | refine grd_on ?_ | refine zo ?_))
 refine zP rfl (cb) ?_
 repeat (refine aops_cons ?_; first | (apply aops_o; rfl; simp only [estep, avs, tts, seval] <;> exact rr) | (refine zg rfl ?_; first | refine grd_on ?_ | refine zo ?_))
 refine aops_nil ?_
 repeat refine aw_seq ?_
 refine zr ttOk ?_
 repeat (refine aops_cons ?_; first | (apply aops_o; rfl; simp only [estep, avs, tts, seval] <;> exact rr) | (refine zg rfl ?_; first | refine grd_on ?_ | refine zo ?_))
 refine aops_nil ?_
 repeat refine aw_seq ?_
 refine aw_cond rfl rfl (fun hb => ?_) fun hb => ?_
 ·cases hb
 refine aw_skip ?_
 repeat refine aw_seq ?_
 refine zr ttOk ?_
 repeat (refine aops_cons ?_; first | (apply aops_o; rfl; simp only [estep, avs, tts, seval] <;> exact rr) | (refine zg rfl ?_; first | refine grd_on ?_ | refine zo ?_))
 refine aops_nil ?_
 repeat refine aw_seq ?_
 refine aw_cond rfl rfl (fun hb => ?_) fun hb => ?_
 ·cases hb
 refine aw_skip ?_
 repeat refine aw_seq ?_
 refine zr ttOk ?_
 repeat (refine aops_cons ?_; first | (apply aops_o; rfl; simp only [estep, avs, tts, seval] <;> exact rr) | (refine zg rfl ?_; first | refine grd_on ?_ | refine zo ?_))
 refine aops_nil ?_
 repeat refine aw_seq ?_
 refine aw_cond rfl rfl (fun hb => ?_) fun hb => ?_
 ·repeat refine aw_seq ?_
  refine zr ttOk ?_
  repeat (refine aops_cons ?_; first | (apply aops_o; rfl; simp only [estep, avs, tts, seval] <;> exact rr) | (refine zg rfl ?_; first | refine grd_on ?_ | refine zo ?_))
  refine aops_nil ?_
  have h1 : a < b := by simpa using hb
  refine aw_ret ⟨_, rfl, [], by simp, ?_⟩
  simp [aResult, sealA, cmpI, h1]
 have h1 : ¬ a < b := by simpa using hb
 refine aw_skip ?_
 repeat refine aw_seq ?_
 refine zr ttOk ?_
 repeat (refine aops_cons ?_; first | (apply aops_o; rfl; simp only [estep, avs, tts, seval] <;> exact rr) | (refine zg rfl ?_; first | refine grd_on ?_ | refine zo ?_))
 refine aops_nil ?_
 repeat refine aw_seq ?_
 refine aw_cond rfl rfl (fun hb => ?_) fun hb => ?_
 ·repeat refine aw_seq ?_
  refine zr ttOk ?_
  repeat (refine aops_cons ?_; first | (apply aops_o; rfl; simp only [estep, avs, tts, seval] <;> exact rr) | (refine zg rfl ?_; first | refine grd_on ?_ | refine zo ?_))
  refine aops_nil ?_
  have h2 : b < a := by simpa using hb
  refine aw_ret ⟨_, rfl, [], by simp, ?_⟩
  simp [aResult, sealA, cmpI, h1, h2]
 have h2 : ¬ b < a := by simpa using hb
 refine aw_skip ?_
 repeat refine aw_seq ?_
 refine zr ttOk ?_
 repeat (refine aops_cons ?_; first | (apply aops_o; rfl; simp only [estep, avs, tts, seval] <;> exact rr) | (refine zg rfl ?_; first | refine grd_on ?_ | refine zo ?_))
 refine aops_nil ?_
 refine aw_ret ⟨_, rfl, [], by simp, ?_⟩
 simp [aResult, sealA, cmpI, h1, h2]
/-- the iterator over a number's limbs, highest first -/
def backA (l : List Nat) : AV := .fn (.func 213) [] [.rp [numP l]]
theorem back_a (base : World) (l : List Nat) : PureA Tryz.prog base 181 [.d (numP l)] (backA l) := by
 refine pure_enter ttOk Tryz.call181 Tryz.func181 rfl fun H hB hb hF => ?_
 rw [Tryz.results181, Tryz.ntmps181]
 simp only [arr_list, List.length_cons, List.length_nil, List.replicate, List.cons_append, List.nil_append, Nat.reduceAdd, Nat.reduceSub]
 clear hF hb hB
 repeat refine aw_seq ?_
 refine zr ttOk ?_
 repeat (refine aops_cons ?_; first | (apply aops_o; rfl; simp only [estep, avs, tts, seval] <;> exact rr) | (refine zg rfl ?_; first | refine grd_on ?_ | refine zo ?_))
 refine aops_nil ?_
 repeat refine aw_seq ?_
 refine zr ttOk ?_
 repeat (refine aops_cons ?_; first | (apply aops_o; rfl; simp only [estep, avs, tts, seval] <;> exact rr) | (refine zg rfl ?_; first | refine grd_on ?_ | refine zo ?_))
 refine aops_nil ?_
 refine aw_ret ⟨_, rfl, _, rfl, ?_⟩
 simp [aResult, sealA, sealL, unL, backA, AV.one, numP, PD.one]
end Av
end Go.Proofs.YtdekcppfpgeneaaGreatDoor
set_option linter.unusedVariables false
set_option linter.unusedSimpArgs false
namespace Go.Proofs.YtdekcppfpgeneaaGreatDoor
open Go Go.RowKit
namespace Av
attribute [local irreducible] AW AOps AHOps
open Nt

/-! The iterator's elements. -/
def backL (l : List Nat) : List (List AV) := (List.range l.length).map fun k => [iA (((l.length - 1 - k : Nat) : Int)), uA ((l.getD (l.length - 1 - k) 0 : Nat) : Int)]
theorem backL_len (l : List Nat) : (backL l).length = l.length := by simp [backL]
theorem backL_get (l : List Nat) {k : Nat} (h : k < l.length) : (backL l).getD k [] = [iA (((l.length - 1 - k : Nat) : Int)), uA ((l.getD (l.length - 1 - k) 0 : Nat) : Int)] := by simp [backL, h]
theorem back_seq {base : World} {l : List Nat} (hl : LimbsOk l) (hlen : l.length ≤ 1000000) {H : AHeap} (μ : Nat → Option Nat) (w : World) (lb : Array Value) (hs : Sim base ⟨μ, H, w⟩) (hr : RepL ⟨μ, H, w⟩ [.rp [numP l]] lb.toList) :
  ∃ encs : List (Array Value), SeqW Tryz.prog 213 lb encs ⟨μ, H, w⟩ ∧ encs.length = (backL l).length ∧ ∀ k, k < (backL l).length → (encs.getD k #[]).size = 2 ∧ RepL ⟨μ, H, w⟩ ((backL l).getD k []) (encs.getD k #[]).toList := by
 simp only [RepL] at hr
 obtain ⟨v, r, e1, hv, rfl⟩ := hr
 simp only [Rep] at hv
 obtain ⟨b, o, rfl, him, hc⟩ := hv
 simp only [PCells, numP] at hc
 obtain ⟨⟨_, c, h1, h2⟩, _⟩ := hc
 simp only [PRep, numR_len] at h2
 obtain ⟨ao, cap, rfl, _, _, h3⟩ := h2
 obtain rfl : lb = #[.pointer (some ⟨b, o, none⟩)] := Array.toList_inj.1 (by simpa using e1)
 refine ⟨backEs l, ?_, by rw [backEs_len, backL_len], fun k hk => ?_⟩
 ·intro l0 J Jx W himm hY h0
  rw [backEs_len] at hY ⊢
  have hY' : ∀ k W1, k < l.length → J k W1 → YieldAt Fence.wide 7 Tryz.prog l0 (backE l k) W1 fun e W' => (e = .returned (.bool true) ∧ J (k + 1) W') ∨ (e = .returned (.bool false) ∧ Jx W') := fun k W1 hk hJ => by
   have := hY k W1 hk hJ
   rwa [backEs_get l hk] at this
  rcases h3 with h3 | ⟨g, o2, rfl, him2, hrows⟩
  ·have hl0 : l = [] := by cases l with
    | nil => rfl
    | cons a t => simp [numR] at h3
   subst hl0
   refine back_walk (P0 := True) [] ao b o 0 0 cap l0 J Jx W hlen (fun k W1 hJ => ⟨?_, fun j hj => by cases hj⟩) hY' h0
   rw [cell_eq (himm k W1 hJ b him)]; exact h1
  ·refine back_walk (P0 := True) l _ b o g o2 cap l0 J Jx W hlen (fun k W1 hJ => ⟨?_, fun j hj => ⟨rfl, ?_⟩⟩) hY' h0
   ·rw [cell_eq (himm k W1 hJ b him)]; exact h1
   ·rw [cell_eq (himm k W1 hJ g him2)]; exact prows_num l o2 hrows j hj
 ·rw [backL_len] at hk
  rw [backEs_get l hk, backL_get l hk]
  refine ⟨rfl, ?_⟩
  have hx : l.getD (l.length - 1 - k) 0 < 1000000000 := getD_lt hl _
  simp only [backE, RepL, iA, uA]
  have m1 : IntKind.i64.min = -9223372036854775808 := by decide
  have m2 : IntKind.i64.max = 9223372036854775807 := by decide
  have m3 : IntKind.u64.min = 0 := by decide
  have m4 : IntKind.u64.max = 18446744073709551615 := by decide
  generalize l.getD (l.length - 1 - k) 0 = x at hx
  refine ⟨_, _, rfl, ?_, _, _, rfl, ?_, rfl⟩
  ·simp only [Rep, PRep, small, m1, m2, true_and]
   omega
  ·simp only [Rep, PRep, small, m3, m4, true_and]
   omega
end Av
end Go.Proofs.YtdekcppfpgeneaaGreatDoor
set_option linter.unusedVariables false
set_option linter.unusedSimpArgs false
namespace Go.Proofs.YtdekcppfpgeneaaGreatDoor
open Go Go.RowKit
namespace Av
attribute [local irreducible] AW AOps AHOps
open Nt

/-! compare. -/
theorem cmpI_len {p q : List Nat} (hp : Nt.Can p) (hq : Nt.Can q) (h : cmpI (p.length : Int) (q.length : Int) ≠ 0) : cmpI (p.length : Int) (q.length : Int) = cmpN (valL p) (valL q) := by
 unfold cmpI at h ⊢
 by_cases h1 : (p.length : Int) < (q.length : Int)
 ·have h2 := can_len_lt hp hq (by omega)
  rw [if_pos h1, cmpN, if_pos h2]
 ·rw [if_neg h1] at h ⊢
  by_cases h3 : (q.length : Int) < (p.length : Int)
  ·have h2 := can_len_lt hq hp (by omega)
   rw [if_pos h3, cmpN, if_neg (by omega), if_pos h2]
  ·rw [if_neg h3] at h
   exact absurd rfl h
theorem cmpI_at {p q : List Nat} (hp : LimbsOk p) (hq : LimbsOk q) (he : p.length = q.length) {i : Nat} (hi : i < p.length) (hd : p.drop (i + 1) = q.drop (i + 1)) (h : cmpI (p.getD i 0 : Int) (q.getD i 0 : Int) ≠ 0) : cmpI (p.getD i 0 : Int) (q.getD i 0 : Int) = cmpN (valL p) (valL q) := by
 unfold cmpI at h ⊢
 by_cases h1 : (p.getD i 0 : Int) < (q.getD i 0 : Int)
 ·have h2 := cmp_at hp hq he hi hd (by omega)
  rw [if_pos h1, cmpN, if_pos h2]
 ·rw [if_neg h1] at h ⊢
  by_cases h3 : (q.getD i 0 : Int) < (p.getD i 0 : Int)
  ·have h2 := cmp_at hq hp he.symm (by omega) hd.symm (by omega)
   rw [if_pos h3, cmpN, if_neg (by omega), if_pos h2]
  ·rw [if_neg h3] at h
   exact absurd rfl h
theorem cmpI_zero {a b : Nat} (h : cmpI (a : Int) (b : Int) = 0) : a = b := by
 unfold cmpI at h
 by_cases h1 : (a : Int) < (b : Int)
 ·rw [if_pos h1] at h; cases h
 ·rw [if_neg h1] at h
  by_cases h2 : (b : Int) < (a : Int)
  ·rw [if_pos h2] at h; cases h
  ·omega
theorem cmpN_self (n : Nat) : cmpN n n = 0 := by simp [cmpN]
set_option maxRecDepth 100000 in
set_option maxHeartbeats 4000000 in
theorem compare_a (base : World) (p q : List Nat) (hp : Nt.Can p) (hq : Nt.Can q) (hbp : p.length ≤ 1000000) (hbq : q.length ≤ 1000000) : PureA Tryz.prog base 144 [.d (numP p), .d (numP q)] (iA (cmpN (valL p) (valL q))) := by
 refine pure_enter ttOk Tryz.call144 Tryz.func144 rfl fun H hB hb hF => ?_
 rw [Tryz.results144, Tryz.ntmps144]
 simp only [arr_list, List.length_cons, List.length_nil, List.replicate, List.cons_append, List.nil_append, Nat.reduceAdd, Nat.reduceSub]
 clear hF hb
 have hnl := numR_len p
 have hml := numR_len q
 have c1 := cmp_i base p.length q.length
 simp only [iA] at c1 ⊢
 repeat refine aw_seq ?_
 refine zr ttOk ?_
 repeat (refine aops_cons ?_; first | (apply aops_o; rfl; simp only [estep, avs, tts, seval] <;> exact rr) | (refine zg rfl ?_; first | refine grd_on ?_ | refine zo ?_))
 refine aops_nil ?_
 repeat refine aw_seq ?_
 refine zr ttOk ?_
 repeat (refine aops_cons ?_; first | (apply aops_o; rfl; simp only [estep, avs, tts, seval, numP, hnl, hml] <;> exact rr) | (refine zg rfl ?_; first | refine grd_on ?_ | refine zo ?_))
 refine zP rfl (c1) ?_
 repeat (refine aops_cons ?_; first | (apply aops_o; rfl; simp only [estep, avs, tts, seval] <;> exact rr) | (refine zg rfl ?_; first | refine grd_on ?_ | refine zo ?_))
 refine aops_nil ?_
 repeat refine aw_seq ?_
 refine zr ttOk ?_
 repeat (refine aops_cons ?_; first | (apply aops_o; rfl; simp only [estep, avs, tts, seval] <;> exact rr) | (refine zg rfl ?_; first | refine grd_on ?_ | refine zo ?_))
 refine aops_nil ?_
 repeat refine aw_seq ?_
 refine aw_cond rfl rfl (fun hb => ?_) fun hb => ?_
 ·repeat refine aw_seq ?_
  refine zr ttOk ?_
  repeat (refine aops_cons ?_; first | (apply aops_o; rfl; simp only [estep, avs, tts, seval] <;> exact rr) | (refine zg rfl ?_; first | refine grd_on ?_ | refine zo ?_))
  refine aops_nil ?_
  have hne : cmpI (p.length : Int) (q.length : Int) ≠ 0 := by simpa using hb
  rw [cmpI_len hp hq hne]
  exact aw_ret ⟨_, (by simp only [aResult, aResL, aRes, avs, tts] <;> rfl), _, rfl, rfl⟩
 have hz : cmpI (p.length : Int) (q.length : Int) = 0 := by simpa using hb
 have hlen : p.length = q.length := cmpI_zero hz
 have cb := back_a base p
 refine aw_skip ?_
 repeat refine aw_seq ?_
 refine zr ttOk ?_
 repeat (refine aops_cons ?_; first | (apply aops_o; rfl; simp only [estep, avs, tts, seval] <;> exact rr) | (refine zg rfl ?_; first | refine grd_on ?_ | refine zo ?_))
 refine zP rfl (cb) ?_
 repeat (refine aops_cons ?_; first | (apply aops_o; rfl; simp only [estep, avs, tts, seval] <;> exact rr) | (refine zg rfl ?_; first | refine grd_on ?_ | refine zo ?_))
 refine aops_nil ?_
 repeat refine aw_seq ?_
 refine aw_block ?_
 refine aw_range (gf := 213) (caps := [.rp [numP p]]) (backL p) rfl rfl Tryz.call213 (fun μ w lb hs hr => back_seq hp.1 hbp μ w lb hs hr)
  (fun k H' => p.drop (p.length - k) = q.drop (p.length - k) ∧ H' = H ++ [.box 136 [.d (numP q)], .box 3 [.d (.v (.int .i64 0))]])
  (fun c H' => c = .ret ∧ H' = H ++ [.box 136 [.d (numP q)], .box 3 [.d (.v (.int .i64 (cmpN (valL p) (valL q))))]]) ⟨by simp [hlen], rfl⟩ ?_ ?_ ?_
 ·rintro l k H' hk ⟨hd, rfl⟩ hN
  rw [backL_len] at hk
  rw [backL_get p hk]
  obtain ⟨m, hm⟩ : ∃ m, m = p.length - 1 - k := ⟨_, rfl⟩
  rw [← hm]
  have hmp : m < p.length := by omega
  have hmq : m < q.length := by omega
  have hd' : p.drop (m + 1) = q.drop (m + 1) := by rw [show m + 1 = p.length - k by omega]; exact hd
  have hnext : p.length - (k + 1) = m := by omega
  have g1 := numR_get q hmq
  rw [getD_at hmq] at g1
  have hix : (0 : Int) ≤ (m : Int) := by omega
  have c2 := cmp_u base (p.getD m 0) (q.getD m 0)
  simp only [uA, iA] at c2
  simp only [setPs, arr_list, List.zip_cons_cons, List.zip_nil_left, List.foldl_cons, List.foldl_nil, List.set_cons_succ, List.set_cons_zero, iA, uA, numP]
  clear hm hd cb c1 hN
  repeat refine aw_seq ?_
  refine zr ttOk ?_
  repeat (refine aops_cons ?_; first | (apply aops_o; rfl; simp only [estep, avs, tts, seval] <;> exact rr) | (refine zg rfl ?_; first | refine grd_on ?_ | refine zo ?_))
  refine aops_nil ?_
  repeat refine aw_seq ?_
  refine zr ttOk ?_
  repeat (refine aops_cons ?_; first | (apply aops_o; rfl; simp only [estep, avs, tts, seval] <;> exact rr) | (refine zg rfl ?_; first | refine grd_on ?_ | refine zo ?_))
  refine aops_nil ?_
  refine ⟨rfl, ?_⟩
  refine aw_block ?_
  repeat refine aw_seq ?_
  refine zr ttOk ?_
  repeat (refine aops_cons ?_; first | (apply aops_o; rfl; simp only [estep, avs, tts, seval, hml, hix, hmq, g1] <;> exact rr) | (refine zg rfl ?_; first | refine grd_on ?_ | refine zo ?_))
  refine zP rfl (c2) ?_
  repeat (refine aops_cons ?_; first | (apply aops_o; rfl; simp only [estep, avs, tts, seval] <;> exact rr) | (refine zg rfl ?_; first | refine grd_on ?_ | refine zo ?_))
  refine aops_nil ?_
  repeat refine aw_seq ?_
  refine zr ttOk ?_
  repeat (refine aops_cons ?_; first | (apply aops_o; rfl; simp only [estep, avs, tts, seval] <;> exact rr) | (refine zg rfl ?_; first | refine grd_on ?_ | refine zo ?_))
  refine aops_nil ?_
  repeat refine aw_seq ?_
  refine aw_cond rfl rfl (fun hb => ?_) fun hb => ?_
  ·repeat refine aw_seq ?_
   refine zr ttOk ?_
   repeat (refine aops_cons ?_; first | (apply aops_o; rfl; simp only [estep, avs, tts, seval] <;> exact rr) | (refine zg rfl ?_; first | refine grd_on ?_ | refine zo ?_))
   refine aops_nil ?_
   have hne : cmpI (p.getD m 0 : Int) (q.getD m 0 : Int) ≠ 0 := by simpa using hb
   have := cmpI_at hp.1 hq.1 hlen hmp hd' hne
   rw [this]
   exact aw_ret ⟨rfl, rfl⟩
  have hzz : cmpI (p.getD m 0 : Int) (q.getD m 0 : Int) = 0 := by simpa using hb
  refine aw_skip ?_
  refine ⟨?_, rfl⟩
  rw [hnext]
  exact drop_step hlen hmp hd' (cmpI_zero hzz)
 ·rintro H' ⟨hd, rfl⟩ hN
  rw [backL_len, Nat.sub_self, List.drop_zero, List.drop_zero] at hd
  subst hd
  rw [cmpN_self]
  repeat refine aw_seq ?_
  refine zr ttOk ?_
  repeat (refine aops_cons ?_; first | (apply aops_o; rfl; simp only [estep, avs, tts, seval] <;> exact rr) | (refine zg rfl ?_; first | refine grd_on ?_ | refine zo ?_))
  refine aops_nil ?_
  exact aw_ret ⟨_, (by simp only [aResult, aResL, aRes, avs, tts] <;> rfl), _, rfl, rfl⟩
 ·rintro c H' ⟨rfl, rfl⟩ hN
  exact aw_ret ⟨_, (by simp only [aResult, aResL, aRes, avs, tts] <;> rfl), _, rfl, rfl⟩
end Av
end Go.Proofs.YtdekcppfpgeneaaGreatDoor
set_option linter.unusedVariables false
set_option linter.unusedSimpArgs false
namespace Go.Proofs.YtdekcppfpgeneaaGreatDoor
open Go Go.RowKit
namespace Av
attribute [local irreducible] AW AOps AHOps
open Nt

/-! gcd, over what div answers. -/
/-- what div has to answer at numbers of few limbs -/
def DivA (base : World) (C : Nat) : Prop := ∀ a b : Nat, a < C → b < C → 0 < b → PureA Tryz.prog base 148 [.d (numP (limbs a)), .d (numP (limbs b))] (.tup [.d (numP (limbs (a / b))), .d (numP (limbs (a % b)))])
set_option maxRecDepth 100000 in
set_option maxHeartbeats 4000000 in
theorem gcd_a (base : World) {C : Nat} (hd : DivA base C) (p q : Nat) (hp : p < C) (hq : q < C) : PureA Tryz.prog base 126 [.d (numP (limbs p)), .d (numP (limbs q))] (.d (numP (limbs (Nat.gcd p q)))) := by
 refine pure_enter ttOk Tryz.call126 Tryz.func126 rfl fun H hB hb hF => ?_
 rw [Tryz.results126, Tryz.ntmps126]
 simp only [arr_list, List.length_cons, List.length_nil, List.replicate, List.cons_append, List.nil_append, Nat.reduceAdd, Nat.reduceSub]
 clear hF hb
 repeat refine aw_seq ?_
 refine zr ttOk ?_
 repeat (refine aops_cons ?_; first | (apply aops_o; rfl; simp only [estep, avs, tts, seval] <;> exact rr) | (refine zg rfl ?_; first | refine grd_on ?_ | refine zo ?_))
 refine aops_nil ?_
 repeat refine aw_seq ?_
 refine aw_mid2 (Q0 := fun env K' => K' = H ∧ env = .d (numP (limbs (Nat.gcd p q))) :: .d (numP []) :: .undef :: .undef :: nilS :: List.replicate 14 .undef) ?_ ?_
 ·refine aw_block (aw_loop (H0 := H) (fun r env K' => ∃ a b, r = b ∧ a < C ∧ b < C ∧ Nat.gcd a b = Nat.gcd p q ∧ K' = H ∧ env = .d (numP (limbs a)) :: .d (numP (limbs b)) :: .undef :: .undef :: nilS :: List.replicate 14 .undef) ?_ ⟨p, q, rfl, hp, hq, rfl, rfl, rfl⟩ ?_)
  ·exact ⟨by simp [EnvLe, List.replicate, numP, nilS], .inl rfl⟩
  rintro r env K' ⟨a, b, rfl, ha, hbC, hg, rfl, rfl⟩ hN
  simp only [List.replicate, numP, nilS]
  have hnl := numR_len (limbs r)
  repeat refine aw_seq ?_
  refine zr ttOk ?_
  repeat (refine aops_cons ?_; first | (apply aops_o; rfl; simp only [estep, avs, tts, seval, hnl] <;> exact rr) | (refine zg rfl ?_; first | refine grd_on ?_ | refine zo ?_))
  refine aops_nil ?_
  repeat refine aw_seq ?_
  refine aw_cond rfl rfl (fun hb => ?_) fun hb => ?_
  rotate_left
  ·refine aw_exit ?_
   have hz : limbs r = [] := by
    have : (limbs r).length = 0 := by simpa using hb
    exact List.eq_nil_of_length_eq_zero this
   have h0 : r = 0 := by have := limbs_val r; rw [hz] at this; exact this.symm
   subst h0
   rw [Nat.gcd_zero_right] at hg
   subst hg
   rw [hz]
   exact ⟨rfl, _, _, ⟨by simp [EnvLe, List.replicate, numP, nilS], .inl rfl⟩, rfl, rfl⟩
  have hpos : 0 < r := by
   refine Nat.pos_of_ne_zero fun e => ?_
   subst e
   simp [limbs_zero] at hb
  have cd := hd a r ha hbC hpos
  simp only [numP] at cd
  refine aw_skip ?_
  repeat refine aw_seq ?_
  refine aw_block ?_
  repeat refine aw_seq ?_
  refine zr ttOk ?_
  repeat (refine aops_cons ?_; first | (apply aops_o; rfl; simp only [estep, avs, tts, seval] <;> exact rr) | (refine zg rfl ?_; first | refine grd_on ?_ | refine zo ?_))
  refine zP rfl (cd) ?_
  repeat (refine aops_cons ?_; first | (apply aops_o; rfl; simp only [estep, avs, tts, seval] <;> exact rr) | (refine zg rfl ?_; first | refine grd_on ?_ | refine zo ?_))
  refine aops_nil ?_
  repeat refine aw_seq ?_
  refine zr ttOk ?_
  repeat (refine aops_cons ?_; first | (apply aops_o; rfl; simp only [estep, avs, tts, seval] <;> exact rr) | (refine zg rfl ?_; first | refine grd_on ?_ | refine zo ?_))
  refine aops_nil ?_
  refine ⟨a % r, _, _, Nat.mod_lt _ hpos, ⟨?_, .inl rfl⟩, r, a % r, rfl, hbC, Nat.lt_trans (Nat.mod_lt _ hpos) hbC, ?_, rfl, rfl⟩
  ·simp [EnvLe, List.replicate, numP, nilS]
  ·rw [← hg, Nat.gcd_comm a r, Nat.gcd_rec r a, Nat.gcd_comm]
 rintro env K' ⟨rfl, rfl⟩
 simp only [List.replicate, numP, nilS]
 repeat refine aw_seq ?_
 refine zr ttOk ?_
 repeat (refine aops_cons ?_; first | (apply aops_o; rfl; simp only [estep, avs, tts, seval] <;> exact rr) | (refine zg rfl ?_; first | refine grd_on ?_ | refine zo ?_))
 refine aops_nil ?_
 exact aw_ret ⟨_, rfl, [], by simp, rfl⟩
end Av
end Go.Proofs.YtdekcppfpgeneaaGreatDoor
set_option linter.unusedVariables false
set_option linter.unusedSimpArgs false
namespace Go.Proofs.YtdekcppfpgeneaaGreatDoor
open Go Go.RowKit
namespace Av
attribute [local irreducible] AW AOps AHOps
open Nt

/-! sort.Search, over a test that reads. -/
set_option maxRecDepth 100000 in
set_option maxHeartbeats 4000000 in
theorem search_a (base : World) (H : AHeap) (g : FuncId) (caps : List AV) (n : Nat) (hn : n ≤ 1000000000) (T : Nat → Bool) (hT : ∀ i, i < n → ReadA Tryz.prog base g (iA i :: caps) H (bA (T i)))
  (k : Nat) (hk : k ≤ n) (h0 : ∀ i, i < k → T i = false) (h1 : ∀ i, k ≤ i → i < n → T i = true) : ReadA Tryz.prog base 187 [iA n, .fn (.func g) [] caps] H (iA k) := by
 refine read_enter ttOk Tryz.call187 Tryz.func187 rfl fun hB hb hF => ?_
 rw [Tryz.results187, Tryz.ntmps187]
 simp only [arr_list, List.length_cons, List.length_nil, List.replicate, List.cons_append, List.nil_append, Nat.reduceAdd, Nat.reduceSub]
 clear hF hb
 simp only [iA]
 repeat refine aw_seq ?_
 refine zr ttOk ?_
 repeat (refine aops_cons ?_; first | (apply aops_o; rfl; simp only [estep, avs, tts, seval] <;> exact rr) | (refine zg rfl ?_; first | refine grd_on ?_ | refine zo ?_))
 refine aops_nil ?_
 repeat refine aw_seq ?_
 refine zr ttOk ?_
 repeat (refine aops_cons ?_; first | (apply aops_o; rfl; simp only [estep, avs, tts, seval] <;> exact rr) | (refine zg rfl ?_; first | refine grd_on ?_ | refine zo ?_))
 refine aops_nil ?_
 repeat refine aw_seq ?_
 refine aw_mid2 (Q0 := fun env K' => K' = H ∧ env = iA n :: .fn (.func g) [] caps :: .undef :: .undef :: iA 0 :: iA k :: iA k :: List.replicate 19 .undef) ?_ ?_
 ·refine aw_block (aw_loop (H0 := H) (fun r env K' => ∃ a b : Nat, r = b - a ∧ a ≤ k ∧ k ≤ b ∧ b ≤ n ∧ K' = H ∧ env = iA n :: .fn (.func g) [] caps :: .undef :: .undef :: iA 0 :: iA a :: iA b :: List.replicate 19 .undef) ?_ ⟨0, n, rfl, Nat.zero_le _, hk, Nat.le_refl _, rfl, rfl⟩ ?_)
  ·exact ⟨by simp [EnvLe, List.replicate, iA], .inl rfl⟩
  rintro r env K' ⟨a, b, rfl, ha, hbk, hbn, rfl, rfl⟩ hN
  simp only [List.replicate, iA]
  repeat refine aw_seq ?_
  refine zr ttOk ?_
  repeat (refine aops_cons ?_; first | (apply aops_o; rfl; simp only [estep, avs, tts, seval] <;> exact rr) | (refine zg rfl ?_; first | refine grd_on ?_ | refine zo ?_))
  refine aops_nil ?_
  repeat refine aw_seq ?_
  refine aw_cond rfl rfl (fun hb => ?_) fun hb => ?_
  rotate_left
  ·refine aw_exit ?_
   have hab : ¬ a < b := by simpa using hb
   have e1 : a = k := by omega
   have e2 : b = k := by omega
   subst e1 e2
   exact ⟨rfl, _, _, ⟨by simp [EnvLe, List.replicate, iA], .inl rfl⟩, rfl, rfl⟩
  have hab : a < b := by simpa using hb
  obtain ⟨m, hm⟩ : ∃ m, m = (a + b) / 2 := ⟨_, rfl⟩
  have hmn : m < n := by omega
  have c := hT m hmn
  simp only [iA, bA] at c
  have w1 := wrap_add (a := a) (b := b) (by omega)
  refine aw_skip ?_
  repeat refine aw_seq ?_
  refine aw_block ?_
  have w2 : IntKind.u64.wrap ((a + b : Nat) : Int) = ((a + b : Nat) : Int) := by rw [IntKind.wrap_u64]; omega
  have w3 : ((a + b : Nat) : Int).fdiv (2 ^ Nat.min 1 IntKind.u64.bits) = (m : Int) := by
   have e : (2 ^ Nat.min 1 IntKind.u64.bits : Int) = 2 := by decide
   rw [e, Int.fdiv_eq_ediv_of_nonneg _ (by omega)]
   omega
  have w4 : IntKind.i64.wrap (m : Int) = (m : Int) := wrap_in (by omega) (by omega)
  repeat refine aw_seq ?_
  refine zr ttOk ?_
  repeat (refine aops_cons ?_; first | (apply aops_o; rfl; simp only [estep, avs, tts, seval, w1, w2, w3, w4, Int.one_nonneg] <;> exact rr) | (refine zg rfl ?_; first | refine grd_on ?_ | refine zo ?_))
  refine aops_nil ?_
  repeat refine aw_seq ?_
  refine zr ttOk ?_
  repeat (refine aops_cons ?_; first | (apply aops_o; rfl; simp only [estep, avs, tts, seval] <;> exact rr) | (refine zg rfl ?_; first | refine grd_on ?_ | refine zo ?_))
  refine zD rfl (c) ?_
  repeat (refine aops_cons ?_; first | (apply aops_o; rfl; simp only [estep, avs, tts, seval] <;> exact rr) | (refine zg rfl ?_; first | refine grd_on ?_ | refine zo ?_))
  refine aops_nil ?_
  repeat refine aw_seq ?_
  refine aw_cond rfl rfl (fun hb => ?_) fun hb => ?_
  ·have hf : T m = false := by simpa using hb
   have hkm : m < k := by
    refine Nat.lt_of_not_le fun h => ?_
    have := h1 m h hmn
    rw [hf] at this; cases this
   repeat refine aw_seq ?_
   refine zr ttOk ?_
   repeat (refine aops_cons ?_; first | (apply aops_o; rfl; simp only [estep, avs, tts, seval, wrap_succ hmn (by omega)] <;> exact rr) | (refine zg rfl ?_; first | refine grd_on ?_ | refine zo ?_))
   refine aops_nil ?_
   refine ⟨b - (m + 1), _, _, by omega, ⟨?_, .inl rfl⟩, m + 1, b, rfl, by omega, hbk, hbn, rfl, rfl⟩
   simp [EnvLe, List.replicate, iA]
  have ht : T m = true := by simpa using hb
  have hkm : k ≤ m := by
   refine Nat.le_of_not_lt fun h => ?_
   have := h0 m h
   rw [ht] at this; cases this
  repeat refine aw_seq ?_
  refine zr ttOk ?_
  repeat (refine aops_cons ?_; first | (apply aops_o; rfl; simp only [estep, avs, tts, seval] <;> exact rr) | (refine zg rfl ?_; first | refine grd_on ?_ | refine zo ?_))
  refine aops_nil ?_
  refine ⟨m - a, _, _, by omega, ⟨?_, .inl rfl⟩, a, m, rfl, ha, hkm, by omega, rfl, rfl⟩
  simp [EnvLe, List.replicate, iA]
 rintro env K' ⟨rfl, rfl⟩
 simp only [List.replicate, iA]
 repeat refine aw_seq ?_
 refine zr ttOk ?_
 repeat (refine aops_cons ?_; first | (apply aops_o; rfl; simp only [estep, avs, tts, seval] <;> exact rr) | (refine zg rfl ?_; first | refine grd_on ?_ | refine zo ?_))
 refine aops_nil ?_
 exact aw_ret ⟨_, rfl, [], by simp, rfl⟩
end Av
end Go.Proofs.YtdekcppfpgeneaaGreatDoor
set_option linter.unusedVariables false
set_option linter.unusedSimpArgs false
namespace Go.Proofs.YtdekcppfpgeneaaGreatDoor
open Go Go.RowKit
namespace Av
attribute [local irreducible] AW AOps AHOps
open Nt

/-! div: the test of its search; one round. -/
theorem valL_one (x : Nat) : valL [x] = x := by simp [valL]
theorem cmpN_gt (a b : Nat) : decide (cmpN a b > 0) = decide (b < a) := by
 unfold cmpN
 by_cases h1 : a < b
 ·rw [if_pos h1]
  have : ¬ b < a := by omega
  simp [this]
 ·rw [if_neg h1]
  by_cases h2 : b < a
  ·simp [h2]
  ·simp [h2]
theorem cmpN_lt (a b : Nat) : decide (cmpN a b < 0) = decide (a < b) := by
 unfold cmpN
 by_cases h1 : a < b
 ·simp [h1]
 ·rw [if_neg h1]
  by_cases h2 : b < a
  ·simp [h1, h2]
  ·simp [h1, h2]
set_option maxRecDepth 100000 in
set_option maxHeartbeats 4000000 in
theorem div1_a (base : World) (H : AHeap) (l3 l7 b r i : Nat) (h3 : H[l3]? = some (.box 136 [.d (numP (limbs b))])) (h7 : H[l7]? = some (.box 136 [.d (numP (limbs r))])) (hi : i < 999999999) (hbl : (limbs b).length ≤ 1000) (hrl : (limbs r).length ≤ 1000) (hml : (limbs (b * (i + 1))).length ≤ 1000000) :
  ReadA Tryz.prog base 188 [iA i, .ptr l3 0, .ptr l7 0] H (bA (decide (r < b * (i + 1)))) := by
 have cm := mul_a base (limbs b) [i + 1] (limbs_ok b) (fun x hx => by simp only [List.mem_singleton] at hx; subst hx; show i + 1 < 1000000000; omega) (by omega) (by simp)
 rw [limbs_val, valL_one] at cm
 have cc := compare_a base (limbs (b * (i + 1))) (limbs r) (limbs_can _) (limbs_can _) hml (by omega)
 rw [limbs_val, limbs_val] at cc
 have ec := cmpN_gt (b * (i + 1)) r
 refine read_enter ttOk Tryz.call188 Tryz.func188 rfl fun hB hb hF => ?_
 rw [Tryz.results188, Tryz.ntmps188]
 simp only [arr_list, List.length_cons, List.length_nil, List.replicate, List.cons_append, List.nil_append, Nat.reduceAdd, Nat.reduceSub]
 clear hF hb
 have w1 : IntKind.i64.wrap ((i : Int) + 1) = ((i + 1 : Nat) : Int) := wrap_succ (n := 999999999) hi (by omega)
 have w2 : IntKind.u64.wrap ((i + 1 : Nat) : Int) = ((i + 1 : Nat) : Int) := by rw [IntKind.wrap_u64]; omega
 simp only [iA, bA] at cc ⊢
 have hl3 := lt_of_get h3
 have hl7 := lt_of_get h7
 repeat refine aw_seq ?_
 refine zr ttOk ?_
 repeat (refine aops_cons ?_; first | (apply aops_o; rfl; simp only [estep, avs, tts, seval] <;> exact rr) | (refine zg rfl ?_; first | refine grd_on ?_ | refine zo ?_))
 refine aops_nil ?_
 repeat refine aw_seq ?_
 refine zw 10 ttOk mixed ?_
 repeat (refine ahops_cons ?_; first | (apply ahops_o; rfl; simp only [hstep, avs, tts, seval, h3, h7, w1, w2, hl3, hl7] <;> exact rr; first | trivial | omega) | (refine yg rfl ?_; first | refine hgrd_on ?_ | refine yo ?_))
 refine yP rfl (cm) ?_
 repeat (refine ahops_cons ?_; first | (apply ahops_o; rfl; simp only [hstep, avs, tts, seval, h3, h7, got h7, hl7] <;> exact rr; first | trivial | omega) | (refine yg rfl ?_; first | refine hgrd_on ?_ | refine yo ?_))
 refine yP rfl (cc) ?_
 repeat (refine ahops_cons ?_; first | (apply ahops_o; rfl; simp only [hstep, avs, tts, seval, ec] <;> exact rr; first | trivial | omega) | (refine yg rfl ?_; first | refine hgrd_on ?_ | refine yo ?_))
 refine ahops_nil ?_
 repeat (refine aops_cons ?_; first | (apply aops_o; rfl; simp only [estep, avs, tts, seval] <;> exact rr) | (refine zg rfl ?_; first | refine grd_on ?_ | refine zo ?_))
 refine aops_nil ?_
 exact aw_ret ⟨_, rfl, [.dead], by simp, rfl⟩
end Av
end Go.Proofs.YtdekcppfpgeneaaGreatDoor
set_option linter.unusedVariables false
namespace Go.Proofs.YtdekcppfpgeneaaGreatDoor
open Go
namespace Nt
/-! Long division by limbs. -/
structure DivI (p : List Nat) (b m r : Nat) (out : List Nat) : Prop where
 len : out.length = p.length
 ok : LimbsOk out
 zero : ∀ j, j < m → out.getD j 0 = 0
 lt : r < b
 eq : valL (p.drop m) = b * valL (out.drop m) + r
theorem DivI.start {p : List Nat} {b : Nat} (hb : 0 < b) : DivI p b p.length 0 (List.replicate p.length 0) where
 len := by simp
 ok := fun x hx => by rw [List.mem_replicate] at hx; rw [hx.2]; show 0 < 1000000000; omega
 zero := fun j hj => by simp [hj]
 lt := hb
 eq := by simp [valL]
theorem valL_drop {l : List Nat} {m : Nat} (h : m < l.length) : valL (l.drop m) = l.getD m 0 + B9 * valL (l.drop (m + 1)) := by
 rw [List.drop_eq_getElem_cons h]
 simp [valL, List.getD, h]
theorem div_lt {x r b : Nat} (hx : x < B9) (hr : r < b) : x + B9 * r < b * B9 := by
 have h1 : B9 * (r + 1) ≤ B9 * b := Nat.mul_le_mul_left _ hr
 rw [Nat.mul_succ] at h1
 rw [Nat.mul_comm b B9]
 omega
theorem drop_set {l : List Nat} {m x : Nat} : (l.set m x).drop (m + 1) = l.drop (m + 1) := by
 rw [List.drop_set]
 simp
theorem DivI.step {p out : List Nat} {b m r : Nat} (hp : LimbsOk p) (hb : 0 < b) (h : DivI p b (m + 1) r out) (hm : m < p.length) : DivI p b m ((p.getD m 0 + B9 * r) % b) (out.set m ((p.getD m 0 + B9 * r) / b)) := by
 have hx : p.getD m 0 < B9 := getD_lt hp m
 have hl := div_lt hx h.lt
 have hq : (p.getD m 0 + B9 * r) / b < B9 := Nat.div_lt_of_lt_mul hl
 have hml : m < out.length := by rw [h.len]; exact hm
 refine ⟨by rw [List.length_set, h.len], fun y hy => ?_, fun j hj => ?_, Nat.mod_lt _ hb, ?_⟩
 ·rcases List.mem_or_eq_of_mem_set hy with h1 | rfl
  ·exact h.ok y h1
  ·exact hq
 ·have := h.zero j (by omega)
  simp only [List.getD_eq_getElem?_getD] at this ⊢
  rw [List.getElem?_set_ne (by omega)]
  exact this
 ·have e1 := valL_drop (l := p) hm
  have e2 := valL_drop (l := out.set m ((p.getD m 0 + B9 * r) / b)) (m := m) (by rw [List.length_set]; exact hml)
  rw [drop_set] at e2
  have e3 : (out.set m ((p.getD m 0 + B9 * r) / b)).getD m 0 = (p.getD m 0 + B9 * r) / b := by
   simp [List.getD, hml]
  rw [e3] at e2
  rw [e1, e2, h.eq]
  have e4 := Nat.div_add_mod (p.getD m 0 + B9 * r) b
  generalize (p.getD m 0 + B9 * r) / b = q at *
  generalize (p.getD m 0 + B9 * r) % b = s at *
  generalize valL (out.drop (m + 1)) = v
  rw [Nat.mul_add B9, Nat.mul_add b, ← Nat.add_assoc, Nat.add_right_comm, ← e4, Nat.mul_left_comm B9 b v]
  omega
theorem DivI.small {p out : List Nat} {b m r : Nat} (hp : LimbsOk p) (hb : 0 < b) (h : DivI p b (m + 1) r out) (hm : m < p.length) (hs : p.getD m 0 + B9 * r < b) : DivI p b m (p.getD m 0 + B9 * r) out := by
 have h1 := h.step hp hb hm
 rw [Nat.mod_eq_of_lt hs, Nat.div_eq_of_lt hs] at h1
 have hml : m < out.length := by rw [h.len]; exact hm
 have e : out.set m 0 = out := by
  have h0 := h.zero m (Nat.lt_succ_self m)
  have h2 : out[m] = 0 := by simpa [List.getD, hml] using h0
  rw [← h2, List.set_getElem_self]
 rwa [e] at h1
theorem DivI.fin {p out : List Nat} {b r : Nat} (hb : 0 < b) (h : DivI p b 0 r out) : trimL out = limbs (valL p / b) ∧ r = valL p % b := by
 have e := h.eq
 rw [List.drop_zero, List.drop_zero] at e
 have h1 : valL p / b = valL out := by
  rw [e, Nat.mul_add_div hb, Nat.div_eq_of_lt h.lt, Nat.add_zero]
 have h2 : valL p % b = r := by
  rw [e, Nat.mul_add_mod, Nat.mod_eq_of_lt h.lt]
 exact ⟨by rw [trim_limbs h.ok, h1], h2.symm⟩
/-- the digit that the search finds -/
theorem digit_lo {t b i : Nat} (hb : 0 < b) (h : i < t / b) : decide (t < b * (i + 1)) = false := by
 have h1 : b * (t / b) ≤ t := Nat.mul_div_le t b
 have h2 : b * (i + 1) ≤ b * (t / b) := Nat.mul_le_mul_left _ h
 simp only [decide_eq_false_iff_not]
 omega
theorem digit_hi {t b i : Nat} (hb : 0 < b) (h : t / b ≤ i) : decide (t < b * (i + 1)) = true := by
 have h1 := Nat.div_add_mod t b
 have h3 := Nat.mod_lt t hb
 have h2 : b * (t / b + 1) ≤ b * (i + 1) := Nat.mul_le_mul_left _ (by omega)
 rw [Nat.mul_succ] at h2
 simp only [decide_eq_true_eq]
 omega
theorem trim_shift {x r : Nat} (hx : x < B9) : trimL (x :: limbs r) = limbs (x + B9 * r) := by
 rw [trim_limbs (l := x :: limbs r) (fun y hy => by
  rcases List.mem_cons.1 hy with rfl | h
  ·exact hx
  ·exact limbs_ok r y h)]
 simp only [valL, limbs_val]
end Nt
end Go.Proofs.YtdekcppfpgeneaaGreatDoor
set_option linter.unusedVariables false
set_option linter.unusedSimpArgs false
namespace Go.Proofs.YtdekcppfpgeneaaGreatDoor
open Go Go.RowKit
namespace Av
--nosv

theorem EnvLe.refl : ∀ l : List AV, EnvLe l l
 | [] => trivial
 | a :: r => ⟨.inr rfl, EnvLe.refl r⟩
/-- a row of one's own becomes pure data where a box holds it -/
theorem frzBox {X : Ctx} {c : Code} {Q : Exit → List AV → AHeap → Prop} {env : List AV} {H : AHeap} {o1 o4 : AObj} {ty k t : Nat} {L : List (List PD)}
 (h : AW X c Q (frzL (some (.row ty k 0 (dI L))) (H.length + 1) env) (H ++ [o1, .dead, .box t [.d (.sl k L)], o4])) : AW X c Q env (H ++ [o1, .row ty k 0 (dI L), .box t [.ms (H.length + 1) 0 L.length], o4]) := by
 have g1 : (H ++ [o1, .row ty k 0 (dI L), .box t [.ms (H.length + 1) 0 L.length], o4])[H.length + 1]? = some (.row ty k 0 (dI L)) := by simp
 have g2 : (H ++ [o1, .row ty k 0 (dI L), .box t [.ms (H.length + 1) 0 L.length], o4])[H.length + 2]? = some (.box t [.ms (H.length + 1) 0 L.length]) := by simp
 refine aw_frzB (H.length + 1) (H.length + 2) (by omega) g2 (by rw [g1]) (by rw [g1]) ?_ h
 have hl : (dI L).length = L.length := by simp [dI]
 simp only [frzL, frzA, frzO, if_true, hl, and_self, unI_dI]
 simp
/-- garbage may be dropped at the end, too -/
theorem aw_post {X : Ctx} {c : Code} {Q : Exit → List AV → AHeap → Prop} {env : List AV} {H : AHeap} (h : AW X c (fun ex env' H' => ∃ env0 H0, Goes X env' H' env0 H0 ∧ Q ex env0 H0) env H) : AW X c Q env H := fun s0 μ a w hN hs he hev =>
 Go.wpIn_mono (h s0 μ a w hN hs he hev) (by
  rintro e a w ⟨μ, env, H, ⟨env0, H0, g, q⟩, h2, h3, h4, h5⟩
  obtain ⟨k1, k2, k3, k4⟩ := g.state h2 h3 h4 h5
  exact ⟨μ, env0, H0, q, k1, k2, k3, k4⟩)
attribute [local irreducible] AW AOps AHOps
open Nt

/-! div. -/
theorem limbs_mono {a b : Nat} (h : a ≤ b) : (limbs a).length ≤ (limbs b).length := by
 have h1 := valL_lt (limbs_ok b)
 rw [limbs_val] at h1
 exact limbs_len_le (Nat.lt_of_le_of_lt h h1)
set_option maxRecDepth 100000 in
set_option maxHeartbeats 4000000 in
theorem div_a (base : World) (a b : Nat) (hb0 : 0 < b) (hal : (limbs a).length ≤ 900) (hbl : (limbs b).length ≤ 900) : PureA Tryz.prog base 148 [.d (numP (limbs a)), .d (numP (limbs b))] (.tup [.d (numP (limbs (a / b))), .d (numP (limbs (a % b)))]) := by
 refine pure_enter ttOk Tryz.call148 Tryz.func148 rfl fun H hB hb hF => ?_
 rw [Tryz.results148, Tryz.ntmps148]
 simp only [arr_list, List.length_cons, List.length_nil, List.replicate, List.cons_append, List.nil_append, Nat.reduceAdd, Nat.reduceSub]
 clear hF hb
 have hnl := numR_len (limbs a)
 have cb := back_a base (limbs a)
 have c1 : (0 : Int) ≤ (((limbs a).length : Nat) : Int) := by omega
 have c2 : (((limbs a).length : Nat) : Int) ≤ 9223372036854775807 := by omega
 have c3 : ((8 : Nat) : Int) * (((limbs a).length : Nat) : Int) ≤ 281474976710656 := by omega
 repeat refine aw_seq ?_
 refine zr ttOk ?_
 repeat (refine aops_cons ?_; first | (apply aops_o; rfl; simp only [estep, avs, tts, Nat.reduceAdd, Nat.reduceMul, Nat.reduceSub, Nat.reduceEqDiff, Nat.reduceLT, Nat.reduceLeDiff, Int.reduceToNat, Int.reduceLE, Int.reduceLT, Int.toNat_natCast, reduceCtorEq] <;> exact rr) | (refine zg rfl ?_; first | refine grd_on ?_ | refine zo ?_))
 refine aops_nil ?_
 repeat refine aw_seq ?_
 refine zr ttOk ?_
 repeat (refine aops_cons ?_; first | (apply aops_o; rfl; simp only [estep, avs, tts, Nat.reduceAdd, Nat.reduceMul, Nat.reduceSub, Nat.reduceEqDiff, Nat.reduceLT, Nat.reduceLeDiff, Int.reduceToNat, Int.reduceLE, Int.reduceLT, Int.toNat_natCast, reduceCtorEq, numP, hnl, c1, c2, c3, Int.le_refl, numD_zero] <;> exact rr) | (refine zg rfl ?_; first | refine grd_on ?_ | refine zo ?_))
 refine aops_nil ?_
 repeat refine aw_seq ?_
 refine zr ttOk ?_
 repeat (refine aops_cons ?_; first | (apply aops_o; rfl; simp only [estep, avs, tts, Nat.reduceAdd, Nat.reduceMul, Nat.reduceSub, Nat.reduceEqDiff, Nat.reduceLT, Nat.reduceLeDiff, Int.reduceToNat, Int.reduceLE, Int.reduceLT, Int.toNat_natCast, reduceCtorEq] <;> exact rr) | (refine zg rfl ?_; first | refine grd_on ?_ | refine zo ?_))
 refine aops_nil ?_
 repeat refine aw_seq ?_
 refine zr ttOk ?_
 repeat (refine aops_cons ?_; first | (apply aops_o; rfl; simp only [estep, avs, tts, Nat.reduceAdd, Nat.reduceMul, Nat.reduceSub, Nat.reduceEqDiff, Nat.reduceLT, Nat.reduceLeDiff, Int.reduceToNat, Int.reduceLE, Int.reduceLT, Int.toNat_natCast, reduceCtorEq] <;> exact rr) | (refine zg rfl ?_; first | refine grd_on ?_ | refine zo ?_))
 refine zP rfl (cb) ?_
 repeat (refine aops_cons ?_; first | (apply aops_o; rfl; simp only [estep, avs, tts, Nat.reduceAdd, Nat.reduceMul, Nat.reduceSub, Nat.reduceEqDiff, Nat.reduceLT, Nat.reduceLeDiff, Int.reduceToNat, Int.reduceLE, Int.reduceLT, Int.toNat_natCast, reduceCtorEq] <;> exact rr) | (refine zg rfl ?_; first | refine grd_on ?_ | refine zo ?_))
 refine aops_nil ?_
 repeat refine aw_seq ?_
 refine aw_block ?_
 refine aw_range (gf := 213) (caps := [.rp [numP (limbs a)]]) (backL (limbs a)) rfl rfl Tryz.call213 (fun μ w lb hs hr => back_seq (limbs_ok a) (by omega) μ w lb hs hr)
  (fun k H' => ∃ out r c, DivI (limbs a) b ((limbs a).length - k) r out ∧ (c = AV.d (.v (.slice none 0 0)) ∧ r = 0 ∨ c = .d (numP (limbs r))) ∧ H' = H ++ [.box 136 [.d (numP (limbs b))], .row 167 1 0 (dI (numR out)), .box 136 [.ms (H.length + 1) 0 (limbs a).length], .box 136 [c]])
  (fun c H' => False) ⟨_, 0, _, DivI.start hb0, .inl ⟨rfl, rfl⟩, rfl⟩ ?_ ?_ (fun c H' h => h.elim)
 ·rintro l k H' hk ⟨out, r, c, hD, hc, rfl⟩ hN
  rw [backL_len] at hk
  rw [backL_get _ hk]
  obtain ⟨m, hm⟩ : ∃ m, m = (limbs a).length - 1 - k := ⟨_, rfl⟩
  rw [← hm]
  have hmp : m < (limbs a).length := by omega
  rw [show (limbs a).length - k = m + 1 by omega] at hD
  have hnext : (limbs a).length - (k + 1) = m := by omega
  simp only [setPs, arr_list, List.zip_cons_cons, List.zip_nil_left, List.foldl_cons, List.foldl_nil, List.set_cons_succ, List.set_cons_zero, iA, uA, numP]
  clear hm cb hN
  have hx : (limbs a).getD m 0 < 1000000000 := getD_lt (limbs_ok a) m
  have hrl : (limbs r).length ≤ 900 := by
   have h3 := valL_lt (limbs_ok b)
   rw [limbs_val] at h3
   have h4 := limbs_len_le (Nat.lt_trans hD.lt h3)
   omega
  have ct := trim_a base ((limbs a).getD m 0 :: limbs r) (by simp only [List.length_cons]; omega)
  rw [trim_shift hx] at ct
  repeat refine aw_seq ?_
  refine zr ttOk ?_
  repeat (refine aops_cons ?_; first | (apply aops_o; rfl; simp only [estep, avs, tts, Nat.reduceAdd, Nat.reduceMul, Nat.reduceSub, Nat.reduceEqDiff, Nat.reduceLT, Nat.reduceLeDiff, Int.reduceToNat, Int.reduceLE, Int.reduceLT, Int.toNat_natCast, reduceCtorEq] <;> exact rr) | (refine zg rfl ?_; first | refine grd_on ?_ | refine zo ?_))
  refine aops_nil ?_
  repeat refine aw_seq ?_
  refine zr ttOk ?_
  repeat (refine aops_cons ?_; first | (apply aops_o; rfl; simp only [estep, avs, tts, Nat.reduceAdd, Nat.reduceMul, Nat.reduceSub, Nat.reduceEqDiff, Nat.reduceLT, Nat.reduceLeDiff, Int.reduceToNat, Int.reduceLE, Int.reduceLT, Int.toNat_natCast, reduceCtorEq] <;> exact rr) | (refine zg rfl ?_; first | refine grd_on ?_ | refine zo ?_))
  refine aops_nil ?_
  refine ⟨rfl, aw_post ?_⟩
  refine aw_block ?_
  repeat refine aw_seq ?_
  refine aw_mid2 (Q0 := fun env K' => K' = H ++ [.box 136 [.d (numP (limbs b))], .row 167 1 0 (dI (numR out)), .box 136 [.ms (H.length + 1) 0 (limbs a).length], .box 136 [.d (numP (limbs ((limbs a).getD m 0 + B9 * r)))]] ∧ env = .undef :: .undef :: .undef :: .ptr H.length 0 :: .undef :: .undef :: .ptr (H.length + 2) 0 :: .ptr (H.length + 3) 0 :: iA m :: uA ((limbs a).getD m 0 : Nat) :: List.replicate 34 .undef) ?_ ?_
  ·rcases hc with ⟨rfl, rfl⟩ | rfl
   ·rw [limbs_zero] at ct
    repeat refine aw_seq ?_
    refine zr ttOk ?_
    repeat (refine aops_cons ?_; first | (apply aops_o; rfl; simp only [estep, avs, tts, Nat.reduceAdd, Nat.reduceMul, Nat.reduceSub, Nat.reduceEqDiff, Nat.reduceLT, Nat.reduceLeDiff, Int.reduceToNat, Int.reduceLE, Int.reduceLT, Int.toNat_natCast, reduceCtorEq, numP] <;> exact rr) | (refine zg rfl ?_; first | refine grd_on ?_ | refine zo ?_))
    refine aops_pureF ((H.length+4)) rfl (by simp only [avs] <;> rfl) (by simp only [avs, tts, Nat.reduceAdd, Nat.reduceMul, Nat.reduceSub, Nat.reduceEqDiff, Nat.reduceLT, Nat.reduceLeDiff, Int.reduceToNat, Int.reduceLE, Int.reduceLT, Int.toNat_natCast, reduceCtorEq, frzL, frzA, frzO, unI_dI, dI_len, unI, unL, Nat.add_eq_left, Nat.left_eq_add, Nat.one_ne_zero] <;> rfl) (by simp only [avs, tts, Nat.reduceAdd, Nat.reduceMul, Nat.reduceSub, Nat.reduceEqDiff, Nat.reduceLT, Nat.reduceLeDiff, Int.reduceToNat, Int.reduceLE, Int.reduceLT, Int.toNat_natCast, reduceCtorEq, frzL, frzA, frzO, unI_dI, dI_len, unI, unL, Nat.add_eq_left, Nat.left_eq_add, Nat.one_ne_zero] <;> rfl) (ct) (by simp only [avs] <;> rfl) ?_
    repeat (refine aops_cons ?_; first | (apply aops_o; rfl; simp only [estep, avs, tts, Nat.reduceAdd, Nat.reduceMul, Nat.reduceSub, Nat.reduceEqDiff, Nat.reduceLT, Nat.reduceLeDiff, Int.reduceToNat, Int.reduceLE, Int.reduceLT, Int.toNat_natCast, reduceCtorEq] <;> exact rr) | (refine zg rfl ?_; first | refine grd_on ?_ | refine zo ?_))
    refine aops_nil ?_
    refine ⟨rfl, _, _, ⟨?_, .inr ⟨by simp, ?_, .more hB (.cons (by simp [AObj.bel, belL, AV.bel]) (.cons (bel_dI _) (.cons (by simp [AObj.bel, belL, AV.bel]) (.cons (by simp [AObj.bel, belL, AV.bel]) .nil)))), [.dead], by simp [numP]⟩⟩, rfl, rfl⟩
    ·simp [EnvLe, List.replicate, numP, iA, uA]
    ·simp [belL, AV.bel, List.replicate, iA, uA]
   ·have hnlr := numR_len (limbs r)
    have f1 : 1 + (limbs r).length ≤ 9223372036854775807 := by omega
    have f2 : (1 + (limbs r).length) * 8 ≤ 140737488355328 := by omega
    have f3 : (1 + (limbs r).length = (limbs r).length + 1) = True := by simp [Nat.add_comm]
    have f4 : unI (List.map (fun it => List.map AV.d it) (numR (limbs r))) = some (numR (limbs r)) := unI_dI _
    repeat refine aw_seq ?_
    refine zr ttOk ?_
    repeat (refine aops_cons ?_; first | (apply aops_o; rfl; simp only [estep, avs, tts, Nat.reduceAdd, Nat.reduceMul, Nat.reduceSub, Nat.reduceEqDiff, Nat.reduceLT, Nat.reduceLeDiff, Int.reduceToNat, Int.reduceLE, Int.reduceLT, Int.toNat_natCast, reduceCtorEq, numP, dI_len, hnlr, f1, f2] <;> exact rr) | (refine zg rfl ?_; first | refine grd_on ?_ | refine zo ?_))
    refine aops_pureF ((H.length+4)) rfl (by simp only [avs] <;> rfl) (by simp only [avs, tts, Nat.reduceAdd, Nat.reduceMul, Nat.reduceSub, Nat.reduceEqDiff, Nat.reduceLT, Nat.reduceLeDiff, Int.reduceToNat, Int.reduceLE, Int.reduceLT, Int.toNat_natCast, reduceCtorEq, frzL, frzA, frzO, unI_dI, dI_len, unI, unL, Nat.add_eq_left, Nat.left_eq_add, Nat.one_ne_zero, hnlr, f3, f4, if_true, Option.map_some] <;> rfl) (by simp only [avs, tts, Nat.reduceAdd, Nat.reduceMul, Nat.reduceSub, Nat.reduceEqDiff, Nat.reduceLT, Nat.reduceLeDiff, Int.reduceToNat, Int.reduceLE, Int.reduceLT, Int.toNat_natCast, reduceCtorEq, frzL, frzA, frzO, unI_dI, dI_len, unI, unL, Nat.add_eq_left, Nat.left_eq_add, Nat.one_ne_zero, hnlr, f3, f4, if_true, Option.map_some] <;> rfl) (ct) (by simp only [avs] <;> rfl) ?_
    repeat (refine aops_cons ?_; first | (apply aops_o; rfl; simp only [estep, avs, tts, Nat.reduceAdd, Nat.reduceMul, Nat.reduceSub, Nat.reduceEqDiff, Nat.reduceLT, Nat.reduceLeDiff, Int.reduceToNat, Int.reduceLE, Int.reduceLT, Int.toNat_natCast, reduceCtorEq] <;> exact rr) | (refine zg rfl ?_; first | refine grd_on ?_ | refine zo ?_))
    refine aops_nil ?_
    refine ⟨rfl, _, _, ⟨?_, .inr ⟨by simp, ?_, .more hB (.cons (by simp [AObj.bel, belL, AV.bel]) (.cons (bel_dI _) (.cons (by simp [AObj.bel, belL, AV.bel]) (.cons (by simp [AObj.bel, belL, AV.bel]) .nil)))), [.dead], by simp [numP]⟩⟩, rfl, rfl⟩
    ·simp [EnvLe, List.replicate, numP, iA, uA]
    ·simp [belL, AV.bel, List.replicate, iA, uA]
  clear hc ct
  rintro env K' ⟨rfl, rfl⟩
  obtain ⟨t, ht⟩ : ∃ t, t = (limbs a).getD m 0 + B9 * r := ⟨_, rfl⟩
  rw [← ht]
  have htb : t < b * B9 := by rw [ht]; exact div_lt hx hD.lt
  have hvb := valL_lt (limbs_ok b)
  rw [limbs_val] at hvb
  have hbB : b * B9 ≤ B9 ^ ((limbs b).length + 1) := by rw [Nat.pow_succ]; exact Nat.mul_le_mul_right _ (Nat.le_of_lt hvb)
  have htl : (limbs t).length ≤ 901 := by
   have := limbs_len_le (Nat.lt_of_lt_of_le htb hbB)
   omega
  have hml : ∀ i, i < 1000000000 → (limbs (b * i)).length ≤ 901 := fun i hi => by
   have h1 : b * i < b * B9 := Nat.mul_lt_mul_of_pos_left hi hb0
   have := limbs_len_le (Nat.lt_of_lt_of_le h1 hbB)
   omega
  have cc := compare_a base (limbs t) (limbs b) (limbs_can _) (limbs_can _) (by omega) (by omega)
  rw [limbs_val, limbs_val] at cc
  have ec := cmpN_lt t b
  simp only [List.replicate, iA, uA] at cc ⊢
  repeat refine aw_seq ?_
  refine zr ttOk ?_
  repeat (refine aops_cons ?_; first | (apply aops_o; rfl; simp only [estep, avs, tts, Nat.reduceAdd, Nat.reduceMul, Nat.reduceSub, Nat.reduceEqDiff, Nat.reduceLT, Nat.reduceLeDiff, Int.reduceToNat, Int.reduceLE, Int.reduceLT, Int.toNat_natCast, reduceCtorEq] <;> exact rr) | (refine zg rfl ?_; first | refine grd_on ?_ | refine zo ?_))
  refine zP rfl (cc) ?_
  repeat (refine aops_cons ?_; first | (apply aops_o; rfl; simp only [estep, avs, tts, Nat.reduceAdd, Nat.reduceMul, Nat.reduceSub, Nat.reduceEqDiff, Nat.reduceLT, Nat.reduceLeDiff, Int.reduceToNat, Int.reduceLE, Int.reduceLT, Int.toNat_natCast, reduceCtorEq, ec] <;> exact rr) | (refine zg rfl ?_; first | refine grd_on ?_ | refine zo ?_))
  refine aops_nil ?_
  repeat refine aw_seq ?_
  refine aw_cond rfl rfl (fun hb => ?_) fun hb => ?_
  ·have hlt : t < b := by simpa using hb
   refine aw_exit ?_
   refine ⟨_, _, ⟨EnvLe.refl _, .inl rfl⟩, ?_⟩
   simp only [rndA]
   refine ⟨out, t, _, ?_, .inr rfl, rfl⟩
   rw [hnext]
   have := hD.small (limbs_ok a) hb0 hmp (by rw [← ht]; exact hlt)
   rwa [← ht] at this
  refine aw_skip ?_
  have hst := hD.step (limbs_ok a) hb0 hmp
  rw [← ht] at hst
  obtain ⟨d, hd⟩ : ∃ d, d = t / b := ⟨_, rfl⟩
  rw [← hd] at hst
  have hdl : d ≤ 999999999 := by
   have : d < B9 := by rw [hd]; exact Nat.div_lt_of_lt_mul htb
   have : d < 1000000000 := this
   omega
  have hbd : b * d ≤ t := by rw [hd]; exact Nat.mul_div_le t b
  have hmod : t - b * d = t % b := by
   have := Nat.div_add_mod t b
   rw [← hd] at this
   omega
  have cs := search_a base (H ++ [.box 136 [.d (numP (limbs b))], .row 167 1 0 (dI (numR out)), .box 136 [.ms (H.length + 1) 0 (limbs a).length], .box 136 [.d (numP (limbs t))]]) 188 [.ptr H.length 0, .ptr (H.length + 3) 0] 999999999 (by omega) (fun i => decide (t < b * (i + 1)))
   (fun i hi => div1_a base _ _ _ b t i (by simp) (by simp) hi (by omega) (by omega) (by have := hml (i + 1) (by omega); omega)) d hdl (fun i hi => digit_lo hb0 (by rw [← hd]; exact hi)) (fun i hi _ => digit_hi hb0 (by rw [← hd]; exact hi))
  have cm := mul_a base (limbs b) [d] (limbs_ok b) (fun x hx => by simp only [List.mem_singleton] at hx; subst hx; show x < 1000000000; omega) (by omega) (by simp)
  rw [limbs_val, valL_one] at cm
  have cu := sub_a base (limbs t) (limbs (b * d)) (limbs_ok _) (limbs_ok _) (by omega) (limbs_mono hbd) (by rw [limbs_val, limbs_val]; exact hbd)
  rw [limbs_val, limbs_val, hmod] at cu
  have hol : (dI (numR out)).length = (limbs a).length := by rw [dI_len, numR_len, hD.len]
  have hix : (0 : Int) ≤ (m : Int) := by omega
  have w2 : IntKind.u64.wrap ((d : Nat) : Int) = ((d : Nat) : Int) := by rw [IntKind.wrap_u64]; omega
  simp only [iA] at cs
  clear cc ec
  repeat refine aw_seq ?_
  refine zr ttOk ?_
  repeat (refine aops_cons ?_; first | (apply aops_o; rfl; simp only [estep, avs, tts, Nat.reduceAdd, Nat.reduceMul, Nat.reduceSub, Nat.reduceEqDiff, Nat.reduceLT, Nat.reduceLeDiff, Int.reduceToNat, Int.reduceLE, Int.reduceLT, Int.toNat_natCast, reduceCtorEq] <;> exact rr) | (refine zg rfl ?_; first | refine grd_on ?_ | refine zo ?_))
  refine zD rfl (cs) ?_
  repeat (refine aops_cons ?_; first | (apply aops_o; rfl; simp only [estep, avs, tts, Nat.reduceAdd, Nat.reduceMul, Nat.reduceSub, Nat.reduceEqDiff, Nat.reduceLT, Nat.reduceLeDiff, Int.reduceToNat, Int.reduceLE, Int.reduceLT, Int.toNat_natCast, reduceCtorEq] <;> exact rr) | (refine zg rfl ?_; first | refine grd_on ?_ | refine zo ?_))
  refine aops_nil ?_
  have hmo : m < out.length := by rw [hD.len]; exact hmp
  have g3 := numD_get out hmo
  repeat refine aw_seq ?_
  refine zr ttOk ?_
  repeat (refine aops_cons ?_; first | (apply aops_o; rfl; simp only [estep, avs, tts, Nat.reduceAdd, Nat.reduceMul, Nat.reduceSub, Nat.reduceEqDiff, Nat.reduceLT, Nat.reduceLeDiff, Int.reduceToNat, Int.reduceLE, Int.reduceLT, Int.toNat_natCast, reduceCtorEq, hol, hix, hmp, w2, g3, splice, numD_set] <;> exact rr) | (refine zg rfl ?_; first | refine grd_on ?_ | refine zo ?_))
  refine aops_nil ?_
  repeat refine aw_seq ?_
  refine zw 7 ttOk mixed ?_
  repeat (refine ahops_cons ?_; first | (apply ahops_o; rfl; simp only [hstep, avs, tts, Nat.reduceAdd, Nat.reduceMul, Nat.reduceSub, Nat.reduceEqDiff, Nat.reduceLT, Nat.reduceLeDiff, Int.reduceToNat, Int.reduceLE, Int.reduceLT, Int.toNat_natCast, reduceCtorEq, w2] <;> exact rr; first | trivial | omega) | (refine yg rfl ?_; first | refine hgrd_on ?_ | refine yo ?_))
  refine yP rfl (cm) ?_
  repeat (refine ahops_cons ?_; first | (apply ahops_o; rfl; simp only [hstep, avs, tts, Nat.reduceAdd, Nat.reduceMul, Nat.reduceSub, Nat.reduceEqDiff, Nat.reduceLT, Nat.reduceLeDiff, Int.reduceToNat, Int.reduceLE, Int.reduceLT, Int.toNat_natCast, reduceCtorEq, w2] <;> exact rr; first | trivial | omega) | (refine yg rfl ?_; first | refine hgrd_on ?_ | refine yo ?_))
  refine yP rfl (cu) ?_
  repeat (refine ahops_cons ?_; first | (apply ahops_o; rfl; simp only [hstep, avs, tts, Nat.reduceAdd, Nat.reduceMul, Nat.reduceSub, Nat.reduceEqDiff, Nat.reduceLT, Nat.reduceLeDiff, Int.reduceToNat, Int.reduceLE, Int.reduceLT, Int.toNat_natCast, reduceCtorEq, w2] <;> exact rr; first | trivial | omega) | (refine yg rfl ?_; first | refine hgrd_on ?_ | refine yo ?_))
  refine ahops_nil ?_
  repeat (refine aops_cons ?_; first | (apply aops_o; rfl; simp only [estep, avs, tts, Nat.reduceAdd, Nat.reduceMul, Nat.reduceSub, Nat.reduceEqDiff, Nat.reduceLT, Nat.reduceLeDiff, Int.reduceToNat, Int.reduceLE, Int.reduceLT, Int.toNat_natCast, reduceCtorEq] <;> exact rr) | (refine zg rfl ?_; first | refine grd_on ?_ | refine zo ?_))
  refine aops_nil ?_
  refine ⟨List.replicate 44 .undef, H ++ [.box 136 [.d (numP (limbs b))], .row 167 1 0 (dI (numR (out.set m d))), .box 136 [.ms (H.length + 1) 0 (limbs a).length], .box 136 [.d (numP (limbs (t % b)))]], ⟨?_, .inr ⟨by simp, ?_, .more hB (.cons (by simp [AObj.bel, belL, AV.bel]) (.cons (bel_dI _) (.cons (by simp [AObj.bel, belL, AV.bel]) (.cons (by simp [AObj.bel, belL, AV.bel]) .nil)))), [.dead], by simp [numP]⟩⟩, ?_⟩
  ·simp [EnvLe, List.replicate]
  ·simp [belL, AV.bel, List.replicate]
  ·simp only [rndA]
   exact ⟨_, _, _, by rw [hnext]; exact hst, .inr rfl, rfl⟩
 ·rintro H' ⟨out, r, c, hD, hc, rfl⟩ hN
  rw [backL_len, Nat.sub_self] at hD
  have hf := hD.fin hb0
  rw [limbs_val] at hf
  have ct := trim_a base out (by rw [hD.len]; omega)
  rw [hf.1] at ct
  have hol2 : (numR out).length = (limbs a).length := by rw [numR_len, hD.len]
  show AW _ _ _ _ _
  repeat refine aw_seq ?_
  rw [← hol2]
  refine frzBox ?_
  have hcr : c = AV.d (.v (.slice none 0 0)) ∧ r = 0 ∨ c = .d (numP (limbs r)) := hc
  have ht2 : PureA Tryz.prog base 179 [.d (.sl 1 (numR out))] (.d (numP (limbs (a / b)))) := ct
  simp only [frzL, frzA]
  rcases hcr with ⟨rfl, h0⟩ | rfl
  ·have e0 : limbs (a % b) = [] := by rw [← hf.2, h0]; exact limbs_zero
   repeat refine aw_seq ?_
   refine zw 5 ttOk mixed ?_
   repeat (refine ahops_cons ?_; first | (apply ahops_o; rfl; simp only [hstep, avs, tts, Nat.reduceAdd, Nat.reduceMul, Nat.reduceSub, Nat.reduceEqDiff, Nat.reduceLT, Nat.reduceLeDiff, Int.reduceToNat, Int.reduceLE, Int.reduceLT, Int.toNat_natCast, reduceCtorEq] <;> exact rr; first | trivial | omega) | (refine yg rfl ?_; first | refine hgrd_on ?_ | refine yo ?_))
   refine yP rfl (ht2) ?_
   repeat (refine ahops_cons ?_; first | (apply ahops_o; rfl; simp only [hstep, avs, tts, Nat.reduceAdd, Nat.reduceMul, Nat.reduceSub, Nat.reduceEqDiff, Nat.reduceLT, Nat.reduceLeDiff, Int.reduceToNat, Int.reduceLE, Int.reduceLT, Int.toNat_natCast, reduceCtorEq] <;> exact rr; first | trivial | omega) | (refine yg rfl ?_; first | refine hgrd_on ?_ | refine yo ?_))
   refine ahops_nil ?_
   repeat (refine aops_cons ?_; first | (apply aops_o; rfl; simp only [estep, avs, tts, Nat.reduceAdd, Nat.reduceMul, Nat.reduceSub, Nat.reduceEqDiff, Nat.reduceLT, Nat.reduceLeDiff, Int.reduceToNat, Int.reduceLE, Int.reduceLT, Int.toNat_natCast, reduceCtorEq] <;> exact rr) | (refine zg rfl ?_; first | refine grd_on ?_ | refine zo ?_))
   refine aops_nil ?_
   show AW _ _ _ _ _
   refine aw_nils 5 1 rfl rfl ?_
   rw [e0]
   exact aw_ret ⟨_, rfl, _, rfl, rfl⟩
  ·repeat refine aw_seq ?_
   refine zw 5 ttOk mixed ?_
   repeat (refine ahops_cons ?_; first | (apply ahops_o; rfl; simp only [hstep, avs, tts, Nat.reduceAdd, Nat.reduceMul, Nat.reduceSub, Nat.reduceEqDiff, Nat.reduceLT, Nat.reduceLeDiff, Int.reduceToNat, Int.reduceLE, Int.reduceLT, Int.toNat_natCast, reduceCtorEq] <;> exact rr; first | trivial | omega) | (refine yg rfl ?_; first | refine hgrd_on ?_ | refine yo ?_))
   refine yP rfl (ht2) ?_
   repeat (refine ahops_cons ?_; first | (apply ahops_o; rfl; simp only [hstep, avs, tts, Nat.reduceAdd, Nat.reduceMul, Nat.reduceSub, Nat.reduceEqDiff, Nat.reduceLT, Nat.reduceLeDiff, Int.reduceToNat, Int.reduceLE, Int.reduceLT, Int.toNat_natCast, reduceCtorEq] <;> exact rr; first | trivial | omega) | (refine yg rfl ?_; first | refine hgrd_on ?_ | refine yo ?_))
   refine ahops_nil ?_
   repeat (refine aops_cons ?_; first | (apply aops_o; rfl; simp only [estep, avs, tts, Nat.reduceAdd, Nat.reduceMul, Nat.reduceSub, Nat.reduceEqDiff, Nat.reduceLT, Nat.reduceLeDiff, Int.reduceToNat, Int.reduceLE, Int.reduceLT, Int.toNat_natCast, reduceCtorEq] <;> exact rr) | (refine zg rfl ?_; first | refine grd_on ?_ | refine zo ?_))
   refine aops_nil ?_
   rw [← hf.2]
   exact aw_ret ⟨_, rfl, _, rfl, rfl⟩
end Av
end Go.Proofs.YtdekcppfpgeneaaGreatDoor
set_option linter.unusedVariables false
set_option linter.unusedSimpArgs false
namespace Go.Proofs.YtdekcppfpgeneaaGreatDoor
open Go Go.RowKit
namespace Av
attribute [local irreducible] AW AOps AHOps

/-! strings.Builder: a box that holds its own address and a row of bytes. -/
def nilP : AV := .d (.v (.pointer none))
theorem repL_nilp {s : St} {r : List AV} {vs : List Value} (h : RepL s (nilP :: r) vs) : ∃ t, vs = .pointer none :: t ∧ RepL s r t := args_v h
theorem repL_one {s : St} {a : AV} {vs : List Value} (h : RepL s [a] vs) : ∃ v, vs = [v] ∧ Rep s a v := by
 simp only [RepL] at h
 obtain ⟨v, t, e, h, rfl⟩ := h
 exact ⟨v, e, h⟩
theorem check_a (base : World) {H : AHeap} {l : Nat} {x : AV} (h : H[l]? = some (.box 196 [nilP, x])) : CallsA Tryz.prog base 220 [.ptr l 0] H fun r H' => r = .tup [] ∧ H' = H.set l (.box 196 [.ptr l 0, x]) :=
 ⟨Tryz.call220, fun μ w vs hs ha => by
  obtain ⟨v, e, hv⟩ := repL_one ha
  simp only [Rep, PtrRep, h] at hv
  obtain ⟨_, b, m1, rfl⟩ := hv
  rw [arr1 e]
  obtain ⟨b', arr, q1, q2, q3, q4⟩ := hs.obj l _ h
  have q1' : μ l = some b' := q1
  rw [m1] at q1'; cases q1'
  obtain ⟨t, e1, q5⟩ := repL_nilp q4
  obtain ⟨vx, rfl, hx⟩ := repL_one q5
  have harr : arr = #[.pointer none, vx] := Array.toList_inj.1 e1
  subst harr
  have q3' : w.heap[b]? = some (.cells #[.pointer none, vx] 196 (0, 0)) := q3
  refine (Any.Builder_copyCheck_fresh (P := Tryz.prog) (ρ := Tryz.lays105_ren) { Tryz.lays105 with } Tryz.Builder_Extra_105.toX72 b w (by rw [Lib.cell_of_heap q3']; rfl) (by simp [World.shape?, q3']; rfl) (Lib.frozen_of_heap q3' 0)).mono ?_
  rintro e w' ⟨rfl, rfl⟩
  have hu := hs.upd h (w' := w.setCell ⟨b, 0, none⟩ (.pointer (some ⟨b, 0, none⟩))) (b := b) (o' := .box 196 [.ptr l 0, x]) rfl rfl rfl (by simp [World.setCell]) (fun c hc _ => Below.heap_setCell _ _ _ _ hc) (.inr ⟨rfl, m1⟩)
   ⟨#[.pointer (some ⟨b, 0, none⟩), vx], by simp [World.setCell, Array.getElem?_modify, q3'], .cons (by simp only [Rep, PtrRep, h]; exact ⟨⟨_, rfl⟩, b, m1, rfl⟩) (.cons hx .nil)⟩ (by
    unfold RefEvo
    rw [h]
    exact .inr ⟨_, get_set_same (lt_of_get h), (upd_same _ _ _).trans m1.symm⟩)
  exact ⟨_, .tup [], _, _, rfl, ⟨rfl, rfl⟩, by simp, hu.1, by simp only [Rep]; exact ⟨_, rfl, .nil⟩, hu.2⟩⟩
theorem set_self {H : AHeap} {l : Nat} {o : AObj} (h : H[l]? = some o) : H.set l o = H := by
 apply List.ext_getElem?
 intro i
 by_cases hi : i = l
 ·subst hi; rw [get_set_same (lt_of_get h), h]
 ·rw [get_set_ne hi]
set_option maxRecDepth 100000 in
theorem checkU_a (base : World) {H : AHeap} {l : Nat} {x : AV} (h : H[l]? = some (.box 196 [.ptr l 0, x])) : ReadA Tryz.prog base 220 [.ptr l 0] H (.tup []) := by
 refine read_enter ttOk Tryz.call220 Tryz.func220 rfl fun hB hb hF => ?_
 rw [Tryz.results220, Tryz.ntmps220]
 simp only [arr_list, List.length_cons, List.length_nil, List.replicate, List.cons_append, List.nil_append, Nat.reduceAdd, Nat.reduceSub]
 repeat refine aw_seq ?_
 refine zr ttOk ?_
 repeat (refine aops_cons ?_; first | (apply aops_o; rfl; simp only [estep, avs, tts, seval, h] <;> exact rr) | (refine zg rfl ?_; first | refine grd_on ?_ | refine zo ?_))
 refine aops_nil ?_
 repeat refine aw_seq ?_
 refine aw_cond rfl rfl (fun hb => ?_) fun hb => ?_
 ·cases hb
 repeat refine aw_seq ?_
 refine zr ttOk ?_
 repeat (refine aops_cons ?_; first | (apply aops_o; rfl; simp only [estep, avs, tts, seval, h] <;> exact rr) | (refine zg rfl ?_; first | refine grd_on ?_ | refine zo ?_))
 refine aops_nil ?_
 repeat refine aw_seq ?_
 refine aw_cond rfl rfl (fun hb => ?_) fun hb => ?_
 ·cases hb
 refine aw_skip ?_
 exact ⟨_, rfl, [], by simp, rfl⟩
theorem byteI_append (a s : ByteArray) : byteI a ++ byteI s = byteI (a ++ s) := by simp [byteI, strP, ByteArray.toList_data_append]
def bldO (l r ver n : Nat) : AObj := .box 196 [.ptr l 0, .ms r ver n]
def bytO (ver : Nat) (a : ByteArray) : AObj := .row 5 1 ver (byteI a)
set_option maxRecDepth 100000 in
theorem ws_a (base : World) {H : AHeap} {l r ver : Nat} {a s : ByteArray} (h : H[l]? = some (bldO l r ver a.size)) (hr : H[r]? = some (bytO ver a)) (hs : a.size + s.size ≤ 1000000000) : CallsA Tryz.prog base 190 [.ptr l 0, .d (.v (.string s))] H fun q H' => q = .tup [iA s.size, .d (.v .nilIface)] ∧ H' = (H.set r (bytO ver (a ++ s))).set l (bldO l r ver (a.size + s.size)) := by
 have hlr : l ≠ r := fun e => by subst e; rw [h] at hr; simp [bldO, bytO] at hr
 simp only [bldO, bytO] at h hr ⊢
 refine callsA_enter ttOk Tryz.call190 Tryz.func190 rfl fun hB hb hF => ?_
 rw [Tryz.results190, Tryz.ntmps190]
 simp only [arr_list, List.length_cons, List.length_nil, List.replicate, List.cons_append, List.nil_append, Nat.reduceAdd, Nat.reduceSub]
 repeat refine aw_seq ?_
 refine zr ttOk ?_
 repeat (refine aops_cons ?_; first | (apply aops_o; rfl; simp only [estep, avs, tts, seval] <;> exact rr) | (refine zg rfl ?_; first | refine grd_on ?_ | refine zo ?_))
 refine aops_nil ?_
 repeat refine aw_seq ?_
 refine zr ttOk ?_
 repeat (refine aops_cons ?_; first | (apply aops_o; rfl; simp only [estep, avs, tts, seval] <;> exact rr) | (refine zg rfl ?_; first | refine grd_on ?_ | refine zo ?_))
 refine zD rfl ((checkU_a base h)) ?_
 repeat (refine aops_cons ?_; first | (apply aops_o; rfl; simp only [estep, avs, tts, seval] <;> exact rr) | (refine zg rfl ?_; first | refine grd_on ?_ | refine zo ?_))
 refine aops_nil ?_
 have h2 : ∀ o, (H.set r o)[l]? = some (.box 196 [.ptr l 0, .ms r ver a.size]) := fun o => by rw [get_set_ne hlr]; exact h
 have c1 : a.size + s.size ≤ 9223372036854775807 := by omega
 have c2 : (a.size + s.size) * 1 ≤ 140737488355328 := by omega
 repeat refine aw_seq ?_
 refine zr ttOk ?_
 repeat (refine aops_cons ?_; first | (apply aops_o; rfl; simp only [estep, avs, tts, seval, h, hr, byteI_len, c1, c2, h2, splice, byteI_append] <;> exact rr) | (refine zg rfl ?_; first | refine grd_on ?_ | refine zo ?_))
 refine aops_nil ?_
 repeat refine aw_seq ?_
 refine zr ttOk ?_
 repeat (refine aops_cons ?_; first | (apply aops_o; rfl; simp only [estep, avs, tts, seval] <;> exact rr) | (refine zg rfl ?_; first | refine grd_on ?_ | refine zo ?_))
 refine aops_nil ?_
 exact aw_ret ⟨_, rfl, rfl, rfl⟩
set_option maxRecDepth 100000 in
theorem wf_a (base : World) {H : AHeap} {l : Nat} {s : ByteArray} (h : H[l]? = some (.box 196 [nilP, nilS])) (hs : s.size ≤ 1000000000) : CallsA Tryz.prog base 190 [.ptr l 0, .d (.v (.string s))] H fun q H' => q = .tup [iA s.size, .d (.v .nilIface)] ∧ H' = (H ++ [bytO 0 s]).set l (bldO l H.length 0 s.size) := by
 simp only [bldO, bytO]
 refine callsA_enter ttOk Tryz.call190 Tryz.func190 rfl fun hB hb hF => ?_
 rw [Tryz.results190, Tryz.ntmps190]
 simp only [arr_list, List.length_cons, List.length_nil, List.replicate, List.cons_append, List.nil_append, Nat.reduceAdd, Nat.reduceSub]
 repeat refine aw_seq ?_
 refine zr ttOk ?_
 repeat (refine aops_cons ?_; first | (apply aops_o; rfl; simp only [estep, avs, tts, seval] <;> exact rr) | (refine zg rfl ?_; first | refine grd_on ?_ | refine zo ?_))
 refine aops_nil ?_
 repeat refine aw_seq ?_
 refine zr ttOk ?_
 repeat (refine aops_cons ?_; first | (apply aops_o; rfl; simp only [estep, avs, tts, seval] <;> exact rr) | (refine zg rfl ?_; first | refine grd_on ?_ | refine zo ?_))
 refine aops_call rfl (by simp only [avs] <;> rfl) (⟨_, check_a base h, ?_⟩)
 rintro r1 H1 ⟨rfl, hH1⟩ hl1
 have h1 : H1[l]? = some (.box 196 [.ptr l 0, nilS]) := by rw [hH1]; exact get_set_same (lt_of_get h)
 have h2 : ∀ G, (H1 ++ G)[l]? = some (.box 196 [.ptr l 0, nilS]) := got h1
 simp only [nilS] at h1 h2
 have hln : H1.length = H.length := by rw [hH1]; simp
 repeat (refine aops_cons ?_; first | (apply aops_o; rfl; simp only [estep, avs, tts, seval] <;> exact rr) | (refine zg rfl ?_; first | refine grd_on ?_ | refine zo ?_))
 refine aops_nil ?_
 have c1 : s.size ≤ 9223372036854775807 := by omega
 have c2 : s.size * 1 ≤ 140737488355328 := by omega
 repeat refine aw_seq ?_
 refine zr ttOk ?_
 repeat (refine aops_cons ?_; first | (apply aops_o; rfl; simp only [estep, avs, tts, seval, h1, byteI_len, c1, c2, h2, splice] <;> exact rr) | (refine zg rfl ?_; first | refine grd_on ?_ | refine zo ?_))
 refine aops_nil ?_
 repeat refine aw_seq ?_
 refine zr ttOk ?_
 repeat (refine aops_cons ?_; first | (apply aops_o; rfl; simp only [estep, avs, tts, seval] <;> exact rr) | (refine zg rfl ?_; first | refine grd_on ?_ | refine zo ?_))
 refine aops_nil ?_
 refine aw_ret ⟨_, rfl, rfl, ?_⟩
 rw [hln, hH1, ← List.set_append_left _ _ (lt_of_get h), List.set_set]
end Av
end Go.Proofs.YtdekcppfpgeneaaGreatDoor
set_option linter.unusedVariables false
set_option linter.unusedSimpArgs false
namespace Go.Proofs.YtdekcppfpgeneaaGreatDoor
open Go Go.RowKit
namespace Av
attribute [local irreducible] AW AOps AHOps

/-! strings.Builder: Len, String. -/
set_option maxRecDepth 100000 in
theorem len_a (base : World) {H : AHeap} {l r ver : Nat} {a : ByteArray} (h : H[l]? = some (bldO l r ver a.size)) (hr : H[r]? = some (bytO ver a)) : ReadA Tryz.prog base 192 [.ptr l 0] H (iA a.size) := by
 simp only [bldO, bytO] at h hr
 refine read_enter ttOk Tryz.call192 Tryz.func192 rfl fun hB hb hF => ?_
 rw [Tryz.results192, Tryz.ntmps192]
 simp only [arr_list, List.length_cons, List.length_nil, List.replicate, List.cons_append, List.nil_append, Nat.reduceAdd, Nat.reduceSub]
 repeat refine aw_seq ?_
 refine zr ttOk ?_
 repeat (refine aops_cons ?_; first | (apply aops_o; rfl; simp only [estep, avs, tts, seval] <;> exact rr) | (refine zg rfl ?_; first | refine grd_on ?_ | refine zo ?_))
 refine aops_nil ?_
 repeat refine aw_seq ?_
 refine zr ttOk ?_
 repeat (refine aops_cons ?_; first | (apply aops_o; rfl; simp only [estep, avs, tts, seval, h, hr, byteI_len] <;> exact rr) | (refine zg rfl ?_; first | refine grd_on ?_ | refine zo ?_))
 refine aops_nil ?_
 exact aw_ret ⟨_, rfl, [], by simp, rfl⟩
set_option maxHeartbeats 2000000 in
set_option maxRecDepth 100000 in
theorem bstr_calls (b g cap : Nat) (p : Value) (cur : Array Value) (s : ByteArray) (w : World) (h0 : s.size ≠ 0) (hbk : w.heap[b]? = some (.cells #[p, .slice (some ⟨g, 0, none⟩) s.size cap] 196 (0, 0))) (hg : w.heap[g]? = some (.cells cur 5 (0, 0))) (hnc : s.size ≤ cap) (hcm : cap ≤ maxLen) (hcs : cur.size = cap) (hcell : ∀ (j : Nat) (x : UInt8), s.data.toList[j]? = some x → cur[j]? = some (Value.int .u8 x.toNat)) :
  Calls Tryz.prog 193 #[.pointer (some ⟨b, 0, none⟩)] w fun e w' => e = .returned (.string s) ∧ w' = w.drew.freeze ⟨g, 0, none⟩ s.size := by
 have hmix := mixed
 have hl : s.data.toList ≠ [] := fun e => h0 (by rw [Lib.size_eq, e]; rfl)
 have hsl : s.data.toList.length = s.size := (Lib.size_eq s).symm
 have es : (⟨s.data.toList.toArray⟩ : ByteArray) = s := by apply ByteArray.ext; simp
 have c1 : w.drew.cell? ⟨b, 1, none⟩ = some (.slice (some ⟨g, 0, none⟩) s.size cap) := by
  have : w.drew.heap[b]? = some (.cells #[p, .slice (some ⟨g, 0, none⟩) s.size cap] 196 (0, 0)) := hbk
  rw [Lib.cell_of_heap this]; rfl
 have hg' : w.drew.heap[g]? = some (.cells cur 5 (0, 0)) := hg
 have hSD : (Builtin.unsafeSliceData_ #[138] 217 #[.slice (some ⟨g, 0, none⟩) s.size cap]).run Tryz.prog w.drew = .ok (.pointer (some ⟨g, 0, none⟩)) w.drew :=
  Lib.run_unsafeSliceData_row _ _ _ _ _ _ (by omega)
 have hUS : (Builtin.unsafeString_ #[217, 3] 9 #[.pointer (some ⟨g, 0, none⟩), .int .i64 s.size]).run Tryz.prog w.drew = .ok (.string s) (w.drew.freeze ⟨g, 0, none⟩ s.size) := by
  have := Lib.run_unsafeString_row w.drew 217 3 9 5 (P := Tryz.prog) (by kernel_rfl) (by kernel_rfl) g cur.size (by simp [World.shape?, hg']) s.data.toList hl (by omega) (by unfold maxLen at hcm; omega) (fun j x hx => by
   rw [Lib.add_plain, Lib.cell_of_heap hg', Nat.zero_add]
   exact hcell j x hx)
  rw [hsl, es] at this
  exact this
 go_enter Tryz.func193, Tryz.ntmps193
 go_wp2
 go_region_o
 all_goals (go_wp2; go_ret; exact ⟨rfl, rfl⟩)
theorem freeze_block (w : World) (g n k : Nat) (h : k ≠ g) : (w.freeze ⟨g, 0, none⟩ n).heap[k]? = w.heap[k]? := by
 unfold World.freeze
 split
 ·rfl
 ·simp only [Array.getElem?_modify]
  rw [if_neg (fun e => h e.symm)]
theorem freeze_size (w : World) (a : Addr) (n : Nat) : (w.freeze a n).heap.size = w.heap.size := by
 unfold World.freeze
 split <;> simp
theorem freeze_rest (w : World) (a : Addr) (n : Nat) : (w.freeze a n).os = w.os ∧ (w.freeze a n).tape = w.tape ∧ (w.freeze a n).output = w.output := by
 unfold World.freeze
 split <;> exact ⟨rfl, rfl, rfl⟩
theorem str_a (base : World) {H : AHeap} {l r ver : Nat} {s : ByteArray} (h : H[l]? = some (bldO l r ver s.size)) (hr : H[r]? = some (bytO ver s)) (h0 : s.size ≠ 0) (h9 : s.size ≤ 9223372036854775807) : CallsA Tryz.prog base 193 [.ptr l 0] H fun q H' => q = .d (.v (.string s)) ∧ H' = H.set r .dead :=
 ⟨Tryz.call193, fun μ w vs hs ha => by
  simp only [bldO, bytO] at h hr
  obtain ⟨v, e, hv⟩ := repL_one ha
  simp only [Rep, PtrRep, h] at hv
  obtain ⟨_, b, m1, rfl⟩ := hv
  rw [arr1 e]
  obtain ⟨b', arr, q1, q2, q3, q4⟩ := hs.obj l _ h
  have q1' : μ l = some b' := q1
  rw [m1] at q1'; cases q1'
  simp only [RepL] at q4
  obtain ⟨v1, t1, e1, _, v2, t2, e2, hx, e3⟩ := q4
  subst e3 e2
  have harr : arr = #[v1, v2] := Array.toList_inj.1 e1
  subst harr
  simp only [Rep, MsRep, hr] at hx
  obtain ⟨_, _, hx⟩ := hx
  obtain ⟨k0, k9, ko⟩ := hs.obj r _ hr
  rcases hx trivial (by rw [byteI_len]) with ⟨_, _, hz⟩ | ⟨g, cap, m2, rfl, m3, m4, m5⟩
  ·exact absurd hz h0
  rcases ko with ⟨n1, _⟩ | ⟨g', cur, f, rs, n1, n2, n3, n4, n5⟩
  ·have : μ r = none := n1
   rw [m2] at this; cases this
  have n1' : μ r = some g' := n1
  rw [m2] at n1'; cases n1'
  rw [bsize_of n3, Nat.mul_one] at m5
  have hf : f = Lib.strCells s := by
   have := byteI_rep (s := ⟨μ, H, w⟩) s
   have inj : ∀ (l : List UInt8) (x y : List Value), RepL ⟨μ, H, w⟩ ((l.map fun b => [PD.v (.int .u8 b.toNat)]).map fun it => it.map AV.d).flatten x → RepL ⟨μ, H, w⟩ ((l.map fun b => [PD.v (.int .u8 b.toNat)]).map fun it => it.map AV.d).flatten y → x = y := by
    intro l
    induction l with
    | nil => intro x y hx hy; simp only [List.map_nil, List.flatten_nil] at hx hy; rw [args_nil hx, args_nil hy]
    | cons a l ih =>
     intro x y hx hy
     simp only [List.map_cons, List.map_nil, List.flatten_cons, List.cons_append, List.nil_append] at hx hy
     obtain ⟨tx, rfl, hx'⟩ := args_v hx
     obtain ⟨ty, rfl, hy'⟩ := args_v hy
     rw [ih _ _ hx' hy']
   exact inj _ _ _ n5 this
  have hbk : w.heap[b]? = some (.cells #[v1, .slice (some ⟨g, 0, none⟩) s.size cap] 196 (0, 0)) := q3
  have hgk : w.heap[g]? = some (.cells cur 5 (0, 0)) := n3
  refine (bstr_calls b g cap v1 cur s w h0 hbk hgk m3 m4 m5.symm (fun j x hx => ?_)).mono ?_
  ·have h1 : (Lib.strCells s)[j]? = some (.int .u8 x.toNat) := by simp [Lib.strCells, hx]
   have h2 : cur.toList[j]? = some (.int .u8 x.toNat) := by
    rw [n4, hf, List.getElem?_append_left (List.getElem?_eq_some_iff.1 h1).1]
    exact h1
   simpa using h2
  rintro e w' ⟨rfl, rfl⟩
  have fr := freeze_rest w.drew ⟨g, 0, none⟩ s.size
  have hd := hs.die hr rfl m2 (w' := w.drew.freeze ⟨g, 0, none⟩ s.size) fr.1 fr.2.1 fr.2.2 (by rw [freeze_size]; exact Nat.le_refl _) (fun c hc _ => freeze_block _ _ _ _ hc)
  exact ⟨_, .d (.v (.string s)), _, _, rfl, ⟨rfl, rfl⟩, by simp, hd.1, by simp only [Rep, PRep]; exact ⟨trivial, h9⟩, hd.2 _⟩⟩
end Av
end Go.Proofs.YtdekcppfpgeneaaGreatDoor
set_option linter.unusedVariables false
set_option linter.unusedSimpArgs false
namespace Go.Proofs.YtdekcppfpgeneaaGreatDoor
open Go Go.RowKit
namespace Av
attribute [local irreducible] AW AOps AHOps
open Nt

/-! text: a number's digits. -/
theorem rep48 (k : Nat) : Lib.repeatL [48] k = List.replicate k 48 := by
 induction k with
 | zero => rfl
 | succ k ih => rw [Lib.repeatL, ih]; rfl
theorem decT_B9 {v x : Nat} (hv : 0 < v) (hx : x < B9) : decT v ++ (⟨(Lib.repeatL [48] (9 - (decT x).size)).toArray⟩ : ByteArray) ++ decT x = decT (x + B9 * v) := by
 have := dec_B9 hv hx
 apply ByteArray.ext
 simp only [decT, ByteArray.data_append, this, pad9, rep48]
 rw [show (ByteArray.mk (Lib.decDigits x).toArray).size = (Lib.decDigits x).length from by rw [Lib.size_eq]]
 simp
theorem decT_lim {n : Nat} (h : (limbs n).length ≤ 900) {v : Nat} (hv : v ≤ n) : (decT v).size ≤ 8101 := by
 rw [decT_size]
 have h1 := valL_lt (limbs_ok n)
 rw [limbs_val, ← pow_B9] at h1
 have := dec_le (9 * (limbs n).length) v (Nat.lt_of_le_of_lt hv (Nat.lt_of_lt_of_le h1 (Nat.pow_le_pow_right (by decide) (by omega))))
 omega
def txtR (n : Nat) : AV := if 300 < (Lib.decDigits n).length then .tup [.d (.v (.string ByteArray.empty)), iA 2] else .tup [.d (.v (.string (decT n))), iA 0]
def zeroS : ByteArray := ⟨#[48]⟩
theorem decT_0 : decT 0 = zeroS := by
 unfold decT zeroS
 rw [dec_lt (by decide)]
 rfl
set_option maxRecDepth 100000 in
set_option maxHeartbeats 4000000 in
theorem text_a {base : World} (hT : Tabs base) (n : Nat) (hn : (limbs n).length ≤ 900) : PureA Tryz.prog base 149 [.d (numP (limbs n))] (txtR n) := by
 refine pure_enter ttOk Tryz.call149 Tryz.func149 rfl fun H hB hb hF => ?_
 rw [Tryz.results149, Tryz.ntmps149]
 simp only [arr_list, List.length_cons, List.length_nil, List.replicate, List.cons_append, List.nil_append, Nat.reduceAdd, Nat.reduceSub]
 clear hF hb
 have hnl := numR_len (limbs n)
 repeat refine aw_seq ?_
 refine zr ttOk ?_
 repeat (refine aops_cons ?_; first | (apply aops_o; rfl; simp only [estep, avs, tts, seval] <;> exact rr) | (refine zg rfl ?_; first | refine grd_on ?_ | refine zo ?_))
 refine aops_nil ?_
 repeat refine aw_seq ?_
 refine zr ttOk ?_
 repeat (refine aops_cons ?_; first | (apply aops_o; rfl; simp only [estep, avs, tts, seval, numP, hnl] <;> exact rr) | (refine zg rfl ?_; first | refine grd_on ?_ | refine zo ?_))
 refine aops_nil ?_
 repeat refine aw_seq ?_
 refine aw_cond rfl rfl (fun hb => ?_) fun hb => ?_
 ·have h0 : n = 0 := limbs_eq_nil.1 (List.eq_nil_of_length_eq_zero (by simpa using hb))
  subst h0
  repeat refine aw_seq ?_
  refine zr ttOk ?_
  repeat (refine aops_cons ?_; first | (apply aops_o; rfl; simp only [estep, avs, tts, seval] <;> exact rr) | (refine zg rfl ?_; first | refine grd_on ?_ | refine zo ?_))
  refine aops_nil ?_
  refine aw_ret ⟨_, (by simp only [aResult, aResL, aRes, avs, tts] <;> rfl), _, rfl, ?_⟩
  have e : txtR 0 = .tup [.d (.v (.string zeroS)), iA 0] := by
   unfold txtR
   rw [decT_0, dec_lt (by decide)]
   rfl
  rw [e]
  rfl
 have hn0 : n ≠ 0 := fun e => by subst e; rw [limbs_zero] at hb; simp at hb
 have hL : 0 < (limbs n).length := List.length_pos_iff.2 fun e => hn0 (limbs_eq_nil.1 e)
 refine aw_skip ?_
 clear hb
 have cb := back_a base (limbs n)
 repeat refine aw_seq ?_
 refine zr ttOk ?_
 repeat (refine aops_cons ?_; first | (apply aops_o; rfl; simp only [estep, avs, tts, seval] <;> exact rr) | (refine zg rfl ?_; first | refine grd_on ?_ | refine zo ?_))
 refine aops_nil ?_
 repeat refine aw_seq ?_
 refine zr ttOk ?_
 repeat (refine aops_cons ?_; first | (apply aops_o; rfl; simp only [estep, avs, tts, seval] <;> exact rr) | (refine zg rfl ?_; first | refine grd_on ?_ | refine zo ?_))
 refine zP rfl (cb) ?_
 repeat (refine aops_cons ?_; first | (apply aops_o; rfl; simp only [estep, avs, tts, seval] <;> exact rr) | (refine zg rfl ?_; first | refine grd_on ?_ | refine zo ?_))
 refine aops_nil ?_
 repeat refine aw_seq ?_
 refine aw_block ?_
 refine aw_range (gf := 213) (caps := [.rp [numP (limbs n)]]) (backL (limbs n)) rfl rfl Tryz.call213 (fun μ w lb hs hr => back_seq (limbs_ok n) (by omega) μ w lb hs hr)
  (fun k H' => k = 0 ∧ H' = H ++ [.box 136 [.d (numP (limbs n))], .box 196 [nilP, nilS]] ∨ 0 < k ∧ H' = H ++ [.box 136 [.d (numP (limbs n))], bldO (H.length + 1) (H.length + 2) 0 (decT (n / B9 ^ ((limbs n).length - k))).size, bytO 0 (decT (n / B9 ^ ((limbs n).length - k)))])
  (fun c H' => False) (.inl ⟨rfl, rfl⟩) ?_ ?_ (fun c H' h => h.elim)
 ·rintro l k H' hk hJ hN
  rw [backL_len] at hk
  rw [backL_get _ hk]
  obtain ⟨m, hm⟩ : ∃ m, m = (limbs n).length - 1 - k := ⟨_, rfl⟩
  rw [← hm]
  have hmp : m < (limbs n).length := by omega
  have hnext : (limbs n).length - (k + 1) = m := by omega
  have hthis : (limbs n).length - k = m + 1 := by omega
  rw [hthis] at hJ
  have hx := limbs_get n m hmp
  have hx9 : (limbs n).getD m 0 < 1000000000 := getD_lt (limbs_ok n) m
  have hst := limb_step n m
  rw [← hx.1] at hst
  obtain ⟨x, ex⟩ : ∃ x, x = (limbs n).getD m 0 := ⟨_, rfl⟩
  rw [← ex] at hst hx9 ⊢
  have cf := fmt_a hT x hx9
  have h9 := decT_9 hx9
  simp only [setPs, arr_list, List.zip_cons_cons, List.zip_nil_left, List.foldl_cons, List.foldl_nil, List.set_cons_succ, List.set_cons_zero, iA, uA, numP]
  have w1 : IntKind.i64.wrap (((limbs n).length : Int) - 1) = (((limbs n).length - 1 : Nat) : Int) := by rw [IntKind.wrap_i64]; omega
  rcases hJ with ⟨rfl, rfl⟩ | ⟨hk0, rfl⟩
  ·have hv0 : n / B9 ^ (m + 1) = 0 := by rw [show m + 1 = (limbs n).length by omega]; exact limbs_end n
   rw [hv0, Nat.mul_zero, Nat.add_zero] at hst
   have c0 : decide ((m : Int) < (((limbs n).length - 1 : Nat) : Int)) = false := by simp; omega
   repeat refine aw_seq ?_
   refine zr ttOk ?_
   repeat (refine aops_cons ?_; first | (apply aops_o; rfl; simp only [estep, avs, tts, seval] <;> exact rr) | (refine zg rfl ?_; first | refine grd_on ?_ | refine zo ?_))
   refine aops_nil ?_
   repeat refine aw_seq ?_
   refine zr ttOk ?_
   repeat (refine aops_cons ?_; first | (apply aops_o; rfl; simp only [estep, avs, tts, seval] <;> exact rr) | (refine zg rfl ?_; first | refine grd_on ?_ | refine zo ?_))
   refine aops_nil ?_
   refine ⟨rfl, ?_⟩
   refine aw_block ?_
   repeat refine aw_seq ?_
   refine zr ttOk ?_
   repeat (refine aops_cons ?_; first | (apply aops_o; rfl; simp only [estep, avs, tts, seval] <;> exact rr) | (refine zg rfl ?_; first | refine grd_on ?_ | refine zo ?_))
   refine zP rfl (cf) ?_
   repeat (refine aops_cons ?_; first | (apply aops_o; rfl; simp only [estep, avs, tts, seval] <;> exact rr) | (refine zg rfl ?_; first | refine grd_on ?_ | refine zo ?_))
   refine aops_nil ?_
   repeat refine aw_seq ?_
   refine zr ttOk ?_
   repeat (refine aops_cons ?_; first | (apply aops_o; rfl; simp only [estep, avs, tts, seval, hnl, w1, c0] <;> exact rr) | (refine zg rfl ?_; first | refine grd_on ?_ | refine zo ?_))
   refine aops_nil ?_
   repeat refine aw_seq ?_
   refine aw_cond rfl rfl (fun hb => ?_) fun hb => ?_
   ·cases hb
   refine aw_skip ?_
   repeat refine aw_seq ?_
   refine zr ttOk ?_
   repeat (refine aops_cons ?_; first | (apply aops_o; rfl; simp only [estep, avs, tts, seval] <;> exact rr) | (refine zg rfl ?_; first | refine grd_on ?_ | refine zo ?_))
   refine aops_call rfl (by simp only [avs] <;> rfl) (⟨_, wf_a base (l := H.length + 1) (by simp [nilP, nilS]) (by omega), ?_⟩)
   rintro r1 H1 ⟨rfl, hH1⟩ hl1
   repeat (refine aops_cons ?_; first | (apply aops_o; rfl; simp only [estep, avs, tts, seval] <;> exact rr) | (refine zg rfl ?_; first | refine grd_on ?_ | refine zo ?_))
   refine aops_nil ?_
   simp only [rndA]
   refine .inr ⟨by omega, ?_⟩
   rw [hnext, hst, hH1]
   simp [bldO, nilS, numP]
  ·obtain ⟨v, hv⟩ : ∃ v, v = n / B9 ^ (m + 1) := ⟨_, rfl⟩
   have hvn : n / B9 ^ (m + 1) ≤ n := Nat.div_le_self _ _
   have hmn : n / B9 ^ m ≤ n := Nat.div_le_self _ _
   have hv0 : 0 < v := by
    have := (limbs_get n (m + 1) (by omega)).2
    omega
   have hlv := decT_lim hn hvn
   have hlm := decT_lim hn hmn
   rw [← hv] at hst hlv ⊢
   have c0 : decide ((m : Int) < (((limbs n).length - 1 : Nat) : Int)) = true := by simp; omega
   have w2 : IntKind.i64.wrap (9 - ((decT x).size : Int)) = ((9 - (decT x).size : Nat) : Int) := by rw [IntKind.wrap_i64]; omega
   have cr := rep_a (base := base) ⟨#[48]⟩ (9 - (decT x).size) (by omega) (by decide)
   simp only at cr
   obtain ⟨pd, hpd⟩ : ∃ pd, pd = (⟨(Lib.repeatL [48] (9 - (decT x).size)).toArray⟩ : ByteArray) := ⟨_, rfl⟩
   have hps : pd.size ≤ 9 := by rw [hpd, rep48, Lib.size_eq]; simp
   have hfin := decT_B9 hv0 hx9
   rw [← hpd] at hfin cr
   repeat refine aw_seq ?_
   refine zr ttOk ?_
   repeat (refine aops_cons ?_; first | (apply aops_o; rfl; simp only [estep, avs, tts, seval] <;> exact rr) | (refine zg rfl ?_; first | refine grd_on ?_ | refine zo ?_))
   refine aops_nil ?_
   repeat refine aw_seq ?_
   refine zr ttOk ?_
   repeat (refine aops_cons ?_; first | (apply aops_o; rfl; simp only [estep, avs, tts, seval] <;> exact rr) | (refine zg rfl ?_; first | refine grd_on ?_ | refine zo ?_))
   refine aops_nil ?_
   refine ⟨rfl, ?_⟩
   refine aw_block ?_
   repeat refine aw_seq ?_
   refine zr ttOk ?_
   repeat (refine aops_cons ?_; first | (apply aops_o; rfl; simp only [estep, avs, tts, seval] <;> exact rr) | (refine zg rfl ?_; first | refine grd_on ?_ | refine zo ?_))
   refine zP rfl (cf) ?_
   repeat (refine aops_cons ?_; first | (apply aops_o; rfl; simp only [estep, avs, tts, seval] <;> exact rr) | (refine zg rfl ?_; first | refine grd_on ?_ | refine zo ?_))
   refine aops_nil ?_
   repeat refine aw_seq ?_
   refine zr ttOk ?_
   repeat (refine aops_cons ?_; first | (apply aops_o; rfl; simp only [estep, avs, tts, seval, hnl, w1, c0] <;> exact rr) | (refine zg rfl ?_; first | refine grd_on ?_ | refine zo ?_))
   refine aops_nil ?_
   repeat refine aw_seq ?_
   refine aw_cond rfl rfl (fun hb => ?_) fun hb => ?_
   ·repeat refine aw_seq ?_
    refine zr ttOk ?_
    repeat (refine aops_cons ?_; first | (apply aops_o; rfl; simp only [estep, avs, tts, seval, w2] <;> exact rr) | (refine zg rfl ?_; first | refine grd_on ?_ | refine zo ?_))
    refine zP rfl (cr) ?_
    repeat (refine aops_cons ?_; first | (apply aops_o; rfl; simp only [estep, avs, tts, seval] <;> exact rr) | (refine zg rfl ?_; first | refine grd_on ?_ | refine zo ?_))
    refine aops_call rfl (by simp only [avs] <;> rfl) (⟨_, ws_a base (l := H.length + 1) (r := H.length + 2) (ver := 0) (a := decT v) (s := pd) (by simp) (by simp) (by omega), ?_⟩)
    rintro r1 H1 ⟨rfl, hH1⟩ hl1
    have e1 : H1 = H ++ [.box 136 [.d (numP (limbs n))], bldO (H.length + 1) (H.length + 2) 0 (decT v ++ pd).size, bytO 0 (decT v ++ pd)] := by
     rw [hH1]; simp [ByteArray.size_append, numP]
    subst e1
    repeat (refine aops_cons ?_; first | (apply aops_o; rfl; simp only [estep, avs, tts, seval] <;> exact rr) | (refine zg rfl ?_; first | refine grd_on ?_ | refine zo ?_))
    refine aops_nil ?_
    repeat refine aw_seq ?_
    refine zr ttOk ?_
    repeat (refine aops_cons ?_; first | (apply aops_o; rfl; simp only [estep, avs, tts, seval] <;> exact rr) | (refine zg rfl ?_; first | refine grd_on ?_ | refine zo ?_))
    refine aops_call rfl (by simp only [avs] <;> rfl) (⟨_, ws_a base (l := H.length + 1) (r := H.length + 2) (ver := 0) (a := decT v ++ pd) (s := decT x) (by simp) (by simp) (by rw [ByteArray.size_append]; omega), ?_⟩)
    rintro r2 H2 ⟨rfl, hH2⟩ hl2
    have e2 : H2 = H ++ [.box 136 [.d (numP (limbs n))], bldO (H.length + 1) (H.length + 2) 0 (decT (x + B9 * v)).size, bytO 0 (decT (x + B9 * v))] := by
     rw [hH2, ← hfin]; simp [ByteArray.size_append, numP]
    repeat (refine aops_cons ?_; first | (apply aops_o; rfl; simp only [estep, avs, tts, seval] <;> exact rr) | (refine zg rfl ?_; first | refine grd_on ?_ | refine zo ?_))
    refine aops_nil ?_
    simp only [rndA]
    refine .inr ⟨by omega, ?_⟩
    rw [hnext, hst, e2]
    rfl
   ·cases hb
 ·rintro H' hJ hN
  rw [backL_len, Nat.sub_self, Nat.pow_zero, Nat.div_one] at hJ
  obtain ⟨_, rfl⟩ := hJ.resolve_left fun h => by omega
  have hln := decT_lim hn (Nat.le_refl n)
  have hps : 0 < (decT n).size := by rw [decT_size]; exact dec_pos n
  have hsz : 300 < (Lib.decDigits n).length ↔ ((decT n).size : Int) > 300 := by rw [decT_size]; omega
  show AW _ _ _ _ _
  repeat refine aw_seq ?_
  refine zr ttOk ?_
  repeat (refine aops_cons ?_; first | (apply aops_o; rfl; simp only [estep, avs, tts, seval] <;> exact rr) | (refine zg rfl ?_; first | refine grd_on ?_ | refine zo ?_))
  refine zD rfl ((len_a base (l := H.length + 1) (r := H.length + 2) (ver := 0) (a := decT n) (by simp) (by simp))) ?_
  repeat (refine aops_cons ?_; first | (apply aops_o; rfl; simp only [estep, avs, tts, seval, iA] <;> exact rr) | (refine zg rfl ?_; first | refine grd_on ?_ | refine zo ?_))
  refine aops_nil ?_
  repeat refine aw_seq ?_
  refine aw_cond rfl rfl (fun hb => ?_) fun hb => ?_
  ·have hgt : ((decT n).size : Int) > 300 := by simpa using hb
   repeat refine aw_seq ?_
   refine zr ttOk ?_
   repeat (refine aops_cons ?_; first | (apply aops_o; rfl; simp only [estep, avs, tts, seval] <;> exact rr) | (refine zg rfl ?_; first | refine grd_on ?_ | refine zo ?_))
   refine aops_nil ?_
   refine aw_ret ⟨_, (by simp only [aResult, aResL, aRes, avs, tts] <;> rfl), _, rfl, ?_⟩
   rw [txtR, if_pos (hsz.2 hgt)]
   rfl
  ·have hgt : ¬ ((decT n).size : Int) > 300 := by simpa using hb
   refine aw_skip ?_
   repeat refine aw_seq ?_
   refine zr ttOk ?_
   repeat (refine aops_cons ?_; first | (apply aops_o; rfl; simp only [estep, avs, tts, seval] <;> exact rr) | (refine zg rfl ?_; first | refine grd_on ?_ | refine zo ?_))
   refine aops_call rfl (by simp only [avs] <;> rfl) (⟨_, str_a base (l := H.length + 1) (r := H.length + 2) (ver := 0) (s := decT n) (by simp) (by simp) (by omega) (by omega), ?_⟩)
   rintro r1 H1 ⟨rfl, hH1⟩ hl1
   repeat (refine aops_cons ?_; first | (apply aops_o; rfl; simp only [estep, avs, tts, seval] <;> exact rr) | (refine zg rfl ?_; first | refine grd_on ?_ | refine zo ?_))
   refine aops_nil ?_
   rw [hH1]
   refine aw_ret ⟨_, (by simp only [aResult, aResL, aRes, avs, tts] <;> rfl), _, by simp; rfl, ?_⟩
   rw [txtR, if_neg fun h => hgt (hsz.1 h)]
   rfl
end Av
end Go.Proofs.YtdekcppfpgeneaaGreatDoor
set_option linter.unusedVariables false
set_option linter.unusedSimpArgs false
namespace Go.Proofs.YtdekcppfpgeneaaGreatDoor
open Go Go.RowKit
namespace Av
attribute [local irreducible] AW AOps AHOps
open Nt

/-! parse: the limbs of a text of digits. -/
theorem pu_calls (t : ByteArray) (hd : t.data.toList.all digitB = true) (h0 : t.size ≠ 0) (hl : t.size ≤ 18) (w : World) :
  Calls Tryz.prog 180 #[.string t, .int .i64 10, .int .i64 64] w fun e w' => e = .returned (.tuple #[.int .u64 (decVal t.data.toList : Nat), .nilIface]) ∧ Below w.heap.size w w' := by
 have hc := Any.internal_strconv_ParseUint_10_b64 Tryz.lays287 t h0 (by omega) w
 rw [parse_9 hd (by rw [← Lib.size_eq]; exact hl)] at hc
 go_enter Tryz.func180, Tryz.ntmps180
 go_wp2_with fail
 refine hc.mono ?_
 rintro e w1 ⟨rfl, rfl⟩
 simp only [Lib.uintTuple]
 go_wp2
 go_ret2
 exact ⟨rfl, Lib.below_freeze ((Below.drew (Below.refl w.heap.size w)).alloc (Nat.le_refl _) _) (p := ⟨w.heap.size, _, none⟩) (Nat.le_refl _) _⟩
theorem pu_a {base : World} (t : ByteArray) (hd : t.data.toList.all digitB = true) (h0 : t.size ≠ 0) (hl : t.size ≤ 18) : PureA Tryz.prog base 180 [.d (.v (.string t)), .d (.v (.int .i64 10)), .d (.v (.int .i64 64))] (.tup [.d (.v (.int .u64 ((decVal t.data.toList : Nat) : Int))), .d (.v .nilIface)]) :=
 pure_of_rep Tryz.call180 fun s vs hs ha => by
  rw [args3 ha]
  refine (pu_calls t hd h0 hl s.w).mono fun e w' ⟨h1, h2⟩ => ⟨_, h1, h2, fun s' _ _ => ?_⟩
  have h18 := decVal_lt hd
  have : decVal t.data.toList < 18446744073709551616 := Nat.lt_of_lt_of_le h18 (Nat.le_trans (Nat.pow_le_pow_right (by decide) (by rw [← Lib.size_eq]; exact hl)) (by decide))
  simp only [Rep]
  refine ⟨_, rfl, .cons ?_ (.cons ?_ .nil)⟩
  ·simp only [Rep, PRep, true_and, small, IntKind.min, IntKind.max, IntKind.signed, IntKind.bits]
   simp
   omega
  ·simp only [Rep, PRep, true_and, small]
set_option maxRecDepth 100000 in
set_option maxHeartbeats 4000000 in
theorem parse_a {base : World} (t : ByteArray) (hd : t.data.toList.all digitB = true) (hl : t.size ≤ 1000000) : PureA Tryz.prog base 143 [.d (.v (.string t))] (.d (numP (limbs (decVal t.data.toList)))) := by
 refine pure_enter ttOk Tryz.call143 Tryz.func143 rfl fun H hB hb hF => ?_
 rw [Tryz.results143, Tryz.ntmps143]
 simp only [arr_list, List.length_cons, List.length_nil, List.replicate, List.cons_append, List.nil_append, Nat.reduceAdd, Nat.reduceSub]
 clear hF hb
 have hsz := Lib.size_eq t
 repeat refine aw_seq ?_
 refine zr ttOk ?_
 repeat (refine aops_cons ?_; first | (apply aops_o; rfl; simp only [estep, avs, tts, seval] <;> exact rr) | (refine zg rfl ?_; first | refine grd_on ?_ | refine zo ?_))
 refine aops_nil ?_
 repeat refine aw_seq ?_
 refine zr ttOk ?_
 repeat (refine aops_cons ?_; first | (apply aops_o; rfl; simp only [estep, avs, tts, seval] <;> exact rr) | (refine zg rfl ?_; first | refine grd_on ?_ | refine zo ?_))
 refine aops_nil ?_
 repeat refine aw_seq ?_
 refine zr ttOk ?_
 repeat (refine aops_cons ?_; first | (apply aops_o; rfl; simp only [estep, avs, tts, seval] <;> exact rr) | (refine zg rfl ?_; first | refine grd_on ?_ | refine zo ?_))
 refine aops_nil ?_
 repeat refine aw_seq ?_
 refine aw_nilrow 3 167 1 rfl (by simp only [l_set0, l_setS] <;> rfl) ?_
 refine aw_block (aw_loop (H0 := H ++ [.row 167 1 0 (dI (numR []))]) (fun r env K' => ∃ out z, (∃ e : Nat, z = (e : Int) ∧ r = e ∧ ParI t.data.toList e out ∨ z ≤ 0 ∧ r = 0 ∧ LimbsOk out ∧ out.length ≤ 1000000 ∧ trimL out = limbs (decVal t.data.toList)) ∧ K' = H ++ [.row 167 1 0 (dI (numR out))] ∧ env = .d (.v (.string t)) :: .undef :: .d (.v (.slice none 0 0)) :: .ms H.length 0 out.length :: .d (.v (.int .i64 z)) :: List.replicate 24 .undef) ?_ ⟨[], (t.size : Int), ⟨t.size, .inl ⟨rfl, rfl, by rw [hsz]; exact ParI.start _⟩⟩, rfl, rfl⟩ ?_)
 ·exact ⟨by simp [EnvLe, List.replicate], .inl rfl⟩
 rintro r env K' ⟨out, z, ⟨e, hJ⟩, rfl, rfl⟩ hN
 simp only [List.replicate]
 by_cases hz : 0 < z
 ·obtain ⟨rfl, rfl, hP⟩ := hJ.resolve_right fun h => by omega
  have he0 : 0 < r := by omega
  have hle := hP.le
  rw [← hsz] at hle
  have g0 : decide ((r : Int) > 0) = true := by simpa using he0
  repeat refine aw_seq ?_
  refine zr ttOk ?_
  repeat (refine aops_cons ?_; first | (apply aops_o; rfl; simp only [estep, avs, tts, seval, g0] <;> exact rr) | (refine zg rfl ?_; first | refine grd_on ?_ | refine zo ?_))
  refine aops_nil ?_
  repeat refine aw_seq ?_
  refine aw_cond rfl rfl (fun hb => ?_) fun hb => ?_
  ·refine aw_skip ?_
   repeat refine aw_seq ?_
   refine aw_block ?_
   have w1 : IntKind.i64.wrap ((r : Int) - 9) = (r : Int) - 9 := by rw [IntKind.wrap_i64]; omega
   have m1 : (if (0 : Int) < (r : Int) - 9 then (r : Int) - 9 else 0) = ((r - 9 : Nat) : Int) := by split <;> omega
   have b0 : (0 : Int) ≤ ((r - 9 : Nat) : Int) := by omega
   have b1 : (0 : Int) ≤ (r : Int) := by omega
   have b2 : (r - 9 ≤ r) = True := by simp
   obtain ⟨sg, hsg⟩ : ∃ sg, sg = t.extract (r - 9) r := ⟨_, rfl⟩
   have hsl : sg.data.toList = segE t.data.toList r := by
    rw [hsg, ByteArray.data_extract, Array.toList_extract, List.extract_eq_take_drop]
    rfl
   have hln := seg_len hP.le
   have cu := pu_a (base := base) sg (by rw [hsl]; exact seg_all hd r) (by rw [Lib.size_eq, hsl, hln]; omega) (by rw [Lib.size_eq, hsl, hln]; omega)
   rw [hsl] at cu
   repeat refine aw_seq ?_
   refine zr ttOk ?_
   repeat (refine aops_cons ?_; first | (apply aops_o; rfl; simp only [estep, avs, tts, seval, w1, m1, b0, b1, b2, hle, ← hsg] <;> exact rr) | (refine zg rfl ?_; first | refine grd_on ?_ | refine zo ?_))
   refine zP rfl (cu) ?_
   repeat (refine aops_cons ?_; first | (apply aops_o; rfl; simp only [estep, avs, tts, seval] <;> exact rr) | (refine zg rfl ?_; first | refine grd_on ?_ | refine zo ?_))
   refine aops_nil ?_
   have e9 : 9 * out.length = t.size - r := by rw [hsz]; exact hP.len
   have d0 : (dI (numR out)).length = out.length := by rw [dI_len, numR_len]
   have d1 : out.length + 1 ≤ 9223372036854775807 := by omega
   have d2 : (out.length + 1) * 8 ≤ 140737488355328 := by omega
   show AW _ _ _ _ _
   repeat refine aw_seq ?_
   refine zr ttOk ?_
   repeat (refine aops_cons ?_; first | (apply aops_o; rfl; simp only [estep, avs, tts, seval, d0, d1, d2, numD_snoc] <;> exact rr) | (refine zg rfl ?_; first | refine grd_on ?_ | refine zo ?_))
   refine aops_nil ?_
   show AW _ _ _ _ _
   repeat refine aw_seq ?_
   refine zr ttOk ?_
   repeat (refine aops_cons ?_; first | (apply aops_o; rfl; simp only [estep, avs, tts, seval, w1] <;> exact rr) | (refine zg rfl ?_; first | refine grd_on ?_ | refine zo ?_))
   refine aops_nil ?_
   refine ⟨if 9 ≤ r then r - 9 else 0, _, _, by split <;> omega, ⟨?_, .inr ⟨by simp, ?_, .more hB (.cons (bel_dI _) .nil), [.row 167 1 0 [[.d (.v (.int .u64 ((decVal (segE t.data.toList r) : Nat) : Int)))]]], by simp⟩⟩, out ++ [decVal (segE t.data.toList r)], (r : Int) - 9, ⟨r - 9, ?_⟩, rfl, rfl⟩
   ·simp [EnvLe, List.replicate]
   ·simp [belL, AV.bel, List.replicate]
   ·by_cases h9 : 9 ≤ r
    ·exact .inl ⟨by omega, by rw [if_pos h9], hP.step hd h9⟩
    ·refine .inr ⟨by omega, by rw [if_neg h9], hP.ok' hd, by simp; omega, hP.last hd (by omega)⟩
  ·cases hb
 ·have hfin : trimL out = limbs (decVal t.data.toList) ∧ out.length ≤ 1000000 := by
   rcases hJ with ⟨rfl, rfl, hP⟩ | ⟨_, _, _, h1, h2⟩
   ·have h0 : r = 0 := by omega
    subst h0
    exact ⟨hP.fin, by have := hP.len; omega⟩
   ·exact ⟨h2, h1⟩
  have g0 : decide (z > 0) = false := by simpa using hz
  have ct := trim_a base out (by omega)
  rw [hfin.1] at ct
  have hol := numR_len out
  repeat refine aw_seq ?_
  refine zr ttOk ?_
  repeat (refine aops_cons ?_; first | (apply aops_o; rfl; simp only [estep, avs, tts, seval, g0] <;> exact rr) | (refine zg rfl ?_; first | refine grd_on ?_ | refine zo ?_))
  refine aops_nil ?_
  repeat refine aw_seq ?_
  refine aw_cond rfl rfl (fun hb => ?_) fun hb => ?_
  ·cases hb
  refine aw_exit ?_
  repeat refine aw_seq ?_
  refine zr ttOk ?_
  repeat (refine aops_cons ?_; first | (apply aops_o; rfl; simp only [estep, avs, tts, seval] <;> exact rr) | (refine zg rfl ?_; first | refine grd_on ?_ | refine zo ?_))
  refine aops_pureF ((H.length)) rfl (by simp only [avs] <;> rfl) (by simp only [avs, tts, seval, frzL, frzA, frzO, unI_dI, dI_len, unI, unL, Nat.add_eq_left, Nat.left_eq_add, Nat.one_ne_zero, hol] <;> rfl) (by simp only [avs, tts, seval, frzL, frzA, frzO, unI_dI, dI_len, unI, unL, Nat.add_eq_left, Nat.left_eq_add, Nat.one_ne_zero, hol] <;> rfl) (ct) (by simp only [avs] <;> rfl) ?_
  repeat (refine aops_cons ?_; first | (apply aops_o; rfl; simp only [estep, avs, tts, seval] <;> exact rr) | (refine zg rfl ?_; first | refine grd_on ?_ | refine zo ?_))
  refine aops_nil ?_
  exact aw_ret ⟨_, rfl, _, rfl, rfl⟩
end Av
end Go.Proofs.YtdekcppfpgeneaaGreatDoor
set_option linter.unusedVariables false
set_option linter.unusedSimpArgs false
namespace Go.Proofs.YtdekcppfpgeneaaGreatDoor
open Go Go.RowKit
namespace Av
attribute [local irreducible] AW AOps AHOps
open Nt

/-! Is: the texts that are natural numbers. -/
def digC : ByteArray := ⟨#[48, 49, 50, 51, 52, 53, 54, 55, 56, 57]⟩
def trimD (t : ByteArray) : ByteArray := ⟨(Lib.trimS t.data.toList digC.data.toList).toArray⟩
theorem all_digC (c : UInt8) : digC.data.toList.contains c = digitB c := by
 have : ∀ n : Fin 256, digC.data.toList.contains (UInt8.ofNat n.val) = digitB (UInt8.ofNat n.val) := by decide +kernel
 have h := this ⟨c.toNat, UInt8.toNat_lt c⟩
 simpa using h
theorem trimD_eq (t : ByteArray) : decide (trimD t = ⟨#[]⟩) = t.data.toList.all digitB := by
 have hb : (trimD t = ⟨#[]⟩) ↔ t.data.toList.all digitB = true := by
  have h1 : (trimD t = ⟨#[]⟩) ↔ Lib.trimS t.data.toList digC.data.toList = [] := by
   constructor
   ·intro e
    have := congrArg (fun b : ByteArray => b.data.toList) e
    simpa [trimD] using this
   ·intro e
    unfold trimD; rw [e]
  rw [h1, trim_nil, List.all_eq_true]
  simp only [all_digC]
 cases hi : t.data.toList.all digitB with
 | true => exact decide_eq_true (hb.2 hi)
 | false => exact decide_eq_false (fun e => by rw [hb.1 e] at hi; cases hi)
theorem trimD_size (t : ByteArray) : (trimD t).size ≤ t.size := by
 rw [Lib.size_eq, Lib.size_eq]
 simp only [trimD, Lib.trimS, Lib.trimLeftS, Lib.trimRightS]
 have h1 := (List.dropWhile_sublist (p := fun x => digC.data.toList.contains x) (l := t.data.toList.reverse)).length_le
 have h2 := (List.dropWhile_sublist (p := fun x => digC.data.toList.contains x) (l := (t.data.toList.reverse.dropWhile fun x => digC.data.toList.contains x).reverse)).length_le
 simp at h1 h2 ⊢
 omega
theorem trimd_a {base : World} (t : ByteArray) (ht : t.size ≤ 9223372036854775807) : PureA Tryz.prog base 124 [.d (.v (.string t)), .d (.v (.string ⟨#[48, 49, 50, 51, 52, 53, 54, 55, 56, 57]⟩))] (.d (.v (.string (trimD t)))) :=
 pure_scalar Tryz.call124 (Nat.le_trans (trimD_size t) ht) fun s vs hs ha => by
  rw [args2 ha]
  exact Any.strings_Trim_laid Tryz.lays160 (by kernel_rfl) t digC s.w ht (by decide) (ascii_of_all (by decide))
def headB (t : ByteArray) : UInt8 := t.data.toList.getD 0 0
def isN (t : ByteArray) : Bool := !decide (t = ⟨#[]⟩) && (decide (t.size ≤ 300) && (t.data.toList.all digitB && (decide (t.size = 1) || !decide (headB t = 48))))
set_option maxRecDepth 100000 in
set_option maxHeartbeats 4000000 in
theorem is_a {base : World} (t : ByteArray) (ht : t.size ≤ 9223372036854775807) : PureA Tryz.prog base 97 [.d (.v (.string t))] (.d (.v (.bool (isN t)))) := by
 refine pure_enter ttOk Tryz.call97 Tryz.func97 rfl fun H hB hb hF => ?_
 rw [Tryz.results97, Tryz.ntmps97]
 simp only [arr_list, List.length_cons, List.length_nil, List.replicate, List.cons_append, List.nil_append, Nat.reduceAdd, Nat.reduceSub]
 clear hF hb
 have ct := trimd_a (base := base) t ht
 have ht2 := trimD_eq t
 repeat refine aw_seq ?_
 refine zr ttOk ?_
 repeat (refine aops_cons ?_; first | (apply aops_o; rfl; simp only [estep, avs, tts, seval] <;> exact rr) | (refine zg rfl ?_; first | refine grd_on ?_ | refine zo ?_))
 refine aops_nil ?_
 cases h1 : decide (t = ⟨#[]⟩) with
 | true =>
  repeat refine aw_seq ?_
  refine zr ttOk ?_
  repeat (refine aops_cons ?_; first | (apply aops_o; rfl; simp only [estep, avs, tts, seval, h1, Bool.not_true, Bool.not_false] <;> exact rr) | (refine zg rfl ?_; first | refine grd_on ?_ | refine zo ?_))
  refine aops_nil ?_
  rw [isN, h1]
  exact aw_ret ⟨_, rfl, [], by simp, rfl⟩
 | false =>
  cases h2 : decide ((t.size : Int) ≤ 300) with
  | false =>
   repeat refine aw_seq ?_
   refine zr ttOk ?_
   repeat (refine aops_cons ?_; first | (apply aops_o; rfl; simp only [estep, avs, tts, seval, h1, h2, Bool.not_true, Bool.not_false] <;> exact rr) | (refine zg rfl ?_; first | refine grd_on ?_ | refine zo ?_))
   refine aops_nil ?_
   have h2' : decide (t.size ≤ 300) = false := by simp at h2 ⊢; omega
   rw [isN, h1, h2']
   exact aw_ret ⟨_, rfl, [], by simp, rfl⟩
  | true =>
   have h2' : decide (t.size ≤ 300) = true := by simp at h2 ⊢; omega
   cases h3 : t.data.toList.all digitB with
   | false =>
    rw [h3] at ht2
    repeat refine aw_seq ?_
    refine zr ttOk ?_
    repeat (refine aops_cons ?_; first | (apply aops_o; rfl; simp only [estep, avs, tts, seval, h1, h2, Bool.not_true, Bool.not_false] <;> exact rr) | (refine zg rfl ?_; first | refine grd_on ?_ | refine zo ?_))
    refine zP rfl (ct) ?_
    repeat (refine aops_cons ?_; first | (apply aops_o; rfl; simp only [estep, avs, tts, seval, ht2, Bool.not_true, Bool.not_false] <;> exact rr) | (refine zg rfl ?_; first | refine grd_on ?_ | refine zo ?_))
    refine aops_nil ?_
    rw [isN, h1, h2', h3]
    exact aw_ret ⟨_, rfl, [], by simp, rfl⟩
   | true =>
    rw [h3] at ht2
    cases h4 : decide ((t.size : Int) = 1) with
    | true =>
     have h4' : decide (t.size = 1) = true := by simp at h4 ⊢; omega
     repeat refine aw_seq ?_
     refine zr ttOk ?_
     repeat (refine aops_cons ?_; first | (apply aops_o; rfl; simp only [estep, avs, tts, seval, h1, h2, Bool.not_true, Bool.not_false] <;> exact rr) | (refine zg rfl ?_; first | refine grd_on ?_ | refine zo ?_))
     refine zP rfl (ct) ?_
     repeat (refine aops_cons ?_; first | (apply aops_o; rfl; simp only [estep, avs, tts, seval, ht2, h4, Bool.not_true, Bool.not_false] <;> exact rr) | (refine zg rfl ?_; first | refine grd_on ?_ | refine zo ?_))
     refine aops_nil ?_
     rw [isN, h1, h2', h3, h4']
     exact aw_ret ⟨_, rfl, [], by simp, rfl⟩
    | false =>
     have h4' : decide (t.size = 1) = false := by simp at h4 ⊢; omega
     have h0 : 0 < t.size := by
      rcases Nat.eq_zero_or_pos t.size with h | h
      ·exfalso
       have e : t = ⟨#[]⟩ := by
        apply ByteArray.ext
        rw [Lib.size_eq] at h
        have := List.eq_nil_of_length_eq_zero h
        simpa using this
       rw [e] at h1
       cases h1
      ·exact h
     have h5 : decide (((t.data.toList.getD 0 0).toNat : Int) = 48) = decide (headB t = 48) := by
      have e : ((t.data.toList.getD 0 0).toNat : Int) = 48 ↔ headB t = 48 := by
       constructor
       ·intro h
        have : (headB t).toNat = 48 := by unfold headB; omega
        exact UInt8.toNat_inj.1 this
       ·intro h
        have : (headB t).toNat = 48 := by rw [h]; rfl
        unfold headB at this
        omega
      exact decide_eq_decide.2 e
     repeat refine aw_seq ?_
     refine zr ttOk ?_
     repeat (refine aops_cons ?_; first | (apply aops_o; rfl; simp only [estep, avs, tts, seval, h1, h2, Bool.not_true, Bool.not_false] <;> exact rr) | (refine zg rfl ?_; first | refine grd_on ?_ | refine zo ?_))
     refine zP rfl (ct) ?_
     repeat (refine aops_cons ?_; first | (apply aops_o; rfl; simp only [estep, avs, tts, seval, ht2, h4, h0, h5, Int.le_refl, Bool.not_true, Bool.not_false] <;> exact rr) | (refine zg rfl ?_; first | refine grd_on ?_ | refine zo ?_))
     refine aops_nil ?_
     rw [isN, h1, h2', h3, h4']
     exact aw_ret ⟨_, rfl, [], by simp, rfl⟩
end Av
end Go.Proofs.YtdekcppfpgeneaaGreatDoor
set_option linter.unusedVariables false
set_option linter.unusedSimpArgs false
namespace Go.Proofs.YtdekcppfpgeneaaGreatDoor
open Go Go.RowKit
namespace Nt
open Av

/-! The texts that are natural numbers, and their values. -/
def valS (t : ByteArray) : Nat := decVal t.data.toList
theorem ofNat_digit {c : UInt8} (h : digitB c = true) : UInt8.ofNat (48 + (c.toNat - 48)) = c := by
 simp [digitB] at h
 have : 48 + (c.toNat - 48) = c.toNat := by omega
 rw [this]; simp
theorem canon : ∀ (n : Nat) (l : List UInt8), l.length = n + 1 → l.all digitB = true → (n = 0 ∨ l.getD 0 0 ≠ 48) → Lib.decDigits (decVal l) = l := by
 intro n
 induction n with
 | zero =>
  intro l hl ha _
  match l, hl with
  | [c], _ =>
   simp only [List.all_cons, List.all_nil, Bool.and_true] at ha
   have h2 : decVal [c] = c.toNat - 48 := by simp [decVal]
   have h3 := ofNat_digit ha
   simp [digitB] at ha
   rw [h2, dec_lt (by omega), h3]
 | succ n ih =>
  intro l hl ha hh
  have hne : l ≠ [] := fun e => by subst e; cases hl
  obtain ⟨c, hc⟩ : ∃ c, c = l.getLast hne := ⟨_, rfl⟩
  obtain ⟨i, hi⟩ : ∃ i, i = l.dropLast := ⟨_, rfl⟩
  have he : l = i ++ [c] := by rw [hi, hc, List.dropLast_concat_getLast]
  have hil : i.length = n + 1 := by rw [hi, List.length_dropLast, hl]; rfl
  subst he
  rw [List.all_append, Bool.and_eq_true] at ha
  have hg : (i ++ [c]).getD 0 0 = i.getD 0 0 := by
   match i, hil with
   | a :: r, _ => rfl
  have h48 : i.getD 0 0 ≠ 48 := by
   rw [← hg]
   exact hh.resolve_left (by omega)
  have h1 := ih i hil ha.1 (.inr h48)
  have hv : decVal i ≠ 0 := fun e => by
   rw [e, dec_lt (by decide)] at h1
   rw [← h1] at h48
   exact h48 rfl
  have h2 : decVal [c] = c.toNat - 48 := by simp [decVal]
  have h3 : digitB c = true := by simpa using ha.2
  have h4 := ofNat_digit h3
  simp [digitB] at h3
  have e10 : (10 : Nat) ^ [c].length = 10 := rfl
  rw [decVal_append, h2, e10, dec_ge (by omega), show (decVal i * 10 + (c.toNat - 48)) / 10 = decVal i by omega, show (decVal i * 10 + (c.toNat - 48)) % 10 = c.toNat - 48 by omega, h1, h4]
structure IsNat (t : ByteArray) : Prop where
 pos : 0 < t.size
 le : t.size ≤ 300
 digits : t.data.toList.all digitB = true
 can : decT (valS t) = t
theorem isN_ok {t : ByteArray} (h : isN t = true) : IsNat t := by
 unfold isN at h
 simp only [Bool.and_eq_true, Bool.or_eq_true, Bool.not_eq_true', decide_eq_true_eq, decide_eq_false_iff_not] at h
 obtain ⟨h1, h2, h3, h4⟩ := h
 have h0 : 0 < t.size := by
  rcases Nat.eq_zero_or_pos t.size with h | h
  ·exfalso
   apply h1
   apply ByteArray.ext
   rw [Lib.size_eq] at h
   have := List.eq_nil_of_length_eq_zero h
   simpa using this
  ·exact h
 refine ⟨h0, h2, h3, ?_⟩
 have hs := Lib.size_eq t
 have := canon (t.size - 1) t.data.toList (by omega) h3 (by
  rcases h4 with h4 | h4
  ·exact .inl (by omega)
  ·exact .inr h4)
 apply ByteArray.ext
 simp only [decT, valS, this]
/-- powers of ten that nobody is to reckon -/
def tp (k : Nat) : Nat := 10 ^ k
theorem tp_le {a b : Nat} (h : a ≤ b) : tp a ≤ tp b := Nat.pow_le_pow_right (by decide) h
theorem tp_add (a b : Nat) : tp (a + b) = tp a * tp b := Nat.pow_add 10 a b
theorem tp_mul {x y a b : Nat} (h : x < tp a) (k : y < tp b) : x * y < tp (a + b) := by rw [tp_add]; exact Nat.mul_lt_mul'' h k
theorem tp_sum {x y a b : Nat} (h : x < tp a) (k : y < tp a) (hb : b = a + 1) : x + y < tp b := by
 have : tp b = tp a * 10 := by rw [hb]; rfl
 omega
theorem IsNat.lt {t : ByteArray} (h : IsNat t) : valS t < tp 300 := by
 refine Nat.lt_of_lt_of_le (decVal_lt h.digits) (tp_le ?_)
 rw [← Lib.size_eq]; exact h.le
theorem dec_digits (n : Nat) : (Lib.decDigits n).all digitB = true := by
 induction n using Nat.strongRecOn with
 | _ n ih =>
  have one : ∀ m, m < 10 → digitB (UInt8.ofNat (48 + m)) = true := by
   intro m hm
   have : ∀ k : Fin 10, digitB (UInt8.ofNat (48 + k.val)) = true := by decide
   exact this ⟨m, hm⟩
  by_cases h : n < 10
  ·rw [dec_lt h]; simp only [List.all_cons, List.all_nil, Bool.and_true]; exact one n h
  ·rw [dec_ge (by omega), List.all_append, ih (n / 10) (by omega)]
   simp only [List.all_cons, List.all_nil, Bool.and_true, Bool.true_and]
   exact one _ (Nat.mod_lt _ (by decide))
theorem dec_head (n : Nat) : 10 ≤ n → (Lib.decDigits n).getD 0 0 ≠ 48 := by
 induction n using Nat.strongRecOn with
 | _ n ih =>
  intro h
  have one : ∀ m, m < 10 → 0 < m → UInt8.ofNat (48 + m) ≠ 48 := by
   intro m hm h0
   have : ∀ k : Fin 10, 0 < k.val → UInt8.ofNat (48 + k.val) ≠ 48 := by decide
   exact this ⟨m, hm⟩ h0
  rw [dec_ge h]
  have hp := dec_pos (n / 10)
  have hg : ∀ (i : List UInt8) (c : UInt8), 0 < i.length → (i ++ [c]).getD 0 0 = i.getD 0 0 := fun i c hi => by
   match i, hi with
   | a :: r, _ => rfl
  rw [hg _ _ hp]
  by_cases h2 : n / 10 < 10
  ·rw [dec_lt h2]
   exact one _ h2 (by omega)
  ·exact ih (n / 10) (by omega) (by omega)
theorem valS_decT (n : Nat) : valS (decT n) = n := by
 unfold valS
 rw [decT_list, decVal_dec]
theorem decT_inj {n m : Nat} (h : decT n = decT m) : n = m := by rw [← valS_decT n, h, valS_decT]
theorem isN_decT {n : Nat} (h : (Lib.decDigits n).length ≤ 300) : isN (decT n) = true := by
 have hp := dec_pos n
 have hs := decT_size n
 unfold isN headB
 rw [decT_list, dec_digits]
 have h1 : decide (decT n = ⟨#[]⟩) = false := decide_eq_false fun e => by
  have : (decT n).size = 0 := by rw [e]; rfl
  omega
 have h2 : decide ((decT n).size ≤ 300) = true := decide_eq_true (by omega)
 rw [h1, h2]
 by_cases h10 : n < 10
 ·have : (decT n).size = 1 := by rw [hs, dec_lt h10]; rfl
  simp [this]
 ·have := dec_head n (by omega)
  rw [decide_eq_false this]
  simp
theorem dec_tp {n k : Nat} (h : n < tp (k + 1)) : (Lib.decDigits n).length ≤ k + 1 := dec_le k n h
theorem limbs_k {n : Nat} (k : Nat) (h : n < tp (9 * k)) : (limbs n).length ≤ k := limbs_len_le (by rw [← pow_B9]; exact h)
theorem IsNat.limbs {t : ByteArray} (h : IsNat t) : (limbs (valS t)).length ≤ 34 := limbs_k 34 (Nat.lt_of_lt_of_le h.lt (tp_le (by decide)))
theorem isN_zero {t : ByteArray} (h : IsNat t) : t = ⟨#[48]⟩ ↔ valS t = 0 := by
 constructor
 ·rintro rfl; rfl
 ·intro e
  rw [← h.can, e]
  exact decT_0
end Nt
end Go.Proofs.YtdekcppfpgeneaaGreatDoor
set_option linter.unusedVariables false
set_option linter.unusedSimpArgs false
namespace Go.Proofs.YtdekcppfpgeneaaGreatDoor
open Go Go.RowKit
namespace Av
attribute [local irreducible] AW AOps AHOps
open Nt

/-! What the package offers. -/
abbrev tA (t : ByteArray) : AV := .d (.v (.string t))
def txtS (n : Nat) : ByteArray := if 300 < (Lib.decDigits n).length then ⟨#[]⟩ else decT n
def txtE (n : Nat) : Int := if 300 < (Lib.decDigits n).length then 2 else 0
theorem txt_eq (n : Nat) : txtR n = .tup [tA (txtS n), iA (txtE n)] := by
 unfold txtR txtS txtE
 split <;> rfl
theorem text_b {base : World} (hT : Tabs base) (n : Nat) (hn : (limbs n).length ≤ 900) : PureA Tryz.prog base 149 [.d (numP (limbs n))] (.tup [tA (txtS n), iA (txtE n)]) := by
 rw [← txt_eq]; exact text_a hT n hn
theorem txt_ok {n : Nat} (h : n < tp 300) : txtS n = decT n ∧ txtE n = 0 := by
 have := dec_tp h
 unfold txtS txtE
 rw [if_neg (by omega), if_neg (by omega)]
 exact ⟨rfl, rfl⟩
def okN (a b : ByteArray) : Bool := isN a && isN b
def binS (F : Nat → Nat → Nat) (a b : ByteArray) : ByteArray := if okN a b = true then txtS (F (valS a) (valS b)) else ⟨#[]⟩
def binE (F : Nat → Nat → Nat) (a b : ByteArray) : Int := if okN a b = true then txtE (F (valS a) (valS b)) else 1
theorem isN_size {t : ByteArray} (h : IsNat t) : t.size ≤ 1000000 := by have := h.le; omega
set_option maxRecDepth 100000 in
set_option maxHeartbeats 4000000 in
theorem apply_a {base : World} (hT : Tabs base) (g : FuncId) (F : Nat → Nat → Nat) (a b : ByteArray) (ha : a.size ≤ 9223372036854775807) (hb2 : b.size ≤ 9223372036854775807)
  (hg : isN a = true → isN b = true → PureA Tryz.prog base g [.d (numP (limbs (valS a))), .d (numP (limbs (valS b)))] (.d (numP (limbs (F (valS a) (valS b))))) ∧ (limbs (F (valS a) (valS b))).length ≤ 900) :
  PureA Tryz.prog base 125 [tA a, tA b, .fn (.func g) [] []] (.tup [tA (binS F a b), iA (binE F a b)]) := by
 refine pure_enter ttOk Tryz.call125 Tryz.func125 rfl fun H hB hb hF => ?_
 rw [Tryz.results125, Tryz.ntmps125]
 simp only [arr_list, List.length_cons, List.length_nil, List.replicate, List.cons_append, List.nil_append, Nat.reduceAdd, Nat.reduceSub]
 clear hF hb
 have ca := is_a (base := base) a ha
 have cb := is_a (base := base) b hb2
 repeat refine aw_seq ?_
 refine zr ttOk ?_
 repeat (refine aops_cons ?_; first | (apply aops_o; rfl; simp only [estep, avs, tts, seval] <;> exact rr) | (refine zg rfl ?_; first | refine grd_on ?_ | refine zo ?_))
 refine aops_nil ?_
 cases h1 : isN a with
 | false =>
  rw [h1] at ca
  repeat refine aw_seq ?_
  refine zr ttOk ?_
  repeat (refine aops_cons ?_; first | (apply aops_o; rfl; simp only [estep, avs, tts, seval] <;> exact rr) | (refine zg rfl ?_; first | refine grd_on ?_ | refine zo ?_))
  refine zP rfl (ca) ?_
  repeat (refine aops_cons ?_; first | (apply aops_o; rfl; simp only [estep, avs, tts, seval, Bool.not_true, Bool.not_false] <;> exact rr) | (refine zg rfl ?_; first | refine grd_on ?_ | refine zo ?_))
  refine aops_nil ?_
  repeat refine aw_seq ?_
  refine aw_cond rfl rfl (fun hb => ?_) fun hb => ?_
  ·repeat refine aw_seq ?_
   refine zr ttOk ?_
   repeat (refine aops_cons ?_; first | (apply aops_o; rfl; simp only [estep, avs, tts, seval] <;> exact rr) | (refine zg rfl ?_; first | refine grd_on ?_ | refine zo ?_))
   refine aops_nil ?_
   simp only [binS, binE, okN, h1, Bool.false_and]
   exact aw_ret ⟨_, (by simp only [aResult, aResL, aRes, avs, tts] <;> rfl), [], by simp, rfl⟩
  ·cases hb
 | true =>
  rw [h1] at ca
  cases h2 : isN b with
  | false =>
   rw [h2] at cb
   repeat refine aw_seq ?_
   refine zr ttOk ?_
   repeat (refine aops_cons ?_; first | (apply aops_o; rfl; simp only [estep, avs, tts, seval] <;> exact rr) | (refine zg rfl ?_; first | refine grd_on ?_ | refine zo ?_))
   refine zP rfl (ca) ?_
   repeat (refine aops_cons ?_; first | (apply aops_o; rfl; simp only [estep, avs, tts, seval, Bool.not_true, Bool.not_false] <;> exact rr) | (refine zg rfl ?_; first | refine grd_on ?_ | refine zo ?_))
   refine zP rfl (cb) ?_
   repeat (refine aops_cons ?_; first | (apply aops_o; rfl; simp only [estep, avs, tts, seval, Bool.not_true, Bool.not_false] <;> exact rr) | (refine zg rfl ?_; first | refine grd_on ?_ | refine zo ?_))
   refine aops_nil ?_
   repeat refine aw_seq ?_
   refine aw_cond rfl rfl (fun hb => ?_) fun hb => ?_
   ·repeat refine aw_seq ?_
    refine zr ttOk ?_
    repeat (refine aops_cons ?_; first | (apply aops_o; rfl; simp only [estep, avs, tts, seval] <;> exact rr) | (refine zg rfl ?_; first | refine grd_on ?_ | refine zo ?_))
    refine aops_nil ?_
    simp only [binS, binE, okN, h1, h2, Bool.true_and]
    exact aw_ret ⟨_, (by simp only [aResult, aResL, aRes, avs, tts] <;> rfl), [], by simp, rfl⟩
   ·cases hb
  | true =>
   rw [h2] at cb
   have n1 := isN_ok h1
   have n2 := isN_ok h2
   have p1 := parse_a (base := base) a n1.digits (isN_size n1)
   have p2 := parse_a (base := base) b n2.digits (isN_size n2)
   obtain ⟨hg1, hg2⟩ := hg h1 h2
   have ct := text_b hT _ hg2
   repeat refine aw_seq ?_
   refine zr ttOk ?_
   repeat (refine aops_cons ?_; first | (apply aops_o; rfl; simp only [estep, avs, tts, seval] <;> exact rr) | (refine zg rfl ?_; first | refine grd_on ?_ | refine zo ?_))
   refine zP rfl (ca) ?_
   repeat (refine aops_cons ?_; first | (apply aops_o; rfl; simp only [estep, avs, tts, seval, Bool.not_true, Bool.not_false] <;> exact rr) | (refine zg rfl ?_; first | refine grd_on ?_ | refine zo ?_))
   refine zP rfl (cb) ?_
   repeat (refine aops_cons ?_; first | (apply aops_o; rfl; simp only [estep, avs, tts, seval, Bool.not_true, Bool.not_false] <;> exact rr) | (refine zg rfl ?_; first | refine grd_on ?_ | refine zo ?_))
   refine aops_nil ?_
   repeat refine aw_seq ?_
   refine aw_cond rfl rfl (fun hb => ?_) fun hb => ?_
   ·cases hb
   refine aw_skip ?_
   repeat refine aw_seq ?_
   refine zr ttOk ?_
   repeat (refine aops_cons ?_; first | (apply aops_o; rfl; simp only [estep, avs, tts, seval] <;> exact rr) | (refine zg rfl ?_; first | refine grd_on ?_ | refine zo ?_))
   refine zP rfl (p1) ?_
   repeat (refine aops_cons ?_; first | (apply aops_o; rfl; simp only [estep, avs, tts, seval] <;> exact rr) | (refine zg rfl ?_; first | refine grd_on ?_ | refine zo ?_))
   refine zP rfl (p2) ?_
   repeat (refine aops_cons ?_; first | (apply aops_o; rfl; simp only [estep, avs, tts, seval] <;> exact rr) | (refine zg rfl ?_; first | refine grd_on ?_ | refine zo ?_))
   refine zP rfl (hg1) ?_
   repeat (refine aops_cons ?_; first | (apply aops_o; rfl; simp only [estep, avs, tts, seval] <;> exact rr) | (refine zg rfl ?_; first | refine grd_on ?_ | refine zo ?_))
   refine zP rfl (ct) ?_
   repeat (refine aops_cons ?_; first | (apply aops_o; rfl; simp only [estep, avs, tts, seval] <;> exact rr) | (refine zg rfl ?_; first | refine grd_on ?_ | refine zo ?_))
   refine aops_nil ?_
   simp only [binS, binE, okN, h1, h2, Bool.true_and, if_true]
   exact aw_ret ⟨_, (by simp only [aResult, aResL, aRes, avs, tts] <;> rfl), [], by simp, rfl⟩
/-! div, for numbers of few limbs -/
theorem div_ok (base : World) : DivA base (tp 8000) := fun a b ha hb h0 => div_a base a b h0 (Nat.le_trans (limbs_k 889 (Nat.lt_of_lt_of_le ha (tp_le (by decide)))) (by decide)) (Nat.le_trans (limbs_k 889 (Nat.lt_of_lt_of_le hb (tp_le (by decide)))) (by decide))
section
variable {base : World} (hT : Tabs base) (a b : ByteArray) (ha : a.size ≤ 9223372036854775807) (hb2 : b.size ≤ 9223372036854775807)
include hT ha hb2
set_option maxRecDepth 100000 in
theorem nadd_a : PureA Tryz.prog base 112 [tA a, tA b] (.tup [tA (binS (· + ·) a b), iA (binE (· + ·) a b)]) := by
 have cc := apply_a hT 142 (· + ·) a b ha hb2 fun h1 h2 => by
  have n1 := isN_ok h1
  have n2 := isN_ok h2
  have := add_a base (limbs (valS a)) (limbs (valS b)) (limbs_ok _) (limbs_ok _) (by have := n1.limbs; omega) (by have := n2.limbs; omega)
  rw [limbs_val, limbs_val] at this
  exact ⟨this, Nat.le_trans (limbs_k 34 (Nat.lt_of_lt_of_le (tp_sum n1.lt n2.lt rfl) (tp_le (by decide)))) (by decide)⟩
 refine pure_enter ttOk Tryz.call112 Tryz.func112 rfl fun H hB hb hF => ?_
 rw [Tryz.results112, Tryz.ntmps112]
 simp only [arr_list, List.length_cons, List.length_nil, List.replicate, List.cons_append, List.nil_append, Nat.reduceAdd, Nat.reduceSub]
 repeat refine aw_seq ?_
 refine zr ttOk ?_
 repeat (refine aops_cons ?_; first | (apply aops_o; rfl; simp only [estep, avs, tts, seval] <;> exact rr) | (refine zg rfl ?_; first | refine grd_on ?_ | refine zo ?_))
 refine aops_nil ?_
 repeat refine aw_seq ?_
 refine zr ttOk ?_
 repeat (refine aops_cons ?_; first | (apply aops_o; rfl; simp only [estep, avs, tts, seval] <;> exact rr) | (refine zg rfl ?_; first | refine grd_on ?_ | refine zo ?_))
 refine zP rfl (cc) ?_
 repeat (refine aops_cons ?_; first | (apply aops_o; rfl; simp only [estep, avs, tts, seval] <;> exact rr) | (refine zg rfl ?_; first | refine grd_on ?_ | refine zo ?_))
 refine aops_nil ?_
 exact aw_ret ⟨_, (by simp only [aResult, aResL, aRes, avs, tts] <;> rfl), [], by simp, rfl⟩
set_option maxRecDepth 100000 in
theorem nmul_a : PureA Tryz.prog base 141 [tA a, tA b] (.tup [tA (binS (· * ·) a b), iA (binE (· * ·) a b)]) := by
 have cc := apply_a hT 178 (· * ·) a b ha hb2 fun h1 h2 => by
  have n1 := isN_ok h1
  have n2 := isN_ok h2
  have := mul_a base (limbs (valS a)) (limbs (valS b)) (limbs_ok _) (limbs_ok _) (by have := n1.limbs; omega) (by have := n2.limbs; omega)
  rw [limbs_val, limbs_val] at this
  exact ⟨this, Nat.le_trans (limbs_k 67 (Nat.lt_of_lt_of_le (tp_mul n1.lt n2.lt) (tp_le (by decide)))) (by decide)⟩
 refine pure_enter ttOk Tryz.call141 Tryz.func141 rfl fun H hB hb hF => ?_
 rw [Tryz.results141, Tryz.ntmps141]
 simp only [arr_list, List.length_cons, List.length_nil, List.replicate, List.cons_append, List.nil_append, Nat.reduceAdd, Nat.reduceSub]
 repeat refine aw_seq ?_
 refine zr ttOk ?_
 repeat (refine aops_cons ?_; first | (apply aops_o; rfl; simp only [estep, avs, tts, seval] <;> exact rr) | (refine zg rfl ?_; first | refine grd_on ?_ | refine zo ?_))
 refine aops_nil ?_
 repeat refine aw_seq ?_
 refine zr ttOk ?_
 repeat (refine aops_cons ?_; first | (apply aops_o; rfl; simp only [estep, avs, tts, seval] <;> exact rr) | (refine zg rfl ?_; first | refine grd_on ?_ | refine zo ?_))
 refine zP rfl (cc) ?_
 repeat (refine aops_cons ?_; first | (apply aops_o; rfl; simp only [estep, avs, tts, seval] <;> exact rr) | (refine zg rfl ?_; first | refine grd_on ?_ | refine zo ?_))
 refine aops_nil ?_
 exact aw_ret ⟨_, (by simp only [aResult, aResL, aRes, avs, tts] <;> rfl), [], by simp, rfl⟩
set_option maxRecDepth 100000 in
theorem ngcd_a : PureA Tryz.prog base 98 [tA a, tA b] (.tup [tA (binS Nat.gcd a b), iA (binE Nat.gcd a b)]) := by
 have cc := apply_a hT 126 Nat.gcd a b ha hb2 fun h1 h2 => by
  have n1 := isN_ok h1
  have n2 := isN_ok h2
  have l1 : valS a < tp 8000 := Nat.lt_of_lt_of_le n1.lt (tp_le (by decide))
  have l2 : valS b < tp 8000 := Nat.lt_of_lt_of_le n2.lt (tp_le (by decide))
  refine ⟨gcd_a base (div_ok base) _ _ l1 l2, ?_⟩
  rcases Nat.eq_zero_or_pos (valS a) with h | h
  ·rw [h, Nat.gcd_zero_left]; have := n2.limbs; omega
  ·have := limbs_mono (Nat.gcd_le_left (valS b) h)
   have := n1.limbs
   omega
 refine pure_enter ttOk Tryz.call98 Tryz.func98 rfl fun H hB hb hF => ?_
 rw [Tryz.results98, Tryz.ntmps98]
 simp only [arr_list, List.length_cons, List.length_nil, List.replicate, List.cons_append, List.nil_append, Nat.reduceAdd, Nat.reduceSub]
 repeat refine aw_seq ?_
 refine zr ttOk ?_
 repeat (refine aops_cons ?_; first | (apply aops_o; rfl; simp only [estep, avs, tts, seval] <;> exact rr) | (refine zg rfl ?_; first | refine grd_on ?_ | refine zo ?_))
 refine aops_nil ?_
 repeat refine aw_seq ?_
 refine zr ttOk ?_
 repeat (refine aops_cons ?_; first | (apply aops_o; rfl; simp only [estep, avs, tts, seval] <;> exact rr) | (refine zg rfl ?_; first | refine grd_on ?_ | refine zo ?_))
 refine zP rfl (cc) ?_
 repeat (refine aops_cons ?_; first | (apply aops_o; rfl; simp only [estep, avs, tts, seval] <;> exact rr) | (refine zg rfl ?_; first | refine grd_on ?_ | refine zo ?_))
 refine aops_nil ?_
 exact aw_ret ⟨_, (by simp only [aResult, aResL, aRes, avs, tts] <;> rfl), [], by simp, rfl⟩
end
end Av
end Go.Proofs.YtdekcppfpgeneaaGreatDoor
set_option linter.unusedVariables false
set_option linter.unusedSimpArgs false
namespace Go.Proofs.YtdekcppfpgeneaaGreatDoor
open Go Go.RowKit
namespace Av
attribute [local irreducible] AW AOps AHOps
open Nt

/-! Compare, Sub, Div. -/
def divQ (a b : ByteArray) : ByteArray := if okN a b = true then (if valS b = 0 then ⟨#[]⟩ else decT (valS a / valS b)) else ⟨#[]⟩
def divR (a b : ByteArray) : ByteArray := if okN a b = true then (if valS b = 0 then ⟨#[]⟩ else decT (valS a % valS b)) else ⟨#[]⟩
def divE (a b : ByteArray) : Int := if okN a b = true then (if valS b = 0 then 15 else 0) else 1
section
variable {base : World} (hT : Tabs base) (a b : ByteArray) (ha : a.size ≤ 9223372036854775807) (hb2 : b.size ≤ 9223372036854775807)
include hT ha hb2
set_option maxRecDepth 100000 in
set_option maxHeartbeats 4000000 in
theorem ndiv_a : PureA Tryz.prog base 117 [tA a, tA b] (.tup [tA (divQ a b), tA (divR a b), iA (divE a b)]) := by
 refine pure_enter ttOk Tryz.call117 Tryz.func117 rfl fun H hB hb hF => ?_
 rw [Tryz.results117, Tryz.ntmps117]
 simp only [arr_list, List.length_cons, List.length_nil, List.replicate, List.cons_append, List.nil_append, Nat.reduceAdd, Nat.reduceSub]
 clear hF hb
 have ca := is_a (base := base) a ha
 have cb := is_a (base := base) b hb2
 repeat refine aw_seq ?_
 refine zr ttOk ?_
 repeat (refine aops_cons ?_; first | (apply aops_o; rfl; simp only [estep, avs, tts, seval] <;> exact rr) | (refine zg rfl ?_; first | refine grd_on ?_ | refine zo ?_))
 refine aops_nil ?_
 cases h1 : isN a with
 | false =>
  rw [h1] at ca
  repeat refine aw_seq ?_
  refine zr ttOk ?_
  repeat (refine aops_cons ?_; first | (apply aops_o; rfl; simp only [estep, avs, tts, seval] <;> exact rr) | (refine zg rfl ?_; first | refine grd_on ?_ | refine zo ?_))
  refine zP rfl (ca) ?_
  repeat (refine aops_cons ?_; first | (apply aops_o; rfl; simp only [estep, avs, tts, seval, Bool.not_true, Bool.not_false] <;> exact rr) | (refine zg rfl ?_; first | refine grd_on ?_ | refine zo ?_))
  refine aops_nil ?_
  repeat refine aw_seq ?_
  refine aw_cond rfl rfl (fun hb => ?_) fun hb => ?_
  ·repeat refine aw_seq ?_
   refine zr ttOk ?_
   repeat (refine aops_cons ?_; first | (apply aops_o; rfl; simp only [estep, avs, tts, seval] <;> exact rr) | (refine zg rfl ?_; first | refine grd_on ?_ | refine zo ?_))
   refine aops_nil ?_
   simp only [divQ, divR, divE, okN, h1, Bool.false_and]
   exact aw_ret ⟨_, (by simp only [aResult, aResL, aRes, avs, tts] <;> rfl), [], by simp, rfl⟩
  ·cases hb
 | true =>
  rw [h1] at ca
  cases h2 : isN b with
  | false =>
   rw [h2] at cb
   repeat refine aw_seq ?_
   refine zr ttOk ?_
   repeat (refine aops_cons ?_; first | (apply aops_o; rfl; simp only [estep, avs, tts, seval] <;> exact rr) | (refine zg rfl ?_; first | refine grd_on ?_ | refine zo ?_))
   refine zP rfl (ca) ?_
   repeat (refine aops_cons ?_; first | (apply aops_o; rfl; simp only [estep, avs, tts, seval, Bool.not_true, Bool.not_false] <;> exact rr) | (refine zg rfl ?_; first | refine grd_on ?_ | refine zo ?_))
   refine zP rfl (cb) ?_
   repeat (refine aops_cons ?_; first | (apply aops_o; rfl; simp only [estep, avs, tts, seval, Bool.not_true, Bool.not_false] <;> exact rr) | (refine zg rfl ?_; first | refine grd_on ?_ | refine zo ?_))
   refine aops_nil ?_
   repeat refine aw_seq ?_
   refine aw_cond rfl rfl (fun hb => ?_) fun hb => ?_
   ·repeat refine aw_seq ?_
    refine zr ttOk ?_
    repeat (refine aops_cons ?_; first | (apply aops_o; rfl; simp only [estep, avs, tts, seval] <;> exact rr) | (refine zg rfl ?_; first | refine grd_on ?_ | refine zo ?_))
    refine aops_nil ?_
    simp only [divQ, divR, divE, okN, h1, h2, Bool.true_and]
    exact aw_ret ⟨_, (by simp only [aResult, aResL, aRes, avs, tts] <;> rfl), [], by simp, rfl⟩
   ·cases hb
  | true =>
   rw [h2] at cb
   have n1 := isN_ok h1
   have n2 := isN_ok h2
   have p1 := parse_a (base := base) a n1.digits (isN_size n1)
   have p2 := parse_a (base := base) b n2.digits (isN_size n2)
   repeat refine aw_seq ?_
   refine zr ttOk ?_
   repeat (refine aops_cons ?_; first | (apply aops_o; rfl; simp only [estep, avs, tts, seval] <;> exact rr) | (refine zg rfl ?_; first | refine grd_on ?_ | refine zo ?_))
   refine zP rfl (ca) ?_
   repeat (refine aops_cons ?_; first | (apply aops_o; rfl; simp only [estep, avs, tts, seval, Bool.not_true, Bool.not_false] <;> exact rr) | (refine zg rfl ?_; first | refine grd_on ?_ | refine zo ?_))
   refine zP rfl (cb) ?_
   repeat (refine aops_cons ?_; first | (apply aops_o; rfl; simp only [estep, avs, tts, seval, Bool.not_true, Bool.not_false] <;> exact rr) | (refine zg rfl ?_; first | refine grd_on ?_ | refine zo ?_))
   refine aops_nil ?_
   repeat refine aw_seq ?_
   refine aw_cond rfl rfl (fun hb => ?_) fun hb => ?_
   ·cases hb
   refine aw_skip ?_
   by_cases h0 : valS b = 0
   ·have e0 : decide (b = ⟨#[48]⟩) = true := decide_eq_true ((isN_zero n2).2 h0)
    repeat refine aw_seq ?_
    refine zr ttOk ?_
    repeat (refine aops_cons ?_; first | (apply aops_o; rfl; simp only [estep, avs, tts, seval, e0] <;> exact rr) | (refine zg rfl ?_; first | refine grd_on ?_ | refine zo ?_))
    refine aops_nil ?_
    repeat refine aw_seq ?_
    refine aw_cond rfl rfl (fun hb => ?_) fun hb => ?_
    ·repeat refine aw_seq ?_
     refine zr ttOk ?_
     repeat (refine aops_cons ?_; first | (apply aops_o; rfl; simp only [estep, avs, tts, seval] <;> exact rr) | (refine zg rfl ?_; first | refine grd_on ?_ | refine zo ?_))
     refine aops_nil ?_
     simp only [divQ, divR, divE, okN, h1, h2, Bool.true_and, if_true, if_pos h0]
     exact aw_ret ⟨_, (by simp only [aResult, aResL, aRes, avs, tts] <;> rfl), [], by simp, rfl⟩
    ·cases hb
   ·have e0 : decide (b = ⟨#[48]⟩) = false := decide_eq_false fun e => h0 ((isN_zero n2).1 e)
    have cd := div_a base (valS a) (valS b) (by omega) (by have := n1.limbs; omega) (by have := n2.limbs; omega)
    have l1 : valS a / valS b < tp 300 := Nat.lt_of_le_of_lt (Nat.div_le_self _ _) n1.lt
    have l2 : valS a % valS b < tp 300 := Nat.lt_of_le_of_lt (Nat.mod_le _ _) n1.lt
    have t1 := text_b hT (valS a / valS b) (Nat.le_trans (limbs_k 34 (Nat.lt_of_lt_of_le l1 (tp_le (by decide)))) (by decide))
    have t2 := text_b hT (valS a % valS b) (Nat.le_trans (limbs_k 34 (Nat.lt_of_lt_of_le l2 (tp_le (by decide)))) (by decide))
    rw [(txt_ok l1).1, (txt_ok l1).2] at t1
    rw [(txt_ok l2).1, (txt_ok l2).2] at t2
    repeat refine aw_seq ?_
    refine zr ttOk ?_
    repeat (refine aops_cons ?_; first | (apply aops_o; rfl; simp only [estep, avs, tts, seval, e0] <;> exact rr) | (refine zg rfl ?_; first | refine grd_on ?_ | refine zo ?_))
    refine aops_nil ?_
    repeat refine aw_seq ?_
    refine aw_cond rfl rfl (fun hb => ?_) fun hb => ?_
    ·cases hb
    refine aw_skip ?_
    repeat refine aw_seq ?_
    refine zr ttOk ?_
    repeat (refine aops_cons ?_; first | (apply aops_o; rfl; simp only [estep, avs, tts, seval] <;> exact rr) | (refine zg rfl ?_; first | refine grd_on ?_ | refine zo ?_))
    refine zP rfl (p1) ?_
    repeat (refine aops_cons ?_; first | (apply aops_o; rfl; simp only [estep, avs, tts, seval] <;> exact rr) | (refine zg rfl ?_; first | refine grd_on ?_ | refine zo ?_))
    refine zP rfl (p2) ?_
    repeat (refine aops_cons ?_; first | (apply aops_o; rfl; simp only [estep, avs, tts, seval] <;> exact rr) | (refine zg rfl ?_; first | refine grd_on ?_ | refine zo ?_))
    refine zP rfl (cd) ?_
    repeat (refine aops_cons ?_; first | (apply aops_o; rfl; simp only [estep, avs, tts, seval] <;> exact rr) | (refine zg rfl ?_; first | refine grd_on ?_ | refine zo ?_))
    refine aops_nil ?_
    repeat refine aw_seq ?_
    refine zr ttOk ?_
    repeat (refine aops_cons ?_; first | (apply aops_o; rfl; simp only [estep, avs, tts, seval] <;> exact rr) | (refine zg rfl ?_; first | refine grd_on ?_ | refine zo ?_))
    refine zP rfl (t1) ?_
    repeat (refine aops_cons ?_; first | (apply aops_o; rfl; simp only [estep, avs, tts, seval] <;> exact rr) | (refine zg rfl ?_; first | refine grd_on ?_ | refine zo ?_))
    refine aops_nil ?_
    repeat refine aw_seq ?_
    refine zr ttOk ?_
    repeat (refine aops_cons ?_; first | (apply aops_o; rfl; simp only [estep, avs, tts, seval] <;> exact rr) | (refine zg rfl ?_; first | refine grd_on ?_ | refine zo ?_))
    refine zP rfl (t2) ?_
    repeat (refine aops_cons ?_; first | (apply aops_o; rfl; simp only [estep, avs, tts, seval] <;> exact rr) | (refine zg rfl ?_; first | refine grd_on ?_ | refine zo ?_))
    refine aops_nil ?_
    repeat refine aw_seq ?_
    refine zr ttOk ?_
    repeat (refine aops_cons ?_; first | (apply aops_o; rfl; simp only [estep, avs, tts, seval] <;> exact rr) | (refine zg rfl ?_; first | refine grd_on ?_ | refine zo ?_))
    refine aops_nil ?_
    simp only [divQ, divR, divE, okN, h1, h2, Bool.true_and, if_true, if_neg h0]
    exact aw_ret ⟨_, (by simp only [aResult, aResL, aRes, avs, tts] <;> rfl), [], by simp, rfl⟩
end
end Av
end Go.Proofs.YtdekcppfpgeneaaGreatDoor
set_option linter.unusedVariables false
set_option linter.unusedSimpArgs false
namespace Go.Proofs.YtdekcppfpgeneaaGreatDoor
open Go Go.RowKit
namespace Av
attribute [local irreducible] AW AOps AHOps
open Nt

/-! Rational numbers: Valid and lowest. -/
structure Rt where
 neg : Bool
 num : ByteArray
 den : ByteArray
def ratA (r : Rt) : AV := .agg [.d (.v (.bool r.neg)), tA r.num, tA r.den]
def one1 : ByteArray := ⟨#[49]⟩
def validR (r : Rt) : Bool := if okN r.num r.den = true then (if valS r.den = 0 then false else if valS r.num = 0 then !r.neg && decide (r.den = one1) else decide (Nat.gcd (valS r.num) (valS r.den) = 1)) else false
def nilR : Rt := ⟨false, ⟨#[]⟩, ⟨#[]⟩⟩
def lowR (neg : Bool) (n d : Nat) : Rt := ⟨neg && decide (n ≠ 0), decT (n / Nat.gcd n d), decT (d / Nat.gcd n d)⟩
theorem decT_is {n : Nat} (h : n < tp 300) : isN (decT n) = true := isN_decT (dec_tp h)
theorem decT_sz {n : Nat} (h : n < tp 300) : (decT n).size ≤ 9223372036854775807 := by
 have := dec_tp h
 rw [decT_size]
 omega
theorem bin_ok {F : Nat → Nat → Nat} {n d : Nat} (hn : n < tp 300) (hd : d < tp 300) (hF : F n d < tp 300) : binS F (decT n) (decT d) = decT (F n d) ∧ binE F (decT n) (decT d) = 0 := by
 have h1 := txt_ok hF
 unfold binS binE okN
 rw [decT_is hn, decT_is hd, valS_decT, valS_decT]
 exact h1
theorem div_okR {n d : Nat} (hn : n < tp 300) (hd : d < tp 300) (h0 : d ≠ 0) : divQ (decT n) (decT d) = decT (n / d) ∧ divR (decT n) (decT d) = decT (n % d) ∧ divE (decT n) (decT d) = 0 := by
 unfold divQ divR divE okN
 rw [decT_is hn, decT_is hd, valS_decT, valS_decT]
 simp [h0]
section
variable {base : World} (hT : Tabs base)
include hT
theorem gcd_ok {n d : Nat} (hn : n < tp 300) (hd : d < tp 300) (h0 : 0 < d) : PureA Tryz.prog base 98 [tA (decT n), tA (decT d)] (.tup [tA (decT (Nat.gcd n d)), iA 0]) := by
 have := ngcd_a hT (decT n) (decT d) (decT_sz hn) (decT_sz hd)
 have hb := bin_ok (F := Nat.gcd) hn hd (Nat.lt_of_le_of_lt (Nat.gcd_le_right n h0) hd)
 rw [hb.1, hb.2] at this
 exact this
theorem divs_ok {n d : Nat} (hn : n < tp 300) (hd : d < tp 300) (h0 : d ≠ 0) : PureA Tryz.prog base 117 [tA (decT n), tA (decT d)] (.tup [tA (decT (n / d)), tA (decT (n % d)), iA 0]) := by
 have := ndiv_a hT (decT n) (decT d) (decT_sz hn) (decT_sz hd)
 have hb := div_okR hn hd h0
 rw [hb.1, hb.2.1, hb.2.2] at this
 exact this
omit hT in
theorem decT_zero (n : Nat) : decide (decT n = ⟨#[48]⟩) = decide (n = 0) := by
 refine decide_eq_decide.2 ⟨fun h => ?_, fun h => by rw [h]; exact decT_0⟩
 exact decT_inj (h.trans decT_0.symm)
set_option maxRecDepth 100000 in
set_option maxHeartbeats 4000000 in
theorem lowest_a (neg : Bool) {n d : Nat} (hn : n < tp 300) (hd : d < tp 300) (h0 : 0 < d) : PureA Tryz.prog base 89 [.d (.v (.bool neg)), tA (decT n), tA (decT d)] (.tup [ratA (lowR neg n d), iA 0]) := by
 have cg := gcd_ok hT hn hd h0
 obtain ⟨g, hg⟩ : ∃ g, g = Nat.gcd n d := ⟨_, rfl⟩
 have hgd : g ≤ d := hg ▸ Nat.gcd_le_right n h0
 have hg0 : g ≠ 0 := by have := Nat.gcd_pos_of_pos_right n h0; omega
 have hgl : g < tp 300 := Nat.lt_of_le_of_lt hgd hd
 have c1 := divs_ok hT hn hgl hg0
 have c2 := divs_ok hT hd hgl hg0
 have hz : decide (decT (n / g) = ⟨#[48]⟩) = decide (n = 0) := by
  rw [decT_zero]
  refine decide_eq_decide.2 ⟨fun h => ?_, fun h => by rw [h]; exact Nat.zero_div _⟩
  have hdv : g ∣ n := hg ▸ Nat.gcd_dvd_left n d
  have := Nat.div_mul_cancel hdv
  rw [h, Nat.zero_mul] at this
  exact this.symm
 unfold lowR
 rw [← hg]
 rw [← hg] at cg
 simp only [iA] at cg c1 c2
 refine pure_enter ttOk Tryz.call89 Tryz.func89 rfl fun H hB hb hF => ?_
 rw [Tryz.results89, Tryz.ntmps89]
 simp only [arr_list, List.length_cons, List.length_nil, List.replicate, List.cons_append, List.nil_append, Nat.reduceAdd, Nat.reduceSub]
 clear hF hb
 repeat refine aw_seq ?_
 refine zr ttOk ?_
 repeat (refine aops_cons ?_; first | (apply aops_o; rfl; simp only [estep, avs, tts, seval] <;> exact rr) | (refine zg rfl ?_; first | refine grd_on ?_ | refine zo ?_))
 refine aops_nil ?_
 repeat refine aw_seq ?_
 refine zr ttOk ?_
 repeat (refine aops_cons ?_; first | (apply aops_o; rfl; simp only [estep, avs, tts, seval] <;> exact rr) | (refine zg rfl ?_; first | refine grd_on ?_ | refine zo ?_))
 refine zP rfl (cg) ?_
 repeat (refine aops_cons ?_; first | (apply aops_o; rfl; simp only [estep, avs, tts, seval] <;> exact rr) | (refine zg rfl ?_; first | refine grd_on ?_ | refine zo ?_))
 refine aops_nil ?_
 repeat refine aw_seq ?_
 refine zr ttOk ?_
 repeat (refine aops_cons ?_; first | (apply aops_o; rfl; simp only [estep, avs, tts, seval] <;> exact rr) | (refine zg rfl ?_; first | refine grd_on ?_ | refine zo ?_))
 refine aops_nil ?_
 repeat refine aw_seq ?_
 refine aw_cond rfl rfl (fun hb => ?_) fun hb => ?_
 ·cases hb
 refine aw_skip ?_
 repeat refine aw_seq ?_
 refine zr ttOk ?_
 repeat (refine aops_cons ?_; first | (apply aops_o; rfl; simp only [estep, avs, tts, seval] <;> exact rr) | (refine zg rfl ?_; first | refine grd_on ?_ | refine zo ?_))
 refine aops_nil ?_
 repeat refine aw_seq ?_
 refine zr ttOk ?_
 repeat (refine aops_cons ?_; first | (apply aops_o; rfl; simp only [estep, avs, tts, seval] <;> exact rr) | (refine zg rfl ?_; first | refine grd_on ?_ | refine zo ?_))
 refine zP rfl (c1) ?_
 repeat (refine aops_cons ?_; first | (apply aops_o; rfl; simp only [estep, avs, tts, seval, splice] <;> exact rr) | (refine zg rfl ?_; first | refine grd_on ?_ | refine zo ?_))
 refine aops_nil ?_
 repeat refine aw_seq ?_
 refine zr ttOk ?_
 repeat (refine aops_cons ?_; first | (apply aops_o; rfl; simp only [estep, avs, tts, seval] <;> exact rr) | (refine zg rfl ?_; first | refine grd_on ?_ | refine zo ?_))
 refine aops_nil ?_
 repeat refine aw_seq ?_
 refine aw_cond rfl rfl (fun hb => ?_) fun hb => ?_
 ·cases hb
 refine aw_skip ?_
 repeat refine aw_seq ?_
 refine zr ttOk ?_
 repeat (refine aops_cons ?_; first | (apply aops_o; rfl; simp only [estep, avs, tts, seval] <;> exact rr) | (refine zg rfl ?_; first | refine grd_on ?_ | refine zo ?_))
 refine zP rfl (c2) ?_
 repeat (refine aops_cons ?_; first | (apply aops_o; rfl; simp only [estep, avs, tts, seval, splice] <;> exact rr) | (refine zg rfl ?_; first | refine grd_on ?_ | refine zo ?_))
 refine aops_nil ?_
 repeat refine aw_seq ?_
 refine zr ttOk ?_
 repeat (refine aops_cons ?_; first | (apply aops_o; rfl; simp only [estep, avs, tts, seval] <;> exact rr) | (refine zg rfl ?_; first | refine grd_on ?_ | refine zo ?_))
 refine aops_nil ?_
 repeat refine aw_seq ?_
 refine aw_cond rfl rfl (fun hb => ?_) fun hb => ?_
 ·cases hb
 refine aw_skip ?_
 cases neg with
 | true =>
  repeat refine aw_seq ?_
  refine zr ttOk ?_
  repeat (refine aops_cons ?_; first | (apply aops_o; rfl; simp only [estep, avs, tts, seval, hz, splice] <;> exact rr) | (refine zg rfl ?_; first | refine grd_on ?_ | refine zo ?_))
  refine aops_nil ?_
  repeat refine aw_seq ?_
  refine zr ttOk ?_
  repeat (refine aops_cons ?_; first | (apply aops_o; rfl; simp only [estep, avs, tts, seval, splice] <;> exact rr) | (refine zg rfl ?_; first | refine grd_on ?_ | refine zo ?_))
  refine aops_nil ?_
  refine aw_ret ⟨_, (by simp only [aResult, aResL, aRes, avs, tts] <;> rfl), _, rfl, ?_⟩
  simp [sealA, ratA]
  rfl
 | false =>
  repeat refine aw_seq ?_
  refine zr ttOk ?_
  repeat (refine aops_cons ?_; first | (apply aops_o; rfl; simp only [estep, avs, tts, seval, splice] <;> exact rr) | (refine zg rfl ?_; first | refine grd_on ?_ | refine zo ?_))
  refine aops_nil ?_
  repeat refine aw_seq ?_
  refine zr ttOk ?_
  repeat (refine aops_cons ?_; first | (apply aops_o; rfl; simp only [estep, avs, tts, seval, splice] <;> exact rr) | (refine zg rfl ?_; first | refine grd_on ?_ | refine zo ?_))
  refine aops_nil ?_
  refine aw_ret ⟨_, (by simp only [aResult, aResL, aRes, avs, tts] <;> rfl), _, rfl, ?_⟩
  simp [sealA, ratA]
  rfl
set_option maxRecDepth 100000 in
set_option maxHeartbeats 4000000 in
theorem valid_a (r : Rt) (h1 : r.num.size ≤ 9223372036854775807) (h2 : r.den.size ≤ 9223372036854775807) : PureA Tryz.prog base 69 [ratA r] (.d (.v (.bool (validR r)))) := by
 obtain ⟨neg, num, den⟩ := r
 simp only at h1 h2
 have c1 := is_a (base := base) num h1
 have c2 := is_a (base := base) den h2
 have c3 := ngcd_a hT num den h1 h2
 unfold validR ratA
 simp only
 refine pure_enter ttOk Tryz.call69 Tryz.func69 rfl fun H hB hb hF => ?_
 rw [Tryz.results69, Tryz.ntmps69]
 simp only [arr_list, List.length_cons, List.length_nil, List.replicate, List.cons_append, List.nil_append, Nat.reduceAdd, Nat.reduceSub]
 clear hF hb
 repeat refine aw_seq ?_
 refine zr ttOk ?_
 repeat (refine aops_cons ?_; first | (apply aops_o; rfl; simp only [estep, avs, tts, seval] <;> exact rr) | (refine zg rfl ?_; first | refine grd_on ?_ | refine zo ?_))
 refine aops_nil ?_
 cases e1 : isN num with
 | false =>
  rw [e1] at c1
  repeat refine aw_seq ?_
  refine zr ttOk ?_
  repeat (refine aops_cons ?_; first | (apply aops_o; rfl; simp only [estep, avs, tts, seval] <;> exact rr) | (refine zg rfl ?_; first | refine grd_on ?_ | refine zo ?_))
  refine zP rfl (c1) ?_
  repeat (refine aops_cons ?_; first | (apply aops_o; rfl; simp only [estep, avs, tts, seval, Bool.not_true, Bool.not_false] <;> exact rr) | (refine zg rfl ?_; first | refine grd_on ?_ | refine zo ?_))
  refine aops_nil ?_
  repeat refine aw_seq ?_
  refine aw_cond rfl rfl (fun hb => ?_) fun hb => ?_
  ·repeat refine aw_seq ?_
   refine zr ttOk ?_
   repeat (refine aops_cons ?_; first | (apply aops_o; rfl; simp only [estep, avs, tts, seval] <;> exact rr) | (refine zg rfl ?_; first | refine grd_on ?_ | refine zo ?_))
   refine aops_nil ?_
   simp only [okN, e1, Bool.false_and]
   exact aw_ret ⟨_, rfl, _, rfl, rfl⟩
  ·cases hb
 | true =>
  rw [e1] at c1
  have n1 := isN_ok e1
  cases e2 : isN den with
  | false =>
   rw [e2] at c2
   repeat refine aw_seq ?_
   refine zr ttOk ?_
   repeat (refine aops_cons ?_; first | (apply aops_o; rfl; simp only [estep, avs, tts, seval] <;> exact rr) | (refine zg rfl ?_; first | refine grd_on ?_ | refine zo ?_))
   refine zP rfl (c1) ?_
   repeat (refine aops_cons ?_; first | (apply aops_o; rfl; simp only [estep, avs, tts, seval, Bool.not_true, Bool.not_false] <;> exact rr) | (refine zg rfl ?_; first | refine grd_on ?_ | refine zo ?_))
   refine zP rfl (c2) ?_
   repeat (refine aops_cons ?_; first | (apply aops_o; rfl; simp only [estep, avs, tts, seval, Bool.not_true, Bool.not_false] <;> exact rr) | (refine zg rfl ?_; first | refine grd_on ?_ | refine zo ?_))
   refine aops_nil ?_
   repeat refine aw_seq ?_
   refine aw_cond rfl rfl (fun hb => ?_) fun hb => ?_
   ·repeat refine aw_seq ?_
    refine zr ttOk ?_
    repeat (refine aops_cons ?_; first | (apply aops_o; rfl; simp only [estep, avs, tts, seval] <;> exact rr) | (refine zg rfl ?_; first | refine grd_on ?_ | refine zo ?_))
    refine aops_nil ?_
    simp only [okN, e1, e2, Bool.true_and]
    exact aw_ret ⟨_, rfl, _, rfl, rfl⟩
   ·cases hb
  | true =>
   rw [e2] at c2
   have n2 := isN_ok e2
   have ok : okN num den = true := by simp [okN, e1, e2]
   by_cases hd0 : valS den = 0
   ·have z0 : decide (den = ⟨#[48]⟩) = true := decide_eq_true ((isN_zero n2).2 hd0)
    repeat refine aw_seq ?_
    refine zr ttOk ?_
    repeat (refine aops_cons ?_; first | (apply aops_o; rfl; simp only [estep, avs, tts, seval] <;> exact rr) | (refine zg rfl ?_; first | refine grd_on ?_ | refine zo ?_))
    refine zP rfl (c1) ?_
    repeat (refine aops_cons ?_; first | (apply aops_o; rfl; simp only [estep, avs, tts, seval, Bool.not_true, Bool.not_false] <;> exact rr) | (refine zg rfl ?_; first | refine grd_on ?_ | refine zo ?_))
    refine zP rfl (c2) ?_
    repeat (refine aops_cons ?_; first | (apply aops_o; rfl; simp only [estep, avs, tts, seval, Bool.not_true, Bool.not_false, z0] <;> exact rr) | (refine zg rfl ?_; first | refine grd_on ?_ | refine zo ?_))
    refine aops_nil ?_
    repeat refine aw_seq ?_
    refine aw_cond rfl rfl (fun hb => ?_) fun hb => ?_
    ·repeat refine aw_seq ?_
     refine zr ttOk ?_
     repeat (refine aops_cons ?_; first | (apply aops_o; rfl; simp only [estep, avs, tts, seval] <;> exact rr) | (refine zg rfl ?_; first | refine grd_on ?_ | refine zo ?_))
     refine aops_nil ?_
     simp only [ok, if_true, if_pos hd0]
     exact aw_ret ⟨_, rfl, _, rfl, rfl⟩
    ·cases hb
   ·have z0 : decide (den = ⟨#[48]⟩) = false := decide_eq_false fun e => hd0 ((isN_zero n2).1 e)
    repeat refine aw_seq ?_
    refine zr ttOk ?_
    repeat (refine aops_cons ?_; first | (apply aops_o; rfl; simp only [estep, avs, tts, seval] <;> exact rr) | (refine zg rfl ?_; first | refine grd_on ?_ | refine zo ?_))
    refine zP rfl (c1) ?_
    repeat (refine aops_cons ?_; first | (apply aops_o; rfl; simp only [estep, avs, tts, seval, Bool.not_true, Bool.not_false] <;> exact rr) | (refine zg rfl ?_; first | refine grd_on ?_ | refine zo ?_))
    refine zP rfl (c2) ?_
    repeat (refine aops_cons ?_; first | (apply aops_o; rfl; simp only [estep, avs, tts, seval, Bool.not_true, Bool.not_false, z0] <;> exact rr) | (refine zg rfl ?_; first | refine grd_on ?_ | refine zo ?_))
    refine aops_nil ?_
    repeat refine aw_seq ?_
    refine aw_cond rfl rfl (fun hb => ?_) fun hb => ?_
    ·cases hb
    refine aw_skip ?_
    by_cases hn0 : valS num = 0
    ·have z1 : decide (num = ⟨#[48]⟩) = true := decide_eq_true ((isN_zero n1).2 hn0)
     repeat refine aw_seq ?_
     refine zr ttOk ?_
     repeat (refine aops_cons ?_; first | (apply aops_o; rfl; simp only [estep, avs, tts, seval, z1] <;> exact rr) | (refine zg rfl ?_; first | refine grd_on ?_ | refine zo ?_))
     refine aops_nil ?_
     repeat refine aw_seq ?_
     refine aw_cond rfl rfl (fun hb => ?_) fun hb => ?_
     ·repeat refine aw_seq ?_
      refine zr ttOk ?_
      repeat (refine aops_cons ?_; first | (apply aops_o; rfl; simp only [estep, avs, tts, seval, kindsL, kindV, eqL, eqV] <;> exact rr) | (refine zg rfl ?_; first | refine grd_on ?_ | refine zo ?_))
      refine aops_nil ?_
      simp only [ok, if_true, if_neg hd0, if_pos hn0]
      have e : (neg == false && (decide (num = ⟨#[48]⟩) && decide (den = ⟨#[49]⟩))) = (!neg && decide (den = one1)) := by rw [z1]; cases neg <;> rfl
      rw [← e]
      exact aw_ret ⟨_, rfl, _, rfl, rfl⟩
     ·cases hb
    ·have z1 : decide (num = ⟨#[48]⟩) = false := decide_eq_false fun e => hn0 ((isN_zero n1).1 e)
     have hg := txt_ok (n := Nat.gcd (valS num) (valS den)) (Nat.lt_of_le_of_lt (Nat.gcd_le_right _ (by omega)) n2.lt)
     have hS : binS Nat.gcd num den = decT (Nat.gcd (valS num) (valS den)) := by unfold binS; rw [if_pos ok]; exact hg.1
     have hE : binE Nat.gcd num den = 0 := by unfold binE; rw [if_pos ok]; exact hg.2
     rw [hS, hE] at c3
     simp only [iA] at c3
     have z2 : decide (decT (Nat.gcd (valS num) (valS den)) = ⟨#[49]⟩) = decide (Nat.gcd (valS num) (valS den) = 1) := by
      have e49 : decT 1 = ⟨#[49]⟩ := by unfold decT; rw [dec_lt (by decide)]; rfl
      rw [← e49]
      exact decide_eq_decide.2 ⟨decT_inj, fun h => by rw [h]⟩
     repeat refine aw_seq ?_
     refine zr ttOk ?_
     repeat (refine aops_cons ?_; first | (apply aops_o; rfl; simp only [estep, avs, tts, seval, z1] <;> exact rr) | (refine zg rfl ?_; first | refine grd_on ?_ | refine zo ?_))
     refine aops_nil ?_
     repeat refine aw_seq ?_
     refine aw_cond rfl rfl (fun hb => ?_) fun hb => ?_
     ·cases hb
     refine aw_skip ?_
     repeat refine aw_seq ?_
     refine zr ttOk ?_
     repeat (refine aops_cons ?_; first | (apply aops_o; rfl; simp only [estep, avs, tts, seval] <;> exact rr) | (refine zg rfl ?_; first | refine grd_on ?_ | refine zo ?_))
     refine zP rfl (c3) ?_
     repeat (refine aops_cons ?_; first | (apply aops_o; rfl; simp only [estep, avs, tts, seval] <;> exact rr) | (refine zg rfl ?_; first | refine grd_on ?_ | refine zo ?_))
     refine aops_nil ?_
     repeat refine aw_seq ?_
     refine zr ttOk ?_
     repeat (refine aops_cons ?_; first | (apply aops_o; rfl; simp only [estep, avs, tts, seval, z2] <;> exact rr) | (refine zg rfl ?_; first | refine grd_on ?_ | refine zo ?_))
     refine aops_nil ?_
     simp only [ok, if_true, if_neg hd0, if_neg hn0]
     exact aw_ret ⟨_, rfl, _, rfl, rfl⟩
end
end Av
end Go.Proofs.YtdekcppfpgeneaaGreatDoor
set_option linter.unusedVariables false
set_option linter.unusedSimpArgs false
namespace Go.Proofs.YtdekcppfpgeneaaGreatDoor
open Go Go.RowKit
namespace Av
attribute [local irreducible] AW AOps AHOps
open Nt

/-! Rational numbers: Of. -/
def itoaT (n : Int) : ByteArray := ⟨(Lib.itoa n).toArray⟩
theorem itoa_len {n : Int} (h0 : -9223372036854775808 ≤ n) (h1 : n ≤ 9223372036854775807) : (itoaT n).size ≤ 21 := by
 have hd : ∀ m : Nat, m ≤ 9223372036854775808 → (Lib.decDigits m).length ≤ 19 := fun m hm => dec_le 18 m (by omega)
 rw [Lib.size_eq]
 simp only [itoaT, Lib.itoa]
 split
 ·have := hd n.natAbs (by omega)
  simp; omega
 ·have := hd n.toNat (by omega)
  simp; omega
theorem itoa_a {base : World} (hT : Tabs base) (n : Int) (h0 : -9223372036854775808 ≤ n) (h1 : n ≤ 9223372036854775807) : PureA Tryz.prog base 88 [iA n] (tA (itoaT n)) :=
 pure_scalar Tryz.call88 (by have := itoa_len h0 h1; show _ ≤ _; omega) fun s vs hs ha => by
  rw [args1 ha]
  refine (Tryz.strconv_Itoa n h0 h1 s.w (tabs_s hs hT).1).mono ?_
  rintro e w' ⟨rfl, k, os, rfl⟩
  exact ⟨rfl, Lib.below_grow _ _ (Nat.le_refl _) _ _⟩
theorem trimMinus (n : Int) : Lib.trimPrefix (Lib.itoa n) [45] = Lib.decDigits n.natAbs := by
 unfold Lib.itoa Lib.trimPrefix
 split
 ·simp [Lib.hasPrefix]
 ·have e : n.toNat = n.natAbs := by omega
  rw [e]
  have hd := dec_digits n.natAbs
  have hp := dec_pos n.natAbs
  cases hl : Lib.decDigits n.natAbs with
  | nil => rw [hl] at hp; simp at hp
  | cons c r =>
   rw [hl] at hd
   simp only [List.all_cons, Bool.and_eq_true] at hd
   have hc := hd.1
   simp [digitB] at hc
   have : c ≠ 45 := fun e => by subst e; simp at hc
   simp [Lib.hasPrefix, this]
   exact fun h => this h.symm
theorem tpref_a {base : World} (n : Int) (h0 : -9223372036854775808 ≤ n) (h1 : n ≤ 9223372036854775807) : PureA Tryz.prog base 87 [tA (itoaT n), tA ⟨#[45]⟩] (tA (decT n.natAbs)) :=
 pure_scalar Tryz.call87 (by have : (Lib.decDigits n.natAbs).length ≤ 19 := dec_le 18 _ (by omega); show (decT n.natAbs).size ≤ _; rw [decT_size]; omega) fun s vs hs ha => by
  rw [args2 ha]
  refine (Tryz.strings_TrimPrefix (itoaT n) ⟨#[45]⟩ s.w).mono ?_
  rintro e w' ⟨rfl, rfl⟩
  refine ⟨?_, Below.refl _ _⟩
  have : (⟨(Lib.trimPrefix (itoaT n).data.toList (ByteArray.mk #[45]).data.toList).toArray⟩ : ByteArray) = decT n.natAbs := by
   simp only [itoaT, decT]
   rw [← trimMinus n]
  rw [this]
set_option maxRecDepth 100000 in
theorem size_a {base : World} (hT : Tabs base) (n : Int) (h0 : -9223372036854775808 ≤ n) (h1 : n ≤ 9223372036854775807) : PureA Tryz.prog base 86 [iA n] (tA (decT n.natAbs)) := by
 have c1 := itoa_a hT n h0 h1
 have c2 := tpref_a (base := base) n h0 h1
 refine pure_enter ttOk Tryz.call86 Tryz.func86 rfl fun H hB hb hF => ?_
 rw [Tryz.results86, Tryz.ntmps86]
 simp only [arr_list, List.length_cons, List.length_nil, List.replicate, List.cons_append, List.nil_append, Nat.reduceAdd, Nat.reduceSub]
 simp only [iA] at c1 ⊢
 repeat refine aw_seq ?_
 refine zr ttOk ?_
 repeat (refine aops_cons ?_; first | (apply aops_o; rfl; simp only [estep, avs, tts, seval] <;> exact rr) | (refine zg rfl ?_; first | refine grd_on ?_ | refine zo ?_))
 refine aops_nil ?_
 repeat refine aw_seq ?_
 refine zr ttOk ?_
 repeat (refine aops_cons ?_; first | (apply aops_o; rfl; simp only [estep, avs, tts, seval] <;> exact rr) | (refine zg rfl ?_; first | refine grd_on ?_ | refine zo ?_))
 refine zP rfl (c1) ?_
 repeat (refine aops_cons ?_; first | (apply aops_o; rfl; simp only [estep, avs, tts, seval] <;> exact rr) | (refine zg rfl ?_; first | refine grd_on ?_ | refine zo ?_))
 refine zP rfl (c2) ?_
 repeat (refine aops_cons ?_; first | (apply aops_o; rfl; simp only [estep, avs, tts, seval] <;> exact rr) | (refine zg rfl ?_; first | refine grd_on ?_ | refine zo ?_))
 refine aops_nil ?_
 exact aw_ret ⟨_, rfl, [], by simp, rfl⟩
def ofR (n d : Int) : Rt := if d = 0 then nilR else lowR (decide (n < 0) != decide (d < 0)) n.natAbs d.natAbs
def ofE (d : Int) : Int := if d = 0 then 15 else 0
theorem abs_tp {n : Int} (h0 : -9223372036854775808 ≤ n) (h1 : n ≤ 9223372036854775807) : n.natAbs < tp 300 := by
 have h : n.natAbs < 10 ^ 19 := by omega
 exact Nat.lt_of_lt_of_le h (tp_le (a := 19) (by decide))
set_option maxRecDepth 100000 in
set_option maxHeartbeats 4000000 in
theorem of_a {base : World} (hT : Tabs base) (n d : Int) (h0 : -9223372036854775808 ≤ n) (h1 : n ≤ 9223372036854775807) (k0 : -9223372036854775808 ≤ d) (k1 : d ≤ 9223372036854775807) : PureA Tryz.prog base 60 [iA n, iA d] (.tup [ratA (ofR n d), iA (ofE d)]) := by
 have c1 := size_a hT n h0 h1
 have c2 := size_a hT d k0 k1
 simp only [iA] at c1 c2
 refine pure_enter ttOk Tryz.call60 Tryz.func60 rfl fun H hB hb hF => ?_
 rw [Tryz.results60, Tryz.ntmps60]
 simp only [arr_list, List.length_cons, List.length_nil, List.replicate, List.cons_append, List.nil_append, Nat.reduceAdd, Nat.reduceSub]
 clear hF hb
 simp only [iA]
 repeat refine aw_seq ?_
 refine zr ttOk ?_
 repeat (refine aops_cons ?_; first | (apply aops_o; rfl; simp only [estep, avs, tts, seval] <;> exact rr) | (refine zg rfl ?_; first | refine grd_on ?_ | refine zo ?_))
 refine aops_nil ?_
 repeat refine aw_seq ?_
 refine zr ttOk ?_
 repeat (refine aops_cons ?_; first | (apply aops_o; rfl; simp only [estep, avs, tts, seval] <;> exact rr) | (refine zg rfl ?_; first | refine grd_on ?_ | refine zo ?_))
 refine aops_nil ?_
 by_cases hd : d = 0
 ·have z : decide (d = 0) = true := decide_eq_true hd
  repeat refine aw_seq ?_
  refine zr ttOk ?_
  repeat (refine aops_cons ?_; first | (apply aops_o; rfl; simp only [estep, avs, tts, seval, z] <;> exact rr) | (refine zg rfl ?_; first | refine grd_on ?_ | refine zo ?_))
  refine aops_nil ?_
  repeat refine aw_seq ?_
  refine aw_cond rfl rfl (fun hb => ?_) fun hb => ?_
  ·repeat refine aw_seq ?_
   refine zr ttOk ?_
   repeat (refine aops_cons ?_; first | (apply aops_o; rfl; simp only [estep, avs, tts, seval, splice] <;> exact rr) | (refine zg rfl ?_; first | refine grd_on ?_ | refine zo ?_))
   refine aops_nil ?_
   simp only [ofR, ofE, if_pos hd]
   refine aw_ret ⟨_, (by simp only [aResult, aResL, aRes, avs, tts] <;> rfl), _, rfl, ?_⟩
   simp [sealA, ratA]
   rfl
  ·cases hb
 ·have z : decide (d = 0) = false := decide_eq_false hd
  have c3 := lowest_a hT (decide (n < 0) != decide (d < 0)) (abs_tp h0 h1) (abs_tp k0 k1) (by omega)
  simp only [iA] at c3
  repeat refine aw_seq ?_
  refine zr ttOk ?_
  repeat (refine aops_cons ?_; first | (apply aops_o; rfl; simp only [estep, avs, tts, seval, z] <;> exact rr) | (refine zg rfl ?_; first | refine grd_on ?_ | refine zo ?_))
  refine aops_nil ?_
  repeat refine aw_seq ?_
  refine aw_cond rfl rfl (fun hb => ?_) fun hb => ?_
  ·cases hb
  refine aw_skip ?_
  repeat refine aw_seq ?_
  refine zr ttOk ?_
  repeat (refine aops_cons ?_; first | (apply aops_o; rfl; simp only [estep, avs, tts, seval] <;> exact rr) | (refine zg rfl ?_; first | refine grd_on ?_ | refine zo ?_))
  refine zP rfl (c1) ?_
  repeat (refine aops_cons ?_; first | (apply aops_o; rfl; simp only [estep, avs, tts, seval] <;> exact rr) | (refine zg rfl ?_; first | refine grd_on ?_ | refine zo ?_))
  refine zP rfl (c2) ?_
  repeat (refine aops_cons ?_; first | (apply aops_o; rfl; simp only [estep, avs, tts, seval] <;> exact rr) | (refine zg rfl ?_; first | refine grd_on ?_ | refine zo ?_))
  refine zP rfl (c3) ?_
  repeat (refine aops_cons ?_; first | (apply aops_o; rfl; simp only [estep, avs, tts, seval, splice, ratA] <;> exact rr) | (refine zg rfl ?_; first | refine grd_on ?_ | refine zo ?_))
  refine aops_nil ?_
  simp only [ofR, ofE, if_neg hd]
  refine aw_ret ⟨_, (by simp only [aResult, aResL, aRes, avs, tts] <;> rfl), _, rfl, ?_⟩
  simp [sealA, ratA]
  rfl
end Av
end Go.Proofs.YtdekcppfpgeneaaGreatDoor
set_option linter.unusedVariables false
set_option linter.unusedSimpArgs false
namespace Go.Proofs.YtdekcppfpgeneaaGreatDoor
open Go Go.RowKit
namespace Rg
open Av Nt

/-! Holdings: plain. -/
structure Hd where
 id : ByteArray
 company : ByteArray
 holder : ByteArray
 nominee : ByteArray
 pledged : ByteArray
 joint : List ByteArray
 capital : Int
 votes : Int
 fr : Int
 til : Int
def strsP (l : List ByteArray) : PD := .sl 1 (l.map fun s => [PD.v (.string s)])
def hdC (h : Hd) : List PD := [.v (.string h.id), .v (.string h.company), .v (.string h.holder), .v (.string h.nominee), .v (.string h.pledged), strsP h.joint, .v (.int .i64 h.capital), .v (.int .i64 h.votes), .v (.int .i64 h.fr), .v (.int .i64 h.til)]
def hdL (h : Hd) : List AV := [tA h.id, tA h.company, tA h.holder, tA h.nominee, tA h.pledged, .d (strsP h.joint), iA h.capital, iA h.votes, iA h.fr, iA h.til]
def hdA (h : Hd) : AV := .agg (hdL h)
def hdsP (l : List Hd) : PD := .sl 10 (l.map hdC)
def emp : ByteArray := ⟨#[]⟩
/-- names -/
def byAt (t : ByteArray) (i : Nat) : Nat := (t.data.toList.getD i 0).toNat
def letN (c : Nat) : Bool := (decide (97 ≤ c) && decide (c ≤ 122)) || (decide (65 ≤ c) && decide (c ≤ 90))
def digN (c : Nat) : Bool := decide (48 ≤ c) && decide (c ≤ 57)
def okAt (t : ByteArray) (i : Nat) : Bool := letN (byAt t i) || (decide (i ≠ 0) && (decide (byAt t i = 95) || digN (byAt t i)))
def nameB (t : ByteArray) : Bool := (List.range t.size).all (okAt t) && (!decide (t = ⟨#[]⟩) && decide (t.size ≤ 24))
theorem nameB_no {t : ByteArray} {i : Nat} (hi : i < t.size) (h : okAt t i = false) : nameB t = false := by
 unfold nameB
 have : (List.range t.size).all (okAt t) = false := by
  rw [List.all_eq_false]
  exact ⟨i, by simpa using hi, by simp [h]⟩
 rw [this, Bool.false_and]
theorem nameB_all {t : ByteArray} (h : ∀ i, i < t.size → okAt t i = true) : nameB t = (!decide (t = ⟨#[]⟩) && decide (t.size ≤ 24)) := by
 unfold nameB
 have : (List.range t.size).all (okAt t) = true := by
  rw [List.all_eq_true]
  exact fun i hi => h i (by simpa using hi)
 rw [this, Bool.true_and]
def optB (t : ByteArray) : Bool := decide (t = ⟨#[]⟩) || nameB t
def dayB (n : Int) : Bool := decide (0 ≤ n) && decide (n ≤ 100000)
def pctB (n : Int) : Bool := decide (0 ≤ n) && decide (n ≤ 100)
def runsB (h : Hd) (day : Int) : Bool := decide (h.fr ≤ day) && (decide (h.til = -1) || decide (day < h.til))
structure Small (h : Hd) : Prop where
 id : h.id.size ≤ 9223372036854775807
 company : h.company.size ≤ 9223372036854775807
 holder : h.holder.size ≤ 9223372036854775807
 nominee : h.nominee.size ≤ 9223372036854775807
 pledged : h.pledged.size ≤ 9223372036854775807
 joint : ∀ t ∈ h.joint, t.size ≤ 9223372036854775807
 jlen : h.joint.length ≤ 1000000
end Rg
end Go.Proofs.YtdekcppfpgeneaaGreatDoor
set_option linter.unusedVariables false
set_option linter.unusedSimpArgs false
namespace Go.Proofs.YtdekcppfpgeneaaGreatDoor
open Go Go.RowKit
namespace Rg
open Av Nt

/-! Maps by their keys in order of entry, and a function. -/
def insK {κ : Type} [DecidableEq κ] (ks : List κ) (k : κ) : List κ := if k ∈ ks then ks else ks ++ [k]
def updF {κ : Type} [DecidableEq κ] (f : κ → AV) (k : κ) (v : AV) : κ → AV := fun x => if x = k then v else f x
def mpE {κ : Type} (enc : κ → Value) (ks : List κ) (f : κ → AV) : List (Value × AV) := ks.map fun k => (enc k, f k)
section
variable {κ : Type} [DecidableEq κ] {enc : κ → Value}
omit [DecidableEq κ] in
theorem mpE_len (ks : List κ) (f : κ → AV) : (mpE enc ks f).length = ks.length := List.length_map _
theorem insK_nodup {ks : List κ} (h : ks.Nodup) (k : κ) : (insK ks k).Nodup := by
 unfold insK
 split
 ·exact h
 ·rename_i hk
  rw [List.nodup_append]
  refine ⟨h, by simp, ?_⟩
  intro a ha b hb e
  simp only [List.mem_singleton] at hb
  subst hb e
  exact hk ha
theorem mem_insK {ks : List κ} {k x : κ} : x ∈ insK ks k ↔ x ∈ ks ∨ x = k := by
 unfold insK
 split
 ·rename_i hk
  constructor
  ·exact .inl
  ·rintro (h | rfl)
   ·exact h
   ·exact hk
 ·simp
variable (hk : ∀ a b, keyEq (enc a) (enc b) = decide (a = b))
include hk
theorem mget_in {f : κ → AV} {k : κ} : ∀ {ks : List κ}, k ∈ ks → mget (mpE enc ks f) (enc k) = some (f k)
 | [], h => by cases h
 | a :: r, h => by
  unfold mget mpE
  simp only [List.map_cons, List.find?_cons, hk]
  by_cases e : k = a
  ·subst e; simp
  ·have : k ∈ r := by simpa [e] using h
   rw [decide_eq_false e]
   exact mget_in this
theorem mget_out {f : κ → AV} {k : κ} : ∀ {ks : List κ}, ¬ k ∈ ks → mget (mpE enc ks f) (enc k) = none
 | [], _ => rfl
 | a :: r, h => by
  unfold mget mpE
  simp only [List.mem_cons, not_or] at h
  simp only [List.map_cons, List.find?_cons, hk]
  rw [decide_eq_false h.1]
  exact mget_out h.2
theorem mgetD_eq {f : κ → AV} {k : κ} {ks : List κ} {z : AV} (h0 : ¬ k ∈ ks → f k = z) : (mget (mpE enc ks f) (enc k)).getD z = f k := by
 by_cases h : k ∈ ks
 ·rw [mget_in hk h]; rfl
 ·rw [mget_out hk h, h0 h]; rfl
theorem mfind_out {f : κ → AV} {k : κ} : ∀ {ks : List κ}, ¬ k ∈ ks → mfind (mpE enc ks f) (enc k) = none
 | [], _ => rfl
 | a :: r, h => by
  simp only [List.mem_cons, not_or] at h
  have ih := mfind_out (f := f) h.2
  unfold mfind mpE at ih ⊢
  simp only [List.map_cons, List.findIdx?_cons, hk]
  rw [decide_eq_false h.1, ih]
  rfl
theorem mfind_in {f : κ → AV} {k : κ} : ∀ {ks : List κ}, k ∈ ks → ∃ i, mfind (mpE enc ks f) (enc k) = some i ∧ ks[i]? = some k
 | [], h => by cases h
 | a :: r, h => by
  by_cases e : k = a
  ·subst e
   refine ⟨0, ?_, rfl⟩
   unfold mfind mpE
   simp only [List.map_cons, List.findIdx?_cons, hk]
   simp
  ·have : k ∈ r := by simpa [e] using h
   obtain ⟨i, h1, h2⟩ := mfind_in (f := f) this
   refine ⟨i + 1, ?_, by simpa using h2⟩
   unfold mfind mpE at h1 ⊢
   simp only [List.map_cons, List.findIdx?_cons, hk]
   rw [decide_eq_false e, h1]
   rfl
theorem mset_mpE {ks : List κ} (hn : ks.Nodup) (f : κ → AV) (k : κ) (v : AV) : mset (mpE enc ks f) (enc k) v = mpE enc (insK ks k) (updF f k v) := by
 unfold mset insK
 by_cases h : k ∈ ks
 ·obtain ⟨i, h1, h2⟩ := mfind_in hk (f := f) h
  rw [h1, if_pos h]
  simp only
  unfold mpE
  apply List.ext_getElem?
  intro j
  rw [List.getElem?_modify, List.getElem?_map, List.getElem?_map]
  cases hj : ks[j]? with
  | none => by_cases e : i = j <;> simp [e]
  | some x =>
   by_cases e : i = j
   ·subst e
    rw [h2] at hj
    cases hj
    simp [updF]
   ·have hx : x ≠ k := fun ex => by
     subst ex
     have a1 := (List.getElem?_eq_some_iff.1 h2)
     have a2 := (List.getElem?_eq_some_iff.1 hj)
     obtain ⟨l1, g1⟩ := a1
     obtain ⟨l2, g2⟩ := a2
     have hp := List.pairwise_iff_getElem.1 hn
     rcases Nat.lt_or_gt_of_ne e with h | h
     ·exact hp i j l1 l2 h (g1.trans g2.symm)
     ·exact hp j i l2 l1 h (g2.trans g1.symm)
    simp [e, updF, hx]
 ·rw [mfind_out hk h, if_neg h]
  simp only
  unfold mpE
  rw [List.map_append]
  congr 1
  ·apply List.map_congr_left
   intro x hx
   have : x ≠ k := fun e => h (e ▸ hx)
   simp [updF, this]
  ·simp [updF]
end
theorem keq_str (a b : ByteArray) : keyEq (.string a) (.string b) = decide (a = b) := by simp [keyEq, eqV]
def encS (s : ByteArray) : Value := .string s
theorem keq_S (a b : ByteArray) : keyEq (encS a) (encS b) = decide (a = b) := keq_str a b
/-- a set of texts -/
def setE (ks : List ByteArray) : List (Value × AV) := mpE encS ks fun _ => .d (.v (.bool true))
theorem setE_in {ks : List ByteArray} {k : ByteArray} (h : k ∈ ks) : mget (setE ks) (.string k) = some (.d (.v (.bool true))) := mget_in keq_S h
theorem setE_out {ks : List ByteArray} {k : ByteArray} (h : ¬ k ∈ ks) : mget (setE ks) (.string k) = none := mget_out keq_S h
theorem setE_set {ks : List ByteArray} (hn : ks.Nodup) (k : ByteArray) : mset (setE ks) (.string k) (.d (.v (.bool true))) = setE (insK ks k) := by
 have := mset_mpE keq_S hn (fun _ => AV.d (.v (.bool true))) k (.d (.v (.bool true)))
 unfold setE
 have e : updF (fun _ => AV.d (.v (.bool true))) k (.d (.v (.bool true))) = fun _ => AV.d (.v (.bool true)) := by
  funext x; simp [updF]
 rw [e] at this
 exact this
end Rg
end Go.Proofs.YtdekcppfpgeneaaGreatDoor
set_option linter.unusedVariables false
set_option linter.unusedSimpArgs false
namespace Go.Proofs.YtdekcppfpgeneaaGreatDoor
open Go Go.RowKit
namespace Rg
open Av Nt
def memB (l : List ByteArray) (s : ByteArray) : Bool := l.any fun x => decide (x = s)
theorem memB_iff {l : List ByteArray} {s : ByteArray} : memB l s = true ↔ s ∈ l := by
 unfold memB
 rw [List.any_eq_true]
 constructor
 ·rintro ⟨x, h, e⟩
  have := of_decide_eq_true e
  exact this ▸ h
 ·exact fun h => ⟨s, h, decide_eq_true rfl⟩
theorem memB_no {l : List ByteArray} {s : ByteArray} : memB l s = false ↔ ¬ s ∈ l := by
 rw [← memB_iff]; simp
def pr1 (h : Hd) : Bool := nameB h.id && (nameB h.company && (nameB h.holder && (optB h.nominee && (optB h.pledged && (decide (h.joint.length ≤ 4) && (decide (h.nominee = ⟨#[]⟩) || decide (h.joint.length = 0)))))))
def pr2 (h : Hd) : Bool := h.joint.all nameB && decide ((h.holder :: h.joint).Nodup)
def pr3 (h : Hd) : Bool := !memB (h.holder :: h.joint) h.company && (!decide (h.company = h.nominee) && (pctB h.capital && pctB h.votes))
def pr4 (h : Hd) : Bool := dayB h.fr && (decide (h.til = -1) || (dayB h.til && decide (h.fr < h.til)))
def properB (h : Hd) : Bool := pr1 h && (pr2 h && (pr3 h && pr4 h))
theorem fresh_no {a : ByteArray} {l : List ByteArray} {k : Nat} (hk : k < l.length) (h : l[k] ∈ a :: l.take k) : ¬ (a :: l).Nodup := by
 intro hn
 have e : a :: l = (a :: l.take k) ++ (l[k] :: l.drop (k + 1)) := by
  rw [List.cons_append, ← List.drop_eq_getElem_cons hk, List.take_append_drop]
 rw [e, List.nodup_append] at hn
 exact hn.2.2 _ h _ (List.mem_cons_self ..) rfl
theorem fresh_step {a : ByteArray} {l : List ByteArray} {k : Nat} (hk : k < l.length) (hn : (a :: l.take k).Nodup) (h : ¬ l[k] ∈ a :: l.take k) : insK (a :: l.take k) l[k] = a :: l.take (k + 1) ∧ (a :: l.take (k + 1)).Nodup := by
 have e : a :: l.take (k + 1) = (a :: l.take k) ++ [l[k]] := by rw [List.take_add_one, List.getElem?_eq_getElem hk]; rfl
 constructor
 ·rw [insK, if_neg h, e]
 ·rw [e, List.nodup_append]
  refine ⟨hn, by simp, ?_⟩
  intro x hx y hy e2
  simp only [List.mem_singleton] at hy
  subst hy e2
  exact h hx
theorem strsP_get {l : List ByteArray} {k : Nat} (h : k < l.length) : (l.map fun s => [PD.v (.string s)]).getD k [] = [PD.v (.string l[k])] := by simp [h]
theorem properB_no2 {h : Hd} (e : pr2 h = false) : properB h = false := by rw [properB, e]; cases pr1 h <;> rfl
end Rg
end Go.Proofs.YtdekcppfpgeneaaGreatDoor
set_option linter.unusedVariables false
set_option linter.unusedSimpArgs false
namespace Go.Proofs.YtdekcppfpgeneaaGreatDoor
open Go Go.RowKit
namespace Rg
open Av Nt

/-! Sums over holdings; keys in order of entry. -/
def sumF {α : Type} (p : α → Bool) (f : α → Int) : List α → Int
 | [] => 0
 | h :: r => (if p h then f h else 0) + sumF p f r
section
variable {α : Type} {p q : α → Bool} {f g : α → Int}
theorem sumF_app (p : α → Bool) (f : α → Int) : ∀ (a b : List α), sumF p f (a ++ b) = sumF p f a + sumF p f b
 | [], b => by simp [sumF]
 | h :: r, b => by simp only [List.cons_append, sumF, sumF_app p f r b]; omega
theorem sumF_perm (p : α → Bool) (f : α → Int) {a b : List α} (h : a.Perm b) : sumF p f a = sumF p f b := by
 induction h with
 | nil => rfl
 | cons x _ ih => simp only [sumF, ih]
 | swap x y l => simp only [sumF]; omega
 | trans _ _ h1 h2 => exact h1.trans h2
theorem sumF_nonneg : ∀ {l : List α}, (∀ h ∈ l, p h = true → 0 ≤ f h) → 0 ≤ sumF p f l
 | [], _ => by simp [sumF]
 | h :: r, hn => by
  have := sumF_nonneg (l := r) fun x hx => hn x (List.mem_cons_of_mem _ hx)
  have h0 := hn h (List.mem_cons_self ..)
  simp only [sumF]
  split
  ·rename_i e; have := h0 e; omega
  ·omega
theorem sumF_congr : ∀ {l : List α}, (∀ h ∈ l, p h = q h ∧ (p h = true → f h = g h)) → sumF p f l = sumF q g l
 | [], _ => rfl
 | h :: r, hn => by
  have := sumF_congr (l := r) fun x hx => hn x (List.mem_cons_of_mem _ hx)
  obtain ⟨h1, h2⟩ := hn h (List.mem_cons_self ..)
  simp only [sumF, this, ← h1]
  split
  ·rename_i e; rw [h2 e]
  ·rfl
theorem sumF_le : ∀ {l : List α}, (∀ h ∈ l, (if p h then f h else 0) ≤ (if q h then g h else 0)) → sumF p f l ≤ sumF q g l
 | [], _ => by simp [sumF]
 | h :: r, hn => by
  have := sumF_le (l := r) fun x hx => hn x (List.mem_cons_of_mem _ hx)
  have h0 := hn h (List.mem_cons_self ..)
  simp only [sumF]
  omega
theorem sumF_snoc (p : α → Bool) (f : α → Int) (a : List α) (x : α) : sumF p f (a ++ [x]) = sumF p f a + (if p x then f x else 0) := by
 rw [sumF_app]; simp [sumF]
theorem sumF_take_succ (p : α → Bool) (f : α → Int) (l : List α) {k : Nat} (hk : k < l.length) : sumF p f (l.take (k + 1)) = sumF p f (l.take k) + (if p l[k] then f l[k] else 0) := by
 rw [List.take_add_one, List.getElem?_eq_getElem hk]
 exact sumF_snoc ..
theorem sumF_take_le {l : List α} (hn : ∀ h ∈ l, p h = true → 0 ≤ f h) (k : Nat) : sumF p f (l.take k) ≤ sumF p f l := by
 have e : sumF p f l = sumF p f (l.take k) + sumF p f (l.drop k) := by rw [← sumF_app, List.take_append_drop]
 have := sumF_nonneg (p := p) (f := f) (l := l.drop k) fun x hx => hn x (List.mem_of_mem_drop hx)
 omega
theorem sumF_zero : ∀ {l : List α}, (∀ h ∈ l, p h = true → f h = 0) → sumF p f l = 0
 | [], _ => rfl
 | h :: r, hn => by
  have := sumF_zero (l := r) fun x hx => hn x (List.mem_cons_of_mem _ hx)
  have h0 := hn h (List.mem_cons_self ..)
  simp only [sumF, this]
  split
  ·rename_i e; rw [h0 e]; rfl
  ·rfl
theorem sumF_pos_mem {l : List α} (h : sumF p f l ≠ 0) : ∃ x ∈ l, p x = true := by
 refine Classical.byContradiction fun hn => h (sumF_zero fun x hx e => absurd ⟨x, hx, e⟩ hn)
end
/-- keys in the order of their entry -/
def kfold {κ : Type} [DecidableEq κ] (xs : List κ) : List κ := xs.foldl insK []
section
variable {κ : Type} [DecidableEq κ]
theorem kfold_snoc (xs : List κ) (x : κ) : kfold (xs ++ [x]) = insK (kfold xs) x := by simp [kfold]
theorem foldl_insK_nodup (xs : List κ) : ∀ ks : List κ, ks.Nodup → (xs.foldl insK ks).Nodup := by
 induction xs with
 | nil => exact fun ks h => h
 | cons x r ih => exact fun ks h => ih _ (insK_nodup h x)
theorem mem_foldl_insK (xs : List κ) : ∀ (ks : List κ) (x : κ), x ∈ xs.foldl insK ks ↔ x ∈ ks ∨ x ∈ xs := by
 induction xs with
 | nil => exact fun ks x => by simp
 | cons a r ih => exact fun ks x => by rw [List.foldl_cons, ih, mem_insK]; simp [or_assoc]
theorem kfold_nodup (xs : List κ) : (kfold xs).Nodup := foldl_insK_nodup xs [] List.nodup_nil
theorem mem_kfold {xs : List κ} {x : κ} : x ∈ kfold xs ↔ x ∈ xs := by rw [kfold, mem_foldl_insK]; simp
end
/-! the order of texts -/
def leT (a b : ByteArray) : Bool := decide (a.data.toList ≤ b.data.toList)
def ltT (a b : ByteArray) : Bool := decide (a.data.toList < b.data.toList)
theorem data_inj {a b : ByteArray} (h : a.data.toList = b.data.toList) : a = b := by
 cases a; cases b; simp at h; subst h; rfl
theorem leT_trans (a b c : ByteArray) (h : leT a b = true) (k : leT b c = true) : leT a c = true := by
 simp only [leT, decide_eq_true_eq] at *
 exact List.le_trans h k
theorem leT_total (a b : ByteArray) : (leT a b || leT b a) = true := by
 simp only [leT, Bool.or_eq_true, decide_eq_true_eq]
 exact List.le_total _ _
theorem leT_antisymm {a b : ByteArray} (h : leT a b = true) (k : leT b a = true) : a = b := by
 simp only [leT, decide_eq_true_eq] at *
 exact data_inj (List.le_antisymm h k)
theorem ltT_iff {a b : ByteArray} : ltT a b = true ↔ leT a b = true ∧ a ≠ b := by
 simp only [leT, ltT, decide_eq_true_eq]
 constructor
 ·intro h
  exact ⟨List.le_of_lt h, fun e => by subst e; exact List.lt_irrefl _ h⟩
 ·rintro ⟨h, hne⟩
  rcases Classical.em (a.data.toList < b.data.toList) with h1 | h1
  ·exact h1
  ·exact absurd (data_inj (List.le_antisymm h (List.not_lt.1 h1))) hne
def sortT (l : List ByteArray) : List ByteArray := l.mergeSort leT
/-- two sorted lists with the same elements, each once, are one -/
theorem sorted_unique {α : Type} {r : α → α → Prop} (hanti : ∀ a b, r a b → r b a → a = b) : ∀ {l m : List α}, l.Pairwise r → m.Pairwise r → l.Nodup → m.Nodup → (∀ x, x ∈ l ↔ x ∈ m) → l = m
 | [], [], _, _, _, _, _ => rfl
 | [], b :: m, _, _, _, _, h => by have := (h b).2 (List.mem_cons_self ..); cases this
 | a :: l, [], _, _, _, _, h => by have := (h a).1 (List.mem_cons_self ..); cases this
 | a :: l, b :: m, hl, hm, nl, nm, h => by
  rw [List.pairwise_cons] at hl hm
  rw [List.nodup_cons] at nl nm
  have e : a = b := by
   rcases List.mem_cons.1 ((h a).1 (List.mem_cons_self ..)) with e | e
   ·exact e
   rcases List.mem_cons.1 ((h b).2 (List.mem_cons_self ..)) with e2 | e2
   ·exact e2.symm
   exact hanti _ _ (hl.1 _ e2) (hm.1 _ e)
  subst e
  congr 1
  refine sorted_unique hanti hl.2 hm.2 nl.2 nm.2 fun x => ?_
  constructor
  ·intro hx
   rcases List.mem_cons.1 ((h x).1 (List.mem_cons_of_mem _ hx)) with e | e
   ·subst e; exact absurd hx nl.1
   ·exact e
  ·intro hx
   rcases List.mem_cons.1 ((h x).2 (List.mem_cons_of_mem _ hx)) with e | e
   ·subst e; exact absurd hx nm.1
   ·exact e
theorem sortT_perm (l : List ByteArray) : (sortT l).Perm l := List.mergeSort_perm l leT
theorem sortT_sorted (l : List ByteArray) : (sortT l).Pairwise fun a b => leT a b = true := List.pairwise_mergeSort leT_trans leT_total l
theorem sortT_mem {l : List ByteArray} {x : ByteArray} : x ∈ sortT l ↔ x ∈ l := (sortT_perm l).mem_iff
theorem sortT_nodup {l : List ByteArray} (h : l.Nodup) : (sortT l).Nodup := (sortT_perm l).nodup_iff.2 h
theorem sortT_eq {l m : List ByteArray} (hl : l.Nodup) (hm : m.Nodup) (hs : m.Pairwise fun a b => leT a b = true) (h : ∀ x, x ∈ l ↔ x ∈ m) : sortT l = m :=
 sorted_unique (fun a b => leT_antisymm) (sortT_sorted l) hs (sortT_nodup hl) hm fun x => sortT_mem.trans (h x)
theorem sortT_congr {l m : List ByteArray} (hl : l.Nodup) (hm : m.Nodup) (h : ∀ x, x ∈ l ↔ x ∈ m) : sortT l = sortT m :=
 sortT_eq hl (sortT_nodup hm) (sortT_sorted m) fun x => (h x).trans sortT_mem.symm
/-! registers -/
def namesH (h : Hd) : List ByteArray := h.company :: h.holder :: ((h.nominee :: h.pledged :: h.joint).filter fun s => !decide (s = ⟨#[]⟩))
def partiesS (l : List Hd) : List ByteArray := sortT (kfold (l.flatMap namesH))
theorem mem_partiesS {l : List Hd} {x : ByteArray} : x ∈ partiesS l ↔ ∃ h ∈ l, x ∈ namesH h := by
 rw [partiesS, sortT_mem, mem_kfold, List.mem_flatMap]
theorem partiesS_nodup (l : List Hd) : (partiesS l).Nodup := sortT_nodup (kfold_nodup _)
theorem partiesS_sorted (l : List Hd) : (partiesS l).Pairwise fun a b => leT a b = true := sortT_sorted _
theorem partiesS_congr {l m : List Hd} (h : ∀ x, (∃ h ∈ l, x ∈ namesH h) ↔ ∃ h ∈ m, x ∈ namesH h) : partiesS l = partiesS m :=
 sortT_congr (kfold_nodup _) (kfold_nodup _) fun x => by rw [mem_kfold, mem_kfold, List.mem_flatMap, List.mem_flatMap]; exact h x
def inB (day : Int) (c : ByteArray) (h : Hd) : Bool := runsB h day && decide (h.company = c)
def capS (l : List Hd) (day : Int) (c : ByteArray) : Int := sumF (inB day c) Hd.capital l
def votS (l : List Hd) (day : Int) (c : ByteArray) : Int := sumF (inB day c) Hd.votes l
def okC (l : List Hd) (day : Int) (c : ByteArray) : Bool := decide (capS l day c ≤ 100) && decide (votS l day c ≤ 100)
def onB (l : List Hd) (day : Int) : Bool := l.all fun h => !runsB h day || okC l day h.company
def bearB (l : List Hd) : Bool := l.all fun h => onB l h.fr
def findI (l : List Hd) (id : ByteArray) : Int := match l.findIdx? fun h => decide (h.id = id) with
 | some i => (i : Int)
 | none => -1
def validB (l : List Hd) : Bool := (l.all properB && decide ((l.map Hd.id).Nodup)) && (decide (l.length ≤ 400) && (decide ((partiesS l).length ≤ 60) && bearB l))
end Rg
end Go.Proofs.YtdekcppfpgeneaaGreatDoor
set_option linter.unusedVariables false
set_option linter.unusedSimpArgs false
namespace Go.Proofs.YtdekcppfpgeneaaGreatDoor
open Go Go.RowKit
namespace Av

/-- a drawn region whose last k operations come in order -/
theorem aw_drawR (k : Nat) {X : Ctx} {Q : Exit → List AV → AHeap → Prop} {env : List AV} {H : AHeap} {id : Nat} {ops : Array Oper} (hT : TabOk X.P X.tt) (hm : X.P.follows .mixedOrders = true) (hc : regOk ops = true) (hB : kindB .any ops (ops.size - k) = true) (hTl : tailB .any ops (ops.size - k) = true) (hO : ((ops.toList.take (ops.size - k)).all fun o => headOp o.op) = true)
  (h : AHOps X.P X.tt X.base H.length ops (ops.toList.take (ops.size - k)) env H fun env' H' => AOps X.P X.tt X.base ops (ops.toList.drop (ops.size - k)) env' H' fun env H => Q .normal env H) : AW X (.region id ops true) Q env H :=
 aw_draw (ops.size - k) hT hm hc hB hTl h
theorem zR (k : Nat) {X : Ctx} {Q : Exit → List AV → AHeap → Prop} {env : List AV} {H : AHeap} {id : Nat} {ops : Array Oper} (hT : TabOk X.P X.tt) (hm : X.P.follows .mixedOrders = true)
  (h : AHOps X.P X.tt X.base H.length ops (ops.toList.take (ops.size - k)) env H fun env' H' => AOps X.P X.tt X.base ops (ops.toList.drop (ops.size - k)) env' H' fun env H => Q .normal env H) (hc : regOk ops = true := by kernel_rfl) (hB : kindB .any ops (ops.size - k) = true := by kernel_rfl) (hTl : tailB .any ops (ops.size - k) = true := by kernel_rfl) (hO : ((ops.toList.take (ops.size - k)).all fun o => headOp o.op) = true := by rfl) : AW X (.region id ops true) Q env H := aw_drawR k hT hm hc hB hTl hO h
/-! A drawn region by what holds between its operations, whichever have run. -/
def ready1 (o : Oper) (β : Nat → Bool) : Bool := o.after.all fun e => !Region.binds .any e || β e.on
def depsB (ops : Array Oper) : Bool := (List.range ops.size).all fun j => match ops[j]? with
 | some o => o.after.all fun e => !Region.binds .any e || decide (e.on < j)
 | none => true
def cntF (L : Array Bool) : Nat := L.toList.countP (fun b => !b)
theorem cntF_set {L : Array Bool} {i : Nat} (hi : i < L.size) (h : L.getD i true = false) : cntF (L.setIfInBounds i true) + 1 = cntF L := by
 have h1 : L[i] = false := by rw [Array.getD_eq_getD_getElem?, Array.getElem?_eq_getElem hi] at h; exact h
 have e : ∀ (l : List Bool) (i : Nat) (hi : i < l.length), l[i] = false → (l.set i true).countP (fun b => !b) + 1 = l.countP (fun b => !b) := by
  intro l
  induction l with
  | nil => intro i hi; simp at hi
  | cons a r ih =>
   intro i hi h
   cases i with
   | zero => simp at h; subst h; simp
   | succ i =>
    have := ih i (by simpa using hi) (by simpa using h)
    simp only [List.set_cons_succ, List.countP_cons]
    omega
 unfold cntF
 rw [Array.toList_setIfInBounds]
 exact e L.toList i (by simpa using hi) (by simpa using h1)
theorem cntF_none {L : Array Bool} (h : cntF L = 0) {i : Nat} (hi : i < L.size) : L.getD i true = true := by
 unfold cntF at h
 rw [List.countP_eq_zero] at h
 have := h L[i] (by simp)
 rw [Array.getD_eq_getD_getElem?, Array.getElem?_eq_getElem hi]
 simpa using this
section
variable {X : Ctx} {ops : Array Oper}
theorem orders_wp (hT : TabOk X.P X.tt) (hc : regOk ops = true) (hd : depsB ops = true) (J : (Nat → Bool) → List AV → AHeap → Prop) {Q : Exit → List AV → AHeap → Prop}
  (step : ∀ β env H, J β env H → X.N ≤ H.length → ∀ i o, ops[i]? = some o → β i = false → ready1 o β = true → AGuard ops env o.guard (AStep X.P X.tt X.base env H o.op fun r H' => J (fun j => j == i || β j) (aput env o.dst r) H') (J (fun j => j == i || β j) (aput env o.dst skipV) H))
  (done : ∀ β env H, J β env H → (∀ i, i < ops.size → β i = true) → Q .normal env H) (s0 : St) :
  ∀ (m : Nat) (L : Array Bool) (env : List AV) (H : AHeap) (μ : Nat → Option Nat) (w : World) (a : Act), cntF L = m → L.size = ops.size → J (fun i => L.getD i false) env H → X.N ≤ H.length → Sim X.base ⟨μ, H, w⟩ → EnvRep (flr X.rd s0) ⟨μ, H, w⟩ env a → Evo X.N s0 ⟨μ, H, w⟩ →
   wpAny X.P .any ops (fun x a w => x = .normal ∧ APost X s0 Q x a w) m L a w := by
 have gd : ∀ {L : Array Bool} {i : Nat}, i < L.size → L.getD i true = L.getD i false := fun {L i} hi => by
  rw [Array.getD_eq_getD_getElem?, Array.getD_eq_getD_getElem?, Array.getElem?_eq_getElem hi]; rfl
 have fin : ∀ (L : Array Bool) (env : List AV) (H : AHeap) (μ : Nat → Option Nat) (w : World) (a : Act), L.size = ops.size → J (fun i => L.getD i false) env H → X.N ≤ H.length → Sim X.base ⟨μ, H, w⟩ → EnvRep (flr X.rd s0) ⟨μ, H, w⟩ env a → Evo X.N s0 ⟨μ, H, w⟩ → Region.ready .any ops L = [] → (Exit.normal = Exit.normal ∧ APost X s0 Q .normal a w) := by
  intro L env H μ w a hsz hJ hN hs he hev hr
  have hall : ∀ n i, i < n → i < ops.size → L.getD i false = true := by
   intro n
   induction n with
   | zero => intro i hi; omega
   | succ n ih =>
    intro i hi hio
    rcases Nat.lt_succ_iff_lt_or_eq.1 hi with h | rfl
    ·exact ih i h hio
    ·refine Classical.byContradiction fun hf => ?_
     have hf' : L.getD i true = false := by rw [gd (by omega)]; simpa using hf
     have hget : ops[i]? = some ops[i] := Array.getElem?_eq_getElem hio
     have hm : i ∈ Region.ready .any ops L := by
      unfold Region.ready
      rw [List.mem_filter]
      refine ⟨by simpa using hio, ?_⟩
      rw [hf', hget]
      simp only [Bool.not_false, Bool.true_and, Option.map_some, Option.getD_some]
      rw [Array.all_eq_true']
      intro e he'
      have h1 := List.all_eq_true.1 hd i (by simpa using hio)
      rw [hget] at h1
      have h2 := (Array.all_eq_true'.1 h1) e he'
      cases hb : Region.binds .any e with
      | false => rfl
      | true =>
       rw [hb] at h2
       simp only [Bool.not_true, Bool.false_or, decide_eq_true_eq] at h2 ⊢
       exact ih e.on h2 (by omega)
     rw [hr] at hm; cases hm
  exact ⟨rfl, μ, env, H, done _ _ _ hJ (fun i hi => hall (i + 1) i (by omega) hi), hN, hs, he, hev⟩
 intro m
 induction m with
 | zero =>
  intro L env H μ w a hm hsz hJ hN hs he hev
  have hr : Region.ready .any ops L = [] := by
   unfold Region.ready
   rw [List.filter_eq_nil_iff]
   intro i hi
   have hi' : i < L.size := by rw [hsz]; simpa using hi
   rw [cntF_none hm hi']
   simp
  exact ⟨hr, fin L env H μ w a hsz hJ hN hs he hev hr⟩
 | succ m ih =>
  intro L env H μ w a hm hsz hJ hN hs he hev
  refine ⟨fin L env H μ w a hsz hJ hN hs he hev, fun i hi => ?_⟩
  unfold Region.ready at hi
  rw [List.mem_filter] at hi
  obtain ⟨hi1, hi2⟩ := hi
  have hio : i < ops.size := by simpa using hi1
  have hget : ops[i]? = some ops[i] := Array.getElem?_eq_getElem hio
  obtain ⟨o, ho⟩ : ∃ o, ops[i] = o := ⟨_, rfl⟩
  rw [ho] at hget
  rw [hget] at hi2
  simp only [Bool.and_eq_true, Bool.not_eq_true', Option.map_some, Option.getD_some] at hi2
  have hLi : i < L.size := by omega
  have hset : (fun j => (L.setIfInBounds i true).getD j false) = fun j => j == i || L.getD j false := by
   funext j
   rw [Array.getD_eq_getD_getElem?, Array.getElem?_setIfInBounds, Array.getD_eq_getD_getElem?]
   by_cases e : i = j
   ·subst e; simp [hLi]
   ·have : (j == i) = false := by simp; exact fun h => e h.symm
    rw [if_neg e, this]; rfl
  have hst := step _ env H hJ hN i o hget (by show L.getD i false = false; rw [← gd hLi]; exact hi2.1) hi2.2
  have hmem : o ∈ ops.toList := List.mem_of_getElem? (i := i) (by simpa using hget)
  have hco := List.all_eq_true.1 (regOk_c hc) o hmem
  have hcnt : cntF (L.setIfInBounds i true) = m := by have := cntF_set hLi hi2.1; omega
  have hsz' : (L.setIfInBounds i true).size = ops.size := by simp [hsz]
  have hA : AStep X.P X.tt X.base env H o.op (fun r H' => J (fun j => j == i || L.getD j false) (aput env o.dst r) H') → o.wp X.P a w (wpAny X.P .any ops (fun x a w => x = .normal ∧ APost X s0 Q x a w) m (L.setIfInBounds i true)) (fun x a w => x = .normal ∧ APost X s0 Q x a w) := fun h =>
   astep_wp hT hs he hco h fun r v H' μ' w' h1 h2 h3 h4 h5 => ih _ _ H' μ' w' _ hcnt hsz' (by rw [hset]; exact h1) (Nat.le_trans hN h2) h3 h4 (hev.trans (h5.mono hN))
  have hB : J (fun j => j == i || L.getD j false) (aput env o.dst skipV) H → wpAny X.P .any ops (fun x a w => x = .normal ∧ APost X s0 Q x a w) m (L.setIfInBounds i true) (a.put o.dst Go.undef) w := fun h =>
   ih _ _ H μ w _ hcnt hsz' (by rw [hset]; exact h) hN hs (he.put (by simp only [skipV, Rep, PRep]; exact ⟨rfl, trivial⟩)) hev
  unfold wpOp
  rw [hget]
  simp only
  cases hg : o.guard with
  | none =>
   rw [hg] at hst
   simp only [AGuard] at hst
   simp only [Region.wanted, hg, if_true]
   exact .inl (hA hst)
  | some g =>
   obtain ⟨j, want⟩ := g
   rw [hg] at hst
   simp only [AGuard] at hst
   cases hy : yieldedA ops env j with
   | none => rw [hy] at hst; exact hst.elim
   | some b =>
    rw [hy] at hst
    simp only at hst
    have := yielded_eq he hy
    simp only [Region.wanted, hg, this]
    rw [wantB_eq] at hst
    by_cases hb : (b == some want) = true
    ·rw [if_pos hb] at hst
     rw [if_pos hb]
     exact .inl (hA hst)
    ·rw [if_neg hb] at hst
     rw [if_neg hb]
     exact hB hst
theorem aw_orders {Q : Exit → List AV → AHeap → Prop} {env env0 : List AV} {H H0 : AHeap} {id : Nat} (hT : TabOk X.P X.tt) (hm : X.P.follows .mixedOrders = true) (hc : regOk ops = true) (hd : depsB ops = true) (J : (Nat → Bool) → List AV → AHeap → Prop) (hg : Goes X env H env0 H0) (h0 : J (fun _ => false) env0 H0)
  (step : ∀ β env H, J β env H → X.N ≤ H.length → ∀ i o, ops.toList[i]? = some o → β i = false → ready1 o β = true → AGuard ops env o.guard (AStep X.P X.tt X.base env H o.op fun r H' => J (fun j => j == i || β j) (aput env o.dst r) H') (J (fun j => j == i || β j) (aput env o.dst skipV) H))
  (done : ∀ β env H, J β env H → (∀ i, i < ops.size → β i = true) → Q .normal env H) : AW X (.region id ops true) Q env H := by
 refine aw_goes hg ?_
 clear hg env H
 revert h0
 generalize env0 = env
 generalize H0 = H
 intro h0 s0 μ a w hN hs he hev
 have hw : Sim X.base ⟨μ, H, { w with drawn := w.drawn + 1 }⟩ ∧ Evo H.length ⟨μ, H, w⟩ ⟨μ, H, { w with drawn := w.drawn + 1 }⟩ := hs.heapEq rfl rfl rfl rfl
 let Q0 : Exit → Act → World → Prop := fun x a w => x = .normal ∧ APost X s0 Q x a w
 refine Go.wpIn_mono (Q := Q0) (wpIn_region_any hm (anyA_in (regOk_d hc) (fun ⟨a, w, h⟩ => by cases h.1) _ _ _ _ ?_)) fun x a w h => h.2
 have hcn : cntF (Array.replicate ops.size false) = ops.size := by
  unfold cntF
  rw [Array.toList_replicate, List.countP_replicate]
  simp
 have := orders_wp hT hc hd J (Q := Q) (fun β env H hJ hN i o hg => step β env H hJ hN i o (by simpa using hg)) done s0 ops.size (Array.replicate ops.size false) env H μ { w with drawn := w.drawn + 1 } a hcn (by simp) (by
  have e : (fun i => (Array.replicate ops.size false).getD i false) = fun _ => false := by
   funext i; exact getD_replicate_false _ _
  rw [e]; exact h0) hN hw.1 ⟨he.defers.keeps hw.2.keeps, RepL.evo hw.2 _ _ he.rep⟩ (hev.trans (hw.2.mono hN))
 exact this
end
end Av
end Go.Proofs.YtdekcppfpgeneaaGreatDoor
set_option linter.unusedVariables false
set_option linter.unusedSimpArgs false
namespace Go.Proofs.YtdekcppfpgeneaaGreatDoor
open Go Go.RowKit
namespace Av

/-! A range over a function whose elements come in an order that is not known (a map's keys). -/
def isMpO : AObj → Bool
 | .mp _ _ _ _ => true
 | _ => false
def SeqP {α : Type} (P : Program) (gf : Nat) (lb : Array Value) (enc : α → Array Value) (all : List α) (s : St) : Prop :=
 ∀ (l : Nat) (J : List α → World → Prop) (Jx : World → Prop) (W : World), s.w.heap.size ≤ W.heap.size → (∀ k W1, J k W1 → ∀ b, s.imm b → W1.heap[b]? = s.w.heap[b]?) →
  (∀ pre W1 W2 row, J pre W1 → W1.grownBy W2 row → (∀ r, row = some r → s.w.heap.size ≤ r ∧ (∃ o : Obj, W1.heap[r]? = some o ∧ o.isWalk = true) ∧ ∃ o : Obj, W2.heap[r]? = some o ∧ o.isWalk = true) → J pre W2) →
  (∀ pre x W1, x ∈ all → ¬ x ∈ pre → J pre W1 → YieldAt Fence.wide 7 P l (enc x) W1 fun e W' => KeepsWalks W1 W' ∧ ((e = .returned (.bool true) ∧ J (pre ++ [x]) W') ∨ (e = .returned (.bool false) ∧ Jx W'))) →
  J [] W → CallsIn Fence.wide 8 P gf (#[.func (.yield l) #[] #[]] ++ lb) W fun e W' => (∃ v, e = .returned v) ∧ ((∃ pre, pre.Perm all ∧ J pre W') ∨ Jx W')
def rndP {α : Type} (J : List α → AHeap → Prop) (Jx : Code → AHeap → Prop) (pre : List α) : Exit → List AV → AHeap → Prop
 | .normal, _, H => J pre H
 | .ret, _, H => Jx .ret H
 | .exit id, _, H => Jx (.exit id) H
 | .goto t, _, H => Jx (.goto t) H
 | _, _, _ => False
theorem not_liveM {base : World} {s : St} (hs : Sim base s) {D : Nat} {x : Obj} (hx : s.w.heap[D]? = some x) (h1 : ∀ arr ty fr, x ≠ .cells arr ty fr) (h2 : ∀ (l : Nat) (o : AObj), s.H[l]? = some o → isMpO o = false) : ¬ s.live D := by
 rintro ⟨l, o, k1, k2, k3⟩
 have ho := hs.obj l o k1
 cases o with
 | free => cases k2
 | dead => cases k2
 | box ty cells =>
  obtain ⟨b, arr, q1, q2, q3, q4⟩ := ho
  rw [k3] at q1; cases q1
  rw [hx] at q3; exact h1 _ _ _ (Option.some.inj q3)
 | row ty k ver items =>
  rcases ho.2.2 with ⟨q1, _⟩ | ⟨b, arr, f, r, q1, q2, q3, q4, q5⟩
  ·rw [k3] at q1; cases q1
  ·rw [k3] at q1; cases q1
   rw [hx] at q3; exact h1 _ _ _ (Option.some.inj q3)
 | mp kt et ks es => cases h2 l _ k1
theorem walk_nc {o : Obj} (h : o.isWalk = true) : ∀ arr ty fr, o ≠ .cells arr ty fr := fun arr ty fr e => by subst e; cases h
set_option maxHeartbeats 1000000 in
theorem aw_rangeP {α : Type} {P : Program} {tt : TTab} {base : World} {N : Nat} {Q : Exit → List AV → AHeap → Prop} {env : List AV} {H : AHeap} {g : Operand} {ps : Array Tmp} {assign body : Code} {gf : Nat} {caps : List AV} (all : List α) (elem : α → List AV)
  (hg : aeval env g = .fn (.func gf) [] caps) (hgo : constOk g = true) (eg : ∀ args w, (callFunc gf args).run P w = .ok (.enter gf args) w)
  (hseq : ∀ μ w (lb : Array Value), Sim base ⟨μ, H, w⟩ → RepL ⟨μ, H, w⟩ caps lb.toList → ∃ enc : α → Array Value, SeqP P gf lb enc all ⟨μ, H, w⟩ ∧ ∀ x, x ∈ all → (enc x).size = ps.size ∧ RepL ⟨μ, H, w⟩ (elem x) (enc x).toList)
  (J : List α → AHeap → Prop) (Jx : Code → AHeap → Prop) (hM : ∀ pre H', J pre H' → ∀ (l : Nat) (o : AObj), H'[l]? = some o → isMpO o = false) (h0 : J [] H)
  (hround : ∀ l pre x H', x ∈ all → ¬ x ∈ pre → J pre H' → H.length ≤ H'.length → AW ⟨P, tt, base, H.length, some l⟩ assign (fun e env1 H1 => e = .normal ∧ AW ⟨P, tt, base, H.length, some l⟩ body (rndP J Jx (pre ++ [x])) env1 H1) (setPs env ps.toList (elem x)) H')
  (hdone : ∀ pre H', pre.Perm all → J pre H' → H.length ≤ H'.length → Q .normal env H')
  (hstop : ∀ c H', Jx c H' → H.length ≤ H'.length → AW ⟨P, tt, base, N, none⟩ c Q env H') : AW ⟨P, tt, base, N, none⟩ (.rangeFunc g ps assign body) Q env H := by
 intro s0 μ a w hN hs he hev
 have hge := he.eval hgo
 rw [hg] at hge
 simp only [Rep] at hge
 obtain ⟨vf, lb, hgv, hf1, hcaps⟩ := hge
 simp only [RepL] at hf1
 obtain rfl : vf = #[] := Array.toList_eq_nil_iff.1 hf1
 obtain ⟨enc, hsw, helem⟩ := hseq μ w lb hs hcaps
 refine wpIn_rangeFunc (F := FR none) ?_
 intro fn hfn
 obtain ⟨rec, hrec⟩ : ∃ rec : LoopState → Option Code → Loop, rec = fun st pe => { state := st, pending := pe, fn, tmps := a.tmps, params := ps, assign, body, defers := w.heap.size } := ⟨_, rfl⟩
 obtain ⟨W1, hW1⟩ : ∃ W1, (w.alloc (.deferred (some []))).alloc (.loop (rec .ready none)) = W1 := ⟨_, rfl⟩
 have hL1 : W1.heap[w.heap.size + 1]? = some (.loop (rec .ready none)) := by
  rw [← hW1]; have := World.alloc_heap_new (w.alloc (.deferred (some []))) (.loop (rec .ready none)); rwa [World.size_alloc] at this
 have hK1 : W1.heap[w.heap.size]? = some (.deferred (some [])) := by
  rw [← hW1]; exact (Below.heap_alloc _ _ _ (by simp)).trans (World.alloc_heap_new w _)
 have hb1 : Below w.heap.size w W1 := by
  rw [← hW1]; exact ((Below.refl _ w).alloc (Nat.le_refl _) _).alloc (by simp) _
 obtain ⟨hs1, hev1⟩ := Sim.below' (s := ⟨μ, H, w⟩) hs hb1
 let core : AHeap → World → Loop → Prop := fun H' W r => ∃ μ', H.length ≤ H'.length ∧ Sim base ⟨μ', H', W⟩ ∧ Evo H.length ⟨μ, H, w⟩ ⟨μ', H', W⟩ ∧ W.heap[w.heap.size + 1]? = some (.loop r) ∧ W.heap[w.heap.size]? = some (.deferred (some []))
 have turn : ∀ {H' W r} (r' : Loop), core H' W r → core H' (W.putObj (w.heap.size + 1) (.loop r')) r' := by
  rintro H' W r r' ⟨μ', c1, c2, c3, c4, c5⟩
  have ho : Oth ⟨μ', H', W⟩ (w.heap.size + 1) (W.putObj (w.heap.size + 1) (.loop r')) := oth_put (s := ⟨μ', H', W⟩) c4 (fun _ _ _ e => by cases e) (fun _ _ _ e => by cases e) (not_live c2 c4 (fun _ _ _ e => by cases e) fun _ _ e => by cases e)
  have hbs := hs.below.size
  exact ⟨μ', c1, c2.oth ho (by simp only at hbs; omega) rfl rfl rfl, c3.oth c2 ho (by simp only; omega), World.putObj_heap_same (Array.getElem?_eq_some_iff.1 c4).1, (World.putObj_heap_other (by omega)).trans c5⟩
 have hcore1 : core H W1 (rec .ready none) := ⟨μ, Nat.le_refl _, hs1, hev1, hL1, hK1⟩
 refine ⟨w.heap.size + 1, [markOf w.heap.size], W1, { target := .fn (.func gf) lb, args := #[.func (.yield (w.heap.size + 1)) #[] #[]] }, W1, gf, #[.func (.yield (w.heap.size + 1)) #[] #[]] ++ lb, W1, ?_, ?_, ?_, ?_, fun _ => by omega, ?_⟩
 ·rw [← hW1, hrec]; exact run_enterLoop_outer _ _ _ _ _
 ·simp only [resolve, rangeCall, hgv]
  simp [go_sem]
 ·intro f' hf'; trivial
 ·simp [invoke, go_sem, eg]
 have hafter : ∀ {H' W r}, core H' W r → EnvRep (flr none s0) ⟨μ, H, w⟩ env a ∧ ∃ μ', N ≤ H'.length ∧ Sim base ⟨μ', H', W⟩ ∧ EnvRep (flr none s0) ⟨μ', H', W⟩ env { a with defers := [markOf w.heap.size] ++ a.defers } ∧ Evo N s0 ⟨μ', H', W⟩ := by
  rintro H' W r ⟨μ', c1, c2, c3, c4, c5⟩
  refine ⟨he, μ', Nat.le_trans hN c1, c2, ⟨?_, RepL.evo c3 _ _ he.rep⟩, hev.trans (c3.mono hN)⟩
  obtain ⟨Ds, e1, e2, e3⟩ := he.defers.keeps c3.keeps
  obtain ⟨Ds', e1', e2', e3'⟩ := he.defers
  have hsz := hev.keeps.size
  have eq : Ds' = Ds := by
   have : Ds'.map markOf = Ds.map markOf := e1'.symm.trans e1
   exact (List.map_inj_right fun x y h => by cases h; rfl).1 this
  subst eq
  refine ⟨w.heap.size :: Ds', by rw [List.map_cons, ← e1]; rfl, List.nodup_cons.2 ⟨fun hm => ?_, e2⟩, fun D hD => ?_⟩
  ·have := (e3' _ hm).2.1.1
   simp only at this
   omega
  ·rcases List.mem_cons.1 hD with rfl | hD
   ·exact ⟨hsz, ⟨(Array.getElem?_eq_some_iff.1 c5).1, not_live c2 c5 (fun _ _ _ e => by cases e) fun _ _ e => by cases e⟩, c5⟩
   ·exact e3 D hD
 refine (hsw (w.heap.size + 1) (fun pre W => ∃ H', J pre H' ∧ core H' W (rec .ready none)) (fun W => ∃ c H', Jx c H' ∧ core H' W (rec .done (some c))) W1 hb1.size
  (fun k W ⟨H', _, μ', _, _, c3, _⟩ b hb => c3.keeps.heap b hb) ?_ ?_ ⟨H, h0, hcore1⟩).mono ?_
 ·-- the iterator's own steps
  rintro pre Wa Wb row ⟨H', hJ, μ', c1, c2, c3, c4, c5⟩ hg hrow
  have hbs := hs.below.size
  have hwa := c3.keeps.size
  simp only at hbs hwa
  cases row with
  | none =>
   have ho : Oth ⟨μ', H', Wa⟩ Wb.heap.size Wb := ⟨fun _ _ _ e => by
     have := (Array.getElem?_eq_some_iff.1 e).1
     have hh := hg.size
     simp only at this
     omega, fun _ _ _ e => by
     have := (Array.getElem?_eq_some_iff.1 e).1
     omega, fun hl => by have := (c2.live_ge hl).2; have hh := hg.size; simp only at this; omega, hg.size, fun b hb hlt => hg.block b hlt (by simp)⟩
   have hh := hg.size
   have keep : ∀ {D : Nat} {x : Obj}, Wa.heap[D]? = some x → Wb.heap[D]? = some x := fun {D x} hx => (hg.block D (Array.getElem?_eq_some_iff.1 hx).1 (by simp)).trans hx
   exact ⟨H', hJ, μ', c1, c2.oth ho (by omega) hg.os hg.tape hg.output, c3.oth c2 ho (by simp only; omega), keep c4, keep c5⟩
  | some r =>
   obtain ⟨hr, ⟨o1, ho1, hw1⟩, o2, ho2, hw2⟩ := hrow r rfl
   simp only at hr
   have ho : Oth ⟨μ', H', Wa⟩ r Wb := ⟨fun arr ty fr e => walk_nc hw1 arr ty fr (Option.some.inj (ho1.symm.trans e)), fun arr ty fr e => walk_nc hw2 arr ty fr (Option.some.inj (ho2.symm.trans e)), not_liveM c2 ho1 (walk_nc hw1) (hM pre H' hJ), hg.size, fun b hb hlt => hg.block b hlt (by simpa using hb)⟩
   have keep : ∀ {D : Nat} {x : Obj}, Wa.heap[D]? = some x → x.isWalk = false → Wb.heap[D]? = some x := fun {D x} hx hxw => (hg.block D (Array.getElem?_eq_some_iff.1 hx).1 (fun e => by
    cases e; rw [ho1] at hx; cases hx; rw [hw1] at hxw; cases hxw)).trans hx
   exact ⟨H', hJ, μ', c1, c2.oth ho (by omega) hg.os hg.tape hg.output, c3.oth c2 ho hr, keep c4 rfl, keep c5 rfl⟩
 ·-- one round
  rintro pre x W hx hxp ⟨H', hJ, hcore⟩
  obtain ⟨μ', c1, c2, c3, c4, c5⟩ := hcore
  obtain ⟨hsz, hel⟩ := helem x hx
  have hkw : ∀ {μ1 : Nat → Option Nat} {H1 : AHeap} {w1 : World} {M : Nat}, Evo M ⟨μ', H', W⟩ ⟨μ1, H1, w1⟩ → KeepsWalks W w1 := fun {μ1 H1 w1 M} e => ⟨e.keeps.size, fun k o hk ho => (e.keeps.heap k ⟨(Array.getElem?_eq_some_iff.1 hk).1, not_liveM c2 hk (walk_nc ho) (hM pre H' hJ)⟩).trans hk⟩
  have hy := run_yield (P := P) (args := enc x) c4 (by rw [hrec]; exact hsz)
  rw [hrec] at hy
  refine ⟨fn, _, assign, body, hy, roundIn_of_wpIn hfn ?_⟩
  have henv : EnvRep 0 ⟨μ', H', W⟩ (setPs env ps.toList (elem x)) { tmps := (ps.zip (enc x)).foldl (fun t (p, v) => t.setIfInBounds p v) a.tmps, defers := [] } := by
   refine ⟨MarksOk.nil _ _, ?_⟩
   have := setPs_rep ps.toList (elem x) (enc x).toList env a.tmps (RepL.evo c3 _ _ he.rep) (RepL.evo c3 _ _ hel)
   rw [← Array.toList_zip, Array.foldl_toList] at this
   exact this
  have ha := hround (w.heap.size + 1) pre x H' hx hxp hJ c1 ⟨μ', H', W⟩ μ' _ W c1 c2 henv (.refl _ _)
  refine wpIn_any (m := 7) (wpIn_mono ha ?_)
  rintro e a1 w1 ⟨μ1, env1, H1, ⟨rfl, hbd⟩, g1, g2, g3, g4⟩
  have im : ∀ {D : Nat} {x : Obj}, W.heap[D]? = some x → (∀ arr ty fr, x ≠ .cells arr ty fr) → (∀ e c, x ≠ .map e c) → w1.heap[D]? = some x := fun {D x} hx n1 n2 => (g4.keeps.heap D ⟨(Array.getElem?_eq_some_iff.1 hx).1, not_live c2 hx n1 n2⟩).trans hx
  have i1 := im c4 (fun _ _ _ e => by cases e) fun _ _ e => by cases e
  have i2 := im c5 (fun _ _ _ e => by cases e) fun _ _ e => by cases e
  refine ⟨_, run_beginRound i1 (by rw [hrec]), ?_⟩
  have ho : Oth ⟨μ1, H1, w1⟩ (w.heap.size + 1) (w1.putObj (w.heap.size + 1) (.loop { rec .ready none with state := .busy })) := oth_put (s := ⟨μ1, H1, w1⟩) i1 (fun _ _ _ e => by cases e) (fun _ _ _ e => by cases e) (not_live g2 i1 (fun _ _ _ e => by cases e) fun _ _ e => by cases e)
  have hbs := hs.below.size
  have j2 := g2.oth ho (show base.heap.size ≤ w.heap.size + 1 from Nat.le_succ_of_le hbs) rfl rfl rfl
  have hlp : ∀ {lp : Loop} {v : World} {r' : Loop}, v.heap[w.heap.size + 1]? = some (.loop lp) → KeepsWalks v (v.putObj (w.heap.size + 1) (.loop r')) := fun {lp v r'} hv => ⟨by simp, fun k o hk ho => (World.putObj_heap_other (fun e => by subst e; rw [hv] at hk; cases hk; cases ho)).trans hk⟩
  have hkW2 : ∀ k o, W.heap[k]? = some o → o.isWalk = true → St.imm ⟨μ1, H1, w1.putObj (w.heap.size + 1) (.loop { rec .ready none with state := .busy })⟩ k ∧ (w1.putObj (w.heap.size + 1) (.loop { rec .ready none with state := .busy })).heap[k]? = some o := fun k o hk ho' => by
   have i0 : St.imm ⟨μ', H', W⟩ k := ⟨(Array.getElem?_eq_some_iff.1 hk).1, not_liveM c2 hk (walk_nc ho') (hM pre H' hJ)⟩
   have e1 : w1.heap[k]? = some o := (g4.keeps.heap k i0).trans hk
   exact ⟨ho.imm (g4.keeps.imm k i0), (hlp i1).same k o e1 ho'⟩
  have hszW2 : W.heap.size ≤ (w1.putObj (w.heap.size + 1) (.loop { rec .ready none with state := .busy })).heap.size := Nat.le_trans g4.keeps.size (by simp)
  have j1 : (w1.putObj (w.heap.size + 1) (.loop { rec .ready none with state := .busy })).heap[w.heap.size + 1]? = some (.loop { rec .ready none with state := .busy }) := World.putObj_heap_same (Array.getElem?_eq_some_iff.1 i1).1
  have j3 : (w1.putObj (w.heap.size + 1) (.loop { rec .ready none with state := .busy })).heap[w.heap.size]? = some (.deferred (some [])) := (World.putObj_heap_other (by omega)).trans i2
  have j4 : Evo H.length ⟨μ, H, w⟩ ⟨μ1, H1, w1.putObj (w.heap.size + 1) (.loop { rec .ready none with state := .busy })⟩ := (c3.trans g4).oth g2 ho (by simp only; omega)
  generalize w1.putObj (w.heap.size + 1) (.loop { rec .ready none with state := .busy }) = w2 at *
  have hm2 : EnvRep 0 ⟨μ1, H1, w2⟩ env1 a1 := by
   refine ⟨?_, RepL.oth g2 ho _ _ g3.rep⟩
   obtain ⟨Ds, e1, e2, e3⟩ := g3.defers
   refine ⟨Ds, e1, e2, fun D hD => ?_⟩
   obtain ⟨d1, d2, d3⟩ := e3 D hD
   have hne : D ≠ w.heap.size + 1 := fun e => by
    subst e
    simp only at d3
    rw [i1] at d3; cases d3
   exact ⟨d1, ho.imm d2, (ho.same D hne d2.1).trans d3⟩
  have hbd' := hbd ⟨μ1, H1, w2⟩ μ1 a1 w2 g1 j2 hm2 (.refl _ _)
  refine wpIn_any (m := 7) (wpIn_mono hbd' ?_)
  rintro e a3 w3 ⟨μ3, env3, H3, r1, r2, r3, r4, r5⟩
  have im2 : ∀ {D : Nat} {x : Obj}, w2.heap[D]? = some x → (∀ arr ty fr, x ≠ .cells arr ty fr) → (∀ e c, x ≠ .map e c) → w3.heap[D]? = some x := fun {D x} hx n1 n2 => (r5.keeps.heap D ⟨(Array.getElem?_eq_some_iff.1 hx).1, not_live j2 hx n1 n2⟩).trans hx
  have k1 := im2 j1 (fun _ _ _ e => by cases e) fun _ _ e => by cases e
  have k2 := im2 j3 (fun _ _ _ e => by cases e) fun _ _ e => by cases e
  have core3 : core H3 w3 { rec .ready none with state := .busy } := ⟨μ3, r2, r3, j4.trans r5, k1, k2⟩
  have kw3 : KeepsWalks W w3 := ⟨Nat.le_trans hszW2 r5.keeps.size, fun k o hk ho' => (r5.keeps.heap k (hkW2 k o hk ho').1).trans (hkW2 k o hk ho').2⟩
  have kw4 : ∀ r' : Loop, KeepsWalks W (w3.putObj (w.heap.size + 1) (.loop r')) := fun r' => kw3.trans (hlp k1)
  cases e with
  | normal => exact ⟨_, _, run_endRound none k1, kw4 _, .inl ⟨rfl, H3, r1, by have := turn { rec .ready none with state := .ready, pending := none } core3; rw [hrec] at this ⊢; exact this⟩⟩
  | ret => exact ⟨_, _, run_endRound (some .ret) k1, kw4 _, .inr ⟨rfl, .ret, H3, r1, by have := turn { rec .ready none with state := .done, pending := some .ret } core3; rw [hrec] at this ⊢; exact this⟩⟩
  | exit id => exact ⟨_, _, run_endRound (some (.exit id)) k1, kw4 _, .inr ⟨rfl, .exit id, H3, r1, by have := turn { rec .ready none with state := .done, pending := some (.exit id) } core3; rw [hrec] at this ⊢; exact this⟩⟩
  | goto t => exact ⟨_, _, run_endRound (some (.goto t)) k1, kw4 _, .inr ⟨rfl, .goto t, H3, r1, by have := turn { rec .ready none with state := .done, pending := some (.goto t) } core3; rw [hrec] at this ⊢; exact this⟩⟩
  | panic ch => exact r1.elim
  | outgrown => exact r1.elim
 ·-- behind it
  rintro e W2 ⟨⟨v, rfl⟩, (⟨pre, hpm, H', hJ, hc⟩ | ⟨c, H', hJ, hc⟩)⟩
  ·obtain ⟨μ0, c1, c2, c3, c4, c5⟩ := hc
   have hc2 := turn { rec .ready none with state := .exhausted } ⟨μ0, c1, c2, c3, c4, c5⟩
   obtain ⟨_, μ', q1, q2, q3, q4⟩ := hafter hc2
   exact ⟨none, _, by have := run_endLoop (P := P) c4 (by rw [hrec]; simp); rw [hrec] at this ⊢; exact this, μ', env, H', hdone pre H' hpm hJ c1, q1, q2, q3, q4⟩
  ·obtain ⟨μ0, c1, c2, c3, c4, c5⟩ := hc
   have hc2 := turn { rec .done (some c) with state := .exhausted } ⟨μ0, c1, c2, c3, c4, c5⟩
   obtain ⟨_, μ', q1, q2, q3, q4⟩ := hafter hc2
   exact ⟨some c, _, by have := run_endLoop (P := P) c4 (by rw [hrec]; simp); rw [hrec] at this ⊢; exact this, hstop c H' hJ c1 s0 μ' _ _ q1 q2 q3 q4⟩
end Av
end Go.Proofs.YtdekcppfpgeneaaGreatDoor
set_option linter.unusedVariables false
set_option linter.unusedSimpArgs false
namespace Go.Proofs.YtdekcppfpgeneaaGreatDoor
open Go Go.RowKit
namespace Av
attribute [local irreducible] AW AOps AHOps
open Nt Rg

/-! register: names, days, per cent, runs. -/
abbrev boA (b : Bool) : AV := .d (.v (.bool b))
section
variable (base : World)
set_option maxRecDepth 100000 in
theorem day_a (n : Int) : PureA Tryz.prog base 32 [iA n] (boA (dayB n)) := by
 refine pure_enter ttOk Tryz.call32 Tryz.func32 rfl fun H hB hb hF => ?_
 rw [Tryz.results32, Tryz.ntmps32]
 simp only [arr_list, List.length_cons, List.length_nil, List.replicate, List.cons_append, List.nil_append, Nat.reduceAdd, Nat.reduceSub]
 clear hF hb
 simp only [iA]
 repeat refine aw_seq ?_
 refine zr ttOk ?_
 repeat (refine aops_cons ?_; first | (apply aops_o; rfl; simp only [estep, avs, tts, seval] <;> exact rr) | (refine zg rfl ?_; first | refine grd_on ?_ | refine zo ?_))
 refine aops_nil ?_
 unfold dayB
 cases h1 : decide (0 ≤ n) with
 | false =>
  have h1' : decide (n ≥ 0) = false := h1
  repeat refine aw_seq ?_
  refine zr ttOk ?_
  repeat (refine aops_cons ?_; first | (apply aops_o; rfl; simp only [estep, avs, tts, seval, h1'] <;> exact rr) | (refine zg rfl ?_; first | refine grd_on ?_ | refine zo ?_))
  refine aops_nil ?_
  exact aw_ret ⟨_, rfl, [], by simp, rfl⟩
 | true =>
  have h1' : decide (n ≥ 0) = true := h1
  repeat refine aw_seq ?_
  refine zr ttOk ?_
  repeat (refine aops_cons ?_; first | (apply aops_o; rfl; simp only [estep, avs, tts, seval, h1'] <;> exact rr) | (refine zg rfl ?_; first | refine grd_on ?_ | refine zo ?_))
  refine aops_nil ?_
  exact aw_ret ⟨_, rfl, [], by simp, rfl⟩
set_option maxRecDepth 100000 in
theorem pct_a (n : Int) : PureA Tryz.prog base 73 [iA n] (boA (pctB n)) := by
 refine pure_enter ttOk Tryz.call73 Tryz.func73 rfl fun H hB hb hF => ?_
 rw [Tryz.results73, Tryz.ntmps73]
 simp only [arr_list, List.length_cons, List.length_nil, List.replicate, List.cons_append, List.nil_append, Nat.reduceAdd, Nat.reduceSub]
 clear hF hb
 simp only [iA]
 repeat refine aw_seq ?_
 refine zr ttOk ?_
 repeat (refine aops_cons ?_; first | (apply aops_o; rfl; simp only [estep, avs, tts, seval] <;> exact rr) | (refine zg rfl ?_; first | refine grd_on ?_ | refine zo ?_))
 refine aops_nil ?_
 unfold pctB
 cases h1 : decide (0 ≤ n) with
 | false =>
  have h1' : decide (n ≥ 0) = false := h1
  repeat refine aw_seq ?_
  refine zr ttOk ?_
  repeat (refine aops_cons ?_; first | (apply aops_o; rfl; simp only [estep, avs, tts, seval, h1'] <;> exact rr) | (refine zg rfl ?_; first | refine grd_on ?_ | refine zo ?_))
  refine aops_nil ?_
  exact aw_ret ⟨_, rfl, [], by simp, rfl⟩
 | true =>
  have h1' : decide (n ≥ 0) = true := h1
  repeat refine aw_seq ?_
  refine zr ttOk ?_
  repeat (refine aops_cons ?_; first | (apply aops_o; rfl; simp only [estep, avs, tts, seval, h1'] <;> exact rr) | (refine zg rfl ?_; first | refine grd_on ?_ | refine zo ?_))
  refine aops_nil ?_
  exact aw_ret ⟨_, rfl, [], by simp, rfl⟩
set_option maxRecDepth 100000 in
theorem runs_a (h : Hd) (day : Int) : PureA Tryz.prog base 37 [hdA h, iA day] (boA (runsB h day)) := by
 refine pure_enter ttOk Tryz.call37 Tryz.func37 rfl fun H hB hb hF => ?_
 rw [Tryz.results37, Tryz.ntmps37]
 simp only [arr_list, List.length_cons, List.length_nil, List.replicate, List.cons_append, List.nil_append, Nat.reduceAdd, Nat.reduceSub]
 clear hF hb
 obtain ⟨id, company, holder, nominee, pledged, joint, capital, votes, fr, til⟩ := h
 simp only [iA, hdA, hdL, tA]
 repeat refine aw_seq ?_
 refine zr ttOk ?_
 repeat (refine aops_cons ?_; first | (apply aops_o; rfl; simp only [estep, avs, tts, seval] <;> exact rr) | (refine zg rfl ?_; first | refine grd_on ?_ | refine zo ?_))
 refine aops_nil ?_
 unfold runsB
 simp only
 cases h1 : decide (fr ≤ day) with
 | false =>
  have h1' : decide (day ≥ fr) = false := h1
  repeat refine aw_seq ?_
  refine zr ttOk ?_
  repeat (refine aops_cons ?_; first | (apply aops_o; rfl; simp only [estep, avs, tts, seval, h1'] <;> exact rr) | (refine zg rfl ?_; first | refine grd_on ?_ | refine zo ?_))
  refine aops_nil ?_
  exact aw_ret ⟨_, rfl, _, rfl, rfl⟩
 | true =>
  have h1' : decide (day ≥ fr) = true := h1
  cases h2 : decide (til = -1) with
  | true =>
   repeat refine aw_seq ?_
   refine zr ttOk ?_
   repeat (refine aops_cons ?_; first | (apply aops_o; rfl; simp only [estep, avs, tts, seval, h1', h2] <;> exact rr) | (refine zg rfl ?_; first | refine grd_on ?_ | refine zo ?_))
   refine aops_nil ?_
   exact aw_ret ⟨_, rfl, _, rfl, rfl⟩
  | false =>
   repeat refine aw_seq ?_
   refine zr ttOk ?_
   repeat (refine aops_cons ?_; first | (apply aops_o; rfl; simp only [estep, avs, tts, seval, h1', h2] <;> exact rr) | (refine zg rfl ?_; first | refine grd_on ?_ | refine zo ?_))
   refine aops_nil ?_
   exact aw_ret ⟨_, rfl, _, rfl, rfl⟩
theorem b8 (t : ByteArray) (i : Nat) : byAt t i < 256 := UInt8.toNat_lt _
set_option maxRecDepth 100000 in
set_option maxHeartbeats 4000000 in
theorem name_a (t : ByteArray) (ht : t.size ≤ 9223372036854775807) : PureA Tryz.prog base 39 [tA t] (boA (nameB t)) := by
 refine pure_enter ttOk Tryz.call39 Tryz.func39 rfl fun H hB hb hF => ?_
 rw [Tryz.results39, Tryz.ntmps39]
 simp only [arr_list, List.length_cons, List.length_nil, List.replicate, List.cons_append, List.nil_append, Nat.reduceAdd, Nat.reduceSub]
 clear hF hb
 simp only [tA]
 repeat refine aw_seq ?_
 refine zr ttOk ?_
 repeat (refine aops_cons ?_; first | (apply aops_o; rfl; simp only [estep, avs, tts, seval] <;> exact rr) | (refine zg rfl ?_; first | refine grd_on ?_ | refine zo ?_))
 refine aops_nil ?_
 repeat refine aw_seq ?_
 refine zr ttOk ?_
 repeat (refine aops_cons ?_; first | (apply aops_o; rfl; simp only [estep, avs, tts, seval] <;> exact rr) | (refine zg rfl ?_; first | refine grd_on ?_ | refine zo ?_))
 refine aops_nil ?_
 repeat refine aw_seq ?_
 refine aw_block (aw_loop (H0 := H) (fun r env K' => ∃ k, r = t.size - k ∧ k ≤ t.size ∧ (∀ i, i < k → okAt t i = true) ∧ K' = H ∧ env = .d (.v (.string t)) :: .undef :: .d (.v (.bool false)) :: .undef :: .undef :: .undef :: .undef :: .d (.v (.int .i64 (t.size : Int))) :: .d (.v (.int .i64 (k : Int))) :: List.replicate 45 .undef) ?_ ⟨0, rfl, Nat.zero_le _, fun i hi => by omega, rfl, rfl⟩ ?_)
 ·exact ⟨by simp [EnvLe, List.replicate], .inl rfl⟩
 rintro r env K' ⟨k, rfl, hk, hok, rfl, rfl⟩ hN
 simp only [List.replicate]
 by_cases hlt : k < t.size
 ·have g0 : decide ((k : Int) < (t.size : Int)) = true := by simpa using hlt
  have hix : (0 : Int) ≤ (k : Int) := by omega
  repeat refine aw_seq ?_
  refine zr ttOk ?_
  repeat (refine aops_cons ?_; first | (apply aops_o; rfl; simp only [estep, avs, tts, seval, g0] <;> exact rr) | (refine zg rfl ?_; first | refine grd_on ?_ | refine zo ?_))
  refine aops_nil ?_
  repeat refine aw_seq ?_
  refine aw_cond rfl rfl (fun hb => ?_) fun hb => ?_
  ·refine aw_skip ?_
   repeat refine aw_seq ?_
   refine aw_block ?_
   repeat refine aw_seq ?_
   refine zr ttOk ?_
   repeat (refine aops_cons ?_; first | (apply aops_o; rfl; simp only [estep, avs, tts, seval] <;> exact rr) | (refine zg rfl ?_; first | refine grd_on ?_ | refine zo ?_))
   refine aops_nil ?_
   repeat refine aw_seq ?_
   refine zr ttOk ?_
   repeat (refine aops_cons ?_; first | (apply aops_o; rfl; simp only [estep, avs, tts, seval, hix, hlt] <;> exact rr) | (refine zg rfl ?_; first | refine grd_on ?_ | refine zo ?_))
   refine aops_nil ?_
   obtain ⟨c, hc⟩ : ∃ c, c = byAt t k := ⟨_, rfl⟩
   have hc8 := b8 t k
   have hbt : (t.data.toList.getD k 0).toNat = c := hc.symm
   rw [← hc] at hc8
   rw [hbt]
   repeat refine aw_seq ?_
   refine aw_mid2 (Q0 := fun env K2 => K2 = K' ∧ env = .d (.v (.string t)) :: .undef :: .d (.v (.bool false)) :: .d (.v (.int .i64 (k : Int))) :: .d (.v (.int .u8 (c : Int))) :: .d (.v (.bool (letN c))) :: .undef :: .d (.v (.int .i64 (t.size : Int))) :: .d (.v (.int .i64 (k : Int))) :: List.replicate 45 .undef) ?_ ?_
   ·have fin : ∀ (env : List AV) (b : Bool), letN c = b → EnvLe env (.d (.v (.string t)) :: .undef :: .d (.v (.bool false)) :: .d (.v (.int .i64 (k : Int))) :: .d (.v (.int .u8 (c : Int))) :: .d (.v (.bool b)) :: .undef :: .d (.v (.int .i64 (t.size : Int))) :: .d (.v (.int .i64 (k : Int))) :: List.replicate 45 .undef) → (Exit.normal = Exit.normal ∧ ∃ env0 H0, Goes ⟨Tryz.prog, tt, base, K'.length, none⟩ env K' env0 H0 ∧ H0 = K' ∧ env0 = .d (.v (.string t)) :: .undef :: .d (.v (.bool false)) :: .d (.v (.int .i64 (k : Int))) :: .d (.v (.int .u8 (c : Int))) :: .d (.v (.bool (letN c))) :: .undef :: .d (.v (.int .i64 (t.size : Int))) :: .d (.v (.int .i64 (k : Int))) :: List.replicate 45 .undef) := fun env b hb he => by
     rw [hb]; exact ⟨rfl, _, _, ⟨he, .inl rfl⟩, rfl, rfl⟩
    by_cases l1 : 97 ≤ c
    ·have f1 : decide ((c : Int) ≥ 97) = true := by simp; omega
     by_cases l2 : c ≤ 122
     ·have f2 : decide ((c : Int) ≤ 122) = true := by simp; omega
      repeat refine aw_seq ?_
      refine zr ttOk ?_
      repeat (refine aops_cons ?_; first | (apply aops_o; rfl; simp only [estep, avs, tts, seval, f1, f2] <;> exact rr) | (refine zg rfl ?_; first | refine grd_on ?_ | refine zo ?_))
      refine aops_nil ?_
      exact fin _ true (by simp [letN]; omega) (by simp [EnvLe, List.replicate])
     ·have f2 : decide ((c : Int) ≤ 122) = false := by simp; omega
      have f3 : decide ((c : Int) ≥ 65) = true := by simp; omega
      have f4 : decide ((c : Int) ≤ 90) = false := by simp; omega
      repeat refine aw_seq ?_
      refine zr ttOk ?_
      repeat (refine aops_cons ?_; first | (apply aops_o; rfl; simp only [estep, avs, tts, seval, f1, f2, f3, f4] <;> exact rr) | (refine zg rfl ?_; first | refine grd_on ?_ | refine zo ?_))
      refine aops_nil ?_
      exact fin _ false (by simp [letN]; omega) (by simp [EnvLe, List.replicate])
    ·have f1 : decide ((c : Int) ≥ 97) = false := by simp; omega
     by_cases l3 : 65 ≤ c
     ·have f3 : decide ((c : Int) ≥ 65) = true := by simp; omega
      by_cases l4 : c ≤ 90
      ·have f4 : decide ((c : Int) ≤ 90) = true := by simp; omega
       repeat refine aw_seq ?_
       refine zr ttOk ?_
       repeat (refine aops_cons ?_; first | (apply aops_o; rfl; simp only [estep, avs, tts, seval, f1, f3, f4] <;> exact rr) | (refine zg rfl ?_; first | refine grd_on ?_ | refine zo ?_))
       refine aops_nil ?_
       exact fin _ true (by simp [letN]; omega) (by simp [EnvLe, List.replicate])
      ·have f4 : decide ((c : Int) ≤ 90) = false := by simp; omega
       repeat refine aw_seq ?_
       refine zr ttOk ?_
       repeat (refine aops_cons ?_; first | (apply aops_o; rfl; simp only [estep, avs, tts, seval, f1, f3, f4] <;> exact rr) | (refine zg rfl ?_; first | refine grd_on ?_ | refine zo ?_))
       refine aops_nil ?_
       exact fin _ false (by simp [letN]; omega) (by simp [EnvLe, List.replicate])
     ·have f3 : decide ((c : Int) ≥ 65) = false := by simp; omega
      repeat refine aw_seq ?_
      refine zr ttOk ?_
      repeat (refine aops_cons ?_; first | (apply aops_o; rfl; simp only [estep, avs, tts, seval, f1, f3] <;> exact rr) | (refine zg rfl ?_; first | refine grd_on ?_ | refine zo ?_))
      refine aops_nil ?_
      exact fin _ false (by simp [letN]; omega) (by simp [EnvLe, List.replicate])
   rintro env K2 ⟨rfl, rfl⟩
   simp only [List.replicate]
   repeat refine aw_seq ?_
   refine aw_mid2 (Q0 := fun env K3 => K3 = K2 ∧ env = .d (.v (.string t)) :: .undef :: .d (.v (.bool false)) :: .d (.v (.int .i64 (k : Int))) :: .d (.v (.int .u8 (c : Int))) :: .undef :: .undef :: .d (.v (.int .i64 (t.size : Int))) :: .d (.v (.int .i64 (k : Int))) :: List.replicate 36 .undef ++ .d (.v (.bool (!okAt t k))) :: List.replicate 8 .undef) ?_ ?_
   ·have hoa : okAt t k = (letN c || (decide (k ≠ 0) && (decide (c = 95) || digN c))) := by rw [okAt, ← hc]
    have fin : ∀ (env : List AV) (b : Bool), okAt t k = !b → EnvLe env (.d (.v (.string t)) :: .undef :: .d (.v (.bool false)) :: .d (.v (.int .i64 (k : Int))) :: .d (.v (.int .u8 (c : Int))) :: .undef :: .undef :: .d (.v (.int .i64 (t.size : Int))) :: .d (.v (.int .i64 (k : Int))) :: List.replicate 36 .undef ++ .d (.v (.bool b)) :: List.replicate 8 .undef) → (Exit.normal = Exit.normal ∧ ∃ env0 H0, Goes ⟨Tryz.prog, tt, base, K2.length, none⟩ env K2 env0 H0 ∧ H0 = K2 ∧ env0 = .d (.v (.string t)) :: .undef :: .d (.v (.bool false)) :: .d (.v (.int .i64 (k : Int))) :: .d (.v (.int .u8 (c : Int))) :: .undef :: .undef :: .d (.v (.int .i64 (t.size : Int))) :: .d (.v (.int .i64 (k : Int))) :: List.replicate 36 .undef ++ .d (.v (.bool (!okAt t k))) :: List.replicate 8 .undef) := fun env b hb he => by
     rw [hb, Bool.not_not]; exact ⟨rfl, _, _, ⟨he, .inl rfl⟩, rfl, rfl⟩
    cases hl : letN c with
    | true =>
     repeat refine aw_seq ?_
     refine zr ttOk ?_
     repeat (refine aops_cons ?_; first | (apply aops_o; rfl; simp only [estep, avs, tts, seval, Bool.not_true] <;> exact rr) | (refine zg rfl ?_; first | refine grd_on ?_ | refine zo ?_))
     refine aops_nil ?_
     exact fin _ false (by rw [hoa, hl]; rfl) (by simp [EnvLe, List.replicate])
    | false =>
     by_cases k0 : k = 0
     ·have f0 : decide ((k : Int) = 0) = true := by simp; omega
      repeat refine aw_seq ?_
      refine zr ttOk ?_
      repeat (refine aops_cons ?_; first | (apply aops_o; rfl; simp only [estep, avs, tts, seval, Bool.not_false, f0] <;> exact rr) | (refine zg rfl ?_; first | refine grd_on ?_ | refine zo ?_))
      refine aops_nil ?_
      exact fin _ true (by rw [hoa, hl]; simp [k0]) (by simp [EnvLe, List.replicate])
     ·have f0 : decide ((k : Int) = 0) = false := by simp; omega
      by_cases c95 : c = 95
      ·have f1 : decide ((c : Int) = 95) = true := by simp; omega
       repeat refine aw_seq ?_
       refine zr ttOk ?_
       repeat (refine aops_cons ?_; first | (apply aops_o; rfl; simp only [estep, avs, tts, seval, Bool.not_false, Bool.not_true, f0, f1] <;> exact rr) | (refine zg rfl ?_; first | refine grd_on ?_ | refine zo ?_))
       refine aops_nil ?_
       exact fin _ false (by rw [hoa, hl]; simp [k0, c95]) (by simp [EnvLe, List.replicate])
      ·have f1 : decide ((c : Int) = 95) = false := by simp; omega
       by_cases c48 : c < 48
       ·have f2 : decide ((c : Int) < 48) = true := by simp; omega
        repeat refine aw_seq ?_
        refine zr ttOk ?_
        repeat (refine aops_cons ?_; first | (apply aops_o; rfl; simp only [estep, avs, tts, seval, Bool.not_false, Bool.not_true, f0, f1, f2] <;> exact rr) | (refine zg rfl ?_; first | refine grd_on ?_ | refine zo ?_))
        refine aops_nil ?_
        exact fin _ true (by rw [hoa, hl]; simp [c95, digN]; omega) (by simp [EnvLe, List.replicate])
       ·have f2 : decide ((c : Int) < 48) = false := by simp; omega
        by_cases c57 : c ≤ 57
        ·have f3 : decide ((c : Int) > 57) = false := by simp; omega
         repeat refine aw_seq ?_
         refine zr ttOk ?_
         repeat (refine aops_cons ?_; first | (apply aops_o; rfl; simp only [estep, avs, tts, seval, Bool.not_false, Bool.not_true, f0, f1, f2, f3] <;> exact rr) | (refine zg rfl ?_; first | refine grd_on ?_ | refine zo ?_))
         refine aops_nil ?_
         exact fin _ false (by rw [hoa, hl]; simp [k0, digN]; omega) (by simp [EnvLe, List.replicate])
        ·have f3 : decide ((c : Int) > 57) = true := by simp; omega
         repeat refine aw_seq ?_
         refine zr ttOk ?_
         repeat (refine aops_cons ?_; first | (apply aops_o; rfl; simp only [estep, avs, tts, seval, Bool.not_false, Bool.not_true, f0, f1, f2, f3] <;> exact rr) | (refine zg rfl ?_; first | refine grd_on ?_ | refine zo ?_))
         refine aops_nil ?_
         exact fin _ true (by rw [hoa, hl]; simp [c95, digN]; omega) (by simp [EnvLe, List.replicate])
   rintro env K3 ⟨rfl, rfl⟩
   simp only [rp]
   cases ho : okAt t k with
   | false =>
    repeat refine aw_seq ?_
    refine aw_cond rfl rfl (fun hb => ?_) fun hb => ?_
    ·repeat refine aw_seq ?_
     refine zr ttOk ?_
     repeat (refine aops_cons ?_; first | (apply aops_o; rfl; simp only [estep, avs, tts, seval] <;> exact rr) | (refine zg rfl ?_; first | refine grd_on ?_ | refine zo ?_))
     refine aops_nil ?_
     exact aw_ret ⟨_, rfl, [], by simp, by rw [nameB_no hlt ho]; rfl⟩
    ·cases hb
   | true =>
    repeat refine aw_seq ?_
    refine aw_cond rfl rfl (fun hb => ?_) fun hb => ?_
    ·cases hb
    refine aw_skip ?_
    have w1 : IntKind.i64.wrap ((k : Int) + 1) = ((k + 1 : Nat) : Int) := by rw [IntKind.wrap_i64]; omega
    show AW _ _ _ _ _
    repeat refine aw_seq ?_
    refine zr ttOk ?_
    repeat (refine aops_cons ?_; first | (apply aops_o; rfl; simp only [estep, avs, tts, seval, w1] <;> exact rr) | (refine zg rfl ?_; first | refine grd_on ?_ | refine zo ?_))
    refine aops_nil ?_
    refine ⟨t.size - (k + 1), _, _, by omega, ⟨?_, .inl rfl⟩, k + 1, rfl, hlt, fun i hi => ?_, rfl, rfl⟩
    ·simp [EnvLe, List.replicate]
    ·rcases Nat.lt_succ_iff_lt_or_eq.1 hi with h | h
     ·exact hok i h
     ·rw [h]; exact ho
  ·cases hb
 ·have hk2 : k = t.size := by omega
  have g0 : decide ((k : Int) < (t.size : Int)) = false := by simpa using hlt
  have hal := nameB_all (t := t) fun i hi => hok i (by omega)
  repeat refine aw_seq ?_
  refine zr ttOk ?_
  repeat (refine aops_cons ?_; first | (apply aops_o; rfl; simp only [estep, avs, tts, seval, g0] <;> exact rr) | (refine zg rfl ?_; first | refine grd_on ?_ | refine zo ?_))
  refine aops_nil ?_
  repeat refine aw_seq ?_
  refine aw_cond rfl rfl (fun hb => ?_) fun hb => ?_
  ·cases hb
  refine aw_exit ?_
  rw [hal]
  show AW _ _ _ _ _
  cases he : decide (t = ⟨#[]⟩) with
  | true =>
   repeat refine aw_seq ?_
   refine zr ttOk ?_
   repeat (refine aops_cons ?_; first | (apply aops_o; rfl; simp only [estep, avs, tts, seval, he, Bool.not_true, Bool.not_false] <;> exact rr) | (refine zg rfl ?_; first | refine grd_on ?_ | refine zo ?_))
   refine aops_nil ?_
   exact aw_ret ⟨_, rfl, [], by simp, rfl⟩
  | false =>
   have h24 : decide ((t.size : Int) ≤ 24) = decide (t.size ≤ 24) := decide_eq_decide.2 (by omega)
   repeat refine aw_seq ?_
   refine zr ttOk ?_
   repeat (refine aops_cons ?_; first | (apply aops_o; rfl; simp only [estep, avs, tts, seval, he, h24, Bool.not_true, Bool.not_false] <;> exact rr) | (refine zg rfl ?_; first | refine grd_on ?_ | refine zo ?_))
   refine aops_nil ?_
   exact aw_ret ⟨_, rfl, [], by simp, rfl⟩
end
end Av
end Go.Proofs.YtdekcppfpgeneaaGreatDoor
