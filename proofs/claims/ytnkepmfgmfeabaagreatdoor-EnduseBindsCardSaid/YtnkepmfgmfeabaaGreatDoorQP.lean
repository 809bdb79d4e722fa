import Derived.Test.YtnkepmfgmfeabaaGreatDoorQ6
import Derived.Test.YtnkepmfgmfeabaaGreatDoorQ5
set_option linter.unusedVariables false
set_option linter.unusedSimpArgs false
namespace Go.Proofs.YtnkepmfgmfeabaaGreatDoor
open Go Go.RowKit
namespace Av
attribute [local irreducible] AW AOps AHOps
attribute [local irreducible] messT sigT pubT verT

/-! The law Binds. -/
theorem rproper_a (base : World) (x : Stm) (hZ : x.Sized 4611686018427387904) : PureA Tryz.prog base 7 [.agg ((stmC x).map .d)] (.d (.v (.bool (properB x)))) :=
 pure_scalar Tryz.call7 trivial fun s vs hs ha => by
  obtain ⟨vu, vi, vs, vp, t, e, hS, ha⟩ := args_stm ha
  rw [args_nil ha] at e
  rw [arr1 e]
  exact rproper_calls x vu vi vs vp s.w hS hZ
theorem same29_a (base : World) (x y : Stm) : PureA Tryz.prog base 8 [.agg ((stmC x).map .d), .agg ((stmC y).map .d)] (.d (.v (.bool (sameSt x y)))) :=
 pure_scalar Tryz.call8 trivial fun s vs hs ha => by
  obtain ⟨vu, vi, ws, vp, t, e, hS, ha⟩ := args_stm ha
  obtain ⟨vu2, vi2, ws2, vp2, t2, e2, hS2, ha⟩ := args_stm ha
  rw [e2, args_nil ha] at e
  rw [show vs = #[.agg (stmCells x vu vi ws vp), .agg (stmCells y vu2 vi2 ws2 vp2)] from Array.toList_inj.1 e]
  exact same29_calls x y vu vi ws vp vu2 vi2 ws2 vp2 s.w hS hS2
theorem joined_a (base : World) (l : List ByteArray) (hN : needN l ≤ 70368744177664) (hJ : (joinB l).length ≤ 70368744177664) : PureA Tryz.prog base 9 [.d (strsP l)] (.d (.v (.string (bS (joinB l))))) :=
 pure_scalar Tryz.call9 (by show (bS (joinB l)).size ≤ _; rw [bS_size]; omega) fun s vs hs ha => by
  obtain ⟨v, t, e, hv, ha⟩ := args_strs ha
  rw [args_nil ha] at e
  rw [arr1 e]
  exact joined_calls v l s.w hv.strs hN hJ
theorem sum29_a {base : World} (hT : Tabs base) (t : ByteArray) (ht : t.size ≤ 4611686018427387904) : PureA Tryz.prog base 12 [.d (.v (.string t))] (.d (.v (.string (sumS t)))) :=
 pure_scalar Tryz.call12 (by show (sumS t).size ≤ _; rw [sumS_size]; decide) fun s vs hs ha => by
  obtain ⟨t2, e, ha, _⟩ := args_str ha
  rw [args_nil ha] at e
  rw [arr1 e]
  exact sum_calls t ht s.w (tabs_s hs hT)
theorem short_sized {s : Stm} (h : shortS s = true) : s.Sized 4611686018427387904 := by
 unfold shortS at h
 simp only [Bool.and_eq_true, List.all_eq_true, decide_eq_true_eq] at h
 obtain ⟨⟨⟨⟨⟨⟨⟨h1, h2⟩, h3⟩, h4⟩, h5⟩, h6⟩, h7⟩, h8⟩ := h
 unfold fewS at h6
 simp only [Bool.and_eq_true, List.all_eq_true, decide_eq_true_eq] at h6
 refine ⟨by omega, by omega, by omega, fun t ht => by have := h7 t ht; omega, fun y hy => by have := h8 y hy; omega, ?_, ?_⟩
 ·intro t ht
  have := List.all_eq_true.1 h6.2.2.1 t ht
  simp only [decide_eq_true_eq] at this
  omega
 ·intro t ht
  have := List.all_eq_true.1 h6.2.2.2 t ht
  simp only [decide_eq_true_eq] at this
  omega
set_option maxRecDepth 100000 in
set_option maxHeartbeats 8000000 in
theorem binds_a {base : World} (hT : Tabs base) (a b : Stm) : CallsA Tryz.prog base 3 [.agg ((stmC a).map .d), .agg ((stmC b).map .d)] [] fun r H' => r = bA true := by
 refine callsA_enter ttOk Tryz.call3 Tryz.func3 rfl fun hB hb hF => ?_
 rw [Tryz.results3, Tryz.ntmps3]
 simp only [arr_list, List.length_cons, List.length_nil, List.replicate, List.cons_append, List.nil_append, Nat.reduceAdd, Nat.reduceSub]
 have za := sized_of_fct hF.1
 have zb := sized_of_fct hF.2.1
 clear hF
 simp only [stmC, List.map_cons, List.map_nil]
 repeat refine aw_seq ?_
 refine aw_region ttOk (by kernel_rfl) ?_
 repeat (refine aops_cons ?_; first | (apply aops_o; rfl; simp only [estep, avs, tts, Nat.reduceAdd, Nat.reduceMul, Nat.reduceSub, Nat.reduceEqDiff, Nat.reduceLT, Nat.reduceLeDiff, Int.reduceToNat, Int.reduceLE, Int.reduceLT, Int.toNat_natCast, reduceCtorEq, strsP, inpsP] <;> (first | with_reducible rfl | rfl)) | (refine aops_grd rfl (by simp only [avs] <;> rfl) (by rfl) ?_; first | refine grd_on ?_ | refine grd_off (by simp only [avs] <;> rfl) ?_))
 refine aops_nil ?_
 repeat refine aw_seq ?_
 refine aw_region ttOk (by kernel_rfl) ?_
 repeat (refine aops_cons ?_; first | (apply aops_o; rfl; simp only [estep, avs, tts, Nat.reduceAdd, Nat.reduceMul, Nat.reduceSub, Nat.reduceEqDiff, Nat.reduceLT, Nat.reduceLeDiff, Int.reduceToNat, Int.reduceLE, Int.reduceLT, Int.toNat_natCast, reduceCtorEq] <;> (first | with_reducible rfl | rfl)) | (refine aops_grd rfl (by simp only [avs] <;> rfl) (by rfl) ?_; first | refine grd_on ?_ | refine grd_off (by simp only [avs] <;> rfl) ?_))
 refine aops_call rfl (by simp only [avs, tts] <;> rfl) ⟨_, head29_a hT, ?_⟩
 rintro r H' ⟨rfl, hk⟩ hl2
 repeat (refine aops_cons ?_; first | (apply aops_o; rfl; simp only [estep, avs, tts, Nat.reduceAdd, Nat.reduceMul, Nat.reduceSub, Nat.reduceEqDiff, Nat.reduceLT, Nat.reduceLeDiff, Int.reduceToNat, Int.reduceLE, Int.reduceLT, Int.toNat_natCast, reduceCtorEq, bA] <;> (first | with_reducible rfl | rfl)) | (refine aops_grd rfl (by simp only [avs] <;> rfl) (by rfl) ?_; first | refine grd_on ?_ | refine grd_off (by simp only [avs] <;> rfl) ?_))
 refine aops_nil ?_
 have hta := hk 0 _ rfl rfl
 have htb := hk 1 _ rfl rfl
 clear hk
 have l1 := lt_of_get hta
 have l2 := lt_of_get htb
 have c1 := short_a base a za
 have c2 := short_a base b zb
 cases h1 : shortS a with
 | false =>
  rw [h1] at c1
  repeat refine aw_seq ?_
  refine aw_region ttOk (by kernel_rfl) ?_
  repeat (refine aops_cons ?_; first | (apply aops_o; rfl; simp only [estep, avs, tts, Nat.reduceAdd, Nat.reduceMul, Nat.reduceSub, Nat.reduceEqDiff, Nat.reduceLT, Nat.reduceLeDiff, Int.reduceToNat, Int.reduceLE, Int.reduceLT, Int.toNat_natCast, reduceCtorEq, hta] <;> (first | with_reducible rfl | rfl)) | (refine aops_grd rfl (by simp only [avs] <;> rfl) (by rfl) ?_; first | refine grd_on ?_ | refine grd_off (by simp only [avs] <;> rfl) ?_))
  refine aops_pure rfl (by simp only [avs] <;> rfl) (c1) (by simp only [avs] <;> rfl) ?_
  repeat (refine aops_cons ?_; first | (apply aops_o; rfl; simp only [estep, avs, tts, Nat.reduceAdd, Nat.reduceMul, Nat.reduceSub, Nat.reduceEqDiff, Nat.reduceLT, Nat.reduceLeDiff, Int.reduceToNat, Int.reduceLE, Int.reduceLT, Int.toNat_natCast, reduceCtorEq, hta, htb, Bool.not_false, Bool.not_true] <;> (first | with_reducible rfl | rfl)) | (refine aops_grd rfl (by simp only [avs] <;> rfl) (by rfl) ?_; first | refine grd_on ?_ | refine grd_off (by simp only [avs] <;> rfl) ?_))
  refine aops_nil ?_
  repeat refine aw_seq ?_
  refine aw_cond rfl rfl (fun hb => ?_) fun hb => ?_
  ·repeat refine aw_seq ?_
   refine aw_region ttOk (by kernel_rfl) ?_
   repeat (refine aops_cons ?_; first | (apply aops_o; rfl; simp only [estep, avs, tts, Nat.reduceAdd, Nat.reduceMul, Nat.reduceSub, Nat.reduceEqDiff, Nat.reduceLT, Nat.reduceLeDiff, Int.reduceToNat, Int.reduceLE, Int.reduceLT, Int.toNat_natCast, reduceCtorEq] <;> (first | with_reducible rfl | rfl)) | (refine aops_grd rfl (by simp only [avs] <;> rfl) (by rfl) ?_; first | refine grd_on ?_ | refine grd_off (by simp only [avs] <;> rfl) ?_))
   refine aops_nil ?_
   exact aw_ret ⟨_, rfl, rfl⟩
  ·cases hb
 | true =>
 rw [h1] at c1
 cases h2 : shortS b with
 | false =>
  rw [h2] at c2
  repeat refine aw_seq ?_
  refine aw_region ttOk (by kernel_rfl) ?_
  repeat (refine aops_cons ?_; first | (apply aops_o; rfl; simp only [estep, avs, tts, Nat.reduceAdd, Nat.reduceMul, Nat.reduceSub, Nat.reduceEqDiff, Nat.reduceLT, Nat.reduceLeDiff, Int.reduceToNat, Int.reduceLE, Int.reduceLT, Int.toNat_natCast, reduceCtorEq, hta] <;> (first | with_reducible rfl | rfl)) | (refine aops_grd rfl (by simp only [avs] <;> rfl) (by rfl) ?_; first | refine grd_on ?_ | refine grd_off (by simp only [avs] <;> rfl) ?_))
  refine aops_pure rfl (by simp only [avs] <;> rfl) (c1) (by simp only [avs] <;> rfl) ?_
  repeat (refine aops_cons ?_; first | (apply aops_o; rfl; simp only [estep, avs, tts, Nat.reduceAdd, Nat.reduceMul, Nat.reduceSub, Nat.reduceEqDiff, Nat.reduceLT, Nat.reduceLeDiff, Int.reduceToNat, Int.reduceLE, Int.reduceLT, Int.toNat_natCast, reduceCtorEq, hta, htb, Bool.not_false, Bool.not_true] <;> (first | with_reducible rfl | rfl)) | (refine aops_grd rfl (by simp only [avs] <;> rfl) (by rfl) ?_; first | refine grd_on ?_ | refine grd_off (by simp only [avs] <;> rfl) ?_))
  refine aops_pure rfl (by simp only [avs] <;> rfl) (c2) (by simp only [avs] <;> rfl) ?_
  repeat (refine aops_cons ?_; first | (apply aops_o; rfl; simp only [estep, avs, tts, Nat.reduceAdd, Nat.reduceMul, Nat.reduceSub, Nat.reduceEqDiff, Nat.reduceLT, Nat.reduceLeDiff, Int.reduceToNat, Int.reduceLE, Int.reduceLT, Int.toNat_natCast, reduceCtorEq, hta, htb, Bool.not_false, Bool.not_true] <;> (first | with_reducible rfl | rfl)) | (refine aops_grd rfl (by simp only [avs] <;> rfl) (by rfl) ?_; first | refine grd_on ?_ | refine grd_off (by simp only [avs] <;> rfl) ?_))
  refine aops_nil ?_
  repeat refine aw_seq ?_
  refine aw_cond rfl rfl (fun hb => ?_) fun hb => ?_
  ·repeat refine aw_seq ?_
   refine aw_region ttOk (by kernel_rfl) ?_
   repeat (refine aops_cons ?_; first | (apply aops_o; rfl; simp only [estep, avs, tts, Nat.reduceAdd, Nat.reduceMul, Nat.reduceSub, Nat.reduceEqDiff, Nat.reduceLT, Nat.reduceLeDiff, Int.reduceToNat, Int.reduceLE, Int.reduceLT, Int.toNat_natCast, reduceCtorEq] <;> (first | with_reducible rfl | rfl)) | (refine aops_grd rfl (by simp only [avs] <;> rfl) (by rfl) ?_; first | refine grd_on ?_ | refine grd_off (by simp only [avs] <;> rfl) ?_))
   refine aops_nil ?_
   exact aw_ret ⟨_, rfl, rfl⟩
  ·cases hb
 | true =>
 rw [h2] at c2
 have c3 := rproper_a base a (short_sized h1)
 have c4 := rproper_a base b (short_sized h2)
 have c5 := same29_a base a b
 cases h3 : properB a with
 | false =>
  rw [h3] at c3
  repeat refine aw_seq ?_
  refine aw_region ttOk (by kernel_rfl) ?_
  repeat (refine aops_cons ?_; first | (apply aops_o; rfl; simp only [estep, avs, tts, Nat.reduceAdd, Nat.reduceMul, Nat.reduceSub, Nat.reduceEqDiff, Nat.reduceLT, Nat.reduceLeDiff, Int.reduceToNat, Int.reduceLE, Int.reduceLT, Int.toNat_natCast, reduceCtorEq, hta] <;> (first | with_reducible rfl | rfl)) | (refine aops_grd rfl (by simp only [avs] <;> rfl) (by rfl) ?_; first | refine grd_on ?_ | refine grd_off (by simp only [avs] <;> rfl) ?_))
  refine aops_pure rfl (by simp only [avs] <;> rfl) (c1) (by simp only [avs] <;> rfl) ?_
  repeat (refine aops_cons ?_; first | (apply aops_o; rfl; simp only [estep, avs, tts, Nat.reduceAdd, Nat.reduceMul, Nat.reduceSub, Nat.reduceEqDiff, Nat.reduceLT, Nat.reduceLeDiff, Int.reduceToNat, Int.reduceLE, Int.reduceLT, Int.toNat_natCast, reduceCtorEq, hta, htb, Bool.not_false, Bool.not_true] <;> (first | with_reducible rfl | rfl)) | (refine aops_grd rfl (by simp only [avs] <;> rfl) (by rfl) ?_; first | refine grd_on ?_ | refine grd_off (by simp only [avs] <;> rfl) ?_))
  refine aops_pure rfl (by simp only [avs] <;> rfl) (c2) (by simp only [avs] <;> rfl) ?_
  repeat (refine aops_cons ?_; first | (apply aops_o; rfl; simp only [estep, avs, tts, Nat.reduceAdd, Nat.reduceMul, Nat.reduceSub, Nat.reduceEqDiff, Nat.reduceLT, Nat.reduceLeDiff, Int.reduceToNat, Int.reduceLE, Int.reduceLT, Int.toNat_natCast, reduceCtorEq, hta, htb, Bool.not_false, Bool.not_true] <;> (first | with_reducible rfl | rfl)) | (refine aops_grd rfl (by simp only [avs] <;> rfl) (by rfl) ?_; first | refine grd_on ?_ | refine grd_off (by simp only [avs] <;> rfl) ?_))
  refine aops_pure rfl (by simp only [avs] <;> rfl) (c3) (by simp only [avs] <;> rfl) ?_
  repeat (refine aops_cons ?_; first | (apply aops_o; rfl; simp only [estep, avs, tts, Nat.reduceAdd, Nat.reduceMul, Nat.reduceSub, Nat.reduceEqDiff, Nat.reduceLT, Nat.reduceLeDiff, Int.reduceToNat, Int.reduceLE, Int.reduceLT, Int.toNat_natCast, reduceCtorEq, hta, htb, Bool.not_false, Bool.not_true] <;> (first | with_reducible rfl | rfl)) | (refine aops_grd rfl (by simp only [avs] <;> rfl) (by rfl) ?_; first | refine grd_on ?_ | refine grd_off (by simp only [avs] <;> rfl) ?_))
  refine aops_nil ?_
  repeat refine aw_seq ?_
  refine aw_cond rfl rfl (fun hb => ?_) fun hb => ?_
  ·repeat refine aw_seq ?_
   refine aw_region ttOk (by kernel_rfl) ?_
   repeat (refine aops_cons ?_; first | (apply aops_o; rfl; simp only [estep, avs, tts, Nat.reduceAdd, Nat.reduceMul, Nat.reduceSub, Nat.reduceEqDiff, Nat.reduceLT, Nat.reduceLeDiff, Int.reduceToNat, Int.reduceLE, Int.reduceLT, Int.toNat_natCast, reduceCtorEq] <;> (first | with_reducible rfl | rfl)) | (refine aops_grd rfl (by simp only [avs] <;> rfl) (by rfl) ?_; first | refine grd_on ?_ | refine grd_off (by simp only [avs] <;> rfl) ?_))
   refine aops_nil ?_
   exact aw_ret ⟨_, rfl, rfl⟩
  ·cases hb
 | true =>
 rw [h3] at c3
 cases h4 : properB b with
 | false =>
  rw [h4] at c4
  repeat refine aw_seq ?_
  refine aw_region ttOk (by kernel_rfl) ?_
  repeat (refine aops_cons ?_; first | (apply aops_o; rfl; simp only [estep, avs, tts, Nat.reduceAdd, Nat.reduceMul, Nat.reduceSub, Nat.reduceEqDiff, Nat.reduceLT, Nat.reduceLeDiff, Int.reduceToNat, Int.reduceLE, Int.reduceLT, Int.toNat_natCast, reduceCtorEq, hta] <;> (first | with_reducible rfl | rfl)) | (refine aops_grd rfl (by simp only [avs] <;> rfl) (by rfl) ?_; first | refine grd_on ?_ | refine grd_off (by simp only [avs] <;> rfl) ?_))
  refine aops_pure rfl (by simp only [avs] <;> rfl) (c1) (by simp only [avs] <;> rfl) ?_
  repeat (refine aops_cons ?_; first | (apply aops_o; rfl; simp only [estep, avs, tts, Nat.reduceAdd, Nat.reduceMul, Nat.reduceSub, Nat.reduceEqDiff, Nat.reduceLT, Nat.reduceLeDiff, Int.reduceToNat, Int.reduceLE, Int.reduceLT, Int.toNat_natCast, reduceCtorEq, hta, htb, Bool.not_false, Bool.not_true] <;> (first | with_reducible rfl | rfl)) | (refine aops_grd rfl (by simp only [avs] <;> rfl) (by rfl) ?_; first | refine grd_on ?_ | refine grd_off (by simp only [avs] <;> rfl) ?_))
  refine aops_pure rfl (by simp only [avs] <;> rfl) (c2) (by simp only [avs] <;> rfl) ?_
  repeat (refine aops_cons ?_; first | (apply aops_o; rfl; simp only [estep, avs, tts, Nat.reduceAdd, Nat.reduceMul, Nat.reduceSub, Nat.reduceEqDiff, Nat.reduceLT, Nat.reduceLeDiff, Int.reduceToNat, Int.reduceLE, Int.reduceLT, Int.toNat_natCast, reduceCtorEq, hta, htb, Bool.not_false, Bool.not_true] <;> (first | with_reducible rfl | rfl)) | (refine aops_grd rfl (by simp only [avs] <;> rfl) (by rfl) ?_; first | refine grd_on ?_ | refine grd_off (by simp only [avs] <;> rfl) ?_))
  refine aops_pure rfl (by simp only [avs] <;> rfl) (c3) (by simp only [avs] <;> rfl) ?_
  repeat (refine aops_cons ?_; first | (apply aops_o; rfl; simp only [estep, avs, tts, Nat.reduceAdd, Nat.reduceMul, Nat.reduceSub, Nat.reduceEqDiff, Nat.reduceLT, Nat.reduceLeDiff, Int.reduceToNat, Int.reduceLE, Int.reduceLT, Int.toNat_natCast, reduceCtorEq, hta, htb, Bool.not_false, Bool.not_true] <;> (first | with_reducible rfl | rfl)) | (refine aops_grd rfl (by simp only [avs] <;> rfl) (by rfl) ?_; first | refine grd_on ?_ | refine grd_off (by simp only [avs] <;> rfl) ?_))
  refine aops_pure rfl (by simp only [avs] <;> rfl) (c4) (by simp only [avs] <;> rfl) ?_
  repeat (refine aops_cons ?_; first | (apply aops_o; rfl; simp only [estep, avs, tts, Nat.reduceAdd, Nat.reduceMul, Nat.reduceSub, Nat.reduceEqDiff, Nat.reduceLT, Nat.reduceLeDiff, Int.reduceToNat, Int.reduceLE, Int.reduceLT, Int.toNat_natCast, reduceCtorEq, hta, htb, Bool.not_false, Bool.not_true] <;> (first | with_reducible rfl | rfl)) | (refine aops_grd rfl (by simp only [avs] <;> rfl) (by rfl) ?_; first | refine grd_on ?_ | refine grd_off (by simp only [avs] <;> rfl) ?_))
  refine aops_nil ?_
  repeat refine aw_seq ?_
  refine aw_cond rfl rfl (fun hb => ?_) fun hb => ?_
  ·repeat refine aw_seq ?_
   refine aw_region ttOk (by kernel_rfl) ?_
   repeat (refine aops_cons ?_; first | (apply aops_o; rfl; simp only [estep, avs, tts, Nat.reduceAdd, Nat.reduceMul, Nat.reduceSub, Nat.reduceEqDiff, Nat.reduceLT, Nat.reduceLeDiff, Int.reduceToNat, Int.reduceLE, Int.reduceLT, Int.toNat_natCast, reduceCtorEq] <;> (first | with_reducible rfl | rfl)) | (refine aops_grd rfl (by simp only [avs] <;> rfl) (by rfl) ?_; first | refine grd_on ?_ | refine grd_off (by simp only [avs] <;> rfl) ?_))
   refine aops_nil ?_
   exact aw_ret ⟨_, rfl, rfl⟩
  ·cases hb
 | true =>
 rw [h4] at c4
 cases h5 : sameSt a b with
 | true =>
  rw [h5] at c5
  repeat refine aw_seq ?_
  refine aw_region ttOk (by kernel_rfl) ?_
  repeat (refine aops_cons ?_; first | (apply aops_o; rfl; simp only [estep, avs, tts, Nat.reduceAdd, Nat.reduceMul, Nat.reduceSub, Nat.reduceEqDiff, Nat.reduceLT, Nat.reduceLeDiff, Int.reduceToNat, Int.reduceLE, Int.reduceLT, Int.toNat_natCast, reduceCtorEq, hta] <;> (first | with_reducible rfl | rfl)) | (refine aops_grd rfl (by simp only [avs] <;> rfl) (by rfl) ?_; first | refine grd_on ?_ | refine grd_off (by simp only [avs] <;> rfl) ?_))
  refine aops_pure rfl (by simp only [avs] <;> rfl) (c1) (by simp only [avs] <;> rfl) ?_
  repeat (refine aops_cons ?_; first | (apply aops_o; rfl; simp only [estep, avs, tts, Nat.reduceAdd, Nat.reduceMul, Nat.reduceSub, Nat.reduceEqDiff, Nat.reduceLT, Nat.reduceLeDiff, Int.reduceToNat, Int.reduceLE, Int.reduceLT, Int.toNat_natCast, reduceCtorEq, hta, htb, Bool.not_false, Bool.not_true] <;> (first | with_reducible rfl | rfl)) | (refine aops_grd rfl (by simp only [avs] <;> rfl) (by rfl) ?_; first | refine grd_on ?_ | refine grd_off (by simp only [avs] <;> rfl) ?_))
  refine aops_pure rfl (by simp only [avs] <;> rfl) (c2) (by simp only [avs] <;> rfl) ?_
  repeat (refine aops_cons ?_; first | (apply aops_o; rfl; simp only [estep, avs, tts, Nat.reduceAdd, Nat.reduceMul, Nat.reduceSub, Nat.reduceEqDiff, Nat.reduceLT, Nat.reduceLeDiff, Int.reduceToNat, Int.reduceLE, Int.reduceLT, Int.toNat_natCast, reduceCtorEq, hta, htb, Bool.not_false, Bool.not_true] <;> (first | with_reducible rfl | rfl)) | (refine aops_grd rfl (by simp only [avs] <;> rfl) (by rfl) ?_; first | refine grd_on ?_ | refine grd_off (by simp only [avs] <;> rfl) ?_))
  refine aops_pure rfl (by simp only [avs] <;> rfl) (c3) (by simp only [avs] <;> rfl) ?_
  repeat (refine aops_cons ?_; first | (apply aops_o; rfl; simp only [estep, avs, tts, Nat.reduceAdd, Nat.reduceMul, Nat.reduceSub, Nat.reduceEqDiff, Nat.reduceLT, Nat.reduceLeDiff, Int.reduceToNat, Int.reduceLE, Int.reduceLT, Int.toNat_natCast, reduceCtorEq, hta, htb, Bool.not_false, Bool.not_true] <;> (first | with_reducible rfl | rfl)) | (refine aops_grd rfl (by simp only [avs] <;> rfl) (by rfl) ?_; first | refine grd_on ?_ | refine grd_off (by simp only [avs] <;> rfl) ?_))
  refine aops_pure rfl (by simp only [avs] <;> rfl) (c4) (by simp only [avs] <;> rfl) ?_
  repeat (refine aops_cons ?_; first | (apply aops_o; rfl; simp only [estep, avs, tts, Nat.reduceAdd, Nat.reduceMul, Nat.reduceSub, Nat.reduceEqDiff, Nat.reduceLT, Nat.reduceLeDiff, Int.reduceToNat, Int.reduceLE, Int.reduceLT, Int.toNat_natCast, reduceCtorEq, hta, htb, Bool.not_false, Bool.not_true] <;> (first | with_reducible rfl | rfl)) | (refine aops_grd rfl (by simp only [avs] <;> rfl) (by rfl) ?_; first | refine grd_on ?_ | refine grd_off (by simp only [avs] <;> rfl) ?_))
  refine aops_pure rfl (by simp only [avs] <;> rfl) (c5) (by simp only [avs] <;> rfl) ?_
  repeat (refine aops_cons ?_; first | (apply aops_o; rfl; simp only [estep, avs, tts, Nat.reduceAdd, Nat.reduceMul, Nat.reduceSub, Nat.reduceEqDiff, Nat.reduceLT, Nat.reduceLeDiff, Int.reduceToNat, Int.reduceLE, Int.reduceLT, Int.toNat_natCast, reduceCtorEq, hta, htb, Bool.not_false, Bool.not_true] <;> (first | with_reducible rfl | rfl)) | (refine aops_grd rfl (by simp only [avs] <;> rfl) (by rfl) ?_; first | refine grd_on ?_ | refine grd_off (by simp only [avs] <;> rfl) ?_))
  refine aops_nil ?_
  repeat refine aw_seq ?_
  refine aw_cond rfl rfl (fun hb => ?_) fun hb => ?_
  ·repeat refine aw_seq ?_
   refine aw_region ttOk (by kernel_rfl) ?_
   repeat (refine aops_cons ?_; first | (apply aops_o; rfl; simp only [estep, avs, tts, Nat.reduceAdd, Nat.reduceMul, Nat.reduceSub, Nat.reduceEqDiff, Nat.reduceLT, Nat.reduceLeDiff, Int.reduceToNat, Int.reduceLE, Int.reduceLT, Int.toNat_natCast, reduceCtorEq] <;> (first | with_reducible rfl | rfl)) | (refine aops_grd rfl (by simp only [avs] <;> rfl) (by rfl) ?_; first | refine grd_on ?_ | refine grd_off (by simp only [avs] <;> rfl) ?_))
   refine aops_nil ?_
   exact aw_ret ⟨_, rfl, rfl⟩
  ·cases hb
 | false =>
 rw [h5] at c5
 repeat refine aw_seq ?_
 refine aw_region ttOk (by kernel_rfl) ?_
 repeat (refine aops_cons ?_; first | (apply aops_o; rfl; simp only [estep, avs, tts, Nat.reduceAdd, Nat.reduceMul, Nat.reduceSub, Nat.reduceEqDiff, Nat.reduceLT, Nat.reduceLeDiff, Int.reduceToNat, Int.reduceLE, Int.reduceLT, Int.toNat_natCast, reduceCtorEq, hta] <;> (first | with_reducible rfl | rfl)) | (refine aops_grd rfl (by simp only [avs] <;> rfl) (by rfl) ?_; first | refine grd_on ?_ | refine grd_off (by simp only [avs] <;> rfl) ?_))
 refine aops_pure rfl (by simp only [avs] <;> rfl) (c1) (by simp only [avs] <;> rfl) ?_
 repeat (refine aops_cons ?_; first | (apply aops_o; rfl; simp only [estep, avs, tts, Nat.reduceAdd, Nat.reduceMul, Nat.reduceSub, Nat.reduceEqDiff, Nat.reduceLT, Nat.reduceLeDiff, Int.reduceToNat, Int.reduceLE, Int.reduceLT, Int.toNat_natCast, reduceCtorEq, hta, htb, Bool.not_false, Bool.not_true] <;> (first | with_reducible rfl | rfl)) | (refine aops_grd rfl (by simp only [avs] <;> rfl) (by rfl) ?_; first | refine grd_on ?_ | refine grd_off (by simp only [avs] <;> rfl) ?_))
 refine aops_pure rfl (by simp only [avs] <;> rfl) (c2) (by simp only [avs] <;> rfl) ?_
 repeat (refine aops_cons ?_; first | (apply aops_o; rfl; simp only [estep, avs, tts, Nat.reduceAdd, Nat.reduceMul, Nat.reduceSub, Nat.reduceEqDiff, Nat.reduceLT, Nat.reduceLeDiff, Int.reduceToNat, Int.reduceLE, Int.reduceLT, Int.toNat_natCast, reduceCtorEq, hta, htb, Bool.not_false, Bool.not_true] <;> (first | with_reducible rfl | rfl)) | (refine aops_grd rfl (by simp only [avs] <;> rfl) (by rfl) ?_; first | refine grd_on ?_ | refine grd_off (by simp only [avs] <;> rfl) ?_))
 refine aops_pure rfl (by simp only [avs] <;> rfl) (c3) (by simp only [avs] <;> rfl) ?_
 repeat (refine aops_cons ?_; first | (apply aops_o; rfl; simp only [estep, avs, tts, Nat.reduceAdd, Nat.reduceMul, Nat.reduceSub, Nat.reduceEqDiff, Nat.reduceLT, Nat.reduceLeDiff, Int.reduceToNat, Int.reduceLE, Int.reduceLT, Int.toNat_natCast, reduceCtorEq, hta, htb, Bool.not_false, Bool.not_true] <;> (first | with_reducible rfl | rfl)) | (refine aops_grd rfl (by simp only [avs] <;> rfl) (by rfl) ?_; first | refine grd_on ?_ | refine grd_off (by simp only [avs] <;> rfl) ?_))
 refine aops_pure rfl (by simp only [avs] <;> rfl) (c4) (by simp only [avs] <;> rfl) ?_
 repeat (refine aops_cons ?_; first | (apply aops_o; rfl; simp only [estep, avs, tts, Nat.reduceAdd, Nat.reduceMul, Nat.reduceSub, Nat.reduceEqDiff, Nat.reduceLT, Nat.reduceLeDiff, Int.reduceToNat, Int.reduceLE, Int.reduceLT, Int.toNat_natCast, reduceCtorEq, hta, htb, Bool.not_false, Bool.not_true] <;> (first | with_reducible rfl | rfl)) | (refine aops_grd rfl (by simp only [avs] <;> rfl) (by rfl) ?_; first | refine grd_on ?_ | refine grd_off (by simp only [avs] <;> rfl) ?_))
 refine aops_pure rfl (by simp only [avs] <;> rfl) (c5) (by simp only [avs] <;> rfl) ?_
 repeat (refine aops_cons ?_; first | (apply aops_o; rfl; simp only [estep, avs, tts, Nat.reduceAdd, Nat.reduceMul, Nat.reduceSub, Nat.reduceEqDiff, Nat.reduceLT, Nat.reduceLeDiff, Int.reduceToNat, Int.reduceLE, Int.reduceLT, Int.toNat_natCast, reduceCtorEq, hta, htb, Bool.not_false, Bool.not_true] <;> (first | with_reducible rfl | rfl)) | (refine aops_grd rfl (by simp only [avs] <;> rfl) (by rfl) ?_; first | refine grd_on ?_ | refine grd_off (by simp only [avs] <;> rfl) ?_))
 refine aops_nil ?_
 repeat refine aw_seq ?_
 refine aw_cond rfl rfl (fun hb => ?_) fun hb => ?_
 ·cases hb
 refine aw_skip ?_
 obtain ⟨qa, ia⟩ := proper_q h3
 obtain ⟨qb, ib⟩ := proper_q h4
 have pa := proper_parts h3
 have pb := proper_parts h4
 obtain ⟨fa, na⟩ := fields_le h3
 obtain ⟨fb, nb⟩ := fields_le h4
 have Na : needN (fieldsT a) ≤ 70368744177664 ∧ (joinB (fieldsT a)).length ≤ 70368744177664 := by
  have h6 := need_le 1099511627776 (fieldsT a) fa
  have h7 := join_le 1099511627776 (fieldsT a) fa (Nat.le_refl _)
  have h8 : (1099511627776 + 21) * (fieldsT a).length ≤ (1099511627776 + 21) * 42 := Nat.mul_le_mul_left _ na
  omega
 have Nb : needN (fieldsT b) ≤ 70368744177664 ∧ (joinB (fieldsT b)).length ≤ 70368744177664 := by
  have h6 := need_le 1099511627776 (fieldsT b) fb
  have h7 := join_le 1099511627776 (fieldsT b) fb (Nat.le_refl _)
  have h8 : (1099511627776 + 21) * (fieldsT b).length ≤ (1099511627776 + 21) * 42 := Nat.mul_le_mul_left _ nb
  omega
 have d1 := fields_a base a qa ia (by omega) (by omega)
 have d2 := fields_a base b qb ib (by omega) (by omega)
 have d3 := joined_a base (fieldsT a) Na.1 Na.2
 have d4 := joined_a base (fieldsT b) Nb.1 Nb.2
 have d5 := message_a hT a qa ia (by omega) (by omega) (by omega)
 have d6 := message_a hT b qb ib (by omega) (by omega) (by omega)
 have d7 := sum29_a hT (bS (joinB (fieldsT a))) (by rw [bS_size]; omega)
 have d8 := sum29_a hT (bS (joinB (fieldsT b))) (by rw [bS_size]; omega)
 have hbi := enduse_binds h3 h4 h5
 unfold jB at hbi
 clear c1 c2 c3 c4 c5 Na Nb pa pb fa fb
 generalize bS (joinB (fieldsT a)) = ja at *
 generalize bS (joinB (fieldsT b)) = jb at *
 generalize messT a = ma at *
 generalize messT b = mb at *
 repeat refine aw_seq ?_
 refine aw_draw 8 ttOk mixed (by kernel_rfl) (by kernel_rfl) (by kernel_rfl) ?_
 repeat (refine ahops_cons ?_; first | (apply ahops_o; rfl; simp only [hstep, avs, tts, Nat.reduceAdd, Nat.reduceMul, Nat.reduceSub, Nat.reduceEqDiff, Nat.reduceLT, Nat.reduceLeDiff, Int.reduceToNat, Int.reduceLE, Int.reduceLT, Int.toNat_natCast, reduceCtorEq, hta, htb, l1, l2] <;> (first | with_reducible rfl | rfl); first | trivial | omega) | (refine ahops_grd rfl (by simp only [avs] <;> rfl) (by rfl) ?_; first | refine hgrd_on ?_ | refine hgrd_off (by simp only [avs] <;> rfl) ?_))
 refine ahops_pure rfl (by simp only [avs] <;> rfl) (d1) trivial (by simp only [avs] <;> rfl) ?_
 repeat (refine ahops_cons ?_; first | (apply ahops_o; rfl; simp only [hstep, avs, tts, Nat.reduceAdd, Nat.reduceMul, Nat.reduceSub, Nat.reduceEqDiff, Nat.reduceLT, Nat.reduceLeDiff, Int.reduceToNat, Int.reduceLE, Int.reduceLT, Int.toNat_natCast, reduceCtorEq, hta, htb, l1, l2] <;> (first | with_reducible rfl | rfl); first | trivial | omega) | (refine ahops_grd rfl (by simp only [avs] <;> rfl) (by rfl) ?_; first | refine hgrd_on ?_ | refine hgrd_off (by simp only [avs] <;> rfl) ?_))
 refine ahops_pure rfl (by simp only [avs] <;> rfl) (d3) trivial (by simp only [avs] <;> rfl) ?_
 repeat (refine ahops_cons ?_; first | (apply ahops_o; rfl; simp only [hstep, avs, tts, Nat.reduceAdd, Nat.reduceMul, Nat.reduceSub, Nat.reduceEqDiff, Nat.reduceLT, Nat.reduceLeDiff, Int.reduceToNat, Int.reduceLE, Int.reduceLT, Int.toNat_natCast, reduceCtorEq, hta, htb, l1, l2] <;> (first | with_reducible rfl | rfl); first | trivial | omega) | (refine ahops_grd rfl (by simp only [avs] <;> rfl) (by rfl) ?_; first | refine hgrd_on ?_ | refine hgrd_off (by simp only [avs] <;> rfl) ?_))
 refine ahops_pure rfl (by simp only [avs] <;> rfl) (d2) trivial (by simp only [avs] <;> rfl) ?_
 repeat (refine ahops_cons ?_; first | (apply ahops_o; rfl; simp only [hstep, avs, tts, Nat.reduceAdd, Nat.reduceMul, Nat.reduceSub, Nat.reduceEqDiff, Nat.reduceLT, Nat.reduceLeDiff, Int.reduceToNat, Int.reduceLE, Int.reduceLT, Int.toNat_natCast, reduceCtorEq, hta, htb, l1, l2] <;> (first | with_reducible rfl | rfl); first | trivial | omega) | (refine ahops_grd rfl (by simp only [avs] <;> rfl) (by rfl) ?_; first | refine hgrd_on ?_ | refine hgrd_off (by simp only [avs] <;> rfl) ?_))
 refine ahops_pure rfl (by simp only [avs] <;> rfl) (d4) trivial (by simp only [avs] <;> rfl) ?_
 repeat (refine ahops_cons ?_; first | (apply ahops_o; rfl; simp only [hstep, avs, tts, Nat.reduceAdd, Nat.reduceMul, Nat.reduceSub, Nat.reduceEqDiff, Nat.reduceLT, Nat.reduceLeDiff, Int.reduceToNat, Int.reduceLE, Int.reduceLT, Int.toNat_natCast, reduceCtorEq, hta, htb, l1, l2] <;> (first | with_reducible rfl | rfl); first | trivial | omega) | (refine ahops_grd rfl (by simp only [avs] <;> rfl) (by rfl) ?_; first | refine hgrd_on ?_ | refine hgrd_off (by simp only [avs] <;> rfl) ?_))
 refine ahops_nil ?_
 repeat (refine aops_cons ?_; first | (apply aops_o; rfl; simp only [estep, avs, tts, Nat.reduceAdd, Nat.reduceMul, Nat.reduceSub, Nat.reduceEqDiff, Nat.reduceLT, Nat.reduceLeDiff, Int.reduceToNat, Int.reduceLE, Int.reduceLT, Int.toNat_natCast, reduceCtorEq] <;> (first | with_reducible rfl | rfl)) | (refine aops_grd rfl (by simp only [avs] <;> rfl) (by rfl) ?_; first | refine grd_on ?_ | refine grd_off (by simp only [avs] <;> rfl) ?_))
 refine aops_nil ?_
 by_cases hm : ma = mb
 ·have e1 : decide (ma = mb) = true := decide_eq_true hm
  rcases hbi with hbi | ⟨hj, hsm⟩
  ·exact absurd hm hbi
  have e2 : decide (ja = jb) = false := decide_eq_false hj
  have e3 : decide (sumS ja = sumS jb) = true := decide_eq_true hsm
  repeat refine aw_seq ?_
  refine aw_draw 21 ttOk mixed (by kernel_rfl) (by kernel_rfl) (by kernel_rfl) ?_
  repeat (refine ahops_cons ?_; first | (apply ahops_o; rfl; simp only [hstep, avs, tts, Nat.reduceAdd, Nat.reduceMul, Nat.reduceSub, Nat.reduceEqDiff, Nat.reduceLT, Nat.reduceLeDiff, Int.reduceToNat, Int.reduceLE, Int.reduceLT, Int.toNat_natCast, reduceCtorEq, hta, htb, l1, l2, e1, e2, e3, Bool.not_false, Bool.not_true] <;> (first | with_reducible rfl | rfl); first | trivial | omega) | (refine ahops_grd rfl (by simp only [avs] <;> rfl) (by rfl) ?_; first | refine hgrd_on ?_ | refine hgrd_off (by simp only [avs] <;> rfl) ?_))
  refine ahops_pure rfl (by simp only [avs] <;> rfl) (d5) trivial (by simp only [avs] <;> rfl) ?_
  repeat (refine ahops_cons ?_; first | (apply ahops_o; rfl; simp only [hstep, avs, tts, Nat.reduceAdd, Nat.reduceMul, Nat.reduceSub, Nat.reduceEqDiff, Nat.reduceLT, Nat.reduceLeDiff, Int.reduceToNat, Int.reduceLE, Int.reduceLT, Int.toNat_natCast, reduceCtorEq, hta, htb, l1, l2, e1, e2, e3, Bool.not_false, Bool.not_true] <;> (first | with_reducible rfl | rfl); first | trivial | omega) | (refine ahops_grd rfl (by simp only [avs] <;> rfl) (by rfl) ?_; first | refine hgrd_on ?_ | refine hgrd_off (by simp only [avs] <;> rfl) ?_))
  refine ahops_pure rfl (by simp only [avs] <;> rfl) (d6) trivial (by simp only [avs] <;> rfl) ?_
  repeat (refine ahops_cons ?_; first | (apply ahops_o; rfl; simp only [hstep, avs, tts, Nat.reduceAdd, Nat.reduceMul, Nat.reduceSub, Nat.reduceEqDiff, Nat.reduceLT, Nat.reduceLeDiff, Int.reduceToNat, Int.reduceLE, Int.reduceLT, Int.toNat_natCast, reduceCtorEq, hta, htb, l1, l2, e1, e2, e3, Bool.not_false, Bool.not_true] <;> (first | with_reducible rfl | rfl); first | trivial | omega) | (refine ahops_grd rfl (by simp only [avs] <;> rfl) (by rfl) ?_; first | refine hgrd_on ?_ | refine hgrd_off (by simp only [avs] <;> rfl) ?_))
  refine ahops_pure rfl (by simp only [avs] <;> rfl) (d7) trivial (by simp only [avs] <;> rfl) ?_
  repeat (refine ahops_cons ?_; first | (apply ahops_o; rfl; simp only [hstep, avs, tts, Nat.reduceAdd, Nat.reduceMul, Nat.reduceSub, Nat.reduceEqDiff, Nat.reduceLT, Nat.reduceLeDiff, Int.reduceToNat, Int.reduceLE, Int.reduceLT, Int.toNat_natCast, reduceCtorEq, hta, htb, l1, l2, e1, e2, e3, Bool.not_false, Bool.not_true] <;> (first | with_reducible rfl | rfl); first | trivial | omega) | (refine ahops_grd rfl (by simp only [avs] <;> rfl) (by rfl) ?_; first | refine hgrd_on ?_ | refine hgrd_off (by simp only [avs] <;> rfl) ?_))
  refine ahops_pure rfl (by simp only [avs] <;> rfl) (d8) trivial (by simp only [avs] <;> rfl) ?_
  repeat (refine ahops_cons ?_; first | (apply ahops_o; rfl; simp only [hstep, avs, tts, Nat.reduceAdd, Nat.reduceMul, Nat.reduceSub, Nat.reduceEqDiff, Nat.reduceLT, Nat.reduceLeDiff, Int.reduceToNat, Int.reduceLE, Int.reduceLT, Int.toNat_natCast, reduceCtorEq, hta, htb, l1, l2, e1, e2, e3, Bool.not_false, Bool.not_true] <;> (first | with_reducible rfl | rfl); first | trivial | omega) | (refine ahops_grd rfl (by simp only [avs] <;> rfl) (by rfl) ?_; first | refine hgrd_on ?_ | refine hgrd_off (by simp only [avs] <;> rfl) ?_))
  refine ahops_nil ?_
  repeat (refine aops_cons ?_; first | (apply aops_o; rfl; simp only [estep, avs, tts, Nat.reduceAdd, Nat.reduceMul, Nat.reduceSub, Nat.reduceEqDiff, Nat.reduceLT, Nat.reduceLeDiff, Int.reduceToNat, Int.reduceLE, Int.reduceLT, Int.toNat_natCast, reduceCtorEq] <;> (first | with_reducible rfl | rfl)) | (refine aops_grd rfl (by simp only [avs] <;> rfl) (by rfl) ?_; first | refine grd_on ?_ | refine grd_off (by simp only [avs] <;> rfl) ?_))
  refine aops_nil ?_
  exact aw_ret ⟨_, rfl, rfl⟩
 ·have e1 : decide (ma = mb) = false := decide_eq_false hm
  repeat refine aw_seq ?_
  refine aw_draw 21 ttOk mixed (by kernel_rfl) (by kernel_rfl) (by kernel_rfl) ?_
  repeat (refine ahops_cons ?_; first | (apply ahops_o; rfl; simp only [hstep, avs, tts, Nat.reduceAdd, Nat.reduceMul, Nat.reduceSub, Nat.reduceEqDiff, Nat.reduceLT, Nat.reduceLeDiff, Int.reduceToNat, Int.reduceLE, Int.reduceLT, Int.toNat_natCast, reduceCtorEq, hta, htb, l1, l2, e1, Bool.not_false, Bool.not_true] <;> (first | with_reducible rfl | rfl); first | trivial | omega) | (refine ahops_grd rfl (by simp only [avs] <;> rfl) (by rfl) ?_; first | refine hgrd_on ?_ | refine hgrd_off (by simp only [avs] <;> rfl) ?_))
  refine ahops_pure rfl (by simp only [avs] <;> rfl) (d5) trivial (by simp only [avs] <;> rfl) ?_
  repeat (refine ahops_cons ?_; first | (apply ahops_o; rfl; simp only [hstep, avs, tts, Nat.reduceAdd, Nat.reduceMul, Nat.reduceSub, Nat.reduceEqDiff, Nat.reduceLT, Nat.reduceLeDiff, Int.reduceToNat, Int.reduceLE, Int.reduceLT, Int.toNat_natCast, reduceCtorEq, hta, htb, l1, l2, e1, Bool.not_false, Bool.not_true] <;> (first | with_reducible rfl | rfl); first | trivial | omega) | (refine ahops_grd rfl (by simp only [avs] <;> rfl) (by rfl) ?_; first | refine hgrd_on ?_ | refine hgrd_off (by simp only [avs] <;> rfl) ?_))
  refine ahops_pure rfl (by simp only [avs] <;> rfl) (d6) trivial (by simp only [avs] <;> rfl) ?_
  repeat (refine ahops_cons ?_; first | (apply ahops_o; rfl; simp only [hstep, avs, tts, Nat.reduceAdd, Nat.reduceMul, Nat.reduceSub, Nat.reduceEqDiff, Nat.reduceLT, Nat.reduceLeDiff, Int.reduceToNat, Int.reduceLE, Int.reduceLT, Int.toNat_natCast, reduceCtorEq, hta, htb, l1, l2, e1, Bool.not_false, Bool.not_true] <;> (first | with_reducible rfl | rfl); first | trivial | omega) | (refine ahops_grd rfl (by simp only [avs] <;> rfl) (by rfl) ?_; first | refine hgrd_on ?_ | refine hgrd_off (by simp only [avs] <;> rfl) ?_))
  refine ahops_nil ?_
  repeat (refine aops_cons ?_; first | (apply aops_o; rfl; simp only [estep, avs, tts, Nat.reduceAdd, Nat.reduceMul, Nat.reduceSub, Nat.reduceEqDiff, Nat.reduceLT, Nat.reduceLeDiff, Int.reduceToNat, Int.reduceLE, Int.reduceLT, Int.toNat_natCast, reduceCtorEq] <;> (first | with_reducible rfl | rfl)) | (refine aops_grd rfl (by simp only [avs] <;> rfl) (by rfl) ?_; first | refine grd_on ?_ | refine grd_off (by simp only [avs] <;> rfl) ?_))
  refine aops_nil ?_
  exact aw_ret ⟨_, rfl, rfl⟩
end Av
theorem enduseBinds.walk {w : World} (hT : Tabs w) (v0 : Value) (a0 : Stm) (h0 : Av.StmIn w v0 a0) (v1 : Value) (a1 : Stm) (h1 : Av.StmIn w v1 a1) : Calls Tryz.prog 3 #[v0, v1] w fun e w' => e = .returned (.bool true) ∧ Below w.heap.size w w' :=
 Av.calls_of_a (Av.binds_a hT a0 a1) (.cons h0 (.one h1)) fun r H' h => h
end Go.Proofs.YtnkepmfgmfeabaaGreatDoor
