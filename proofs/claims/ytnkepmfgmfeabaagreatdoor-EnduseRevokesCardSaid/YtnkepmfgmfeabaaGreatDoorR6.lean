import Derived.Test.YtnkepmfgmfeabaaGreatDoorR5
import Derived.Test.YtnkepmfgmfeabaaGreatDoorR4
set_option linter.unusedVariables false
set_option linter.unusedSimpArgs false
namespace Go.Proofs.YtnkepmfgmfeabaaGreatDoor
open Go Go.RowKit
namespace Av
attribute [local irreducible] AW AOps AHOps
attribute [local irreducible] messT sigT pubT verT

/-! Law Revokes. -/
def leftsI (B : Bk) (j : Nat) : List Int := (B.ents.take j).map fun x => (leftR B x.st.id).1
theorem leftsI_len (B : Bk) {j : Nat} (h : j ≤ B.ents.length) : (leftsI B j).length = j := by unfold leftsI; simp; omega
theorem leftsI_succ (B : Bk) {j : Nat} {x : Ent} (h : B.ents[j]? = some x) : leftsI B (j + 1) = leftsI B j ++ [(leftR B x.st.id).1] := by
 unfold leftsI; rw [List.take_add_one, h]; simp
theorem leftsI_get (B : Bk) {j : Nat} {x : Ent} (h : B.ents[j]? = some x) (hl : j < (leftsI B B.ents.length).length) : (leftsI B B.ents.length)[j] = (leftR B x.st.id).1 := by
 have : (leftsI B B.ents.length)[j]? = some (leftR B x.st.id).1 := by unfold leftsI; rw [List.take_length]; simp [h]
 rw [List.getElem?_eq_getElem hl] at this
 exact Option.some.inj this
theorem aw_mid2 {X : Ctx} {c y : Code} {Q Q2 : Exit → List AV → AHeap → Prop} {env : List AV} {H : AHeap} (Q0 : List AV → AHeap → Prop) (h : AW X c (fun ex env' H' => ex = .normal ∧ ∃ env0 H0, Goes X env' H' env0 H0 ∧ Q0 env0 H0) env H) (k : ∀ env0 H0, Q0 env0 H0 → AW X y Q2 env0 H0) : AW X c (thenA (fun env H => AW X y Q2 env H) Q) env H :=
 h.mono fun ex env H ⟨e, env0, H0, g, q⟩ => by subst e; exact aw_goes g (k _ _ q)
theorem keep_set {K : AHeap} {l : Nat} {o o' : AObj} (h : K[l]? = some o) (ho : otherO o = true) (G : AHeap) : ∀ (m : Nat) (x : AObj), K[m]? = some x → otherO x = false → ((K ++ G).set l o')[m]? = some x := fun m x hm hx => by
 have : m ≠ l := fun e => by subst e; rw [h] at hm; cases hm; rw [ho] at hx; cases hx
 rw [get_set_ne this]; exact got hm G
theorem nI_app (l : List Int) (n : Int) : nI l ++ [[.d (.v (.int .i64 n))]] = nI (l ++ [n]) := nI_snoc l n
theorem stepC_get {l : List Step29} {k : Nat} (h : k < l.length) : (l.map stepC).getD k [] = stepC l[k] := by simp [h]
set_option maxRecDepth 100000 in
set_option maxHeartbeats 8000000 in
theorem revokes_a {base : World} (hT : Tabs base) (is : ByteArray) (l : List Step29) : CallsA Tryz.prog base 4 [.d (.v (.string is)), .d (stepsP l)] [] fun r H' => r = bA true := by
 refine callsA_enter ttOk Tryz.call4 Tryz.func4 rfl fun hB hb hF => ?_
 rw [Tryz.results4, Tryz.ntmps4]
 simp only [arr_list, List.length_cons, List.length_nil, List.replicate, List.cons_append, List.nil_append, Nat.reduceAdd, Nat.reduceSub]
 clear hF
 simp only [stepsP]
 repeat refine aw_seq ?_
 refine aw_region ttOk (by kernel_rfl) ?_
 repeat (refine aops_cons ?_; first | (apply aops_o; rfl; simp only [estep, avs, tts, Nat.reduceAdd, Nat.reduceMul, Nat.reduceSub, Nat.reduceEqDiff, Nat.reduceLT, Nat.reduceLeDiff, Int.reduceToNat, Int.reduceLE, Int.reduceLT, Int.toNat_natCast, reduceCtorEq] <;> (first | with_reducible rfl | rfl)) | (refine aops_grd rfl (by simp only [avs] <;> rfl) (by rfl) ?_; first | refine grd_on ?_ | refine grd_off (by simp only [avs] <;> rfl) ?_))
 refine aops_nil ?_
 repeat refine aw_seq ?_
 refine aw_region ttOk (by kernel_rfl) ?_
 repeat (refine aops_cons ?_; first | (apply aops_o; rfl; simp only [estep, avs, tts, Nat.reduceAdd, Nat.reduceMul, Nat.reduceSub, Nat.reduceEqDiff, Nat.reduceLT, Nat.reduceLeDiff, Int.reduceToNat, Int.reduceLE, Int.reduceLT, Int.toNat_natCast, reduceCtorEq] <;> (first | with_reducible rfl | rfl)) | (refine aops_grd rfl (by simp only [avs] <;> rfl) (by rfl) ?_; first | refine grd_on ?_ | refine grd_off (by simp only [avs] <;> rfl) ?_))
 refine aops_call rfl (by simp only [avs, tts] <;> rfl) ⟨_, head29_a hT, ?_⟩
 rintro r H' ⟨rfl, hk⟩ hl2
 repeat (refine aops_cons ?_; first | (apply aops_o; rfl; simp only [estep, avs, tts, Nat.reduceAdd, Nat.reduceMul, Nat.reduceSub, Nat.reduceEqDiff, Nat.reduceLT, Nat.reduceLeDiff, Int.reduceToNat, Int.reduceLE, Int.reduceLT, Int.toNat_natCast, reduceCtorEq, bA] <;> (first | with_reducible rfl | rfl)) | (refine aops_grd rfl (by simp only [avs] <;> rfl) (by rfl) ?_; first | refine grd_on ?_ | refine grd_off (by simp only [avs] <;> rfl) ?_))
 refine aops_nil ?_
 clear hk hl2 hB hb
 generalize H' = H
 have c1 := few13_a base l
 simp only [stepsP, bA] at c1
 cases h1 : fewB l with
 | false =>
  rw [h1] at c1
  repeat refine aw_seq ?_
  refine aw_region ttOk (by kernel_rfl) ?_
  repeat (refine aops_cons ?_; first | (apply aops_o; rfl; simp only [estep, avs, tts, Nat.reduceAdd, Nat.reduceMul, Nat.reduceSub, Nat.reduceEqDiff, Nat.reduceLT, Nat.reduceLeDiff, Int.reduceToNat, Int.reduceLE, Int.reduceLT, Int.toNat_natCast, reduceCtorEq] <;> (first | with_reducible rfl | rfl)) | (refine aops_grd rfl (by simp only [avs] <;> rfl) (by rfl) ?_; first | refine grd_on ?_ | refine grd_off (by simp only [avs] <;> rfl) ?_))
  refine aops_pure rfl (by simp only [avs] <;> rfl) (c1) (by simp only [avs] <;> rfl) ?_
  repeat (refine aops_cons ?_; first | (apply aops_o; rfl; simp only [estep, avs, tts, Nat.reduceAdd, Nat.reduceMul, Nat.reduceSub, Nat.reduceEqDiff, Nat.reduceLT, Nat.reduceLeDiff, Int.reduceToNat, Int.reduceLE, Int.reduceLT, Int.toNat_natCast, reduceCtorEq, Bool.not_false, Bool.not_true] <;> (first | with_reducible rfl | rfl)) | (refine aops_grd rfl (by simp only [avs] <;> rfl) (by rfl) ?_; first | refine grd_on ?_ | refine grd_off (by simp only [avs] <;> rfl) ?_))
  refine aops_nil ?_
  repeat refine aw_seq ?_
  refine aw_cond rfl rfl (fun hb => ?_) fun hb => ?_
  ·repeat refine aw_seq ?_
   refine aw_region ttOk (by kernel_rfl) ?_
   repeat (refine aops_cons ?_; first | (apply aops_o; rfl; simp only [estep, avs, tts, Nat.reduceAdd, Nat.reduceMul, Nat.reduceSub, Nat.reduceEqDiff, Nat.reduceLT, Nat.reduceLeDiff, Int.reduceToNat, Int.reduceLE, Int.reduceLT, Int.toNat_natCast, reduceCtorEq] <;> (first | with_reducible rfl | rfl)) | (refine aops_grd rfl (by simp only [avs] <;> rfl) (by rfl) ?_; first | refine grd_on ?_ | refine grd_off (by simp only [avs] <;> rfl) ?_))
   refine aops_nil ?_
   exact aw_ret ⟨_, rfl, rfl⟩
  ·cases hb
 | true =>
 rw [h1] at c1
 by_cases hi : is.size ≤ 60
 case neg =>
  have e1 : decide ((is.size : Int) > 60) = true := by simp; omega
  repeat refine aw_seq ?_
  refine aw_region ttOk (by kernel_rfl) ?_
  repeat (refine aops_cons ?_; first | (apply aops_o; rfl; simp only [estep, avs, tts, Nat.reduceAdd, Nat.reduceMul, Nat.reduceSub, Nat.reduceEqDiff, Nat.reduceLT, Nat.reduceLeDiff, Int.reduceToNat, Int.reduceLE, Int.reduceLT, Int.toNat_natCast, reduceCtorEq] <;> (first | with_reducible rfl | rfl)) | (refine aops_grd rfl (by simp only [avs] <;> rfl) (by rfl) ?_; first | refine grd_on ?_ | refine grd_off (by simp only [avs] <;> rfl) ?_))
  refine aops_pure rfl (by simp only [avs] <;> rfl) (c1) (by simp only [avs] <;> rfl) ?_
  repeat (refine aops_cons ?_; first | (apply aops_o; rfl; simp only [estep, avs, tts, Nat.reduceAdd, Nat.reduceMul, Nat.reduceSub, Nat.reduceEqDiff, Nat.reduceLT, Nat.reduceLeDiff, Int.reduceToNat, Int.reduceLE, Int.reduceLT, Int.toNat_natCast, reduceCtorEq, Bool.not_false, Bool.not_true, e1] <;> (first | with_reducible rfl | rfl)) | (refine aops_grd rfl (by simp only [avs] <;> rfl) (by rfl) ?_; first | refine grd_on ?_ | refine grd_off (by simp only [avs] <;> rfl) ?_))
  refine aops_nil ?_
  repeat refine aw_seq ?_
  refine aw_cond rfl rfl (fun hb => ?_) fun hb => ?_
  ·repeat refine aw_seq ?_
   refine aw_region ttOk (by kernel_rfl) ?_
   repeat (refine aops_cons ?_; first | (apply aops_o; rfl; simp only [estep, avs, tts, Nat.reduceAdd, Nat.reduceMul, Nat.reduceSub, Nat.reduceEqDiff, Nat.reduceLT, Nat.reduceLeDiff, Int.reduceToNat, Int.reduceLE, Int.reduceLT, Int.toNat_natCast, reduceCtorEq] <;> (first | with_reducible rfl | rfl)) | (refine aops_grd rfl (by simp only [avs] <;> rfl) (by rfl) ?_; first | refine grd_on ?_ | refine grd_off (by simp only [avs] <;> rfl) ?_))
   refine aops_nil ?_
   exact aw_ret ⟨_, rfl, rfl⟩
  ·cases hb
 have e1 : decide ((is.size : Int) > 60) = false := by simp; omega
 repeat refine aw_seq ?_
 refine aw_region ttOk (by kernel_rfl) ?_
 repeat (refine aops_cons ?_; first | (apply aops_o; rfl; simp only [estep, avs, tts, Nat.reduceAdd, Nat.reduceMul, Nat.reduceSub, Nat.reduceEqDiff, Nat.reduceLT, Nat.reduceLeDiff, Int.reduceToNat, Int.reduceLE, Int.reduceLT, Int.toNat_natCast, reduceCtorEq] <;> (first | with_reducible rfl | rfl)) | (refine aops_grd rfl (by simp only [avs] <;> rfl) (by rfl) ?_; first | refine grd_on ?_ | refine grd_off (by simp only [avs] <;> rfl) ?_))
 refine aops_pure rfl (by simp only [avs] <;> rfl) (c1) (by simp only [avs] <;> rfl) ?_
 repeat (refine aops_cons ?_; first | (apply aops_o; rfl; simp only [estep, avs, tts, Nat.reduceAdd, Nat.reduceMul, Nat.reduceSub, Nat.reduceEqDiff, Nat.reduceLT, Nat.reduceLeDiff, Int.reduceToNat, Int.reduceLE, Int.reduceLT, Int.toNat_natCast, reduceCtorEq, Bool.not_false, Bool.not_true, e1] <;> (first | with_reducible rfl | rfl)) | (refine aops_grd rfl (by simp only [avs] <;> rfl) (by rfl) ?_; first | refine grd_on ?_ | refine grd_off (by simp only [avs] <;> rfl) ?_))
 refine aops_nil ?_
 repeat refine aw_seq ?_
 refine aw_cond rfl rfl (fun hb => ?_) fun hb => ?_
 ·cases hb
 refine aw_skip ?_
 repeat refine aw_seq ?_
 refine aw_region ttOk (by kernel_rfl) ?_
 repeat (refine aops_cons ?_; first | (apply aops_o; rfl; simp only [estep, avs, tts, Nat.reduceAdd, Nat.reduceMul, Nat.reduceSub, Nat.reduceEqDiff, Nat.reduceLT, Nat.reduceLeDiff, Int.reduceToNat, Int.reduceLE, Int.reduceLT, Int.toNat_natCast, reduceCtorEq] <;> (first | with_reducible rfl | rfl)) | (refine aops_grd rfl (by simp only [avs] <;> rfl) (by rfl) ?_; first | refine grd_on ?_ | refine grd_off (by simp only [avs] <;> rfl) ?_))
 refine aops_call rfl (by simp only [avs, tts] <;> rfl) ⟨_, new_a is (by omega), ?_⟩
 rintro r H' hh hl2
 rcases hh with ⟨_, rfl, ⟨G, rfl⟩, hB⟩ | ⟨_, rfl, rfl⟩
 case inr =>
  repeat (refine aops_cons ?_; first | (apply aops_o; rfl; simp only [estep, avs, tts, Nat.reduceAdd, Nat.reduceMul, Nat.reduceSub, Nat.reduceEqDiff, Nat.reduceLT, Nat.reduceLeDiff, Int.reduceToNat, Int.reduceLE, Int.reduceLT, Int.toNat_natCast, reduceCtorEq, iA, nilP] <;> (first | with_reducible rfl | rfl)) | (refine aops_grd rfl (by simp only [avs] <;> rfl) (by rfl) ?_; first | refine grd_on ?_ | refine grd_off (by simp only [avs] <;> rfl) ?_))
  refine aops_nil ?_
  repeat refine aw_seq ?_
  refine aw_region ttOk (by kernel_rfl) ?_
  repeat (refine aops_cons ?_; first | (apply aops_o; rfl; simp only [estep, avs, tts, Nat.reduceAdd, Nat.reduceMul, Nat.reduceSub, Nat.reduceEqDiff, Nat.reduceLT, Nat.reduceLeDiff, Int.reduceToNat, Int.reduceLE, Int.reduceLT, Int.toNat_natCast, reduceCtorEq] <;> (first | with_reducible rfl | rfl)) | (refine aops_grd rfl (by simp only [avs] <;> rfl) (by rfl) ?_; first | refine grd_on ?_ | refine grd_off (by simp only [avs] <;> rfl) ?_))
  refine aops_nil ?_
  repeat refine aw_seq ?_
  refine aw_cond rfl rfl (fun hb => ?_) fun hb => ?_
  ·repeat refine aw_seq ?_
   refine aw_region ttOk (by kernel_rfl) ?_
   repeat (refine aops_cons ?_; first | (apply aops_o; rfl; simp only [estep, avs, tts, Nat.reduceAdd, Nat.reduceMul, Nat.reduceSub, Nat.reduceEqDiff, Nat.reduceLT, Nat.reduceLeDiff, Int.reduceToNat, Int.reduceLE, Int.reduceLT, Int.toNat_natCast, reduceCtorEq] <;> (first | with_reducible rfl | rfl)) | (refine aops_grd rfl (by simp only [avs] <;> rfl) (by rfl) ?_; first | refine grd_on ?_ | refine grd_off (by simp only [avs] <;> rfl) ?_))
   refine aops_nil ?_
   exact aw_ret ⟨_, rfl, rfl⟩
  ·cases hb
 repeat (refine aops_cons ?_; first | (apply aops_o; rfl; simp only [estep, avs, tts, Nat.reduceAdd, Nat.reduceMul, Nat.reduceSub, Nat.reduceEqDiff, Nat.reduceLT, Nat.reduceLeDiff, Int.reduceToNat, Int.reduceLE, Int.reduceLT, Int.toNat_natCast, reduceCtorEq, iA, nilP] <;> (first | with_reducible rfl | rfl)) | (refine aops_grd rfl (by simp only [avs] <;> rfl) (by rfl) ?_; first | refine grd_on ?_ | refine grd_off (by simp only [avs] <;> rfl) ?_))
 refine aops_nil ?_
 repeat refine aw_seq ?_
 refine aw_region ttOk (by kernel_rfl) ?_
 repeat (refine aops_cons ?_; first | (apply aops_o; rfl; simp only [estep, avs, tts, Nat.reduceAdd, Nat.reduceMul, Nat.reduceSub, Nat.reduceEqDiff, Nat.reduceLT, Nat.reduceLeDiff, Int.reduceToNat, Int.reduceLE, Int.reduceLT, Int.toNat_natCast, reduceCtorEq] <;> (first | with_reducible rfl | rfl)) | (refine aops_grd rfl (by simp only [avs] <;> rfl) (by rfl) ?_; first | refine grd_on ?_ | refine grd_off (by simp only [avs] <;> rfl) ?_))
 refine aops_nil ?_
 repeat refine aw_seq ?_
 refine aw_cond rfl rfl (fun hb => ?_) fun hb => ?_
 ·cases hb
 refine aw_skip ?_
 obtain ⟨bl, hbl⟩ : ∃ bl, bl = (newY H.length).bl := ⟨_, rfl⟩
 rw [← hbl]
 generalize newY H.length = Y at hB hbl
 generalize H ++ G = H1 at hB hl2 ⊢
 have hfew := h1
 unfold fewB at hfew
 simp only [Bool.and_eq_true, List.all_eq_true, decide_eq_true_eq] at hfew
 obtain ⟨hsh, hl8⟩ := hfew
 have hLl : l.length ≤ 9223372036854775807 := by omega
 repeat refine aw_seq ?_
 refine aw_region ttOk (by kernel_rfl) ?_
 repeat (refine aops_cons ?_; first | (apply aops_o; rfl; simp only [estep, avs, tts, Nat.reduceAdd, Nat.reduceMul, Nat.reduceSub, Nat.reduceEqDiff, Nat.reduceLT, Nat.reduceLeDiff, Int.reduceToNat, Int.reduceLE, Int.reduceLT, Int.toNat_natCast, reduceCtorEq] <;> (first | with_reducible rfl | rfl)) | (refine aops_grd rfl (by simp only [avs] <;> rfl) (by rfl) ?_; first | refine grd_on ?_ | refine grd_off (by simp only [avs] <;> rfl) ?_))
 refine aops_nil ?_
 refine aw_nilrow 8 9 1 rfl (by simp only [l_set0, l_setS] <;> rfl) ?_
 repeat refine aw_seq ?_
 refine aw_region ttOk (by kernel_rfl) ?_
 repeat (refine aops_cons ?_; first | (apply aops_o; rfl; simp only [estep, avs, tts, Nat.reduceAdd, Nat.reduceMul, Nat.reduceSub, Nat.reduceEqDiff, Nat.reduceLT, Nat.reduceLeDiff, Int.reduceToNat, Int.reduceLE, Int.reduceLT, Int.toNat_natCast, reduceCtorEq] <;> (first | with_reducible rfl | rfl)) | (refine aops_grd rfl (by simp only [avs] <;> rfl) (by rfl) ?_; first | refine grd_on ?_ | refine grd_off (by simp only [avs] <;> rfl) ?_))
 refine aops_nil ?_
 refine aw_mid2 (Q0 := fun env H' => ∃ Y B rv, Book H' Y B ∧ Good B rv ∧ Bnd B 8 ∧ H'[H1.length]? = some (.row 9 1 0 (sI rv)) ∧ rv.length ≤ 8 ∧ env = .d (.v (.string is)) :: .d (.sl 11 (l.map stepC)) :: .undef :: .undef :: .undef :: bA true :: .ptr Y.bl 0 :: .undef :: .ms H1.length 0 rv.length :: List.replicate 239 .undef) ?_ ?_
 ·refine aw_block (aw_loop (H0 := H1 ++ [.row 9 1 0 []]) (fun m env H' => ∃ k Y B rv, m = l.length - k ∧ k ≤ l.length ∧ Book H' Y B ∧ Good B rv ∧ Bnd B k ∧ B.issuer = is ∧ H'[H1.length]? = some (.row 9 1 0 (sI rv)) ∧ rv.length ≤ k ∧ env = .d (.v (.string is)) :: .d (.sl 11 (l.map stepC)) :: .undef :: .undef :: .undef :: bA true :: .ptr Y.bl 0 :: .undef :: .ms H1.length 0 rv.length :: iA k :: List.replicate 238 .undef) ?_ ⟨0, Y, _, [], rfl, Nat.zero_le _, hB.app _, good_nil is, bnd_nil is, rfl, by rw [H_get0]; rfl, Nat.le_refl _, rfl⟩ ?_)
  ·refine ⟨by simp [EnvLe, List.replicate, iA, bA, hbl], .inl rfl⟩
  clear hB hbl
  rintro m env H' ⟨k, Y, B, rv, rfl, hk, hB, g, hbn, his, hrv, hrl, rfl⟩ hN
  simp only [List.replicate, iA, bA, List.cons_append, List.nil_append]
  repeat refine aw_seq ?_
  refine aw_region ttOk (by kernel_rfl) ?_
  repeat (refine aops_cons ?_; first | (apply aops_o; rfl; simp only [estep, avs, tts, Nat.reduceAdd, Nat.reduceMul, Nat.reduceSub, Nat.reduceEqDiff, Nat.reduceLT, Nat.reduceLeDiff, Int.reduceToNat, Int.reduceLE, Int.reduceLT, Int.toNat_natCast, reduceCtorEq] <;> (first | with_reducible rfl | rfl)) | (refine aops_grd rfl (by simp only [avs] <;> rfl) (by rfl) ?_; first | refine grd_on ?_ | refine grd_off (by simp only [avs] <;> rfl) ?_))
  refine aops_nil ?_
  repeat refine aw_seq ?_
  refine aw_cond rfl rfl (fun hb => ?_) fun hb => ?_
  rotate_left
  ·refine aw_exit ?_
   have hkl : k = l.length := by simp at hb; omega
   have b8 : Bnd B 8 := ⟨by have := hbn.n; omega, fun x hx => by have := hbn.nx x hx; omega, fun x hx => by have := hbn.l x hx; omega, hbn.h, hbn.u, hbn.i⟩
   exact ⟨rfl, _, _, ⟨by simp [EnvLe, List.replicate, iA, bA], .inl rfl⟩, Y, B, rv, hB, g, b8, hrv, by omega, rfl⟩
  have hlt : k < l.length := by simpa using hb
  have hix : (0 : Int) ≤ (k : Int) := by omega
  have hgd := stepC_get hlt
  have hxs := hsh _ (List.getElem_mem hlt)
  generalize l[k] = x at *
  have hn := hbn.n
  have o8 := hbn.okb (by omega : k ≤ 8) (by rw [his]; exact hi)
  have hEl : (stL B.ents).length = B.ents.length := stL_len _
  have hlv := lt_of_get hrv
  refine aw_skip ?_
  repeat refine aw_seq ?_
  refine aw_block ?_
  repeat refine aw_seq ?_
  refine aw_region ttOk (by kernel_rfl) ?_
  repeat (refine aops_cons ?_; first | (apply aops_o; rfl; simp only [estep, avs, tts, Nat.reduceAdd, Nat.reduceMul, Nat.reduceSub, Nat.reduceEqDiff, Nat.reduceLT, Nat.reduceLeDiff, Int.reduceToNat, Int.reduceLE, Int.reduceLT, Int.toNat_natCast, reduceCtorEq] <;> (first | with_reducible rfl | rfl)) | (refine aops_grd rfl (by simp only [avs] <;> rfl) (by rfl) ?_; first | refine grd_on ?_ | refine grd_off (by simp only [avs] <;> rfl) ?_))
  refine aops_read rfl (by simp only [avs] <;> rfl) (listb_a hB (by omega)) (by simp only [avs] <;> rfl) ?_
  repeat (refine aops_cons ?_; first | (apply aops_o; rfl; simp only [estep, avs, tts, Nat.reduceAdd, Nat.reduceMul, Nat.reduceSub, Nat.reduceEqDiff, Nat.reduceLT, Nat.reduceLeDiff, Int.reduceToNat, Int.reduceLE, Int.reduceLT, Int.toNat_natCast, reduceCtorEq] <;> (first | with_reducible rfl | rfl)) | (refine aops_grd rfl (by simp only [avs] <;> rfl) (by rfl) ?_; first | refine grd_on ?_ | refine grd_off (by simp only [avs] <;> rfl) ?_))
  refine aops_nil ?_
  repeat refine aw_seq ?_
  refine aw_region ttOk (by kernel_rfl) ?_
  repeat (refine aops_cons ?_; first | (apply aops_o; rfl; simp only [estep, avs, tts, Nat.reduceAdd, Nat.reduceMul, Nat.reduceSub, Nat.reduceEqDiff, Nat.reduceLT, Nat.reduceLeDiff, Int.reduceToNat, Int.reduceLE, Int.reduceLT, Int.toNat_natCast, reduceCtorEq] <;> (first | with_reducible rfl | rfl)) | (refine aops_grd rfl (by simp only [avs] <;> rfl) (by rfl) ?_; first | refine grd_on ?_ | refine grd_off (by simp only [avs] <;> rfl) ?_))
  refine aops_nil ?_
  refine aw_nilrow 11 3 1 rfl (by simp only [l_set0, l_setS] <;> rfl) ?_
  repeat refine aw_seq ?_
  refine aw_region ttOk (by kernel_rfl) ?_
  repeat (refine aops_cons ?_; first | (apply aops_o; rfl; simp only [estep, avs, tts, Nat.reduceAdd, Nat.reduceMul, Nat.reduceSub, Nat.reduceEqDiff, Nat.reduceLT, Nat.reduceLeDiff, Int.reduceToNat, Int.reduceLE, Int.reduceLT, Int.toNat_natCast, reduceCtorEq] <;> (first | with_reducible rfl | rfl)) | (refine aops_grd rfl (by simp only [avs] <;> rfl) (by rfl) ?_; first | refine grd_on ?_ | refine grd_off (by simp only [avs] <;> rfl) ?_))
  refine aops_nil ?_
  refine aw_mid2 (Q0 := fun env K => Book K Y B ∧ K[H1.length]? = some (.row 9 1 0 (sI rv)) ∧ K[H'.length]? = some (.row 3 1 0 (nI (leftsI B B.ents.length))) ∧ env = .d (.v (.string is)) :: .d (.sl 11 (l.map stepC)) :: .undef :: .undef :: .undef :: bA true :: .ptr Y.bl 0 :: .undef :: .ms H1.length 0 rv.length :: iA k :: .d (.sl 9 (stL B.ents)) :: .ms H'.length 0 B.ents.length :: List.replicate 236 .undef) ?_ ?_
  ·refine aw_block (aw_loop (H0 := H' ++ [.row 3 1 0 []]) (fun m env K => ∃ j, m = B.ents.length - j ∧ j ≤ B.ents.length ∧ Book K Y B ∧ K[H1.length]? = some (.row 9 1 0 (sI rv)) ∧ K[H'.length]? = some (.row 3 1 0 (nI (leftsI B j))) ∧ env = .d (.v (.string is)) :: .d (.sl 11 (l.map stepC)) :: .undef :: .undef :: .undef :: bA true :: .ptr Y.bl 0 :: .undef :: .ms H1.length 0 rv.length :: iA k :: .d (.sl 9 (stL B.ents)) :: .ms H'.length 0 j :: iA j :: List.replicate 235 .undef) ?_ ⟨0, rfl, Nat.zero_le _, hB.app _, got hrv _, by rw [H_get0]; rfl, rfl⟩ ?_)
   ·refine ⟨by simp [EnvLe, List.replicate, iA, bA], .inl rfl⟩
   rintro m env K ⟨j, rfl, hj, hK, hrK, hlK, rfl⟩ hN2
   simp only [List.replicate, iA, bA, List.cons_append, List.nil_append]
   have hnl : (nI (leftsI B j)).length = j := by rw [nI_len, leftsI_len B hj]
   repeat refine aw_seq ?_
   refine aw_region ttOk (by kernel_rfl) ?_
   repeat (refine aops_cons ?_; first | (apply aops_o; rfl; simp only [estep, avs, tts, Nat.reduceAdd, Nat.reduceMul, Nat.reduceSub, Nat.reduceEqDiff, Nat.reduceLT, Nat.reduceLeDiff, Int.reduceToNat, Int.reduceLE, Int.reduceLT, Int.toNat_natCast, reduceCtorEq, hEl] <;> (first | with_reducible rfl | rfl)) | (refine aops_grd rfl (by simp only [avs] <;> rfl) (by rfl) ?_; first | refine grd_on ?_ | refine grd_off (by simp only [avs] <;> rfl) ?_))
   refine aops_nil ?_
   repeat refine aw_seq ?_
   refine aw_cond rfl rfl (fun hb => ?_) fun hb => ?_
   ·have hjl : j < B.ents.length := by simpa using hb
    have hjx : (0 : Int) ≤ (j : Int) := by omega
    obtain ⟨z, hz⟩ : ∃ z, B.ents[j]? = some z := ⟨_, List.getElem?_eq_getElem hjl⟩
    have hEz := stL_get hz
    have hsu := leftsI_succ B hz
    have b1 : j + 1 ≤ 9223372036854775807 := by omega
    have b2 : (j + 1) * 8 ≤ 140737488355328 := by omega
    have hlK' := got hlK
    refine aw_skip ?_
    repeat refine aw_seq ?_
    refine aw_block ?_
    repeat refine aw_seq ?_
    refine aw_region ttOk (by kernel_rfl) ?_
    repeat (refine aops_cons ?_; first | (apply aops_o; rfl; simp only [estep, avs, tts, Nat.reduceAdd, Nat.reduceMul, Nat.reduceSub, Nat.reduceEqDiff, Nat.reduceLT, Nat.reduceLeDiff, Int.reduceToNat, Int.reduceLE, Int.reduceLT, Int.toNat_natCast, reduceCtorEq, hjl, hjx, hEl, hEz, stmC] <;> (first | with_reducible rfl | rfl)) | (refine aops_grd rfl (by simp only [avs] <;> rfl) (by rfl) ?_; first | refine grd_on ?_ | refine grd_off (by simp only [avs] <;> rfl) ?_))
    refine aops_read rfl (by simp only [avs] <;> rfl) (left_a hK z.st.id) (by simp only [avs] <;> rfl) ?_
    repeat (refine aops_cons ?_; first | (apply aops_o; rfl; simp only [estep, avs, tts, Nat.reduceAdd, Nat.reduceMul, Nat.reduceSub, Nat.reduceEqDiff, Nat.reduceLT, Nat.reduceLeDiff, Int.reduceToNat, Int.reduceLE, Int.reduceLT, Int.toNat_natCast, reduceCtorEq, iA] <;> (first | with_reducible rfl | rfl)) | (refine aops_grd rfl (by simp only [avs] <;> rfl) (by rfl) ?_; first | refine grd_on ?_ | refine grd_off (by simp only [avs] <;> rfl) ?_))
    refine aops_nil ?_
    repeat refine aw_seq ?_
    refine aw_region ttOk (by kernel_rfl) ?_
    repeat (refine aops_cons ?_; first | (apply aops_o; rfl; simp only [estep, avs, tts, Nat.reduceAdd, Nat.reduceMul, Nat.reduceSub, Nat.reduceEqDiff, Nat.reduceLT, Nat.reduceLeDiff, Int.reduceToNat, Int.reduceLE, Int.reduceLT, Int.toNat_natCast, reduceCtorEq, hlK', hnl, b1, b2] <;> (first | with_reducible rfl | rfl)) | (refine aops_grd rfl (by simp only [avs] <;> rfl) (by rfl) ?_; first | refine grd_on ?_ | refine grd_off (by simp only [avs] <;> rfl) ?_))
    refine aops_nil ?_
    repeat refine aw_seq ?_
    refine aw_region ttOk (by kernel_rfl) ?_
    repeat (refine aops_cons ?_; first | (apply aops_o; rfl; simp only [estep, avs, tts, Nat.reduceAdd, Nat.reduceMul, Nat.reduceSub, Nat.reduceEqDiff, Nat.reduceLT, Nat.reduceLeDiff, Int.reduceToNat, Int.reduceLE, Int.reduceLT, Int.toNat_natCast, reduceCtorEq, wrap_succ hjl (by omega : B.ents.length ≤ 9223372036854775807)] <;> (first | with_reducible rfl | rfl)) | (refine aops_grd rfl (by simp only [avs] <;> rfl) (by rfl) ?_; first | refine grd_on ?_ | refine grd_off (by simp only [avs] <;> rfl) ?_))
    refine aops_nil ?_
    refine ⟨B.ents.length - (j + 1), _, _, by omega, ⟨?_, .inl rfl⟩, j + 1, rfl, hjl, hK.keep (keep_set hlK rfl _), ?_, ?_, rfl⟩
    ·simp [EnvLe, List.replicate, iA, bA]
    ·rw [get_set_ne (by have := lt_of_get hrv; omega)]; exact got hrK _
    ·rw [hsu, ← nI_app]; exact got_self hlK _ _
   ·refine aw_exit ?_
    have hjl : j = B.ents.length := by simp at hb; omega
    subst hjl
    exact ⟨rfl, _, _, ⟨by simp [EnvLe, List.replicate, iA, bA], .inl rfl⟩, hK, hrK, hlK, rfl⟩
  rintro env K ⟨hK, hrK, hlK, rfl⟩
  simp only [List.replicate, iA, bA, List.cons_append, List.nil_append]
  have hss := short_sized hxs.1
  have hfs : properB x.st = true → Fits x.st := fun hp => by
   have h5 := hxs.1
   unfold shortS at h5
   simp only [Bool.and_eq_true] at h5
   have h6 := h5.1.1.2
   unfold fewS at h6
   simp only [Bool.and_eq_true, decide_eq_true_eq] at h6
   refine fits_of hp (fun t ht => ?_) fun t ht => ?_
   ·have := List.all_eq_true.1 h6.2.2.1 t ht
    simp only [decide_eq_true_eq] at this; omega
   ·have := List.all_eq_true.1 h6.2.2.2 t ht
    simp only [decide_eq_true_eq] at this; omega
  have hgo := good_do g hbn x
  have hdo := do_a hT hK hfs hss o8.n o8.nx o8.l o8.i o8.h
  generalize doR B x = p at hgo hdo
  obtain ⟨c, B2⟩ := p
  obtain ⟨g2, b2, i2, e2⟩ := hgo
  simp only at g2 b2 i2 e2 hdo
  repeat refine aw_seq ?_
  refine aw_region ttOk (by kernel_rfl) ?_
  repeat (refine aops_cons ?_; first | (apply aops_o; rfl; simp only [estep, avs, tts, Nat.reduceAdd, Nat.reduceMul, Nat.reduceSub, Nat.reduceEqDiff, Nat.reduceLT, Nat.reduceLeDiff, Int.reduceToNat, Int.reduceLE, Int.reduceLT, Int.toNat_natCast, reduceCtorEq, hix, hlt, hgd, stepC, stmC] <;> (first | with_reducible rfl | rfl)) | (refine aops_grd rfl (by simp only [avs] <;> rfl) (by rfl) ?_; first | refine grd_on ?_ | refine grd_off (by simp only [avs] <;> rfl) ?_))
  refine aops_call rfl (by simp only [avs, tts] <;> rfl) ⟨_, hdo, ?_⟩
  rintro r K2 ⟨rfl, Y2, hy2, hB2, hk2⟩ hl3
  have hr2 := hk2 _ _ hrK rfl
  have hl2K := hk2 _ _ hlK rfl
  clear hk2 hrK hlK hK hdo
  repeat (refine aops_cons ?_; first | (apply aops_o; rfl; simp only [estep, avs, tts, Nat.reduceAdd, Nat.reduceMul, Nat.reduceSub, Nat.reduceEqDiff, Nat.reduceLT, Nat.reduceLeDiff, Int.reduceToNat, Int.reduceLE, Int.reduceLT, Int.toNat_natCast, reduceCtorEq, iA] <;> (first | with_reducible rfl | rfl)) | (refine aops_grd rfl (by simp only [avs] <;> rfl) (by rfl) ?_; first | refine grd_on ?_ | refine grd_off (by simp only [avs] <;> rfl) ?_))
  refine aops_nil ?_
  by_cases hc : c = 0
  ·subst hc
   by_cases hkd : x.kind = 0
   ·have ek : decide (x.kind = 0) = true := by simp [hkd]
    rw [show nextV rv 0 x = rv by unfold nextV; rw [if_neg fun h => h.2 hkd]] at g2
    repeat refine aw_seq ?_
    refine aw_region ttOk (by kernel_rfl) ?_
    repeat (refine aops_cons ?_; first | (apply aops_o; rfl; simp only [estep, avs, tts, Nat.reduceAdd, Nat.reduceMul, Nat.reduceSub, Nat.reduceEqDiff, Nat.reduceLT, Nat.reduceLeDiff, Int.reduceToNat, Int.reduceLE, Int.reduceLT, Int.toNat_natCast, reduceCtorEq, hix, hlt, hgd, stepC, stmC, ek, Bool.not_true, Bool.not_false] <;> (first | with_reducible rfl | rfl)) | (refine aops_grd rfl (by simp only [avs] <;> rfl) (by rfl) ?_; first | refine grd_on ?_ | refine grd_off (by simp only [avs] <;> rfl) ?_))
    refine aops_nil ?_
    repeat refine aw_seq ?_
    refine aw_cond rfl rfl (fun hb => ?_) fun hb => ?_
    ·cases hb
    refine aw_skip ?_
    repeat refine aw_seq ?_
    refine aw_region ttOk (by kernel_rfl) ?_
    repeat (refine aops_cons ?_; first | (apply aops_o; rfl; simp only [estep, avs, tts, Nat.reduceAdd, Nat.reduceMul, Nat.reduceSub, Nat.reduceEqDiff, Nat.reduceLT, Nat.reduceLeDiff, Int.reduceToNat, Int.reduceLE, Int.reduceLT, Int.toNat_natCast, reduceCtorEq] <;> (first | with_reducible rfl | rfl)) | (refine aops_grd rfl (by simp only [avs] <;> rfl) (by rfl) ?_; first | refine grd_on ?_ | refine grd_off (by simp only [avs] <;> rfl) ?_))
    refine aops_read rfl (by simp only [avs] <;> rfl) ((hy2 ▸ listb_a hB2 (by have := b2.n; omega))) (by simp only [avs] <;> rfl) ?_
    repeat (refine aops_cons ?_; first | (apply aops_o; rfl; simp only [estep, avs, tts, Nat.reduceAdd, Nat.reduceMul, Nat.reduceSub, Nat.reduceEqDiff, Nat.reduceLT, Nat.reduceLeDiff, Int.reduceToNat, Int.reduceLE, Int.reduceLT, Int.toNat_natCast, reduceCtorEq] <;> (first | with_reducible rfl | rfl)) | (refine aops_grd rfl (by simp only [avs] <;> rfl) (by rfl) ?_; first | refine grd_on ?_ | refine grd_off (by simp only [avs] <;> rfl) ?_))
    refine aops_nil ?_
    repeat refine aw_seq ?_
    refine aw_region ttOk (by kernel_rfl) ?_
    repeat (refine aops_cons ?_; first | (apply aops_o; rfl; simp only [estep, avs, tts, Nat.reduceAdd, Nat.reduceMul, Nat.reduceSub, Nat.reduceEqDiff, Nat.reduceLT, Nat.reduceLeDiff, Int.reduceToNat, Int.reduceLE, Int.reduceLT, Int.toNat_natCast, reduceCtorEq] <;> (first | with_reducible rfl | rfl)) | (refine aops_grd rfl (by simp only [avs] <;> rfl) (by rfl) ?_; first | refine grd_on ?_ | refine grd_off (by simp only [avs] <;> rfl) ?_))
    refine aops_nil ?_
    repeat refine aw_seq ?_
    refine aw_cond rfl rfl (fun hb => ?_) fun hb => ?_
    rotate_left
    ·cases hb
    refine aw_exit ?_
    repeat refine aw_seq ?_
    refine aw_region ttOk (by kernel_rfl) ?_
    repeat (refine aops_cons ?_; first | (apply aops_o; rfl; simp only [estep, avs, tts, Nat.reduceAdd, Nat.reduceMul, Nat.reduceSub, Nat.reduceEqDiff, Nat.reduceLT, Nat.reduceLeDiff, Int.reduceToNat, Int.reduceLE, Int.reduceLT, Int.toNat_natCast, reduceCtorEq, wrap_succ hlt hLl] <;> (first | with_reducible rfl | rfl)) | (refine aops_grd rfl (by simp only [avs] <;> rfl) (by rfl) ?_; first | refine grd_on ?_ | refine grd_off (by simp only [avs] <;> rfl) ?_))
    refine aops_nil ?_
    refine ⟨l.length - (k + 1), _, _, by omega, ⟨?_, .inl rfl⟩, k + 1, Y2, B2, rv, rfl, hlt, hB2, g2, b2, i2.trans his, hr2, by omega, rfl⟩
    simp [EnvLe, List.replicate, iA, bA, hy2]
   ·have ek : decide (x.kind = 0) = false := by simp [hkd]
    rw [show nextV rv 0 x = rv ++ [x.id] by unfold nextV; rw [if_pos ⟨rfl, hkd⟩]] at g2
    repeat refine aw_seq ?_
    refine aw_region ttOk (by kernel_rfl) ?_
    repeat (refine aops_cons ?_; first | (apply aops_o; rfl; simp only [estep, avs, tts, Nat.reduceAdd, Nat.reduceMul, Nat.reduceSub, Nat.reduceEqDiff, Nat.reduceLT, Nat.reduceLeDiff, Int.reduceToNat, Int.reduceLE, Int.reduceLT, Int.toNat_natCast, reduceCtorEq, hix, hlt, hgd, stepC, stmC, ek, Bool.not_true, Bool.not_false] <;> (first | with_reducible rfl | rfl)) | (refine aops_grd rfl (by simp only [avs] <;> rfl) (by rfl) ?_; first | refine grd_on ?_ | refine grd_off (by simp only [avs] <;> rfl) ?_))
    refine aops_nil ?_
    repeat refine aw_seq ?_
    refine aw_cond rfl rfl (fun hb => ?_) fun hb => ?_
    rotate_left
    ·cases hb
    have b3 : rv.length + 1 ≤ 9223372036854775807 := by omega
    have b4 : (rv.length + 1) * 16 ≤ 140737488355328 := by omega
    have hr2' := got hr2
    have hsl := sI_len rv
    repeat refine aw_seq ?_
    refine aw_region ttOk (by kernel_rfl) ?_
    repeat (refine aops_cons ?_; first | (apply aops_o; rfl; simp only [estep, avs, tts, Nat.reduceAdd, Nat.reduceMul, Nat.reduceSub, Nat.reduceEqDiff, Nat.reduceLT, Nat.reduceLeDiff, Int.reduceToNat, Int.reduceLE, Int.reduceLT, Int.toNat_natCast, reduceCtorEq, hix, hlt, hgd, stepC, stmC, hr2', hsl, b3, b4] <;> (first | with_reducible rfl | rfl)) | (refine aops_grd rfl (by simp only [avs] <;> rfl) (by rfl) ?_; first | refine grd_on ?_ | refine grd_off (by simp only [avs] <;> rfl) ?_))
    refine aops_nil ?_
    have hB3 := hB2.keep (keep_set (o' := .row 9 1 0 (sI rv ++ [[.d (.v (.string x.id))]])) hr2 rfl [.row 9 1 0 [[.d (.v (.string x.id))]]])
    repeat refine aw_seq ?_
    refine aw_region ttOk (by kernel_rfl) ?_
    repeat (refine aops_cons ?_; first | (apply aops_o; rfl; simp only [estep, avs, tts, Nat.reduceAdd, Nat.reduceMul, Nat.reduceSub, Nat.reduceEqDiff, Nat.reduceLT, Nat.reduceLeDiff, Int.reduceToNat, Int.reduceLE, Int.reduceLT, Int.toNat_natCast, reduceCtorEq] <;> (first | with_reducible rfl | rfl)) | (refine aops_grd rfl (by simp only [avs] <;> rfl) (by rfl) ?_; first | refine grd_on ?_ | refine grd_off (by simp only [avs] <;> rfl) ?_))
    refine aops_read rfl (by simp only [avs] <;> rfl) ((hy2 ▸ listb_a hB3 (by have := b2.n; omega))) (by simp only [avs] <;> rfl) ?_
    repeat (refine aops_cons ?_; first | (apply aops_o; rfl; simp only [estep, avs, tts, Nat.reduceAdd, Nat.reduceMul, Nat.reduceSub, Nat.reduceEqDiff, Nat.reduceLT, Nat.reduceLeDiff, Int.reduceToNat, Int.reduceLE, Int.reduceLT, Int.toNat_natCast, reduceCtorEq] <;> (first | with_reducible rfl | rfl)) | (refine aops_grd rfl (by simp only [avs] <;> rfl) (by rfl) ?_; first | refine grd_on ?_ | refine grd_off (by simp only [avs] <;> rfl) ?_))
    refine aops_nil ?_
    repeat refine aw_seq ?_
    refine aw_region ttOk (by kernel_rfl) ?_
    repeat (refine aops_cons ?_; first | (apply aops_o; rfl; simp only [estep, avs, tts, Nat.reduceAdd, Nat.reduceMul, Nat.reduceSub, Nat.reduceEqDiff, Nat.reduceLT, Nat.reduceLeDiff, Int.reduceToNat, Int.reduceLE, Int.reduceLT, Int.toNat_natCast, reduceCtorEq] <;> (first | with_reducible rfl | rfl)) | (refine aops_grd rfl (by simp only [avs] <;> rfl) (by rfl) ?_; first | refine grd_on ?_ | refine grd_off (by simp only [avs] <;> rfl) ?_))
    refine aops_nil ?_
    repeat refine aw_seq ?_
    refine aw_cond rfl rfl (fun hb => ?_) fun hb => ?_
    rotate_left
    ·cases hb
    refine aw_exit ?_
    repeat refine aw_seq ?_
    refine aw_region ttOk (by kernel_rfl) ?_
    repeat (refine aops_cons ?_; first | (apply aops_o; rfl; simp only [estep, avs, tts, Nat.reduceAdd, Nat.reduceMul, Nat.reduceSub, Nat.reduceEqDiff, Nat.reduceLT, Nat.reduceLeDiff, Int.reduceToNat, Int.reduceLE, Int.reduceLT, Int.toNat_natCast, reduceCtorEq, wrap_succ hlt hLl] <;> (first | with_reducible rfl | rfl)) | (refine aops_grd rfl (by simp only [avs] <;> rfl) (by rfl) ?_; first | refine grd_on ?_ | refine grd_off (by simp only [avs] <;> rfl) ?_))
    refine aops_nil ?_
    refine ⟨l.length - (k + 1), _, _, by omega, ⟨?_, .inl rfl⟩, k + 1, Y2, B2, rv ++ [x.id], rfl, hlt, hB3, g2, b2, i2.trans his, by rw [← sI_snoc]; exact got_self hr2 _ _, by simp; omega, rfl⟩
    simp [EnvLe, List.replicate, iA, bA, hy2]
  ·have e2' := e2 hc
   subst e2'
   have ec : decide (c = 0) = false := by simp [hc]
   rw [show nextV rv c x = rv by unfold nextV; rw [if_neg fun h => hc h.1]] at g2
   repeat refine aw_seq ?_
   refine aw_region ttOk (by kernel_rfl) ?_
   repeat (refine aops_cons ?_; first | (apply aops_o; rfl; simp only [estep, avs, tts, Nat.reduceAdd, Nat.reduceMul, Nat.reduceSub, Nat.reduceEqDiff, Nat.reduceLT, Nat.reduceLeDiff, Int.reduceToNat, Int.reduceLE, Int.reduceLT, Int.toNat_natCast, reduceCtorEq, ec] <;> (first | with_reducible rfl | rfl)) | (refine aops_grd rfl (by simp only [avs] <;> rfl) (by rfl) ?_; first | refine grd_on ?_ | refine grd_off (by simp only [avs] <;> rfl) ?_))
   refine aops_nil ?_
   repeat refine aw_seq ?_
   refine aw_cond rfl rfl (fun hb => ?_) fun hb => ?_
   ·cases hb
   refine aw_skip ?_
   repeat refine aw_seq ?_
   refine aw_region ttOk (by kernel_rfl) ?_
   repeat (refine aops_cons ?_; first | (apply aops_o; rfl; simp only [estep, avs, tts, Nat.reduceAdd, Nat.reduceMul, Nat.reduceSub, Nat.reduceEqDiff, Nat.reduceLT, Nat.reduceLeDiff, Int.reduceToNat, Int.reduceLE, Int.reduceLT, Int.toNat_natCast, reduceCtorEq] <;> (first | with_reducible rfl | rfl)) | (refine aops_grd rfl (by simp only [avs] <;> rfl) (by rfl) ?_; first | refine grd_on ?_ | refine grd_off (by simp only [avs] <;> rfl) ?_))
   refine aops_read rfl (by simp only [avs] <;> rfl) ((hy2 ▸ listb_a hB2 (by omega))) (by simp only [avs] <;> rfl) ?_
   repeat (refine aops_cons ?_; first | (apply aops_o; rfl; simp only [estep, avs, tts, Nat.reduceAdd, Nat.reduceMul, Nat.reduceSub, Nat.reduceEqDiff, Nat.reduceLT, Nat.reduceLeDiff, Int.reduceToNat, Int.reduceLE, Int.reduceLT, Int.toNat_natCast, reduceCtorEq] <;> (first | with_reducible rfl | rfl)) | (refine aops_grd rfl (by simp only [avs] <;> rfl) (by rfl) ?_; first | refine grd_on ?_ | refine grd_off (by simp only [avs] <;> rfl) ?_))
   refine aops_nil ?_
   repeat refine aw_seq ?_
   refine aw_region ttOk (by kernel_rfl) ?_
   repeat (refine aops_cons ?_; first | (apply aops_o; rfl; simp only [estep, avs, tts, Nat.reduceAdd, Nat.reduceMul, Nat.reduceSub, Nat.reduceEqDiff, Nat.reduceLT, Nat.reduceLeDiff, Int.reduceToNat, Int.reduceLE, Int.reduceLT, Int.toNat_natCast, reduceCtorEq, ec] <;> (first | with_reducible rfl | rfl)) | (refine aops_grd rfl (by simp only [avs] <;> rfl) (by rfl) ?_; first | refine grd_on ?_ | refine grd_off (by simp only [avs] <;> rfl) ?_))
   refine aops_nil ?_
   repeat refine aw_seq ?_
   refine aw_cond rfl rfl (fun hb => ?_) fun hb => ?_
   ·cases hb
   refine aw_skip ?_
   repeat refine aw_seq ?_
   refine aw_region ttOk (by kernel_rfl) ?_
   repeat (refine aops_cons ?_; first | (apply aops_o; rfl; simp only [estep, avs, tts, Nat.reduceAdd, Nat.reduceMul, Nat.reduceSub, Nat.reduceEqDiff, Nat.reduceLT, Nat.reduceLeDiff, Int.reduceToNat, Int.reduceLE, Int.reduceLT, Int.toNat_natCast, reduceCtorEq, hEl] <;> (first | with_reducible rfl | rfl)) | (refine aops_grd rfl (by simp only [avs] <;> rfl) (by rfl) ?_; first | refine grd_on ?_ | refine grd_off (by simp only [avs] <;> rfl) ?_))
   refine aops_nil ?_
   repeat refine aw_seq ?_
   refine aw_cond rfl rfl (fun hb => ?_) fun hb => ?_
   ·simp at hb
   refine aw_skip ?_
   repeat refine aw_seq ?_
   refine aw_region ttOk (by kernel_rfl) ?_
   repeat (refine aops_cons ?_; first | (apply aops_o; rfl; simp only [estep, avs, tts, Nat.reduceAdd, Nat.reduceMul, Nat.reduceSub, Nat.reduceEqDiff, Nat.reduceLT, Nat.reduceLeDiff, Int.reduceToNat, Int.reduceLE, Int.reduceLT, Int.toNat_natCast, reduceCtorEq] <;> (first | with_reducible rfl | rfl)) | (refine aops_grd rfl (by simp only [avs] <;> rfl) (by rfl) ?_; first | refine grd_on ?_ | refine grd_off (by simp only [avs] <;> rfl) ?_))
   refine aops_nil ?_
   have hnl : (nI (leftsI B2 B2.ents.length)).length = B2.ents.length := by rw [nI_len, leftsI_len _ (Nat.le_refl _)]
   refine aw_block (aw_loop (fun m env K => ∃ j, m = B2.ents.length - j ∧ j ≤ B2.ents.length ∧ K = K2 ∧ env = .d (.v (.string is)) :: .d (.sl 11 (l.map stepC)) :: .undef :: .undef :: .undef :: bA true :: .ptr Y.bl 0 :: .undef :: .ms H1.length 0 rv.length :: iA k :: .d (.sl 9 (stL B2.ents)) :: .ms H'.length 0 B2.ents.length :: .undef :: .undef :: .undef :: .undef :: .d (.sl 9 (stL B2.ents)) :: iA j :: List.replicate 230 .undef) ?_ ⟨0, rfl, Nat.zero_le _, rfl, rfl⟩ ?_)
   ·refine ⟨by simp [EnvLe, List.replicate, iA, bA], .inl rfl⟩
   rintro m env K ⟨j, rfl, hj, rfl, rfl⟩ hN2
   simp only [List.replicate, iA, bA, List.cons_append, List.nil_append]
   repeat refine aw_seq ?_
   refine aw_region ttOk (by kernel_rfl) ?_
   repeat (refine aops_cons ?_; first | (apply aops_o; rfl; simp only [estep, avs, tts, Nat.reduceAdd, Nat.reduceMul, Nat.reduceSub, Nat.reduceEqDiff, Nat.reduceLT, Nat.reduceLeDiff, Int.reduceToNat, Int.reduceLE, Int.reduceLT, Int.toNat_natCast, reduceCtorEq, hEl] <;> (first | with_reducible rfl | rfl)) | (refine aops_grd rfl (by simp only [avs] <;> rfl) (by rfl) ?_; first | refine grd_on ?_ | refine grd_off (by simp only [avs] <;> rfl) ?_))
   refine aops_nil ?_
   repeat refine aw_seq ?_
   refine aw_cond rfl rfl (fun hb => ?_) fun hb => ?_
   ·have hjl : j < B2.ents.length := by simpa using hb
    have hjx : (0 : Int) ≤ (j : Int) := by omega
    obtain ⟨z, hz⟩ : ∃ z, B2.ents[j]? = some z := ⟨_, List.getElem?_eq_getElem hjl⟩
    have hEz := stL_get hz
    have hlg := nI_get _ (by rw [leftsI_len _ (Nat.le_refl _)]; exact hjl : j < (leftsI B2 B2.ents.length).length)
    rw [leftsI_get B2 hz] at hlg
    refine aw_skip ?_
    repeat refine aw_seq ?_
    refine aw_block ?_
    repeat refine aw_seq ?_
    refine aw_region ttOk (by kernel_rfl) ?_
    repeat (refine aops_cons ?_; first | (apply aops_o; rfl; simp only [estep, avs, tts, Nat.reduceAdd, Nat.reduceMul, Nat.reduceSub, Nat.reduceEqDiff, Nat.reduceLT, Nat.reduceLeDiff, Int.reduceToNat, Int.reduceLE, Int.reduceLT, Int.toNat_natCast, reduceCtorEq, hjl, hjx, hEl, hEz, stmC] <;> (first | with_reducible rfl | rfl)) | (refine aops_grd rfl (by simp only [avs] <;> rfl) (by rfl) ?_; first | refine grd_on ?_ | refine grd_off (by simp only [avs] <;> rfl) ?_))
    refine aops_read rfl (by simp only [avs] <;> rfl) ((hy2 ▸ left_a hB2 z.st.id)) (by simp only [avs] <;> rfl) ?_
    repeat (refine aops_cons ?_; first | (apply aops_o; rfl; simp only [estep, avs, tts, Nat.reduceAdd, Nat.reduceMul, Nat.reduceSub, Nat.reduceEqDiff, Nat.reduceLT, Nat.reduceLeDiff, Int.reduceToNat, Int.reduceLE, Int.reduceLT, Int.toNat_natCast, reduceCtorEq, iA] <;> (first | with_reducible rfl | rfl)) | (refine aops_grd rfl (by simp only [avs] <;> rfl) (by rfl) ?_; first | refine grd_on ?_ | refine grd_off (by simp only [avs] <;> rfl) ?_))
    refine aops_nil ?_
    have hlt3 := lt_of_get hl2K
    repeat refine aw_seq ?_
    refine aw_draw 19 ttOk mixed (by kernel_rfl) (by kernel_rfl) (by kernel_rfl) ?_
    repeat (refine ahops_cons ?_; first | (apply ahops_o; rfl; simp only [hstep, avs, tts, Nat.reduceAdd, Nat.reduceMul, Nat.reduceSub, Nat.reduceEqDiff, Nat.reduceLT, Nat.reduceLeDiff, Int.reduceToNat, Int.reduceLE, Int.reduceLT, Int.toNat_natCast, reduceCtorEq, hjl, hjx, hEl, hEz, stmC, hl2K, hlt3, hnl, hlg, iA, Bool.not_true, Bool.not_false] <;> (first | with_reducible rfl | rfl); first | trivial | omega) | (refine ahops_grd rfl (by simp only [avs] <;> rfl) (by rfl) ?_; first | refine hgrd_on ?_ | refine hgrd_off (by simp only [avs] <;> rfl) ?_))
    refine ahops_nil ?_
    repeat (refine aops_cons ?_; first | (apply aops_o; rfl; simp only [estep, avs, tts, Nat.reduceAdd, Nat.reduceMul, Nat.reduceSub, Nat.reduceEqDiff, Nat.reduceLT, Nat.reduceLeDiff, Int.reduceToNat, Int.reduceLE, Int.reduceLT, Int.toNat_natCast, reduceCtorEq, hjl, hjx, hEl, hEz, stmC, hl2K, hlt3, hnl, hlg, iA, Bool.not_true, Bool.not_false] <;> (first | with_reducible rfl | rfl)) | (refine aops_grd rfl (by simp only [avs] <;> rfl) (by rfl) ?_; first | refine grd_on ?_ | refine grd_off (by simp only [avs] <;> rfl) ?_))
    refine aops_nil ?_
    repeat refine aw_seq ?_
    refine aw_cond rfl rfl (fun hb => ?_) fun hb => ?_
    ·simp at hb
    refine aw_skip ?_
    repeat refine aw_seq ?_
    refine aw_region ttOk (by kernel_rfl) ?_
    repeat (refine aops_cons ?_; first | (apply aops_o; rfl; simp only [estep, avs, tts, Nat.reduceAdd, Nat.reduceMul, Nat.reduceSub, Nat.reduceEqDiff, Nat.reduceLT, Nat.reduceLeDiff, Int.reduceToNat, Int.reduceLE, Int.reduceLT, Int.toNat_natCast, reduceCtorEq, wrap_succ hjl (by omega : B2.ents.length ≤ 9223372036854775807)] <;> (first | with_reducible rfl | rfl)) | (refine aops_grd rfl (by simp only [avs] <;> rfl) (by rfl) ?_; first | refine grd_on ?_ | refine grd_off (by simp only [avs] <;> rfl) ?_))
    refine aops_nil ?_
    refine ⟨B2.ents.length - (j + 1), _, _, by omega, ⟨?_, .inl rfl⟩, j + 1, rfl, hjl, rfl, rfl⟩
    simp [EnvLe, List.replicate, iA, bA]
   ·refine aw_exit ?_
    repeat refine aw_seq ?_
    refine aw_region ttOk (by kernel_rfl) ?_
    repeat (refine aops_cons ?_; first | (apply aops_o; rfl; simp only [estep, avs, tts, Nat.reduceAdd, Nat.reduceMul, Nat.reduceSub, Nat.reduceEqDiff, Nat.reduceLT, Nat.reduceLeDiff, Int.reduceToNat, Int.reduceLE, Int.reduceLT, Int.toNat_natCast, reduceCtorEq, wrap_succ hlt hLl] <;> (first | with_reducible rfl | rfl)) | (refine aops_grd rfl (by simp only [avs] <;> rfl) (by rfl) ?_; first | refine grd_on ?_ | refine grd_off (by simp only [avs] <;> rfl) ?_))
    refine aops_nil ?_
    refine ⟨l.length - (k + 1), _, _, by omega, ⟨?_, .inl rfl⟩, k + 1, Y2, B2, rv, rfl, hlt, hB2, g2, b2, i2.trans his, hr2, by omega, rfl⟩
    simp [EnvLe, List.replicate, iA, bA, hy2]
 rintro env K ⟨Y, B, rv, hB, g, b8, hrv, hrl, rfl⟩
 exact rev_end hB g b8 hrv hrl
end Av
end Go.Proofs.YtnkepmfgmfeabaaGreatDoor
