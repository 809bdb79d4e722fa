import Derived.Test.YtnkepmfgmfeabaaGreatDoorQ5
import Derived.Test.YtnkepmfgmfeabaaGreatDoorQ4
import Derived.Test.YtnkepmfgmfeabaaGreatDoorRows
import Derived.ProofKit
import Derived.WideShapes
import Derived.Test.YtnkepmfgmfeabaaGreatDoorQ2
import Derived.Lib.LaidTab
import Derived.Lib.LaidU8
import Derived.Stop.LaidErr
set_option linter.unusedVariables false
set_option linter.unusedSimpArgs false
namespace Go.Proofs.YtnkepmfgmfeabaaGreatDoor
open Go Go.RowKit
namespace Av
attribute [local irreducible] AW AOps AHOps
attribute [local irreducible] messT sigT pubT verT

/-! What a proper statement keeps to; the examples' head. -/
theorem proper_parts {s : Stm} (hp : properB s = true) : s.id.size ≤ 24 ∧ s.prod.size ≤ 24 ∧ s.holder.size = 16 ∧ (∀ t ∈ s.uses, t.size ≤ 24) ∧ (∀ y ∈ s.inputs, y.1.size ≤ 24 ∧ 1 ≤ y.2 ∧ y.2 ≤ 1000000000) ∧ 1 ≤ s.q ∧ s.q ≤ 1000000000 ∧ s.uses.length ≤ 12 ∧ s.inputs.length ≤ 12 := by
 unfold properB usesOk inpsOk at hp
 simp only [Bool.and_eq_true, List.all_eq_true, List.mem_range, decide_eq_true_eq] at hp
 obtain ⟨⟨h1, h2⟩, ⟨⟨⟨⟨⟨h3, h4⟩, h5⟩, h6⟩, h7⟩, h8⟩, h9⟩ := hp
 have id24 : ∀ t : ByteArray, identB t = true → t.size ≤ 24 := fun t ht => by
  unfold identB at ht
  simp only [Bool.and_eq_true, decide_eq_true_eq] at ht
  exact ht.1.2
 have hq : ∀ n : Int, quantB n = true → 1 ≤ n ∧ n ≤ 1000000000 := fun n hn => by
  unfold quantB at hn
  simpa only [Bool.and_eq_true, decide_eq_true_eq] using hn
 refine ⟨id24 _ h3, id24 _ h4, ?_, fun t ht => ?_, fun y hy => ?_, (hq _ h5).1, (hq _ h5).2, h8, h9⟩
 ·have h10 := h6
  unfold isS isL at h10
  simp only [Bool.and_eq_true, beq_iff_eq] at h10
  rw [Lib.size_eq]
  exact h10.1
 ·obtain ⟨i, hi, rfl⟩ := List.mem_iff_getElem.1 ht
  have h11 := h1 i hi
  unfold useOk at h11
  simp only [Bool.and_eq_true] at h11
  have := id24 _ h11.1
  rwa [show s.uses.getD i ByteArray.empty = s.uses[i] by simp [List.getD, hi]] at this
 ·obtain ⟨i, hi, rfl⟩ := List.mem_iff_getElem.1 hy
  have h11 := h2 i hi
  unfold inpOk at h11
  simp only [Bool.and_eq_true] at h11
  have e : s.inputs.getD i nilInp = s.inputs[i] := by simp [List.getD, hi]
  rw [e] at h11
  exact ⟨id24 _ h11.1.1, (hq _ h11.1.2).1, (hq _ h11.1.2).2⟩
theorem pairs_mem {l : List (ByteArray × Int)} {t : ByteArray} (h : t ∈ pairsT l) : ∃ y ∈ l, t = y.1 ∨ t = decI y.2 := by
 unfold pairsT at h
 simp only [List.mem_flatMap] at h
 obtain ⟨y, hy, ht⟩ := h
 simp at ht
 exact ⟨y, hy, ht⟩
theorem fields_le {s : Stm} (hp : properB s = true) : (∀ t ∈ fieldsT s, t.size ≤ 1099511627776) ∧ (fieldsT s).length ≤ 42 := by
 obtain ⟨h1, h2, h3, h4, h5, h6, h7, h8, h9⟩ := proper_parts hp
 have hdI : ∀ n : Int, 0 ≤ n → n ≤ 1000000000 → (decI n).size ≤ 1099511627776 := fun n hn hn2 => by
  unfold decI
  exact decS_size _ (by omega)
 refine ⟨fun t ht => ?_, ?_⟩
 ·unfold fieldsT at ht
  simp only [List.mem_append, List.mem_cons, List.not_mem_nil, or_false] at ht
  rcases ht with (ht | ht) | ht
  ·rcases ht with rfl | rfl | rfl | rfl | rfl | rfl
   ·decide
   ·omega
   ·omega
   ·exact hdI _ (by omega) h7
   ·omega
   ·exact decS_size _ (by omega)
  ·have := h4 t ht; omega
  ·obtain ⟨y, hy, rfl | rfl⟩ := pairs_mem ht
   ·have := h5 y hy; omega
   ·have := h5 y hy; exact hdI _ (by omega) this.2.2
 ·unfold fieldsT
  have hpl := pairs_len s.inputs
  simp only [List.length_append, List.length_cons, List.length_nil]
  omega
theorem fits_of {s : Stm} (hp : properB s = true) (hs : ∀ t ∈ s.sig, t.size ≤ 1099511627776) (hpt : ∀ t ∈ s.path, t.size ≤ 1099511627776) : Fits s := by
 obtain ⟨h1, h2, h3, h4, h5, h6, h7, h8, h9⟩ := proper_parts hp
 obtain ⟨h10, h11⟩ := fields_le hp
 refine ⟨by omega, fun y hy => by have := h5 y hy; omega, by omega, by omega, ?_, hs, hpt⟩
 have := join_le 1099511627776 (fieldsT s) h10 (Nat.le_refl _)
 have h42 : (1099511627776 + 21) * (fieldsT s).length ≤ (1099511627776 + 21) * 42 := Nat.mul_le_mul_left _ h11
 omega
theorem sized_of {s : Stm} (hp : properB s = true) (hs : ∀ t ∈ s.sig, t.size ≤ 1099511627776) (hpt : ∀ t ∈ s.path, t.size ≤ 1099511627776) : s.Sized 4611686018427387904 := by
 obtain ⟨h1, h2, h3, h4, h5, h6, h7, h8, h9⟩ := proper_parts hp
 exact ⟨by omega, by omega, by omega, fun t ht => by have := h4 t ht; omega, fun y hy => by have := h5 y hy; omega, fun t ht => by have := hs t ht; omega, fun t ht => by have := hpt t ht; omega⟩
theorem fits_sgn {s : Stm} {k : ByteArray} {i : Nat} (hp : properB (sgnS s k i) = true) : Fits (sgnS s k i) := fits_of hp (sigT_sizes _ _ _) (pathT_sizes _ _)
theorem sized_sgn {s : Stm} {k : ByteArray} {i : Nat} (hp : properB (sgnS s k i) = true) : (sgnS s k i).Sized 4611686018427387904 := sized_of hp (sigT_sizes _ _ _) (pathT_sizes _ _)
/-- the unsigned statement fits az well -/
theorem fits_raw {s : Stm} (hs : s.sig = []) (hp : s.path = []) (h : properB s = true) : Fits s := fits_of h (fun t ht => by rw [hs] at ht; cases ht) (fun t ht => by rw [hp] at ht; cases ht)
theorem PureA.leArg {P : Program} {base : World} {f : FuncId} {args args' : List AV} {r : AV} (h : PureA P base f args' r) (k : LeL args args') : PureA P base f args r := fun H =>
 ⟨(h H).enter, fun μ w vs hs ha => (h H).run μ w vs hs (k.rep ha)⟩
end Av
end Go.Proofs.YtnkepmfgmfeabaaGreatDoor
set_option linter.unusedVariables false
set_option linter.unusedSimpArgs false
namespace Go.Proofs.YtnkepmfgmfeabaaGreatDoor
open Go Go.RowKit
namespace Av
attribute [local irreducible] AW AOps AHOps
attribute [local irreducible] messT sigT pubT verT

/-! The laws' head: the chapter's examples. -/
theorem pubT_size (s : ByteArray) (h : Nat) : (pubT s h).size = 16 := by unfold pubT; exact rootT_size _
structure OkB (B : Bk) : Prop where
 n : B.ents.length ≤ 1000000
 nx : ∀ x ∈ B.ents, x.next.length ≤ 1000000
 l : ∀ x ∈ B.ents, -1000000000000000000 ≤ x.left ∧ x.left ≤ 1000000000000000000
 i : B.issuer.size ≤ 1099511627776
 h : ∀ x ∈ B.ents, x.st.holder.size ≤ 1099511627776
theorem okE {x : Ent} {k : ByteArray} (hn : x.next.length ≤ 1000000) (hl : -1000000000000000000 ≤ x.left ∧ x.left ≤ 1000000000000000000) (hh : x.st.holder = pubT k 2) : x.next.length ≤ 1000000 ∧ (-1000000000000000000 ≤ x.left ∧ x.left ≤ 1000000000000000000) ∧ x.st.holder.size ≤ 1099511627776 := ⟨hn, hl, by rw [hh, pubT_size]; decide⟩
theorem ok_of {B : Bk} (hn : B.ents.length ≤ 1000000) (hi : B.issuer = pubT sIss 2) (h : ∀ x ∈ B.ents, x.next.length ≤ 1000000 ∧ (-1000000000000000000 ≤ x.left ∧ x.left ≤ 1000000000000000000) ∧ x.st.holder.size ≤ 1099511627776) : OkB B := ⟨hn, fun x hx => (h x hx).1, fun x hx => (h x hx).2.1, by rw [hi, pubT_size]; decide, fun x hx => (h x hx).2.2⟩
theorem okb0 : OkB B0 := ok_of (by decide) rfl fun x hx => by cases hx
theorem okb1 : OkB B1 := ok_of (by decide) rfl fun x hx => by
 simp only [B1, List.mem_cons, List.not_mem_nil, or_false] at hx
 subst hx
 exact okE (k := sA1) (by decide) (by decide) rfl
theorem okb2 : OkB B2 := ok_of (by decide) rfl fun x hx => by
 simp only [B2, List.mem_cons, List.not_mem_nil, or_false] at hx
 rcases hx with rfl | rfl
 ·exact okE (k := sA1) (by decide) (by decide) rfl
 ·exact okE (k := sB1) (by decide) (by decide) rfl
theorem okb3 : OkB B3 := ok_of (by decide) rfl fun x hx => by
 simp only [B3, List.mem_cons, List.not_mem_nil, or_false] at hx
 rcases hx with rfl | rfl | rfl
 ·exact okE (k := sA1) (by decide) (by decide) rfl
 ·exact okE (k := sB1) (by decide) (by decide) rfl
 ·exact okE (k := sB1) (by decide) (by decide) rfl
theorem prop_raw (s : Stm) (k : ByteArray) (i : Nat) : properB (sgnS s k i) = properB s := rfl
theorem raw_fits {s : Stm} {k : ByteArray} {i : Nat} (h : properB (sgnS s k i) = true) (hs : s.sig = []) (hp : s.path = []) : Fits s := fits_raw hs hp (by rw [← prop_raw s k i]; exact h)
theorem left1 : leftR B3 id1 = (10, 0) := by kernel_rfl
theorem left2 : leftR B3 id2 = (60, 0) := by kernel_rfl
theorem uok4 : ∀ x ∈ B4.ents, x.st.uses.length ≤ 1000000 := fun x hx => by
 simp only [B4, List.mem_cons, List.not_mem_nil, or_false] at hx
 rcases hx with rfl | rfl | rfl <;> decide
theorem uses3 : (usesR B4 id3).2 = 12 := by kernel_rfl
set_option maxRecDepth 100000 in
set_option maxHeartbeats 8000000 in
theorem head29_a {base : World} (hT : Tabs base) {H : AHeap} : CallsA Tryz.prog base 5 [] H fun r H' => r = bA true ∧ KeepO H H' := by
 refine callsA_enter ttOk Tryz.call5 Tryz.func5 rfl fun hB hb hF => ?_
 rw [Tryz.results5, Tryz.ntmps5]
 simp only [arr_list, List.length_cons, List.length_nil, List.replicate, List.cons_append, List.nil_append, Nat.reduceAdd, Nat.reduceSub]
 repeat refine aw_seq ?_
 refine aw_region ttOk (by kernel_rfl) ?_
 repeat (refine aops_cons ?_; first | (apply aops_o; rfl; simp only [estep, avs, tts, Nat.reduceAdd, Nat.reduceMul, Nat.reduceSub, Nat.reduceEqDiff, Nat.reduceLT, Nat.reduceLeDiff, Int.reduceToNat, Int.reduceLE, Int.reduceLT, Int.toNat_natCast, reduceCtorEq] <;> (first | with_reducible rfl | rfl)) | (refine aops_grd rfl (by simp only [avs] <;> rfl) (by rfl) ?_; first | refine grd_on ?_ | refine grd_off (by simp only [avs] <;> rfl) ?_))
 refine aops_nil ?_
 repeat refine aw_seq ?_
 refine aw_region ttOk (by kernel_rfl) ?_
 repeat (refine aops_cons ?_; first | (apply aops_o; rfl; simp only [estep, avs, tts, Nat.reduceAdd, Nat.reduceMul, Nat.reduceSub, Nat.reduceEqDiff, Nat.reduceLT, Nat.reduceLeDiff, Int.reduceToNat, Int.reduceLE, Int.reduceLT, Int.toNat_natCast, reduceCtorEq] <;> (first | with_reducible rfl | rfl)) | (refine aops_grd rfl (by simp only [avs] <;> rfl) (by rfl) ?_; first | refine grd_on ?_ | refine grd_off (by simp only [avs] <;> rfl) ?_))
 refine aops_pure rfl (by simp only [avs] <;> rfl) (public_a hT sIss (by decide)) (by simp only [avs] <;> rfl) ?_
 repeat (refine aops_cons ?_; first | (apply aops_o; rfl; simp only [estep, avs, tts, Nat.reduceAdd, Nat.reduceMul, Nat.reduceSub, Nat.reduceEqDiff, Nat.reduceLT, Nat.reduceLeDiff, Int.reduceToNat, Int.reduceLE, Int.reduceLT, Int.toNat_natCast, reduceCtorEq] <;> (first | with_reducible rfl | rfl)) | (refine aops_grd rfl (by simp only [avs] <;> rfl) (by rfl) ?_; first | refine grd_on ?_ | refine grd_off (by simp only [avs] <;> rfl) ?_))
 refine aops_call rfl (by simp only [avs] <;> rfl) ⟨_, new_a (pubT sIss 2) (by rw [pubT_size]; decide), ?_⟩
 rintro r H' hh hl2
 rcases hh with ⟨_, rfl, ⟨G, rfl⟩, hB⟩ | ⟨h1, _⟩
 case inr => rw [isS_pub] at h1; cases h1
 repeat (refine aops_cons ?_; first | (apply aops_o; rfl; simp only [estep, avs, tts, Nat.reduceAdd, Nat.reduceMul, Nat.reduceSub, Nat.reduceEqDiff, Nat.reduceLT, Nat.reduceLeDiff, Int.reduceToNat, Int.reduceLE, Int.reduceLT, Int.toNat_natCast, reduceCtorEq, iA] <;> (first | with_reducible rfl | rfl)) | (refine aops_grd rfl (by simp only [avs] <;> rfl) (by rfl) ?_; first | refine grd_on ?_ | refine grd_off (by simp only [avs] <;> rfl) ?_))
 refine aops_nil ?_
 have hB0 : Book (H ++ G) (newY H.length) B0 := hB
 have hk0 : KeepO H (H ++ G) := .app H G
 obtain ⟨bl, hbl⟩ : ∃ bl, bl = (newY H.length).bl := ⟨_, rfl⟩
 rw [← hbl]
 generalize hY0 : newY H.length = Y0 at hB0 hbl

 generalize H ++ G = H1 at hB0 hk0 hl2 ⊢
 repeat refine aw_seq ?_
 refine aw_region ttOk (by kernel_rfl) ?_
 repeat (refine aops_cons ?_; first | (apply aops_o; rfl; simp only [estep, avs, tts, Nat.reduceAdd, Nat.reduceMul, Nat.reduceSub, Nat.reduceEqDiff, Nat.reduceLT, Nat.reduceLeDiff, Int.reduceToNat, Int.reduceLE, Int.reduceLT, Int.toNat_natCast, reduceCtorEq] <;> (first | with_reducible rfl | rfl)) | (refine aops_grd rfl (by simp only [avs] <;> rfl) (by rfl) ?_; first | refine grd_on ?_ | refine grd_off (by simp only [avs] <;> rfl) ?_))
 refine aops_nil ?_
 repeat refine aw_seq ?_
 refine aw_cond rfl rfl (fun hb => ?_) fun hb => ?_
 ·cases hb
 refine aw_skip ?_
 repeat refine aw_seq ?_
 refine aw_region ttOk (by kernel_rfl) ?_
 repeat (refine aops_cons ?_; first | (apply aops_o; rfl; simp only [estep, avs, tts, Nat.reduceAdd, Nat.reduceMul, Nat.reduceSub, Nat.reduceEqDiff, Nat.reduceLT, Nat.reduceLeDiff, Int.reduceToNat, Int.reduceLE, Int.reduceLT, Int.toNat_natCast, reduceCtorEq] <;> (first | with_reducible rfl | rfl)) | (refine aops_grd rfl (by simp only [avs] <;> rfl) (by rfl) ?_; first | refine grd_on ?_ | refine grd_off (by simp only [avs] <;> rfl) ?_))
 refine aops_nil ?_
 refine aw_frz (H1.length) (by simp only [avs, tts, Nat.reduceAdd, Nat.reduceMul, Nat.reduceSub, Nat.reduceEqDiff, Nat.reduceLT, Nat.reduceLeDiff, Int.reduceToNat, Int.reduceLE, Int.reduceLT, Int.toNat_natCast, reduceCtorEq, frzL, frzA, frzO, unI_dI, dI_len, unI, unL, rowS, Nat.add_eq_left, Nat.left_eq_add, Nat.one_ne_zero] <;> rfl) (by simp only [avs, tts, Nat.reduceAdd, Nat.reduceMul, Nat.reduceSub, Nat.reduceEqDiff, Nat.reduceLT, Nat.reduceLeDiff, Int.reduceToNat, Int.reduceLE, Int.reduceLT, Int.toNat_natCast, reduceCtorEq, frzL, frzA, frzO, unI_dI, dI_len, unI, unL, rowS, Nat.add_eq_left, Nat.left_eq_add, Nat.one_ne_zero] <;> rfl) ?_

 repeat refine aw_seq ?_
 refine aw_region ttOk (by kernel_rfl) ?_
 repeat (refine aops_cons ?_; first | (apply aops_o; rfl; simp only [estep, avs, tts, Nat.reduceAdd, Nat.reduceMul, Nat.reduceSub, Nat.reduceEqDiff, Nat.reduceLT, Nat.reduceLeDiff, Int.reduceToNat, Int.reduceLE, Int.reduceLT, Int.toNat_natCast, reduceCtorEq] <;> (first | with_reducible rfl | rfl)) | (refine aops_grd rfl (by simp only [avs] <;> rfl) (by rfl) ?_; first | refine grd_on ?_ | refine grd_off (by simp only [avs] <;> rfl) ?_))
 refine aops_pureF ((H1.length+1)) rfl (by simp only [avs] <;> rfl) (by simp only [avs, tts, Nat.reduceAdd, Nat.reduceMul, Nat.reduceSub, Nat.reduceEqDiff, Nat.reduceLT, Nat.reduceLeDiff, Int.reduceToNat, Int.reduceLE, Int.reduceLT, Int.toNat_natCast, reduceCtorEq, frzL, frzA, frzO, unI_dI, dI_len, unI, unL, rowS, Nat.add_eq_left, Nat.left_eq_add, Nat.one_ne_zero] <;> rfl) (by simp only [avs, tts, Nat.reduceAdd, Nat.reduceMul, Nat.reduceSub, Nat.reduceEqDiff, Nat.reduceLT, Nat.reduceLeDiff, Int.reduceToNat, Int.reduceLE, Int.reduceLT, Int.toNat_natCast, reduceCtorEq, frzL, frzA, frzO, unI_dI, dI_len, unI, unL, rowS, Nat.add_eq_left, Nat.left_eq_add, Nat.one_ne_zero] <;> rfl) (PureA.leArg (args := [.d (.v (.string id1)), .d (.v (.int .i64 100)), .d (.v (.string sA1)), .d (strsP [sCiv, sRes]), .d (.v (.slice none 0 0))]) (stm29_a hT id1 100 sA1 [sCiv, sRes] [] (by decide)) ⟨.refl _, .refl _, .refl _, .refl _, .nil 2, trivial⟩) (by simp only [avs] <;> rfl) ?_
 repeat (refine aops_cons ?_; first | (apply aops_o; rfl; simp only [estep, avs, tts, Nat.reduceAdd, Nat.reduceMul, Nat.reduceSub, Nat.reduceEqDiff, Nat.reduceLT, Nat.reduceLeDiff, Int.reduceToNat, Int.reduceLE, Int.reduceLT, Int.toNat_natCast, reduceCtorEq] <;> (first | with_reducible rfl | rfl)) | (refine aops_grd rfl (by simp only [avs] <;> rfl) (by rfl) ?_; first | refine grd_on ?_ | refine grd_off (by simp only [avs] <;> rfl) ?_))
 refine aops_pure rfl (by simp only [avs] <;> rfl) (sign29_a hT (stS id1 100 sA1 [sCiv, sRes] []) sIss 0 (by decide) (by decide) (raw_fits p1 rfl rfl)) (by simp only [avs] <;> rfl) ?_
 repeat (refine aops_cons ?_; first | (apply aops_o; rfl; simp only [estep, avs, tts, Nat.reduceAdd, Nat.reduceMul, Nat.reduceSub, Nat.reduceEqDiff, Nat.reduceLT, Nat.reduceLeDiff, Int.reduceToNat, Int.reduceLE, Int.reduceLT, Int.toNat_natCast, reduceCtorEq] <;> (first | with_reducible rfl | rfl)) | (refine aops_grd rfl (by simp only [avs] <;> rfl) (by rfl) ?_; first | refine grd_on ?_ | refine grd_off (by simp only [avs] <;> rfl) ?_))
 refine aops_call rfl (by simp only [avs] <;> rfl) ⟨_, by rw [hbl]; exact add_a hT (hB0.app _) (s := st1) (fun _ => fits_sgn p1) (sized_sgn p1) okb0.n okb0.nx okb0.l okb0.i okb0.h, ?_⟩
 rintro r1 K1 ⟨hr1, Y1, hy1, hb1, hq1⟩ hlk1
 rw [a1] at hr1 hb1
 have hB1 : Book K1 Y1 B1 := hb1
 have hr1' : r1 = iA ((0 : Int)) := hr1
 have hkk1 : KeepO H K1 := (hk0.trans (.app _ _)).trans hq1
 rw [← hy1] at hbl
 rw [hr1']
 clear hb1 hr1 hr1' hB0 hk0 hq1
 repeat (refine aops_cons ?_; first | (apply aops_o; rfl; simp only [estep, avs, tts, Nat.reduceAdd, Nat.reduceMul, Nat.reduceSub, Nat.reduceEqDiff, Nat.reduceLT, Nat.reduceLeDiff, Int.reduceToNat, Int.reduceLE, Int.reduceLT, Int.toNat_natCast, reduceCtorEq, iA] <;> (first | with_reducible rfl | rfl)) | (refine aops_grd rfl (by simp only [avs] <;> rfl) (by rfl) ?_; first | refine grd_on ?_ | refine grd_off (by simp only [avs] <;> rfl) ?_))
 refine aops_nil ?_
 repeat refine aw_seq ?_
 refine aw_region ttOk (by kernel_rfl) ?_
 repeat (refine aops_cons ?_; first | (apply aops_o; rfl; simp only [estep, avs, tts, Nat.reduceAdd, Nat.reduceMul, Nat.reduceSub, Nat.reduceEqDiff, Nat.reduceLT, Nat.reduceLeDiff, Int.reduceToNat, Int.reduceLE, Int.reduceLT, Int.toNat_natCast, reduceCtorEq] <;> (first | with_reducible rfl | rfl)) | (refine aops_grd rfl (by simp only [avs] <;> rfl) (by rfl) ?_; first | refine grd_on ?_ | refine grd_off (by simp only [avs] <;> rfl) ?_))
 refine aops_pureF ((K1.length+0)) rfl (by simp only [avs] <;> rfl) (by simp only [avs, tts, Nat.reduceAdd, Nat.reduceMul, Nat.reduceSub, Nat.reduceEqDiff, Nat.reduceLT, Nat.reduceLeDiff, Int.reduceToNat, Int.reduceLE, Int.reduceLT, Int.toNat_natCast, reduceCtorEq, frzL, frzA, frzO, unI_dI, dI_len, unI, unL, rowS, Nat.add_eq_left, Nat.left_eq_add, Nat.one_ne_zero] <;> rfl) (by simp only [avs, tts, Nat.reduceAdd, Nat.reduceMul, Nat.reduceSub, Nat.reduceEqDiff, Nat.reduceLT, Nat.reduceLeDiff, Int.reduceToNat, Int.reduceLE, Int.reduceLT, Int.toNat_natCast, reduceCtorEq, frzL, frzA, frzO, unI_dI, dI_len, unI, unL, rowS, Nat.add_eq_left, Nat.left_eq_add, Nat.one_ne_zero] <;> rfl) (stm29_a hT id2 60 sB1 [sCiv] [(id1, 60)] (by decide)) (by simp only [avs] <;> rfl) ?_
 repeat (refine aops_cons ?_; first | (apply aops_o; rfl; simp only [estep, avs, tts, Nat.reduceAdd, Nat.reduceMul, Nat.reduceSub, Nat.reduceEqDiff, Nat.reduceLT, Nat.reduceLeDiff, Int.reduceToNat, Int.reduceLE, Int.reduceLT, Int.toNat_natCast, reduceCtorEq] <;> (first | with_reducible rfl | rfl)) | (refine aops_grd rfl (by simp only [avs] <;> rfl) (by rfl) ?_; first | refine grd_on ?_ | refine grd_off (by simp only [avs] <;> rfl) ?_))
 refine aops_pure rfl (by simp only [avs] <;> rfl) (sign29_a hT (stS id2 60 sB1 [sCiv] [(id1, 60)]) sA1 0 (by decide) (by decide) (raw_fits p2 rfl rfl)) (by simp only [avs] <;> rfl) ?_
 repeat (refine aops_cons ?_; first | (apply aops_o; rfl; simp only [estep, avs, tts, Nat.reduceAdd, Nat.reduceMul, Nat.reduceSub, Nat.reduceEqDiff, Nat.reduceLT, Nat.reduceLeDiff, Int.reduceToNat, Int.reduceLE, Int.reduceLT, Int.toNat_natCast, reduceCtorEq] <;> (first | with_reducible rfl | rfl)) | (refine aops_grd rfl (by simp only [avs] <;> rfl) (by rfl) ?_; first | refine grd_on ?_ | refine grd_off (by simp only [avs] <;> rfl) ?_))
 refine aops_call rfl (by simp only [avs] <;> rfl) ⟨_, by rw [hbl]; exact add_a hT (hB1.app _) (s := st2) (fun _ => fits_sgn p2) (sized_sgn p2) okb1.n okb1.nx okb1.l okb1.i okb1.h, ?_⟩
 rintro r2 K2 ⟨hr2, Y2, hy2, hb2, hq2⟩ hlk2
 rw [a2] at hr2 hb2
 have hB2 : Book K2 Y2 B2 := hb2
 have hr2' : r2 = iA ((0 : Int)) := hr2
 have hkk2 : KeepO H K2 := (hkk1.trans (.app _ _)).trans hq2
 rw [← hy2] at hbl
 rw [hr2']
 clear hb2 hr2 hr2' hB1 hkk1 hq2
 repeat (refine aops_cons ?_; first | (apply aops_o; rfl; simp only [estep, avs, tts, Nat.reduceAdd, Nat.reduceMul, Nat.reduceSub, Nat.reduceEqDiff, Nat.reduceLT, Nat.reduceLeDiff, Int.reduceToNat, Int.reduceLE, Int.reduceLT, Int.toNat_natCast, reduceCtorEq, iA] <;> (first | with_reducible rfl | rfl)) | (refine aops_grd rfl (by simp only [avs] <;> rfl) (by rfl) ?_; first | refine grd_on ?_ | refine grd_off (by simp only [avs] <;> rfl) ?_))
 refine aops_nil ?_
 repeat refine aw_seq ?_
 refine aw_region ttOk (by kernel_rfl) ?_
 repeat (refine aops_cons ?_; first | (apply aops_o; rfl; simp only [estep, avs, tts, Nat.reduceAdd, Nat.reduceMul, Nat.reduceSub, Nat.reduceEqDiff, Nat.reduceLT, Nat.reduceLeDiff, Int.reduceToNat, Int.reduceLE, Int.reduceLT, Int.toNat_natCast, reduceCtorEq] <;> (first | with_reducible rfl | rfl)) | (refine aops_grd rfl (by simp only [avs] <;> rfl) (by rfl) ?_; first | refine grd_on ?_ | refine grd_off (by simp only [avs] <;> rfl) ?_))
 refine aops_call rfl (by simp only [avs] <;> rfl) ⟨_, calls_frz ((K2.length+0)) (by simp only [avs, tts, Nat.reduceAdd, Nat.reduceMul, Nat.reduceSub, Nat.reduceEqDiff, Nat.reduceLT, Nat.reduceLeDiff, Int.reduceToNat, Int.reduceLE, Int.reduceLT, Int.toNat_natCast, reduceCtorEq, frzL, frzA, frzO, unI_dI, dI_len, unI, unL, rowS, Nat.add_eq_left, Nat.left_eq_add, Nat.one_ne_zero] <;> rfl) (by simp only [avs, tts, Nat.reduceAdd, Nat.reduceMul, Nat.reduceSub, Nat.reduceEqDiff, Nat.reduceLT, Nat.reduceLeDiff, Int.reduceToNat, Int.reduceLE, Int.reduceLT, Int.toNat_natCast, reduceCtorEq, frzL, frzA, frzO, unI_dI, dI_len, unI, unL, rowS, Nat.add_eq_left, Nat.left_eq_add, Nat.one_ne_zero] <;> rfl) (calls_frz ((K2.length+1)) (by simp only [avs, tts, Nat.reduceAdd, Nat.reduceMul, Nat.reduceSub, Nat.reduceEqDiff, Nat.reduceLT, Nat.reduceLeDiff, Int.reduceToNat, Int.reduceLE, Int.reduceLT, Int.toNat_natCast, reduceCtorEq, frzL, frzA, frzO, unI_dI, dI_len, unI, unL, rowS, Nat.add_eq_left, Nat.left_eq_add, Nat.one_ne_zero] <;> rfl) (by simp only [avs, tts, Nat.reduceAdd, Nat.reduceMul, Nat.reduceSub, Nat.reduceEqDiff, Nat.reduceLT, Nat.reduceLeDiff, Int.reduceToNat, Int.reduceLE, Int.reduceLT, Int.toNat_natCast, reduceCtorEq, frzL, frzA, frzO, unI_dI, dI_len, unI, unL, rowS, Nat.add_eq_left, Nat.left_eq_add, Nat.one_ne_zero] <;> rfl) ((stm29_a hT id3 30 sB1 [sRes] [(id1, 30)] (by decide)) _)), ?_⟩
 rintro rF HF ⟨rfl, rfl⟩ hlF
 repeat (refine aops_cons ?_; first | (apply aops_o; rfl; simp only [estep, avs, tts, Nat.reduceAdd, Nat.reduceMul, Nat.reduceSub, Nat.reduceEqDiff, Nat.reduceLT, Nat.reduceLeDiff, Int.reduceToNat, Int.reduceLE, Int.reduceLT, Int.toNat_natCast, reduceCtorEq] <;> (first | with_reducible rfl | rfl)) | (refine aops_grd rfl (by simp only [avs] <;> rfl) (by rfl) ?_; first | refine grd_on ?_ | refine grd_off (by simp only [avs] <;> rfl) ?_))
 refine aops_pure rfl (by simp only [avs] <;> rfl) (sign29_a hT (stS id3 30 sB1 [sRes] [(id1, 30)]) sA1 1 (by decide) (by decide) (raw_fits p3 rfl rfl)) (by simp only [avs] <;> rfl) ?_
 repeat (refine aops_cons ?_; first | (apply aops_o; rfl; simp only [estep, avs, tts, Nat.reduceAdd, Nat.reduceMul, Nat.reduceSub, Nat.reduceEqDiff, Nat.reduceLT, Nat.reduceLeDiff, Int.reduceToNat, Int.reduceLE, Int.reduceLT, Int.toNat_natCast, reduceCtorEq] <;> (first | with_reducible rfl | rfl)) | (refine aops_grd rfl (by simp only [avs] <;> rfl) (by rfl) ?_; first | refine grd_on ?_ | refine grd_off (by simp only [avs] <;> rfl) ?_))
 refine aops_call rfl (by simp only [avs] <;> rfl) ⟨_, by rw [hbl]; exact add_a hT (hB2.app _) (s := st3) (fun _ => fits_sgn p3) (sized_sgn p3) okb2.n okb2.nx okb2.l okb2.i okb2.h, ?_⟩
 rintro r3 K3 ⟨hr3, Y3, hy3, hb3, hq3⟩ hlk3
 rw [a3] at hr3 hb3
 have hB3 : Book K3 Y3 B3 := hb3
 have hr3' : r3 = iA ((0 : Int)) := hr3
 have hkk3 : KeepO H K3 := (hkk2.trans (.app _ _)).trans hq3
 rw [← hy3] at hbl
 rw [hr3']
 clear hb3 hr3 hr3' hB2 hkk2 hq3
 repeat (refine aops_cons ?_; first | (apply aops_o; rfl; simp only [estep, avs, tts, Nat.reduceAdd, Nat.reduceMul, Nat.reduceSub, Nat.reduceEqDiff, Nat.reduceLT, Nat.reduceLeDiff, Int.reduceToNat, Int.reduceLE, Int.reduceLT, Int.toNat_natCast, reduceCtorEq, iA] <;> (first | with_reducible rfl | rfl)) | (refine aops_grd rfl (by simp only [avs] <;> rfl) (by rfl) ?_; first | refine grd_on ?_ | refine grd_off (by simp only [avs] <;> rfl) ?_))
 refine aops_nil ?_
 repeat refine aw_seq ?_
 refine aw_region ttOk (by kernel_rfl) ?_
 repeat (refine aops_cons ?_; first | (apply aops_o; rfl; simp only [estep, avs, tts, Nat.reduceAdd, Nat.reduceMul, Nat.reduceSub, Nat.reduceEqDiff, Nat.reduceLT, Nat.reduceLeDiff, Int.reduceToNat, Int.reduceLE, Int.reduceLT, Int.toNat_natCast, reduceCtorEq] <;> (first | with_reducible rfl | rfl)) | (refine aops_grd rfl (by simp only [avs] <;> rfl) (by rfl) ?_; first | refine grd_on ?_ | refine grd_off (by simp only [avs] <;> rfl) ?_))
 refine aops_read rfl (by simp only [avs] <;> rfl) ((by rw [hbl]; exact left_a hB3 id1)) (by simp only [avs] <;> rfl) ?_
 repeat (refine aops_cons ?_; first | (apply aops_o; rfl; simp only [estep, avs, tts, Nat.reduceAdd, Nat.reduceMul, Nat.reduceSub, Nat.reduceEqDiff, Nat.reduceLT, Nat.reduceLeDiff, Int.reduceToNat, Int.reduceLE, Int.reduceLT, Int.toNat_natCast, reduceCtorEq, left1] <;> (first | with_reducible rfl | rfl)) | (refine aops_grd rfl (by simp only [avs] <;> rfl) (by rfl) ?_; first | refine grd_on ?_ | refine grd_off (by simp only [avs] <;> rfl) ?_))
 refine aops_nil ?_
 repeat refine aw_seq ?_
 refine aw_region ttOk (by kernel_rfl) ?_
 repeat (refine aops_cons ?_; first | (apply aops_o; rfl; simp only [estep, avs, tts, Nat.reduceAdd, Nat.reduceMul, Nat.reduceSub, Nat.reduceEqDiff, Nat.reduceLT, Nat.reduceLeDiff, Int.reduceToNat, Int.reduceLE, Int.reduceLT, Int.toNat_natCast, reduceCtorEq] <;> (first | with_reducible rfl | rfl)) | (refine aops_grd rfl (by simp only [avs] <;> rfl) (by rfl) ?_; first | refine grd_on ?_ | refine grd_off (by simp only [avs] <;> rfl) ?_))
 refine aops_read rfl (by simp only [avs] <;> rfl) ((by rw [hbl]; exact left_a hB3 id2)) (by simp only [avs] <;> rfl) ?_
 repeat (refine aops_cons ?_; first | (apply aops_o; rfl; simp only [estep, avs, tts, Nat.reduceAdd, Nat.reduceMul, Nat.reduceSub, Nat.reduceEqDiff, Nat.reduceLT, Nat.reduceLeDiff, Int.reduceToNat, Int.reduceLE, Int.reduceLT, Int.toNat_natCast, reduceCtorEq, left2] <;> (first | with_reducible rfl | rfl)) | (refine aops_grd rfl (by simp only [avs] <;> rfl) (by rfl) ?_; first | refine grd_on ?_ | refine grd_off (by simp only [avs] <;> rfl) ?_))
 refine aops_nil ?_
 repeat refine aw_seq ?_
 refine aw_region ttOk (by kernel_rfl) ?_
 repeat (refine aops_cons ?_; first | (apply aops_o; rfl; simp only [estep, avs, tts, Nat.reduceAdd, Nat.reduceMul, Nat.reduceSub, Nat.reduceEqDiff, Nat.reduceLT, Nat.reduceLeDiff, Int.reduceToNat, Int.reduceLE, Int.reduceLT, Int.toNat_natCast, reduceCtorEq] <;> (first | with_reducible rfl | rfl)) | (refine aops_grd rfl (by simp only [avs] <;> rfl) (by rfl) ?_; first | refine grd_on ?_ | refine grd_off (by simp only [avs] <;> rfl) ?_))
 refine aops_pureF ((K3.length+0)) rfl (by simp only [avs] <;> rfl) (by simp only [avs, tts, Nat.reduceAdd, Nat.reduceMul, Nat.reduceSub, Nat.reduceEqDiff, Nat.reduceLT, Nat.reduceLeDiff, Int.reduceToNat, Int.reduceLE, Int.reduceLT, Int.toNat_natCast, reduceCtorEq, frzL, frzA, frzO, unI_dI, dI_len, unI, unL, rowS, Nat.add_eq_left, Nat.left_eq_add, Nat.one_ne_zero] <;> rfl) (by simp only [avs, tts, Nat.reduceAdd, Nat.reduceMul, Nat.reduceSub, Nat.reduceEqDiff, Nat.reduceLT, Nat.reduceLeDiff, Int.reduceToNat, Int.reduceLE, Int.reduceLT, Int.toNat_natCast, reduceCtorEq, frzL, frzA, frzO, unI_dI, dI_len, unI, unL, rowS, Nat.add_eq_left, Nat.left_eq_add, Nat.one_ne_zero] <;> rfl) (stm29_a hT id4 20 sC1 [sCiv] [(id1, 20)] (by decide)) (by simp only [avs] <;> rfl) ?_
 repeat (refine aops_cons ?_; first | (apply aops_o; rfl; simp only [estep, avs, tts, Nat.reduceAdd, Nat.reduceMul, Nat.reduceSub, Nat.reduceEqDiff, Nat.reduceLT, Nat.reduceLeDiff, Int.reduceToNat, Int.reduceLE, Int.reduceLT, Int.toNat_natCast, reduceCtorEq] <;> (first | with_reducible rfl | rfl)) | (refine aops_grd rfl (by simp only [avs] <;> rfl) (by rfl) ?_; first | refine grd_on ?_ | refine grd_off (by simp only [avs] <;> rfl) ?_))
 refine aops_pure rfl (by simp only [avs] <;> rfl) (sign29_a hT (stS id4 20 sC1 [sCiv] [(id1, 20)]) sA1 2 (by decide) (by decide) (raw_fits p4 rfl rfl)) (by simp only [avs] <;> rfl) ?_
 repeat (refine aops_cons ?_; first | (apply aops_o; rfl; simp only [estep, avs, tts, Nat.reduceAdd, Nat.reduceMul, Nat.reduceSub, Nat.reduceEqDiff, Nat.reduceLT, Nat.reduceLeDiff, Int.reduceToNat, Int.reduceLE, Int.reduceLT, Int.toNat_natCast, reduceCtorEq] <;> (first | with_reducible rfl | rfl)) | (refine aops_grd rfl (by simp only [avs] <;> rfl) (by rfl) ?_; first | refine grd_on ?_ | refine grd_off (by simp only [avs] <;> rfl) ?_))
 refine aops_call rfl (by simp only [avs] <;> rfl) ⟨_, by rw [hbl]; exact add_a hT (hB3.app _) (s := st4) (fun _ => fits_sgn p4) (sized_sgn p4) okb3.n okb3.nx okb3.l okb3.i okb3.h, ?_⟩
 rintro r4 K4 ⟨hr4, Y4, hy4, hb4, hq4⟩ hlk4
 rw [a4] at hr4 hb4
 have hB4 : Book K4 Y4 B3 := hb4
 have hr4' : r4 = iA ((19 : Int)) := hr4
 have hkk4 : KeepO H K4 := (hkk3.trans (.app _ _)).trans hq4
 rw [← hy4] at hbl
 rw [hr4']
 clear hb4 hr4 hr4' hB3 hkk3 hq4
 repeat (refine aops_cons ?_; first | (apply aops_o; rfl; simp only [estep, avs, tts, Nat.reduceAdd, Nat.reduceMul, Nat.reduceSub, Nat.reduceEqDiff, Nat.reduceLT, Nat.reduceLeDiff, Int.reduceToNat, Int.reduceLE, Int.reduceLT, Int.toNat_natCast, reduceCtorEq, iA] <;> (first | with_reducible rfl | rfl)) | (refine aops_grd rfl (by simp only [avs] <;> rfl) (by rfl) ?_; first | refine grd_on ?_ | refine grd_off (by simp only [avs] <;> rfl) ?_))
 refine aops_nil ?_
 repeat refine aw_seq ?_
 refine aw_region ttOk (by kernel_rfl) ?_
 repeat (refine aops_cons ?_; first | (apply aops_o; rfl; simp only [estep, avs, tts, Nat.reduceAdd, Nat.reduceMul, Nat.reduceSub, Nat.reduceEqDiff, Nat.reduceLT, Nat.reduceLeDiff, Int.reduceToNat, Int.reduceLE, Int.reduceLT, Int.toNat_natCast, reduceCtorEq] <;> (first | with_reducible rfl | rfl)) | (refine aops_grd rfl (by simp only [avs] <;> rfl) (by rfl) ?_; first | refine grd_on ?_ | refine grd_off (by simp only [avs] <;> rfl) ?_))
 refine aops_pureF ((K4.length+0)) rfl (by simp only [avs] <;> rfl) (by simp only [avs, tts, Nat.reduceAdd, Nat.reduceMul, Nat.reduceSub, Nat.reduceEqDiff, Nat.reduceLT, Nat.reduceLeDiff, Int.reduceToNat, Int.reduceLE, Int.reduceLT, Int.toNat_natCast, reduceCtorEq, frzL, frzA, frzO, unI_dI, dI_len, unI, unL, rowS, Nat.add_eq_left, Nat.left_eq_add, Nat.one_ne_zero] <;> rfl) (by simp only [avs, tts, Nat.reduceAdd, Nat.reduceMul, Nat.reduceSub, Nat.reduceEqDiff, Nat.reduceLT, Nat.reduceLeDiff, Int.reduceToNat, Int.reduceLE, Int.reduceLT, Int.toNat_natCast, reduceCtorEq, frzL, frzA, frzO, unI_dI, dI_len, unI, unL, rowS, Nat.add_eq_left, Nat.left_eq_add, Nat.one_ne_zero] <;> rfl) (stm29_a hT id4 90 sC1 [sCiv] [(id2, 60), (id3, 30)] (by decide)) (by simp only [avs] <;> rfl) ?_
 repeat (refine aops_cons ?_; first | (apply aops_o; rfl; simp only [estep, avs, tts, Nat.reduceAdd, Nat.reduceMul, Nat.reduceSub, Nat.reduceEqDiff, Nat.reduceLT, Nat.reduceLeDiff, Int.reduceToNat, Int.reduceLE, Int.reduceLT, Int.toNat_natCast, reduceCtorEq] <;> (first | with_reducible rfl | rfl)) | (refine aops_grd rfl (by simp only [avs] <;> rfl) (by rfl) ?_; first | refine grd_on ?_ | refine grd_off (by simp only [avs] <;> rfl) ?_))
 refine aops_pure rfl (by simp only [avs] <;> rfl) (sign29_a hT (stS id4 90 sC1 [sCiv] [(id2, 60), (id3, 30)]) sB1 0 (by decide) (by decide) (raw_fits p5 rfl rfl)) (by simp only [avs] <;> rfl) ?_
 repeat (refine aops_cons ?_; first | (apply aops_o; rfl; simp only [estep, avs, tts, Nat.reduceAdd, Nat.reduceMul, Nat.reduceSub, Nat.reduceEqDiff, Nat.reduceLT, Nat.reduceLeDiff, Int.reduceToNat, Int.reduceLE, Int.reduceLT, Int.toNat_natCast, reduceCtorEq] <;> (first | with_reducible rfl | rfl)) | (refine aops_grd rfl (by simp only [avs] <;> rfl) (by rfl) ?_; first | refine grd_on ?_ | refine grd_off (by simp only [avs] <;> rfl) ?_))
 refine aops_call rfl (by simp only [avs] <;> rfl) ⟨_, by rw [hbl]; exact add_a hT (hB4.app _) (s := st5) (fun _ => fits_sgn p5) (sized_sgn p5) okb3.n okb3.nx okb3.l okb3.i okb3.h, ?_⟩
 rintro r5 K5 ⟨hr5, Y5, hy5, hb5, hq5⟩ hlk5
 rw [a5] at hr5 hb5
 have hB5 : Book K5 Y5 B3 := hb5
 have hr5' : r5 = iA ((7 : Int)) := hr5
 have hkk5 : KeepO H K5 := (hkk4.trans (.app _ _)).trans hq5
 rw [← hy5] at hbl
 rw [hr5']
 clear hb5 hr5 hr5' hB4 hkk4 hq5
 repeat (refine aops_cons ?_; first | (apply aops_o; rfl; simp only [estep, avs, tts, Nat.reduceAdd, Nat.reduceMul, Nat.reduceSub, Nat.reduceEqDiff, Nat.reduceLT, Nat.reduceLeDiff, Int.reduceToNat, Int.reduceLE, Int.reduceLT, Int.toNat_natCast, reduceCtorEq, iA] <;> (first | with_reducible rfl | rfl)) | (refine aops_grd rfl (by simp only [avs] <;> rfl) (by rfl) ?_; first | refine grd_on ?_ | refine grd_off (by simp only [avs] <;> rfl) ?_))
 refine aops_nil ?_
 repeat refine aw_seq ?_
 refine aw_region ttOk (by kernel_rfl) ?_
 repeat (refine aops_cons ?_; first | (apply aops_o; rfl; simp only [estep, avs, tts, Nat.reduceAdd, Nat.reduceMul, Nat.reduceSub, Nat.reduceEqDiff, Nat.reduceLT, Nat.reduceLeDiff, Int.reduceToNat, Int.reduceLE, Int.reduceLT, Int.toNat_natCast, reduceCtorEq] <;> (first | with_reducible rfl | rfl)) | (refine aops_grd rfl (by simp only [avs] <;> rfl) (by rfl) ?_; first | refine grd_on ?_ | refine grd_off (by simp only [avs] <;> rfl) ?_))
 refine aops_pureF ((K5.length+0)) rfl (by simp only [avs] <;> rfl) (by simp only [avs, tts, Nat.reduceAdd, Nat.reduceMul, Nat.reduceSub, Nat.reduceEqDiff, Nat.reduceLT, Nat.reduceLeDiff, Int.reduceToNat, Int.reduceLE, Int.reduceLT, Int.toNat_natCast, reduceCtorEq, frzL, frzA, frzO, unI_dI, dI_len, unI, unL, rowS, Nat.add_eq_left, Nat.left_eq_add, Nat.one_ne_zero] <;> rfl) (by simp only [avs, tts, Nat.reduceAdd, Nat.reduceMul, Nat.reduceSub, Nat.reduceEqDiff, Nat.reduceLT, Nat.reduceLeDiff, Int.reduceToNat, Int.reduceLE, Int.reduceLT, Int.toNat_natCast, reduceCtorEq, frzL, frzA, frzO, unI_dI, dI_len, unI, unL, rowS, Nat.add_eq_left, Nat.left_eq_add, Nat.one_ne_zero] <;> rfl) (stm29_a hT id4 60 sC1 [sCiv] [(id2, 60)] (by decide)) (by simp only [avs] <;> rfl) ?_
 repeat (refine aops_cons ?_; first | (apply aops_o; rfl; simp only [estep, avs, tts, Nat.reduceAdd, Nat.reduceMul, Nat.reduceSub, Nat.reduceEqDiff, Nat.reduceLT, Nat.reduceLeDiff, Int.reduceToNat, Int.reduceLE, Int.reduceLT, Int.toNat_natCast, reduceCtorEq] <;> (first | with_reducible rfl | rfl)) | (refine aops_grd rfl (by simp only [avs] <;> rfl) (by rfl) ?_; first | refine grd_on ?_ | refine grd_off (by simp only [avs] <;> rfl) ?_))
 refine aops_pure rfl (by simp only [avs] <;> rfl) (sign29_a hT (stS id4 60 sC1 [sCiv] [(id2, 60)]) sA1 2 (by decide) (by decide) (raw_fits p6 rfl rfl)) (by simp only [avs] <;> rfl) ?_
 repeat (refine aops_cons ?_; first | (apply aops_o; rfl; simp only [estep, avs, tts, Nat.reduceAdd, Nat.reduceMul, Nat.reduceSub, Nat.reduceEqDiff, Nat.reduceLT, Nat.reduceLeDiff, Int.reduceToNat, Int.reduceLE, Int.reduceLT, Int.toNat_natCast, reduceCtorEq] <;> (first | with_reducible rfl | rfl)) | (refine aops_grd rfl (by simp only [avs] <;> rfl) (by rfl) ?_; first | refine grd_on ?_ | refine grd_off (by simp only [avs] <;> rfl) ?_))
 refine aops_call rfl (by simp only [avs] <;> rfl) ⟨_, by rw [hbl]; exact add_a hT (hB5.app _) (s := st6) (fun _ => fits_sgn p6) (sized_sgn p6) okb3.n okb3.nx okb3.l okb3.i okb3.h, ?_⟩
 rintro r6 K6 ⟨hr6, Y6, hy6, hb6, hq6⟩ hlk6
 rw [a6] at hr6 hb6
 have hB6 : Book K6 Y6 B3 := hb6
 have hr6' : r6 = iA ((16 : Int)) := hr6
 have hkk6 : KeepO H K6 := (hkk5.trans (.app _ _)).trans hq6
 rw [← hy6] at hbl
 rw [hr6']
 clear hb6 hr6 hr6' hB5 hkk5 hq6
 repeat (refine aops_cons ?_; first | (apply aops_o; rfl; simp only [estep, avs, tts, Nat.reduceAdd, Nat.reduceMul, Nat.reduceSub, Nat.reduceEqDiff, Nat.reduceLT, Nat.reduceLeDiff, Int.reduceToNat, Int.reduceLE, Int.reduceLT, Int.toNat_natCast, reduceCtorEq, iA] <;> (first | with_reducible rfl | rfl)) | (refine aops_grd rfl (by simp only [avs] <;> rfl) (by rfl) ?_; first | refine grd_on ?_ | refine grd_off (by simp only [avs] <;> rfl) ?_))
 refine aops_nil ?_
 repeat refine aw_seq ?_
 refine aw_region ttOk (by kernel_rfl) ?_
 repeat (refine aops_cons ?_; first | (apply aops_o; rfl; simp only [estep, avs, tts, Nat.reduceAdd, Nat.reduceMul, Nat.reduceSub, Nat.reduceEqDiff, Nat.reduceLT, Nat.reduceLeDiff, Int.reduceToNat, Int.reduceLE, Int.reduceLT, Int.toNat_natCast, reduceCtorEq] <;> (first | with_reducible rfl | rfl)) | (refine aops_grd rfl (by simp only [avs] <;> rfl) (by rfl) ?_; first | refine grd_on ?_ | refine grd_off (by simp only [avs] <;> rfl) ?_))
 refine aops_call rfl (by simp only [avs] <;> rfl) ⟨_, by rw [hbl]; exact revoke_a hB6 okb3.n okb3.nx id1, ?_⟩
 rintro r7 K7 ⟨hr7, hb7, hq7⟩ hlk7
 rw [a7] at hr7 hb7
 have hB7 : Book K7 Y6 B4 := hb7
 have hr7' : r7 = iA ((0 : Int)) := hr7
 have hkk7 : KeepO H K7 := hkk6.trans fun l o ho hx => hq7 l o ho fun cs e => by subst e; cases hx
 rw [hr7']
 clear hb7 hr7 hr7' hq7
 repeat (refine aops_cons ?_; first | (apply aops_o; rfl; simp only [estep, avs, tts, Nat.reduceAdd, Nat.reduceMul, Nat.reduceSub, Nat.reduceEqDiff, Nat.reduceLT, Nat.reduceLeDiff, Int.reduceToNat, Int.reduceLE, Int.reduceLT, Int.toNat_natCast, reduceCtorEq, iA] <;> (first | with_reducible rfl | rfl)) | (refine aops_grd rfl (by simp only [avs] <;> rfl) (by rfl) ?_; first | refine grd_on ?_ | refine grd_off (by simp only [avs] <;> rfl) ?_))
 refine aops_nil ?_
 repeat refine aw_seq ?_
 refine aw_region ttOk (by kernel_rfl) ?_
 repeat (refine aops_cons ?_; first | (apply aops_o; rfl; simp only [estep, avs, tts, Nat.reduceAdd, Nat.reduceMul, Nat.reduceSub, Nat.reduceEqDiff, Nat.reduceLT, Nat.reduceLeDiff, Int.reduceToNat, Int.reduceLE, Int.reduceLT, Int.toNat_natCast, reduceCtorEq] <;> (first | with_reducible rfl | rfl)) | (refine aops_grd rfl (by simp only [avs] <;> rfl) (by rfl) ?_; first | refine grd_on ?_ | refine grd_off (by simp only [avs] <;> rfl) ?_))
 refine aops_read rfl (by simp only [avs] <;> rfl) ((by rw [hbl]; exact uses_a hB7 uok4 id3)) (by simp only [avs] <;> rfl) ?_
 repeat (refine aops_cons ?_; first | (apply aops_o; rfl; simp only [estep, avs, tts, Nat.reduceAdd, Nat.reduceMul, Nat.reduceSub, Nat.reduceEqDiff, Nat.reduceLT, Nat.reduceLeDiff, Int.reduceToNat, Int.reduceLE, Int.reduceLT, Int.toNat_natCast, reduceCtorEq, uses3, iA] <;> (first | with_reducible rfl | rfl)) | (refine aops_grd rfl (by simp only [avs] <;> rfl) (by rfl) ?_; first | refine grd_on ?_ | refine grd_off (by simp only [avs] <;> rfl) ?_))
 refine aops_nil ?_
 repeat refine aw_seq ?_
 refine aw_region ttOk (by kernel_rfl) ?_
 repeat (refine aops_cons ?_; first | (apply aops_o; rfl; simp only [estep, avs, tts, Nat.reduceAdd, Nat.reduceMul, Nat.reduceSub, Nat.reduceEqDiff, Nat.reduceLT, Nat.reduceLeDiff, Int.reduceToNat, Int.reduceLE, Int.reduceLT, Int.toNat_natCast, reduceCtorEq] <;> (first | with_reducible rfl | rfl)) | (refine aops_grd rfl (by simp only [avs] <;> rfl) (by rfl) ?_; first | refine grd_on ?_ | refine grd_off (by simp only [avs] <;> rfl) ?_))
 refine aops_nil ?_
 repeat refine aw_seq ?_
 refine aw_region ttOk (by kernel_rfl) ?_
 repeat (refine aops_cons ?_; first | (apply aops_o; rfl; simp only [estep, avs, tts, Nat.reduceAdd, Nat.reduceMul, Nat.reduceSub, Nat.reduceEqDiff, Nat.reduceLT, Nat.reduceLeDiff, Int.reduceToNat, Int.reduceLE, Int.reduceLT, Int.toNat_natCast, reduceCtorEq] <;> (first | with_reducible rfl | rfl)) | (refine aops_grd rfl (by simp only [avs] <;> rfl) (by rfl) ?_; first | refine grd_on ?_ | refine grd_off (by simp only [avs] <;> rfl) ?_))
 refine aops_nil ?_
 exact aw_ret ⟨_, rfl, rfl, hkk7⟩
end Av
end Go.Proofs.YtnkepmfgmfeabaaGreatDoor
set_option linter.unusedVariables false
set_option linter.unusedSimpArgs false
namespace Go.Proofs.YtnkepmfgmfeabaaGreatDoor
open Go Go.RowKit
namespace Av

/-! A law's arguments, az pure data; a law's end. -/
def rowSt (w : World) : St := ⟨fun _ => none, [], w⟩
theorem rowSt_imm (w : World) (b : Nat) (h : b < w.heap.size) : (rowSt w).imm b := ⟨h, fun ⟨l, o, h1, _⟩ => by simp [rowSt] at h1⟩
theorem rowSt_sim (w : World) : Sim w (rowSt w) := ⟨Below.refl _ _, fun l o h => by simp [rowSt] at h, fun l l' o o' b h => by simp [rowSt] at h⟩
def ptStm : List PT := [.s, .s, .i .i64, .s, .sl [.s], .sl [.s, .i .i64], .i .i64, .sl [.s], .sl [.s]]
theorem fits_inps {p : PD} (h : PT.fits (.sl [.s, .i .i64]) p) : ∃ l : List (ByteArray × Int), p = inpsP l := by
 obtain ⟨l, rfl, hl⟩ := fits_sl h
 obtain ⟨xs, rfl⟩ := list_of (f := fun x : ByteArray × Int => [PD.v (.string x.1), PD.v (.int .i64 x.2)]) (l := l) fun it hi => by
  obtain ⟨p, r, rfl, h1, h2⟩ := fits_cons (hl it hi)
  obtain ⟨q, r, rfl, h3, h4⟩ := fits_cons h2
  obtain ⟨x, rfl⟩ := fits_s h1
  obtain ⟨y, rfl⟩ := fits_i h3
  exact ⟨(x, y), by rw [fits_nil h4]⟩
 exact ⟨xs, rfl⟩
theorem fits_stm {ps : List PD} {ts : List PT} {r : List PD} (h : fitsL (ptStm ++ ts) ps) : ∃ (x : Stm) (r : List PD), ps = stmC x ++ r ∧ fitsL ts r := by
 obtain ⟨p1, r1, rfl, h1, k1⟩ := fits_cons h
 obtain ⟨p2, r2, rfl, h2, k2⟩ := fits_cons k1
 obtain ⟨p3, r3, rfl, h3, k3⟩ := fits_cons k2
 obtain ⟨p4, r4, rfl, h4, k4⟩ := fits_cons k3
 obtain ⟨p5, r5, rfl, h5, k5⟩ := fits_cons k4
 obtain ⟨p6, r6, rfl, h6, k6⟩ := fits_cons k5
 obtain ⟨p7, r7, rfl, h7, k7⟩ := fits_cons k6
 obtain ⟨p8, r8, rfl, h8, k8⟩ := fits_cons k7
 obtain ⟨p9, r9, rfl, h9, k9⟩ := fits_cons k8
 obtain ⟨x1, rfl⟩ := fits_s h1
 obtain ⟨x2, rfl⟩ := fits_s h2
 obtain ⟨x3, rfl⟩ := fits_i h3
 obtain ⟨x4, rfl⟩ := fits_s h4
 obtain ⟨x5, rfl⟩ := fits_strs h5
 obtain ⟨x6, rfl⟩ := fits_inps h6
 obtain ⟨x7, rfl⟩ := fits_i h7
 obtain ⟨x8, rfl⟩ := fits_strs h8
 obtain ⟨x9, rfl⟩ := fits_strs h9
 exact ⟨⟨x1, x2, x3, x4, x5, x6, x7, x8, x9⟩, r9, rfl, k9⟩
def StmIn (w : World) (v : Value) (x : Stm) : Prop := Rep (rowSt w) (.agg ((stmC x).map .d)) v
set_option maxRecDepth 100000 in
theorem open_stm {H : Type} {enc : TypeId × Value → H} {w : World} {b0 : Nat} {v : Value} {d : DataW H} {p : List MemPlace} (hv : Value.okWide Tryz.prog w .any b0 27 v) (h : DataW.Trod enc Tryz.prog w 0 (fun _ => true) true 27 v d p) :
  ∃ x, StmIn w v x := by
 obtain ⟨cs, rfl, _⟩ := Go.WideShapes.okWide_struct Tryz.underlying27 hv
 obtain ⟨n, hn⟩ := h
 obtain ⟨ps, h1, h2⟩ := open_pd (s := rowSt w) rfl (rowSt_imm w) n 6 27 _ _ ptStm (by kernel_rfl) hn
 obtain ⟨x, r, rfl, h3⟩ := fits_stm (ts := []) (r := []) (by simpa using h1)
 have h4 := fits_nil h3
 subst h4
 refine ⟨x, ?_⟩
 simp only [StmIn, Rep]
 exact ⟨cs, rfl, by simpa [dL, Value.cells] using h2⟩
/-- what a represented statement's sizes are -/
theorem sized_of_fct {s : Stm} (h : fctA (.agg ((stmC s).map .d))) : s.Sized 9223372036854775807 := by
 simp only [stmC, List.map_cons, List.map_nil, fctL, fctA, fctP, strsP, inpsP, fctI_map, fctC, and_true] at h
 obtain ⟨h1, h2, h3, h4, h5, h6, h7, h8, h9⟩ := h
 exact ⟨h1, h2, h4, fun t ht => h5.2 t ht, fun y hy => (h6.2 y hy).1, fun t ht => h8.2 t ht, fun t ht => h9.2 t ht⟩
theorem calls_of_a {P : Program} {w : World} {f : FuncId} {args : List AV} {vs : Array Value} {R : AV → AHeap → Prop} (h : CallsA P w f args [] R) (ha : RepL (rowSt w) args vs.toList) (hR : ∀ r H', R r H' → r = .d (.v (.bool true))) :
  Calls P f vs w fun e w' => e = .returned (.bool true) ∧ Below w.heap.size w w' := by
 refine (h.run (fun _ => none) w vs (rowSt_sim w) ha).mono fun e w' ⟨v, r, H', μ', h1, h2, h3, h4, h5, h6⟩ => ?_
 rw [hR r H' h2] at h5
 simp only [Rep, PRep] at h5
 exact ⟨by rw [h1, h5.1], h4.below⟩
end Av
end Go.Proofs.YtnkepmfgmfeabaaGreatDoor
set_option linter.unusedVariables false
namespace Go.Proofs.YtnkepmfgmfeabaaGreatDoor
open Go Go.RowKit

/-- the variables that the rows list, in their order -/
def laidList : List (String × DataW Unit) := [("math/bits.deBruijn32tab", Rows.laid_math_bits_deBruijn32tab), ("math/bits.deBruijn64tab", Rows.laid_math_bits_deBruijn64tab), ("internal/strconv.uint64pow10", Rows.laid_internal_strconv_uint64pow10), ("unicode/utf8.acceptRanges", Rows.laid_unicode_utf8_acceptRanges), ("unicode/utf8.first", Rows.laid_unicode_utf8_first)]
def bru64 : List Int := [0, 1, 56, 2, 57, 49, 28, 3, 61, 58, 42, 50, 38, 29, 17, 4, 62, 47, 59, 36, 45, 43, 51, 22, 53, 39, 33, 30, 24, 18, 12, 5, 63, 55, 48, 27, 60, 41, 37, 16, 46, 35, 44, 21, 52, 32, 23, 11, 54, 26, 40, 15, 34, 20, 31, 10, 25, 14, 19, 9, 13, 8, 7, 6]
theorem tabs_of {W : World} (h : laidMet Tryz.prog laidList W) : Tabs W := by
 have h1 : laidMet Tryz.prog (("math/bits.deBruijn64tab", Lib.tabData .u8 bru64) :: [("internal/strconv.uint64pow10", Lib.tabData .u64 Lib.pow10Tab), ("unicode/utf8.acceptRanges", Rows.laid_unicode_utf8_acceptRanges), ("unicode/utf8.first", Rows.laid_unicode_utf8_first)]) W := laidMet.tail h
 have t1 := Lib.tabIs_of_head (g := 3) (t := 176) (e := 5) (n := 64) (by kernel_rfl) (by kernel_rfl) (by kernel_rfl) (by kernel_rfl) (by kernel_rfl) (by kernel_rfl) h1
 have t2 := Lib.tabIs_of_head (g := 0) (t := 158) (e := 66) (n := 20) (by kernel_rfl) (by kernel_rfl) (by kernel_rfl) (by kernel_rfl) (by kernel_rfl) (by kernel_rfl) (laidMet.tail h1)
 have hc := t1.cell (g := 3) (by kernel_rfl) 15 (by decide)
 refine ⟨t2, hc, ?_⟩
 rcases Nat.lt_or_ge 3 W.heap.size with h' | h'
 ·exact h'
 ·rw [World.cell?, Array.getElem?_eq_none h'] at hc
  cases hc
end Go.Proofs.YtnkepmfgmfeabaaGreatDoor
