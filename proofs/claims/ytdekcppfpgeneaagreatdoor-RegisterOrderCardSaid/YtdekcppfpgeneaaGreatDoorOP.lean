import Derived.Test.YtdekcppfpgeneaaGreatDoorO5
import Derived.Test.YtdekcppfpgeneaaGreatDoorO2
import Derived.Test.YtdekcppfpgeneaaGreatDoorO3
set_option linter.unusedVariables false
set_option linter.unusedSimpArgs false
namespace Go.Proofs.YtdekcppfpgeneaaGreatDoor
open Go Go.RowKit
namespace Rg
open Av Nt
theorem shareK_fold_len (ix : ByteArray → Int) (day : Int) (pc : Hd → Int) (who : Hd → List ByteArray) : ∀ (l : List Hd) (s : KSt), (∀ h ∈ l, (who h).length ≤ 1001) → (l.foldl (shrK pc who ix day) s).1.length ≤ s.1.length + 1001 * l.length
 | [], s, _ => by simp
 | h :: r, s, hw => by
  have h1 := shareK_fold_len ix day pc who r (shrK pc who ix day s h) fun x hx => hw x (List.mem_cons_of_mem _ hx)
  have h2 := hw h (List.mem_cons_self ..)
  have h3 : (shrK pc who ix day s h).1.length ≤ s.1.length + 1001 := by
   unfold shrK
   split
   ·have := shareK_len ix h.company (pc h) (who h) s; omega
   ·omega
  rw [List.foldl_cons, List.length_cons]; omega
theorem lnkS_len (s : KSt) : (lnkS s).length = s.1.length := by unfold lnkS; rw [List.length_map]; exact (sortK_perm _).length_eq
structure Short (s : Str) : Prop where
 p : s.parties.length ≤ 1000000
 c : s.capital.length ≤ 1000000
 v : s.votes.length ≤ 1000000
theorem atS_short {l : List Hd} (day : Int) (hj : ∀ h ∈ l, h.joint.length ≤ 1000) (hl : l.length ≤ 900) : Short (atS l day) := by
 unfold atS
 cases hv : validB l && dayB day with
 | false => exact ⟨by simp, by simp, by simp⟩
 | true =>
  simp only [Bool.and_eq_true] at hv
  have := (valid_all hv.1).2
  have hc := shareK_fold_len (ixS (partiesS l)) day Hd.capital whoC l nilK fun h hh => whoC_len (hj h hh)
  have hvv := shareK_fold_len (ixS (partiesS l)) day Hd.votes whoV l nilK fun h hh => whoV_len (hj h hh)
  rw [show nilK.1.length = 0 from rfl] at hc hvv
  simp only [if_true]
  exact ⟨by simp only; omega, by simp only [lnkS_len]; unfold capK; rw [stC_shr]; omega, by simp only [lnkS_len]; unfold votK; rw [stV_shr]; omega⟩
end Rg
namespace Av
attribute [local irreducible] AW AOps AHOps
open Nt Rg

/-! RegisterOrder. -/
section
variable {base : World} (hT : Tabs base)
include hT
set_option maxRecDepth 100000 in
set_option maxHeartbeats 8000000 in
theorem order_a (l : List Hd) (day : Int) : PureA Tryz.prog base 4 [.d (hdsP l), iA day] (boA true) := by
 have hd := head_a hT
 have cf := lfew_a (base := base) l
 obtain ⟨bf, hbf⟩ : ∃ b, fewB 20 l = b := ⟨_, rfl⟩
 rw [hbf] at cf
 cases bf with
 | false =>
  refine pure_enter ttOk Tryz.call4 Tryz.func4 rfl fun H hB hb hF => ?_
  rw [Tryz.results4, Tryz.ntmps4]
  simp only [arr_list, List.length_cons, List.length_nil, List.replicate, List.cons_append, List.nil_append, Nat.reduceAdd, Nat.reduceSub]
  clear hF hb hbf
  simp only [hdsP, iA, boA] at cf hd ⊢
  repeat' (first | (refine aops_cons ?_; first | (refine zg rfl ?_; first | refine grd_on ?_ | refine zo ?_ | (refine zs ?_ ?_ <;> intro hb <;> ((try simp only [bn] at hb); first | subst hb | simp only [hb]))) | (apply aops_o; rfl; simp only [estep, avs, tts, seval] <;> exact rr) | (refine za rfl ?_; first | refine zp (hd) ?_ | refine zp (cf) ?_)) | refine aops_nil ?_ | (refine ahops_cons ?_; first | (refine yg rfl ?_; first | refine hgrd_on ?_ | refine yo ?_ | (refine ys ?_ ?_ <;> intro hb <;> ((try simp only [bn] at hb); first | subst hb | simp only [hb]))) | (apply ahops_o; rfl; simp only [hstep, avs, tts, seval] <;> exact rr; first | trivial | omega) | (refine ya rfl ?_; first | refine yp (hd) ?_ | refine yp (cf) ?_)) | refine ahops_nil ?_ | refine aw_seq ?_ | refine zr ttOk ?_ | refine zR 0 ttOk mixed ?_ | refine zR 1 ttOk mixed ?_ | refine zR 2 ttOk mixed ?_ | refine zR 3 ttOk mixed ?_ | refine zf rfl rfl ?_ | refine zt rfl rfl ?_ | (refine aw_cond rfl rfl ?_ ?_ <;> intro hb <;> ((try simp only [bn] at hb); first | subst hb | simp only [hb])) | refine aw_skip ?_ | refine aw_exit ?_ | refine aw_block ?_)
  exact aw_ret ⟨_, rfl, [], by simp, rfl⟩
 | true =>
  obtain ⟨h20, hsm⟩ := few_small hbf
  have hs := fun h hh => (hsm h hh).1
  have hj : ∀ h ∈ l, h.joint.length ≤ 1000 := fun h hh => by have := (hsm h hh).2; omega
  have hp := atS_perm (List.reverse_perm l) day
  have a1 := at_b (base := base) hT l day hs hj (by omega)
  have a2 := at_b (base := base) hT l.reverse day (fun h hh => hs h (by simpa using hh)) (fun h hh => hj h (by simpa using hh)) (by simp; omega)
  rw [hp.1, hp.2] at a2
  have hsh := atS_short (l := l) day hj (by omega)
  have sm := same_a base (atS l day) (atS l day) hsh.p hsh.p hsh.c hsh.c hsh.v hsh.v
  rw [decide_eq_true rfl] at sm
  clear hp hsh hbf hsm hs
  refine pure_enter ttOk Tryz.call4 Tryz.func4 rfl fun H hB hb hF => ?_
  rw [Tryz.results4, Tryz.ntmps4]
  simp only [arr_list, List.length_cons, List.length_nil, List.replicate, List.cons_append, List.nil_append, Nat.reduceAdd, Nat.reduceSub]
  clear hF hb
  have la := hds_len l
  have w0 : IntKind.i64.wrap ((l.length : Int) - 1) = (l.length : Int) - 1 := by rw [IntKind.wrap_i64]; omega
  have hun := unI_hd l.reverse
  have hlr : (l.reverse.map hdI).length = l.length := by simp
  generalize atS l day = S at *
  generalize atE l day = E at *
  obtain ⟨sp, sc, sv⟩ := S
  simp only [hdsP, iA, boA, strA, strL] at cf hd a1 a2 sm ⊢
  repeat refine aw_seq ?_
  refine zr ttOk ?_
  repeat (refine aops_cons ?_; first | (apply aops_o; rfl; simp only [estep, avs, tts, seval] <;> exact rr) | (refine zg rfl ?_; first | refine grd_on ?_ | refine zo ?_))
  refine aops_nil ?_
  repeat refine aw_seq ?_
  refine zr ttOk ?_
  repeat (refine aops_cons ?_; first | (apply aops_o; rfl; simp only [estep, avs, tts, seval] <;> exact rr) | (refine zg rfl ?_; first | refine grd_on ?_ | refine zo ?_))
  refine zP rfl (hd) ?_
  repeat (refine aops_cons ?_; first | (apply aops_o; rfl; simp only [estep, avs, tts, seval] <;> exact rr) | (refine zg rfl ?_; first | refine grd_on ?_ | refine zo ?_))
  refine aops_nil ?_
  repeat refine aw_seq ?_
  refine zr ttOk ?_
  repeat (refine aops_cons ?_; first | (apply aops_o; rfl; simp only [estep, avs, tts, seval] <;> exact rr) | (refine zg rfl ?_; first | refine grd_on ?_ | refine zo ?_))
  refine zP rfl (cf) ?_
  repeat (refine aops_cons ?_; first | (apply aops_o; rfl; simp only [estep, avs, tts, seval] <;> exact rr) | (refine zg rfl ?_; first | refine grd_on ?_ | refine zo ?_))
  refine aops_nil ?_
  repeat refine aw_seq ?_
  refine aw_cond rfl rfl (fun hb => ?_) fun hb => ?_
  ·cases hb
  refine aw_skip ?_
  repeat refine aw_seq ?_
  refine zr ttOk ?_
  repeat (refine aops_cons ?_; first | (apply aops_o; rfl; simp only [estep, avs, tts, seval] <;> exact rr) | (refine zg rfl ?_; first | refine grd_on ?_ | refine zo ?_))
  refine aops_nil ?_
  show AW _ _ _ _ _
  refine aw_nilrow 6 36 10 rfl (by simp only [l_set0, l_setS] <;> rfl) ?_
  repeat refine aw_seq ?_
  refine zr ttOk ?_
  repeat (refine aops_cons ?_; first | (apply aops_o; rfl; simp only [estep, avs, tts, seval, la, w0] <;> exact rr) | (refine zg rfl ?_; first | refine grd_on ?_ | refine zo ?_))
  refine aops_nil ?_
  repeat refine aw_seq ?_
  refine aw_block ?_
  refine aw_loop (H0 := H ++ [.row 36 10 0 ((l.drop l.length).reverse.map hdI)]) (fun n env K => ∃ (m : Nat) (z : Int), n = m ∧ z = (m : Int) - 1 ∧ m ≤ l.length ∧ K = H ++ [.row 36 10 0 ((l.drop m).reverse.map hdI)] ∧ env = (.d (.sl 10 (l.map hdC)) :: .d (.v (.int .i64 day)) :: .undef :: .undef :: .undef :: .d (.v (.bool true)) :: .ms H.length 0 (l.length - m) :: .d (.v (.int .i64 z)) :: List.replicate 46 .undef)) ?_ ⟨l.length, _, rfl, rfl, Nat.le_refl _, rfl, rfl⟩ ?_
  ·exact ⟨by simp [EnvLe, List.replicate], .inl (by simp)⟩
  rintro n env K ⟨m, z, rfl, hz, hm, rfl, rfl⟩ hN
  simp only [rp]
  cases n with
  | zero =>
   have hz1 : z = -1 := by omega
   subst hz1
   have g0 : decide ((-1 : Int) ≥ 0) = false := rfl
   repeat refine aw_seq ?_
   refine zr ttOk ?_
   repeat (refine aops_cons ?_; first | (apply aops_o; rfl; simp only [estep, avs, tts, seval, g0] <;> exact rr) | (refine zg rfl ?_; first | refine grd_on ?_ | refine zo ?_))
   refine aops_nil ?_
   repeat refine aw_seq ?_
   refine aw_cond rfl rfl (fun hb => ?_) fun hb => ?_
   ·cases hb
   refine aw_exit ?_
   show AW _ _ _ _ _
   simp only [List.drop_zero, Nat.sub_zero]
   refine aw_frz (H.length) (by simp only [avs, tts, seval, frzL, frzA, frzO, unI_dI, dI_len, unI, unL, Nat.add_eq_left, Nat.left_eq_add, Nat.one_ne_zero, hun, hlr] <;> rfl) (by simp only [avs, tts, seval, frzL, frzA, frzO, unI_dI, dI_len, unI, unL, Nat.add_eq_left, Nat.left_eq_add, Nat.one_ne_zero, hun, hlr] <;> rfl) ?_
   repeat' (first | (refine aops_cons ?_; first | (refine zg rfl ?_; first | refine grd_on ?_ | refine zo ?_ | (refine zs ?_ ?_ <;> intro hb <;> ((try simp only [bn] at hb); first | subst hb | simp only [hb]))) | (apply aops_o; rfl; simp only [estep, avs, tts, seval, decide_true] <;> exact rr) | (refine za rfl ?_; first | refine zp (a1) ?_ | refine zp (a2) ?_ | refine zp (sm) ?_)) | refine aops_nil ?_ | (refine ahops_cons ?_; first | (refine yg rfl ?_; first | refine hgrd_on ?_ | refine yo ?_ | (refine ys ?_ ?_ <;> intro hb <;> ((try simp only [bn] at hb); first | subst hb | simp only [hb]))) | (apply ahops_o; rfl; simp only [hstep, avs, tts, seval, decide_true] <;> exact rr; first | trivial | omega) | (refine ya rfl ?_; first | refine yp (a1) ?_ | refine yp (a2) ?_ | refine yp (sm) ?_)) | refine ahops_nil ?_ | refine aw_seq ?_ | refine zr ttOk ?_ | refine zR 0 ttOk mixed ?_ | refine zR 1 ttOk mixed ?_ | refine zR 2 ttOk mixed ?_ | refine zR 3 ttOk mixed ?_ | refine zf rfl rfl ?_ | refine zt rfl rfl ?_ | (refine aw_cond rfl rfl ?_ ?_ <;> intro hb <;> ((try simp only [bn] at hb); first | subst hb | simp only [hb])) | refine aw_skip ?_ | refine aw_exit ?_ | refine aw_block ?_)
   show AW _ _ _ _ _
   exact aw_ret ⟨_, rfl, _, rfl, rfl⟩
  | succ j =>
   have hlt : j < l.length := by omega
   have hz1 : z = (j : Int) := by omega
   subst hz1
   have g0 : decide ((j : Int) ≥ 0) = true := decide_eq_true (by omega)
   have hix : (0 : Int) ≤ (j : Int) := by omega
   have hgd := hds_get hlt
   have hrl : ((l.drop (j + 1)).reverse.map hdI).length = l.length - (j + 1) := by simp
   have hrow : (l.drop (j + 1)).reverse.map hdI ++ [hdI l[j]] = (l.drop j).reverse.map hdI := by
    rw [List.drop_eq_getElem_cons hlt, List.reverse_cons, List.map_append]; rfl
   have b1 : l.length - (j + 1) + 1 ≤ 9223372036854775807 := by omega
   have b2 : (l.length - (j + 1) + 1) * 136 ≤ 140737488355328 := by omega
   have hn1 : l.length - (j + 1) + 1 = l.length - j := by omega
   have w2 : IntKind.i64.wrap ((j : Int) - 1) = (j : Int) - 1 := by rw [IntKind.wrap_i64]; omega
   generalize l[j] = h at hgd hrow
   obtain ⟨id, company, holder, nominee, pledged, joint, capital, votes, fr, til⟩ := h
   simp only [hdC] at hgd
   simp only [hdI, hdC, List.map_cons, List.map_nil] at hrow
   change List.map hdI _ ++ _ = List.map hdI _ at hrow
   repeat' (first | (refine aops_cons ?_; first | (refine zg rfl ?_; first | refine grd_on ?_ | refine zo ?_ | (refine zs ?_ ?_ <;> intro hb <;> ((try simp only [bn] at hb); first | subst hb | simp only [hb]))) | (apply aops_o; rfl; simp only [estep, avs, tts, seval, g0, hix, hlt, hgd, la, hrl, b1, b2, w2, hrow] <;> exact rr)) | refine aops_nil ?_ | (refine ahops_cons ?_; first | (refine yg rfl ?_; first | refine hgrd_on ?_ | refine yo ?_ | (refine ys ?_ ?_ <;> intro hb <;> ((try simp only [bn] at hb); first | subst hb | simp only [hb]))) | (apply ahops_o; rfl; simp only [hstep, avs, tts, seval, g0, hix, hlt, hgd, la, hrl, b1, b2, w2, hrow] <;> exact rr; first | trivial | omega)) | refine ahops_nil ?_ | refine aw_seq ?_ | refine zr ttOk ?_ | refine zR 0 ttOk mixed ?_ | refine zR 1 ttOk mixed ?_ | refine zR 2 ttOk mixed ?_ | refine zR 3 ttOk mixed ?_ | refine zf rfl rfl ?_ | refine zt rfl rfl ?_ | (refine aw_cond rfl rfl ?_ ?_ <;> intro hb <;> ((try simp only [bn] at hb); first | subst hb | simp only [hb])) | refine aw_skip ?_ | refine aw_exit ?_ | refine aw_block ?_)
   rw [hn1]
   have hbl : ∀ n, (AObj.row 36 10 0 ((l.drop j).reverse.map hdI)).bel n := fun n => by rw [hdI_eq]; exact bel_dI _
   refine ⟨j, _, H ++ [.row 36 10 0 ((l.drop j).reverse.map hdI)], by omega, ⟨?_, .inr ⟨by simp, ?_, .more hB (.cons (hbl _) .nil), _, by simp only [List.append_assoc, List.cons_append, List.nil_append]; rfl⟩⟩, j, _, rfl, rfl, by omega, rfl, rfl⟩
   ·simp [EnvLe, List.replicate]
   ·simp [belL, AV.bel, List.replicate]
end
end Av
theorem registerOrder.walk {w : World} (hT : Tabs w) (v0 : Value) (a0 : List Rg.Hd) (h0 : Av.HdsIn w v0 a0) (a1 : Int) (w1 : (Lit.int .i64 a1).wf = true) : Calls Tryz.prog 4 #[v0, .int .i64 a1] w fun e w' => e = .returned (.bool true) ∧ Below w.heap.size w w' :=
 Av.calls_of_a (Av.order_a hT a0 a1 []) (.cons h0 (.one (Av.rep_w w w1))) fun r H' h => h.1
end Go.Proofs.YtdekcppfpgeneaaGreatDoor
