import Derived.Test.YtdekcppfpgeneaaGreatDoorU4
import Derived.Test.YtdekcppfpgeneaaGreatDoorU2
import Derived.Test.YtdekcppfpgeneaaGreatDoorU3
import Derived.Lib.Atoi
import Derived.Lib.AtoiErrMem
import Derived.KernelRfl
import Derived.WideShapes
import Derived.Test.YtdekcppfpgeneaaGreatDoorRows
import Derived.Lib.LaidTab
import Derived.Lib.LaidU8
import Derived.Stop.LaidErr
set_option linter.unusedVariables false
set_option linter.unusedSimpArgs false
namespace Go.Proofs.YtdekcppfpgeneaaGreatDoor
open Go Go.RowKit
namespace Av
attribute [local irreducible] AW AOps AHOps
open Nt Rg

/-! The comparison of holdings; few holdings. -/
theorem hdL_eqB (h : Hd) : (hdC h).map AV.d = hdL h := rfl
theorem hd_dec (a b : Hd) : decide (a = b) = (decide (a.id = b.id) && (decide (a.company = b.company) && (decide (a.holder = b.holder) && (decide (a.nominee = b.nominee) && (decide (a.pledged = b.pledged) && (decide (a.joint = b.joint) && (decide (a.capital = b.capital) && (decide (a.votes = b.votes) && (decide (a.fr = b.fr) && decide (a.til = b.til)))))))))) := by
 cases a; cases b
 simp only [Hd.mk.injEq]
 simp only [← and_dec]
section
variable (base : World)
set_option maxRecDepth 100000 in
set_option maxHeartbeats 4000000 in
theorem shold_a (a b : Hd) (h1 : a.joint.length ≤ 1000000) (h2 : b.joint.length ≤ 1000000) : PureA Tryz.prog base 25 [hdA a, hdA b] (boA (decide (a = b))) := by
 have c1 := texts_a base a.joint b.joint h1 h2
 refine pure_enter ttOk Tryz.call25 Tryz.func25 rfl fun H hB hb hF => ?_
 rw [Tryz.results25, Tryz.ntmps25]
 simp only [arr_list, List.length_cons, List.length_nil, List.replicate, List.cons_append, List.nil_append, Nat.reduceAdd, Nat.reduceSub]
 clear hF hb
 rw [hd_dec]
 obtain ⟨a1, a2, a3, a4, a5, a6, a7, a8, a9, a10⟩ := a
 obtain ⟨b1, b2, b3, b4, b5, b6, b7, b8, b9, b10⟩ := b
 simp only [hdA, hdL, tA, iA] at c1 ⊢
 obtain ⟨d1, g1⟩ : ∃ d, decide (a1 = b1) = d := ⟨_, rfl⟩
 obtain ⟨d2, g2⟩ : ∃ d, decide (a2 = b2) = d := ⟨_, rfl⟩
 obtain ⟨d3, g3⟩ : ∃ d, decide (a3 = b3) = d := ⟨_, rfl⟩
 obtain ⟨d4, g4⟩ : ∃ d, decide (a4 = b4) = d := ⟨_, rfl⟩
 obtain ⟨d5, g5⟩ : ∃ d, decide (a5 = b5) = d := ⟨_, rfl⟩
 obtain ⟨d6, g6⟩ : ∃ d, decide (a6 = b6) = d := ⟨_, rfl⟩
 obtain ⟨d7, g7⟩ : ∃ d, decide (a7 = b7) = d := ⟨_, rfl⟩
 obtain ⟨d8, g8⟩ : ∃ d, decide (a8 = b8) = d := ⟨_, rfl⟩
 obtain ⟨d9, g9⟩ : ∃ d, decide (a9 = b9) = d := ⟨_, rfl⟩
 obtain ⟨d10, g10⟩ : ∃ d, decide (a10 = b10) = d := ⟨_, rfl⟩
 rw [g6] at c1
 rw [g1, g2, g3, g4, g5, g6, g7, g8, g9, g10]
 clear g6
 repeat' (first | (refine aops_cons ?_; first | (refine zg rfl ?_; first | refine grd_on ?_ | refine zo ?_ | (refine zs ?_ ?_ <;> intro hb <;> ((try simp only [bn] at hb); first | subst hb | simp only [hb]))) | (apply aops_o; rfl; simp only [estep, avs, tts, seval, g1, g2, g3, g4, g5, g7, g8, g9, g10] <;> exact rr) | (refine za rfl ?_; refine zp (c1) ?_)) | refine aops_nil ?_ | (refine ahops_cons ?_; first | (refine yg rfl ?_; first | refine hgrd_on ?_ | refine yo ?_ | (refine ys ?_ ?_ <;> intro hb <;> ((try simp only [bn] at hb); first | subst hb | simp only [hb]))) | (apply ahops_o; rfl; simp only [hstep, avs, tts, seval, g1, g2, g3, g4, g5, g7, g8, g9, g10] <;> exact rr; first | trivial | omega) | (refine ya rfl ?_; refine yp (c1) ?_)) | refine ahops_nil ?_ | refine aw_seq ?_ | refine zr ttOk ?_ | refine zR 0 ttOk mixed ?_ | refine zR 1 ttOk mixed ?_ | refine zR 2 ttOk mixed ?_ | refine zR 3 ttOk mixed ?_ | refine zf rfl rfl ?_ | refine zt rfl rfl ?_ | (refine aw_cond rfl rfl ?_ ?_ <;> intro hb <;> ((try simp only [bn] at hb); first | subst hb | simp only [hb])) | refine aw_skip ?_ | refine aw_exit ?_ | refine aw_block ?_)
 all_goals exact aw_ret ⟨_, rfl, _, rfl, rfl⟩
set_option maxRecDepth 100000 in
set_option maxHeartbeats 1000000 in
theorem sholds_a (a b : List Hd) (ha : a.length ≤ 1000000) (hbl : b.length ≤ 1000000) (hj : ∀ h ∈ a, h.joint.length ≤ 1000000) (hj2 : ∀ h ∈ b, h.joint.length ≤ 1000000) : PureA Tryz.prog base 24 [.d (hdsP a), .d (hdsP b)] (boA (decide (a = b))) := by
 refine pure_enter ttOk Tryz.call24 Tryz.func24 rfl fun H hB hb hF => ?_
 rw [Tryz.results24, Tryz.ntmps24]
 simp only [arr_list, List.length_cons, List.length_nil, List.replicate, List.cons_append, List.nil_append, Nat.reduceAdd, Nat.reduceSub]
 clear hF hb
 have la := hds_len a
 have lb := hds_len b
 simp only [hdsP]
 obtain ⟨c0, g0⟩ : ∃ c, decide ((a.length : Int) = (b.length : Int)) = c := ⟨_, rfl⟩
 repeat' (first | (refine aops_cons ?_; first | (refine zg rfl ?_; first | refine grd_on ?_ | refine zo ?_ | (refine zs ?_ ?_ <;> intro hb <;> ((try simp only [bn] at hb); first | subst hb | simp only [hb]))) | (apply aops_o; rfl; simp only [estep, avs, tts, seval, la, lb, g0] <;> exact rr)) | refine aops_nil ?_ | (refine ahops_cons ?_; first | (refine yg rfl ?_; first | refine hgrd_on ?_ | refine yo ?_ | (refine ys ?_ ?_ <;> intro hb <;> ((try simp only [bn] at hb); first | subst hb | simp only [hb]))) | (apply ahops_o; rfl; simp only [hstep, avs, tts, seval, la, lb, g0] <;> exact rr; first | trivial | omega)) | refine ahops_nil ?_ | refine aw_seq ?_ | refine zr ttOk ?_ | refine zR 0 ttOk mixed ?_ | refine zR 1 ttOk mixed ?_ | refine zR 2 ttOk mixed ?_ | refine zR 3 ttOk mixed ?_ | refine zf rfl rfl ?_ | refine zt rfl rfl ?_ | (refine aw_cond rfl rfl ?_ ?_ <;> intro hb <;> ((try simp only [bn] at hb); first | subst hb | simp only [hb])) | refine aw_skip ?_ | refine aw_exit ?_ | refine aw_block ?_)
 ·have hne : decide (a = b) = false := decide_eq_false fun e => by subst e; simp at g0
  rw [hne]; exact aw_ret ⟨_, rfl, [], by simp, rfl⟩
 have hl : a.length = b.length := by have := of_decide_eq_true g0; omega
 refine aw_loop (H0 := H) (fun r env K => ∃ k, r = a.length - k ∧ k ≤ a.length ∧ a.take k = b.take k ∧ K = H ∧ env = (.d (.sl 10 (a.map hdC)) :: .d (.sl 10 (b.map hdC)) :: .undef :: .undef :: .undef :: .d (.v (.int .i64 (k : Int))) :: List.replicate 21 .undef)) ?_ ⟨0, rfl, Nat.zero_le _, rfl, rfl, rfl⟩ ?_
 ·exact ⟨by simp [EnvLe, List.replicate], .inl rfl⟩
 rintro r env K ⟨k, rfl, hk, hok, rfl, rfl⟩ hN
 simp only [rp]
 obtain ⟨c1, g1⟩ : ∃ c1, decide ((k : Int) < (a.length : Int)) = c1 := ⟨_, rfl⟩
 cases c1 with
 | true =>
  have hlt : k < a.length := by simpa using g1
  have hlt2 : k < b.length := by omega
  have hix : (0 : Int) ≤ (k : Int) := by omega
  have ga := hds_get hlt
  have gb := hds_get hlt2
  have w1 : IntKind.i64.wrap ((k : Int) + 1) = ((k + 1 : Nat) : Int) := wrap_succ hlt (by omega)
  have cs := shold_a base a[k] b[k] (hj _ (List.getElem_mem hlt)) (hj2 _ (List.getElem_mem hlt2))
  obtain ⟨c2, g2⟩ : ∃ c, decide (a[k] = b[k]) = c := ⟨_, rfl⟩
  rw [g2] at cs
  simp only [hdA, ← hdL_eqB] at cs
  repeat' (first | (refine aops_cons ?_; first | (refine zg rfl ?_; first | refine grd_on ?_ | refine zo ?_ | (refine zs ?_ ?_ <;> intro hb <;> ((try simp only [bn] at hb); first | subst hb | simp only [hb]))) | (apply aops_o; rfl; simp only [estep, avs, tts, seval, hix, hlt, hlt2, ga, gb, la, lb, g1, w1] <;> exact rr) | (refine za rfl ?_; refine zp (cs) ?_)) | refine aops_nil ?_ | (refine ahops_cons ?_; first | (refine yg rfl ?_; first | refine hgrd_on ?_ | refine yo ?_ | (refine ys ?_ ?_ <;> intro hb <;> ((try simp only [bn] at hb); first | subst hb | simp only [hb]))) | (apply ahops_o; rfl; simp only [hstep, avs, tts, seval, hix, hlt, hlt2, ga, gb, la, lb, g1, w1] <;> exact rr; first | trivial | omega) | (refine ya rfl ?_; refine yp (cs) ?_)) | refine ahops_nil ?_ | refine aw_seq ?_ | refine zr ttOk ?_ | refine zR 0 ttOk mixed ?_ | refine zR 1 ttOk mixed ?_ | refine zR 2 ttOk mixed ?_ | refine zR 3 ttOk mixed ?_ | refine zf rfl rfl ?_ | refine zt rfl rfl ?_ | (refine aw_cond rfl rfl ?_ ?_ <;> intro hb <;> ((try simp only [bn] at hb); first | subst hb | simp only [hb])) | refine aw_skip ?_ | refine aw_exit ?_ | refine aw_block ?_)
  ·have hne : decide (a = b) = false := decide_eq_false fun e => by subst e; simp at g2
   rw [hne]; exact aw_ret ⟨_, rfl, [], by simp, rfl⟩
  ·refine ⟨a.length - (k + 1), _, _, by omega, ⟨?_, .inl rfl⟩, k + 1, rfl, hlt, take_ext hlt hlt2 hok (of_decide_eq_true g2), rfl, rfl⟩
   simp [EnvLe, List.replicate]
 | false =>
  have hka : k = a.length := by
                 have : ¬ k < a.length := by simpa using g1
                 omega
  have heq : a = b := by
   rw [hka, List.take_length] at hok
   rw [hok, hl, List.take_length]
  repeat' (first | (refine aops_cons ?_; first | (refine zg rfl ?_; first | refine grd_on ?_ | refine zo ?_ | (refine zs ?_ ?_ <;> intro hb <;> ((try simp only [bn] at hb); first | subst hb | simp only [hb]))) | (apply aops_o; rfl; simp only [estep, avs, tts, seval, la, lb, g1] <;> exact rr)) | refine aops_nil ?_ | (refine ahops_cons ?_; first | (refine yg rfl ?_; first | refine hgrd_on ?_ | refine yo ?_ | (refine ys ?_ ?_ <;> intro hb <;> ((try simp only [bn] at hb); first | subst hb | simp only [hb]))) | (apply ahops_o; rfl; simp only [hstep, avs, tts, seval, la, lb, g1] <;> exact rr; first | trivial | omega)) | refine ahops_nil ?_ | refine aw_seq ?_ | refine zr ttOk ?_ | refine zR 0 ttOk mixed ?_ | refine zR 1 ttOk mixed ?_ | refine zR 2 ttOk mixed ?_ | refine zR 3 ttOk mixed ?_ | refine zf rfl rfl ?_ | refine zt rfl rfl ?_ | (refine aw_cond rfl rfl ?_ ?_ <;> intro hb <;> ((try simp only [bn] at hb); first | subst hb | simp only [hb])) | refine aw_skip ?_ | refine aw_exit ?_ | refine aw_block ?_)
  rw [decide_eq_true heq]
  exact aw_ret ⟨_, rfl, [], by simp, rfl⟩
theorem gtr_dec {a b : Nat} {c : Bool} (h : decide (a ≤ b) = c) : decide ((a : Int) > (b : Int)) = !c := by
 subst h
 by_cases h : a ≤ b
 ·rw [decide_eq_true h, decide_eq_false (by omega)]; rfl
 ·rw [decide_eq_false h, decide_eq_true (by omega)]; rfl
set_option maxRecDepth 100000 in
set_option maxHeartbeats 4000000 in
theorem few_a (l : List Hd) (n : Int) (hn : n ≤ 1000000) : PureA Tryz.prog base 31 [.d (hdsP l), iA n] (boA (fewB n l)) := by
 refine pure_enter ttOk Tryz.call31 Tryz.func31 rfl fun H hB hb hF => ?_
 rw [Tryz.results31, Tryz.ntmps31]
 simp only [arr_list, List.length_cons, List.length_nil, List.replicate, List.cons_append, List.nil_append, Nat.reduceAdd, Nat.reduceSub]
 clear hF hb
 have la := hds_len l
 simp only [hdsP, iA]
 obtain ⟨P, hP⟩ : ∃ P, fewB n l = P := ⟨_, rfl⟩
 rw [hP]
 obtain ⟨c0, g0⟩ : ∃ c, decide ((l.length : Int) > n) = c := ⟨_, rfl⟩
 repeat' (first | (refine aops_cons ?_; first | (refine zg rfl ?_; first | refine grd_on ?_ | refine zo ?_ | (refine zs ?_ ?_ <;> intro hb <;> ((try simp only [bn] at hb); first | subst hb | simp only [hb]))) | (apply aops_o; rfl; simp only [estep, avs, tts, seval, la, g0] <;> exact rr)) | refine aops_nil ?_ | (refine ahops_cons ?_; first | (refine yg rfl ?_; first | refine hgrd_on ?_ | refine yo ?_ | (refine ys ?_ ?_ <;> intro hb <;> ((try simp only [bn] at hb); first | subst hb | simp only [hb]))) | (apply ahops_o; rfl; simp only [hstep, avs, tts, seval, la, g0] <;> exact rr; first | trivial | omega)) | refine ahops_nil ?_ | refine aw_seq ?_ | refine zr ttOk ?_ | refine zR 0 ttOk mixed ?_ | refine zR 1 ttOk mixed ?_ | refine zR 2 ttOk mixed ?_ | refine zR 3 ttOk mixed ?_ | refine zf rfl rfl ?_ | refine zt rfl rfl ?_ | (refine aw_cond rfl rfl ?_ ?_ <;> intro hb <;> ((try simp only [bn] at hb); first | subst hb | simp only [hb])) | refine aw_skip ?_ | refine aw_exit ?_ | refine aw_block ?_)
 ·have : P = false := by
   rw [← hP]; unfold fewB
   rw [decide_eq_false (by have := of_decide_eq_true g0; omega), Bool.false_and]
  subst this
  exact aw_ret ⟨_, rfl, [], by simp, rfl⟩
 have hl : l.length ≤ 1000000 := by have := of_decide_eq_false g0; omega
 refine aw_loop (H0 := H) (fun r env K => ∃ k, r = l.length - k ∧ k ≤ l.length ∧ (∀ h ∈ l.take k, (few1 h && few2 h) = true) ∧ K = H ∧ env = (.d (.sl 10 (l.map hdC)) :: .d (.v (.int .i64 n)) :: .undef :: .undef :: .undef :: .d (.v (.int .i64 (k : Int))) :: List.replicate 64 .undef)) ?_ ⟨0, rfl, Nat.zero_le _, fun h hh => by simp at hh, rfl, rfl⟩ ?_
 ·exact ⟨by simp [EnvLe, List.replicate], .inl rfl⟩
 rintro r env K ⟨k, rfl, hk, hok, rfl, rfl⟩ hN
 simp only [rp]
 obtain ⟨c1, g1⟩ : ∃ c1, decide ((k : Int) < (l.length : Int)) = c1 := ⟨_, rfl⟩
 cases c1 with
 | true =>
  have hlt : k < l.length := by simpa using g1
  have hix : (0 : Int) ≤ (k : Int) := by omega
  have ga := hds_get hlt
  have w1 : IntKind.i64.wrap ((k : Int) + 1) = ((k + 1 : Nat) : Int) := wrap_succ hlt (by omega)
  have hno := fun e => few_no (n := n) hlt e
  have htk : (few1 l[k] && few2 l[k]) = true → ∀ h ∈ l.take (k + 1), (few1 h && few2 h) = true := fun e h hh => by
   rw [List.take_add_one, List.getElem?_eq_getElem hlt, Option.toList_some, List.mem_append, List.mem_singleton] at hh
   rcases hh with hh | rfl
   ·exact hok h hh
   ·exact e
  obtain ⟨h, hh⟩ : ∃ h, l[k] = h := ⟨_, rfl⟩
  rw [hh] at hno ga htk
  obtain ⟨id, company, holder, nominee, pledged, joint, capital, votes, fr, til⟩ := h
  simp only [hdC] at ga
  obtain ⟨d1, e1⟩ : ∃ d, decide (id.size ≤ 60) = d := ⟨_, rfl⟩
  obtain ⟨d2, e2⟩ : ∃ d, decide (company.size ≤ 60) = d := ⟨_, rfl⟩
  obtain ⟨d3, e3⟩ : ∃ d, decide (holder.size ≤ 60) = d := ⟨_, rfl⟩
  obtain ⟨d4, e4⟩ : ∃ d, decide (nominee.size ≤ 60) = d := ⟨_, rfl⟩
  obtain ⟨d5, e5⟩ : ∃ d, decide (pledged.size ≤ 60) = d := ⟨_, rfl⟩
  obtain ⟨d6, e6⟩ : ∃ d, decide (joint.length ≤ 10) = d := ⟨_, rfl⟩
  have hf1 : few1 ⟨id, company, holder, nominee, pledged, joint, capital, votes, fr, til⟩ = (d1 && (d2 && (d3 && (d4 && (d5 && d6))))) := by
   unfold few1; simp only [e1, e2, e3, e4, e5, e6]
  have f1 : decide ((id.size : Int) > 60) = !d1 := gtr_dec e1
  have f2 : decide ((company.size : Int) > 60) = !d2 := gtr_dec e2
  have f3 : decide ((holder.size : Int) > 60) = !d3 := gtr_dec e3
  have f4 : decide ((nominee.size : Int) > 60) = !d4 := gtr_dec e4
  have f5 : decide ((pledged.size : Int) > 60) = !d5 := gtr_dec e5
  have f6 : decide ((joint.length : Int) > 10) = !d6 := gtr_dec e6
  have jl : (joint.map fun s => [PD.v (.string s)]).length = joint.length := by simp
  clear e1 e2 e3 e4 e5
  simp only [strsP] at ga
  repeat' (first | (refine aops_cons ?_; first | (refine zg rfl ?_; first | refine grd_on ?_ | refine zo ?_ | (refine zs ?_ ?_ <;> intro hb <;> ((try simp only [bn] at hb); first | subst hb | simp only [hb]))) | (apply aops_o; rfl; simp only [estep, avs, tts, seval, hix, hlt, ga, la, jl, g1, w1, f1, f2, f3, f4, f5, f6, Bool.not_true, Bool.not_false] <;> exact rr)) | refine aops_nil ?_ | (refine ahops_cons ?_; first | (refine yg rfl ?_; first | refine hgrd_on ?_ | refine yo ?_ | (refine ys ?_ ?_ <;> intro hb <;> ((try simp only [bn] at hb); first | subst hb | simp only [hb]))) | (apply ahops_o; rfl; simp only [hstep, avs, tts, seval, hix, hlt, ga, la, jl, g1, w1, f1, f2, f3, f4, f5, f6, Bool.not_true, Bool.not_false] <;> exact rr; first | trivial | omega)) | refine ahops_nil ?_ | refine aw_seq ?_ | refine zr ttOk ?_ | refine zR 0 ttOk mixed ?_ | refine zR 1 ttOk mixed ?_ | refine zR 2 ttOk mixed ?_ | refine zR 3 ttOk mixed ?_ | refine zf rfl rfl ?_ | refine zt rfl rfl ?_ | (refine aw_cond rfl rfl ?_ ?_ <;> intro hb <;> ((try simp only [bn] at hb); first | subst hb | simp only [hb])) | refine aw_skip ?_ | refine aw_exit ?_ | refine aw_block ?_)
  all_goals try
   (have hp : P = false := (by rw [← hP]; exact hno (by rw [hf1]; rfl)); subst hp; (try show AW _ _ _ _ _); refine aw_ret ⟨_, rfl, _, rfl, ?_⟩; rfl)
  have hj10 := of_decide_eq_true e6
  refine aw_loop (H0 := K ++ [.box 36 [.d (.v (.string id)), .d (.v (.string company)), .d (.v (.string holder)), .d (.v (.string nominee)), .d (.v (.string pledged)), .d (.sl 1 (joint.map fun s => [PD.v (.string s)])), .d (.v (.int .i64 capital)), .d (.v (.int .i64 votes)), .d (.v (.int .i64 fr)), .d (.v (.int .i64 til))]]) (fun r env K2 => ∃ j, r = joint.length - j ∧ j ≤ joint.length ∧ (∀ s ∈ joint.take j, s.size ≤ 60) ∧ K2 = K ++ [.box 36 [.d (.v (.string id)), .d (.v (.string company)), .d (.v (.string holder)), .d (.v (.string nominee)), .d (.v (.string pledged)), .d (.sl 1 (joint.map fun s => [PD.v (.string s)])), .d (.v (.int .i64 capital)), .d (.v (.int .i64 votes)), .d (.v (.int .i64 fr)), .d (.v (.int .i64 til))]] ∧ env = (.d (.sl 10 (l.map hdC)) :: .d (.v (.int .i64 n)) :: .undef :: .undef :: .undef :: .d (.v (.int .i64 (k : Int))) :: .ptr K.length 0 :: .d (.v (.int .i64 (j : Int))) :: List.replicate 62 .undef)) ?_ ⟨0, rfl, Nat.zero_le _, fun s hs => by simp at hs, rfl, rfl⟩ ?_
  ·exact ⟨by simp [EnvLe, List.replicate], .inl rfl⟩
  rintro r env K2 ⟨j, rfl, hj, hok2, rfl, rfl⟩ hN2
  simp only [rp]
  obtain ⟨c3, g3⟩ : ∃ c3, decide ((j : Int) < (joint.length : Int)) = c3 := ⟨_, rfl⟩
  cases c3 with
  | true =>
   have hlt2 : j < joint.length := by simpa using g3
   have hix2 : (0 : Int) ≤ (j : Int) := by omega
   have gj := strsP_get hlt2
   have w2 : IntKind.i64.wrap ((j : Int) + 1) = ((j + 1 : Nat) : Int) := wrap_succ hlt2 (by omega)
   obtain ⟨d7, e7⟩ : ∃ d, decide (joint[j].size ≤ 60) = d := ⟨_, rfl⟩
   have f7 : decide ((joint[j].size : Int) > 60) = !d7 := gtr_dec e7
   repeat' (first | (refine aops_cons ?_; first | (refine zg rfl ?_; first | refine grd_on ?_ | refine zo ?_ | (refine zs ?_ ?_ <;> intro hb <;> ((try simp only [bn] at hb); first | subst hb | simp only [hb]))) | (apply aops_o; rfl; simp only [estep, avs, tts, seval, hix2, hlt2, gj, jl, g3, w2, f7, Bool.not_true, Bool.not_false] <;> exact rr)) | refine aops_nil ?_ | (refine ahops_cons ?_; first | (refine yg rfl ?_; first | refine hgrd_on ?_ | refine yo ?_ | (refine ys ?_ ?_ <;> intro hb <;> ((try simp only [bn] at hb); first | subst hb | simp only [hb]))) | (apply ahops_o; rfl; simp only [hstep, avs, tts, seval, hix2, hlt2, gj, jl, g3, w2, f7, Bool.not_true, Bool.not_false] <;> exact rr; first | trivial | omega)) | refine ahops_nil ?_ | refine aw_seq ?_ | refine zr ttOk ?_ | refine zR 0 ttOk mixed ?_ | refine zR 1 ttOk mixed ?_ | refine zR 2 ttOk mixed ?_ | refine zR 3 ttOk mixed ?_ | refine zf rfl rfl ?_ | refine zt rfl rfl ?_ | (refine aw_cond rfl rfl ?_ ?_ <;> intro hb <;> ((try simp only [bn] at hb); first | subst hb | simp only [hb])) | refine aw_skip ?_ | refine aw_exit ?_ | refine aw_block ?_)
   ·have hf2 : few2 ⟨id, company, holder, nominee, pledged, joint, capital, votes, fr, til⟩ = false := few2_no (h := ⟨id, company, holder, nominee, pledged, joint, capital, votes, fr, til⟩) hlt2 (of_decide_eq_false e7)
    have hp : P = false := by rw [← hP]; exact hno (by rw [hf2, Bool.and_false])
    subst hp
    (try show AW _ _ _ _ _)
    exact aw_ret ⟨_, rfl, _, rfl, rfl⟩
   ·refine ⟨joint.length - (j + 1), _, _, by omega, ⟨?_, .inl rfl⟩, j + 1, rfl, hlt2, fun s hs => ?_, rfl, rfl⟩
    ·simp [EnvLe, List.replicate]
    ·rw [List.take_add_one, List.getElem?_eq_getElem hlt2, Option.toList_some, List.mem_append, List.mem_singleton] at hs
     rcases hs with hs | rfl
     ·exact hok2 s hs
     ·exact of_decide_eq_true e7
  | false =>
   have hje : j = joint.length := by
                    have : ¬ j < joint.length := by simpa using g3
                    omega
   have hf2 : few2 ⟨id, company, holder, nominee, pledged, joint, capital, votes, fr, til⟩ = true := by
    unfold few2
    refine List.all_eq_true.2 fun s hs => decide_eq_true (hok2 s ?_)
    rw [hje, List.take_length]; exact hs
   repeat' (first | (refine aops_cons ?_; first | (refine zg rfl ?_; first | refine grd_on ?_ | refine zo ?_ | (refine zs ?_ ?_ <;> intro hb <;> ((try simp only [bn] at hb); first | subst hb | simp only [hb]))) | (apply aops_o; rfl; simp only [estep, avs, tts, seval, jl, g3, w1] <;> exact rr)) | refine aops_nil ?_ | (refine ahops_cons ?_; first | (refine yg rfl ?_; first | refine hgrd_on ?_ | refine yo ?_ | (refine ys ?_ ?_ <;> intro hb <;> ((try simp only [bn] at hb); first | subst hb | simp only [hb]))) | (apply ahops_o; rfl; simp only [hstep, avs, tts, seval, jl, g3, w1] <;> exact rr; first | trivial | omega)) | refine ahops_nil ?_ | refine aw_seq ?_ | refine zr ttOk ?_ | refine zR 0 ttOk mixed ?_ | refine zR 1 ttOk mixed ?_ | refine zR 2 ttOk mixed ?_ | refine zR 3 ttOk mixed ?_ | refine zf rfl rfl ?_ | refine zt rfl rfl ?_ | (refine aw_cond rfl rfl ?_ ?_ <;> intro hb <;> ((try simp only [bn] at hb); first | subst hb | simp only [hb])) | refine aw_skip ?_ | refine aw_exit ?_ | refine aw_block ?_)
   refine ⟨l.length - (k + 1), _, _, by omega, ⟨?_, .inr ⟨Nat.le_refl _, ?_, hB, _, rfl⟩⟩, k + 1, rfl, hlt, htk (by rw [hf1, hf2]; rfl), rfl, rfl⟩
   ·simp [EnvLe, List.replicate]
   ·simp [belL, AV.bel, List.replicate]
 | false =>
  have hka : k = l.length := by
                 have : ¬ k < l.length := by simpa using g1
                 omega
  have heq : P = true := by
   rw [hka, List.take_length] at hok
   rw [← hP]
   unfold fewB
   rw [decide_eq_true (by have := of_decide_eq_false g0; omega), List.all_eq_true.2 hok]; rfl
  repeat' (first | (refine aops_cons ?_; first | (refine zg rfl ?_; first | refine grd_on ?_ | refine zo ?_ | (refine zs ?_ ?_ <;> intro hb <;> ((try simp only [bn] at hb); first | subst hb | simp only [hb]))) | (apply aops_o; rfl; simp only [estep, avs, tts, seval, la, g1] <;> exact rr)) | refine aops_nil ?_ | (refine ahops_cons ?_; first | (refine yg rfl ?_; first | refine hgrd_on ?_ | refine yo ?_ | (refine ys ?_ ?_ <;> intro hb <;> ((try simp only [bn] at hb); first | subst hb | simp only [hb]))) | (apply ahops_o; rfl; simp only [hstep, avs, tts, seval, la, g1] <;> exact rr; first | trivial | omega)) | refine ahops_nil ?_ | refine aw_seq ?_ | refine zr ttOk ?_ | refine zR 0 ttOk mixed ?_ | refine zR 1 ttOk mixed ?_ | refine zR 2 ttOk mixed ?_ | refine zR 3 ttOk mixed ?_ | refine zf rfl rfl ?_ | refine zt rfl rfl ?_ | (refine aw_cond rfl rfl ?_ ?_ <;> intro hb <;> ((try simp only [bn] at hb); first | subst hb | simp only [hb])) | refine aw_skip ?_ | refine aw_exit ?_ | refine aw_block ?_)
  rw [heq]
  exact aw_ret ⟨_, rfl, [], by simp, rfl⟩
end
end Av
end Go.Proofs.YtdekcppfpgeneaaGreatDoor
set_option linter.unusedVariables false
set_option linter.unusedSimpArgs false
namespace Go.Proofs.YtdekcppfpgeneaaGreatDoor
open Go Go.RowKit
namespace Av
attribute [local irreducible] AW AOps AHOps
open Nt Rg

/-! What says less; At az a contract on structures; the law's own small functions. -/
def LeA (a b : AV) : Prop := ∀ s v, Rep s a v → Rep s b v
theorem LeA.refl (a : AV) : LeA a a := fun _ _ h => h
theorem LeA.nil (k : Nat) : LeA (.d (.v (.slice none 0 0))) (.d (.sl k [])) := fun s v h => by
 simp only [Rep, PRep] at h ⊢
 exact ⟨none, 0, h.1, Nat.le_refl _, by unfold maxLen; omega, .inl trivial⟩
def LeL : List AV → List AV → Prop
 | [], [] => True
 | a :: l, b :: m => LeA a b ∧ LeL l m
 | _, _ => False
theorem LeL.rep {s : St} : ∀ {l m : List AV} {vs : List Value}, LeL l m → RepL s l vs → RepL s m vs
 | [], [], _, _, h => h
 | [], _ :: _, _, h, _ => h.elim
 | _ :: _, [], _, h, _ => h.elim
 | a :: l, b :: m, vs, h, k => by
  simp only [RepL] at k ⊢
  obtain ⟨x, t, h1, h2, h3⟩ := k
  exact ⟨x, t, h1, h.1 s x h2, h.2.rep h3⟩
theorem LeA.agg {l m : List AV} (h : LeL l m) : LeA (.agg l) (.agg m) := fun s v k => by
 simp only [Rep] at k ⊢
 obtain ⟨c, h1, h2⟩ := k
 exact ⟨c, h1, h.rep h2⟩
theorem LeA.tup {l m : List AV} (h : LeL l m) : LeA (.tup l) (.tup m) := fun s v k => by
 simp only [Rep] at k ⊢
 obtain ⟨c, h1, h2⟩ := k
 exact ⟨c, h1, h.rep h2⟩
theorem PureA.le {P : Program} {base : World} {f : FuncId} {args : List AV} {r r' : AV} (h : PureA P base f args r) (k : LeA r r') : PureA P base f args r' := fun H =>
 ⟨(h H).enter, fun μ w vs hs ha => ((h H).run μ w vs hs ha).mono fun e w' ⟨v, r0, H', μ', h1, ⟨h2, h2'⟩, h3, h4, h5, h6⟩ => ⟨v, r', H', μ', h1, ⟨rfl, h2'⟩, h3, h4, k _ _ (h2 ▸ h5), h6⟩⟩
section
variable {base : World} (hT : Tabs base)
include hT
theorem at_b (l : List Hd) (day : Int) (hs : ∀ h ∈ l, Small h) (hj : ∀ h ∈ l, h.joint.length ≤ 1000) (hl : l.length ≤ 900) : PureA Tryz.prog base 13 [.d (hdsP l), iA day] (.tup [strA (atS l day), iA (atE l day)]) := by
 refine (at_a hT l day hs hj hl).le ?_
 unfold atA atS atE
 cases validB l && dayB day with
 | true =>
  simp only [if_true]
  rw [lksP_eq, lksP_eq]
  exact LeA.refl _
 | false =>
  simp only [Bool.false_eq_true, if_false]
  exact LeA.tup ⟨LeA.agg ⟨.nil 1, .nil 5, .nil 5, trivial⟩, .refl _, trivial⟩
set_option maxRecDepth 100000 in
theorem lof_a (n d : Int) (h0 : -9223372036854775808 ≤ n) (h1 : n ≤ 9223372036854775807) (k0 : -9223372036854775808 ≤ d) (k1 : d ≤ 9223372036854775807) : PureA Tryz.prog base 27 [iA n, iA d] (ratA (ofR n d)) := by
 have co := of_a (base := base) hT n d h0 h1 k0 k1
 refine pure_enter ttOk Tryz.call27 Tryz.func27 rfl fun H hB hb hF => ?_
 rw [Tryz.results27, Tryz.ntmps27]
 simp only [arr_list, List.length_cons, List.length_nil, List.replicate, List.cons_append, List.nil_append, Nat.reduceAdd, Nat.reduceSub]
 clear hF hb
 generalize ofR n d = r at co ⊢
 obtain ⟨a, b, c⟩ := r
 simp only [ratA, tA, iA] at co ⊢
 repeat' (first | (refine aops_cons ?_; first | (refine zg rfl ?_; first | refine grd_on ?_ | refine zo ?_ | (refine zs ?_ ?_ <;> intro hb <;> ((try simp only [bn] at hb); first | subst hb | simp only [hb]))) | (apply aops_o; rfl; simp only [estep, avs, tts, seval] <;> exact rr) | (refine za rfl ?_; refine zp (co) ?_)) | refine aops_nil ?_ | (refine ahops_cons ?_; first | (refine yg rfl ?_; first | refine hgrd_on ?_ | refine yo ?_ | (refine ys ?_ ?_ <;> intro hb <;> ((try simp only [bn] at hb); first | subst hb | simp only [hb]))) | (apply ahops_o; rfl; simp only [hstep, avs, tts, seval] <;> exact rr; first | trivial | omega) | (refine ya rfl ?_; refine yp (co) ?_)) | refine ahops_nil ?_ | refine aw_seq ?_ | refine zr ttOk ?_ | refine zR 0 ttOk mixed ?_ | refine zR 1 ttOk mixed ?_ | refine zR 2 ttOk mixed ?_ | refine zR 3 ttOk mixed ?_ | refine zf rfl rfl ?_ | refine zt rfl rfl ?_ | (refine aw_cond rfl rfl ?_ ?_ <;> intro hb <;> ((try simp only [bn] at hb); first | subst hb | simp only [hb])) | refine aw_skip ?_ | refine aw_exit ?_ | refine aw_block ?_)
 refine aw_ret ⟨.agg [.d (.v (.bool a)), .d (.v (.string b)), .d (.v (.string c))], ?_, _, rfl, rfl⟩
 simp only [aResult, aResL, aRes, avs, tts] <;> rfl
omit hT in
set_option maxRecDepth 100000 in
theorem lfew_a (l : List Hd) : PureA Tryz.prog base 12 [.d (hdsP l)] (boA (fewB 20 l)) := by
 have cf := few_a base l 20 (by omega)
 refine pure_enter ttOk Tryz.call12 Tryz.func12 rfl fun H hB hb hF => ?_
 rw [Tryz.results12, Tryz.ntmps12]
 simp only [arr_list, List.length_cons, List.length_nil, List.replicate, List.cons_append, List.nil_append, Nat.reduceAdd, Nat.reduceSub]
 clear hF hb
 generalize fewB 20 l = b at cf ⊢
 simp only [hdsP, iA] at cf ⊢
 repeat' (first | (refine aops_cons ?_; first | (refine zg rfl ?_; first | refine grd_on ?_ | refine zo ?_ | (refine zs ?_ ?_ <;> intro hb <;> ((try simp only [bn] at hb); first | subst hb | simp only [hb]))) | (apply aops_o; rfl; simp only [estep, avs, tts, seval] <;> exact rr) | (refine za rfl ?_; refine zp (cf) ?_)) | refine aops_nil ?_ | (refine ahops_cons ?_; first | (refine yg rfl ?_; first | refine hgrd_on ?_ | refine yo ?_ | (refine ys ?_ ?_ <;> intro hb <;> ((try simp only [bn] at hb); first | subst hb | simp only [hb]))) | (apply ahops_o; rfl; simp only [hstep, avs, tts, seval] <;> exact rr; first | trivial | omega) | (refine ya rfl ?_; refine yp (cf) ?_)) | refine ahops_nil ?_ | refine aw_seq ?_ | refine zr ttOk ?_ | refine zR 0 ttOk mixed ?_ | refine zR 1 ttOk mixed ?_ | refine zR 2 ttOk mixed ?_ | refine zR 3 ttOk mixed ?_ | refine zf rfl rfl ?_ | refine zt rfl rfl ?_ | (refine aw_cond rfl rfl ?_ ?_ <;> intro hb <;> ((try simp only [bn] at hb); first | subst hb | simp only [hb])) | refine aw_skip ?_ | refine aw_exit ?_ | refine aw_block ?_)
 exact aw_ret ⟨_, rfl, [], by simp, rfl⟩
end
end Av
end Go.Proofs.YtdekcppfpgeneaaGreatDoor
set_option linter.unusedVariables false
set_option linter.unusedSimpArgs false
namespace Go.Proofs.YtdekcppfpgeneaaGreatDoor
open Go Go.RowKit
namespace Rg
open Av Nt

/-! Order: a register in another order has the same structure. Time: which runs alone matters. -/
/-- what runs decides -/
theorem lnk_runs {l m : List Hd} (ix : ByteArray → Int) {d e : Int} (f : Hd → Hd) (hm : m = l.map f) (hr : ∀ h ∈ l, runsB (f h) e = runsB h d) (hc : ∀ h ∈ l, (f h).company = h.company ∧ (f h).capital = h.capital ∧ (f h).votes = h.votes ∧ whoC (f h) = whoC h ∧ whoV (f h) = whoV h) :
  capK ix e m = capK ix d l ∧ votK ix e m = votK ix d l := by
 subst hm
 unfold capK votK
 rw [List.foldl_map, List.foldl_map]
 generalize nilK = s
 constructor
 ·induction l generalizing s with
  | nil => rfl
  | cons a r ih =>
   rw [List.foldl_cons, List.foldl_cons]
   have e1 : stC ix e s (f a) = stC ix d s a := by
    obtain ⟨h1, h2, h3, h4, h5⟩ := hc a (List.mem_cons_self ..)
    unfold stC
    rw [hr a (List.mem_cons_self ..), h1, h2, h4]
   rw [e1]
   exact ih (fun h hh => hr h (List.mem_cons_of_mem _ hh)) (fun h hh => hc h (List.mem_cons_of_mem _ hh)) _
 ·induction l generalizing s with
  | nil => rfl
  | cons a r ih =>
   rw [List.foldl_cons, List.foldl_cons]
   have e1 : stV ix e s (f a) = stV ix d s a := by
    obtain ⟨h1, h2, h3, h4, h5⟩ := hc a (List.mem_cons_self ..)
    unfold stV
    rw [hr a (List.mem_cons_self ..), h1, h3, h5]
   rw [e1]
   exact ih (fun h hh => hr h (List.mem_cons_of_mem _ hh)) (fun h hh => hc h (List.mem_cons_of_mem _ hh)) _
/-- what is told of a holding by RegisterTime -/
def quietB (day later : Int) (h : Hd) : Bool := (decide (h.fr ≤ day) || decide (h.fr > later)) && (decide (h.til ≤ day) || decide (h.til > later))
theorem quiet_runs {day later : Int} {h : Hd} (hl : day ≤ later) (hq : quietB day later h = true) (hd : 0 ≤ day) : runsB h later = runsB h day := by
 unfold quietB at hq
 simp only [Bool.and_eq_true, Bool.or_eq_true, decide_eq_true_eq] at hq
 unfold runsB
 rw [Bool.eq_iff_iff]
 simp only [Bool.and_eq_true, Bool.or_eq_true, decide_eq_true_eq]
 omega
theorem atS_quiet {l : List Hd} {day later : Int} (hl : day ≤ later) (hq : l.all (quietB day later) = true) (h1 : dayB day = true) (h2 : dayB later = true) : atS l later = atS l day := by
 have hd : 0 ≤ day := by unfold dayB at h1; simp only [Bool.and_eq_true, decide_eq_true_eq] at h1; exact h1.1
 have := lnk_runs (l := l) (m := l) (ixS (partiesS l)) (d := day) (e := later) id (List.map_id l).symm (fun h hh => quiet_runs hl (List.all_eq_true.1 hq h hh) hd) (fun h hh => ⟨rfl, rfl, rfl, rfl, rfl⟩)
 unfold atS
 rw [h1, h2, this.1, this.2]
/-- a holding that ends -/
def endH (id : ByteArray) (d : Int) (h : Hd) : Hd := if h.id = id then { h with til := d } else h
def endL (l : List Hd) (id : ByteArray) (d : Int) : List Hd := l.map (endH id d)
theorem namesH_end (id : ByteArray) (d : Int) (h : Hd) : namesH (endH id d h) = namesH h := by
 unfold endH; split <;> rfl
theorem partiesS_end (l : List Hd) (id : ByteArray) (d : Int) : partiesS (endL l id d) = partiesS l := partiesS_congr fun x => by
 unfold endL
 constructor
 ·rintro ⟨a, h1, h2⟩
  obtain ⟨b, h3, rfl⟩ := List.mem_map.1 h1
  exact ⟨b, h3, by rw [← namesH_end id d]; exact h2⟩
 ·rintro ⟨a, h1, h2⟩
  exact ⟨_, List.mem_map_of_mem h1, by rw [namesH_end]; exact h2⟩
theorem ids_end (l : List Hd) (id : ByteArray) (d : Int) : (endL l id d).map Hd.id = l.map Hd.id := by
 unfold endL
 rw [List.map_map]
 exact List.map_congr_left fun h _ => by
  show (endH id d h).id = h.id
  unfold endH; split <;> rfl
/-- what End asks of the holding -/
structure Ends (l : List Hd) (id : ByteArray) (d : Int) : Prop where
 day : dayB d = true
 til : ∀ h ∈ l, h.id = id → h.til = -1
 fr : ∀ h ∈ l, h.id = id → h.fr < d
theorem runs_end {l : List Hd} {id : ByteArray} {d : Int} (he : Ends l id d) {h : Hd} (hh : h ∈ l) (day : Int) (hr : runsB (endH id d h) day = true) : runsB h day = true := by
 unfold endH at hr
 split at hr
 ·rename_i e
  have := he.til h hh e
  unfold runsB at hr ⊢
  simp only [Bool.and_eq_true, Bool.or_eq_true, decide_eq_true_eq] at hr ⊢
  exact ⟨hr.1, .inl this⟩
 ·exact hr
theorem runs_end_before {l : List Hd} {id : ByteArray} {d : Int} (he : Ends l id d) {h : Hd} (hh : h ∈ l) {day : Int} (hd : day < d) : runsB (endH id d h) day = runsB h day := by
 unfold endH
 split
 ·rename_i e
  have := he.til h hh e
  unfold runsB
  rw [Bool.eq_iff_iff]
  simp only [Bool.and_eq_true, Bool.or_eq_true, decide_eq_true_eq]
  omega
 ·rfl
theorem properB_end {l : List Hd} {id : ByteArray} {d : Int} (he : Ends l id d) {h : Hd} (hh : h ∈ l) (hp : properB h = true) : properB (endH id d h) = true := by
 unfold endH
 split
 ·rename_i e
  have h1 := he.fr h hh e
  have h2 := he.day
  unfold properB at hp ⊢
  simp only [Bool.and_eq_true] at hp
  have q : pr4 { h with til := d } = true := by
   unfold pr4
   have h3 := hp.2.2.2
   unfold pr4 at h3
   simp only [Bool.and_eq_true, Bool.or_eq_true, decide_eq_true_eq] at h3 ⊢
   exact ⟨h3.1, .inr ⟨h2, h1⟩⟩
  rw [q]
  have a1 : pr1 { h with til := d } = pr1 h := rfl
  have a2 : pr2 { h with til := d } = pr2 h := rfl
  have a3 : pr3 { h with til := d } = pr3 h := rfl
  rw [a1, a2, a3, hp.1, hp.2.1, hp.2.2.1]; rfl
 ·exact hp
theorem sum_end {l : List Hd} {id : ByteArray} {d : Int} (he : Ends l id d) (day : Int) (c : ByteArray) (f : Hd → Int) (hf : ∀ h, f (endH id d h) = f h) (h0 : ∀ h ∈ l, 0 ≤ f h) : sumF (inB day c) f (endL l id d) ≤ sumF (inB day c) f l := by
 have main : ∀ m : List Hd, (∀ h ∈ m, h ∈ l) → sumF (inB day c) f (m.map (endH id d)) ≤ sumF (inB day c) f m := by
  intro m
  induction m with
  | nil => intro _; exact Int.le_refl _
  | cons a r ih =>
   intro hm
   have h1 := ih fun h hh => hm h (List.mem_cons_of_mem _ hh)
   have ha := hm a (List.mem_cons_self ..)
   have h2 := h0 a ha
   simp only [List.map_cons, sumF, hf]
   have hc : (endH id d a).company = a.company := by unfold endH; split <;> rfl
   by_cases e : inB day c (endH id d a) = true
   ·have e2 : inB day c a = true := by
     unfold inB at e ⊢
     simp only [Bool.and_eq_true] at e ⊢
     exact ⟨runs_end he ha day e.1, by rw [← hc]; exact e.2⟩
    rw [if_pos e, if_pos e2]; omega
   ·rw [if_neg e]
    split <;> omega
 exact main l fun h hh => hh
theorem validB_end {l : List Hd} {id : ByteArray} {d : Int} (he : Ends l id d) (hv : validB l = true) : validB (endL l id d) = true := by
 unfold validB at hv ⊢
 simp only [Bool.and_eq_true, decide_eq_true_eq] at hv ⊢
 obtain ⟨⟨h1, h2⟩, h3, h4, h5⟩ := hv
 have hp := List.all_eq_true.1 h1
 refine ⟨⟨List.all_eq_true.2 fun x hx => ?_, by rw [ids_end]; exact h2⟩, by unfold endL; rw [List.length_map]; exact h3, by rw [partiesS_end]; exact h4, ?_⟩
 ·obtain ⟨h, hh, rfl⟩ := List.mem_map.1 hx
  exact properB_end he hh (hp h hh)
 ·unfold bearB at h5 ⊢
  refine List.all_eq_true.2 fun x hx => ?_
  obtain ⟨h, hh, rfl⟩ := List.mem_map.1 hx
  have hfr : (endH id d h).fr = h.fr := by unfold endH; split <;> rfl
  rw [hfr]
  have h6 := List.all_eq_true.1 h5 h hh
  unfold onB at h6 ⊢
  refine List.all_eq_true.2 fun y hy => ?_
  obtain ⟨g, hg, rfl⟩ := List.mem_map.1 hy
  have h7 := List.all_eq_true.1 h6 g hg
  have hc : (endH id d g).company = g.company := by unfold endH; split <;> rfl
  cases hr : runsB (endH id d g) h.fr with
  | false => rfl
  | true =>
   rw [runs_end he hg _ hr] at h7
   rw [hc]
   simp only [Bool.not_true, Bool.false_or] at h7 ⊢
   unfold okC capS votS at h7 ⊢
   simp only [Bool.and_eq_true, decide_eq_true_eq] at h7 ⊢
   have s1 := sum_end he h.fr g.company Hd.capital (fun h => by unfold endH; split <;> rfl) (fun h hh => (pct_of (hp h hh)).c0)
   have s2 := sum_end he h.fr g.company Hd.votes (fun h => by unfold endH; split <;> rfl) (fun h hh => (pct_of (hp h hh)).v0)
   omega
theorem atS_end {l : List Hd} {id : ByteArray} {d day : Int} (he : Ends l id d) (hv : validB l = true) (hd : day < d) : atS (endL l id d) day = atS l day ∧ atE (endL l id d) day = atE l day := by
 have := lnk_runs (l := l) (ixS (partiesS l)) (d := day) (e := day) (endH id d) (m := endL l id d) rfl (fun h hh => runs_end_before he hh hd) (fun h hh => by unfold endH; split <;> exact ⟨rfl, rfl, rfl, rfl, rfl⟩)
 unfold atS atE
 rw [validB_end he hv, hv, partiesS_end, this.1, this.2]
 exact ⟨rfl, rfl⟩
end Rg
end Go.Proofs.YtdekcppfpgeneaaGreatDoor
set_option linter.unusedVariables false
set_option linter.unusedSimpArgs false
namespace Go.Proofs.YtdekcppfpgeneaaGreatDoor
open Go Go.RowKit
namespace Rg
open Av Nt
/-! Put and End: plain. -/
def endS (l : List Hd) (id : ByteArray) (d : Int) : List Hd × Int :=
 if validB l && dayB d then match l.find? (fun h => decide (h.id = id)) with
  | none => ([], 11)
  | some h => if h.til = -1 then (if d ≤ h.fr then ([], 14) else (endL l id d, 0)) else ([], 12)
 else ([], 1)
end Rg
namespace Av
attribute [local irreducible] AW AOps AHOps
open Nt Rg

/-! register: copies, Put, End. -/
def hdI (h : Hd) : List AV := (hdC h).map AV.d
theorem hdI_eq (l : List Hd) : l.map hdI = dI (l.map hdC) := by rw [dI, List.map_map]; rfl
theorem hdI_len (l : List Hd) : (l.map hdI).length = l.length := List.length_map _
theorem unI_hd (l : List Hd) : unI (l.map hdI) = some (l.map hdC) := by rw [hdI_eq]; exact unI_dI _
section
variable (base : World)
set_option maxRecDepth 100000 in
theorem cloneh_c {H : AHeap} (l : List Hd) (hl : l.length ≤ 1000000) : CallsA Tryz.prog base 46 [.d (hdsP l)] H fun r H' => r = .ms H.length 0 l.length ∧ H' = H ++ [.row 36 10 0 (l.map hdI)] := by
 refine callsA_enter ttOk Tryz.call46 Tryz.func46 rfl fun hB hb hF => ?_
 rw [Tryz.results46, Tryz.ntmps46]
 simp only [arr_list, List.length_cons, List.length_nil, List.replicate, List.cons_append, List.nil_append, Nat.reduceAdd, Nat.reduceSub]
 clear hF hb
 have la := hds_len l
 simp only [hdsP]
 repeat refine aw_seq ?_
 refine zr ttOk ?_
 repeat (refine aops_cons ?_; first | (apply aops_o; rfl; simp only [estep, avs, tts, seval] <;> exact rr) | (refine zg rfl ?_; first | refine grd_on ?_ | refine zo ?_))
 refine aops_nil ?_
 repeat refine aw_seq ?_
 refine zr ttOk ?_
 repeat (refine aops_cons ?_; first | (apply aops_o; rfl; simp only [estep, avs, tts, seval] <;> exact rr) | (refine zg rfl ?_; first | refine grd_on ?_ | refine zo ?_))
 refine aops_nilcmp rfl rfl rfl rfl fun b hn => aops_nil ?_
 repeat refine aw_seq ?_
 refine aw_cond rfl rfl (fun hb => ?_) fun hb => ?_
 ·have hnl := hn (by simpa using hb)
  have hl0 : l = [] := by simpa using hnl
  subst hl0
  repeat refine aw_seq ?_
  refine zr ttOk ?_
  repeat (refine aops_cons ?_; first | (apply aops_o; rfl; simp only [estep, avs, tts, seval] <;> exact rr) | (refine zg rfl ?_; first | refine grd_on ?_ | refine zo ?_))
  refine aops_nil ?_
  refine aw_nilrow 2 36 10 rfl (by simp only [l_set0, l_setS] <;> rfl) ?_
  exact aw_ret ⟨_, rfl, rfl, rfl⟩
 ·refine aw_skip ?_
  have b1 : l.length ≤ 9223372036854775807 := by omega
  have b2 : l.length * 136 ≤ 140737488355328 := by omega
  have e1 : List.map (fun it => List.map AV.d it) (l.map hdC) = l.map hdI := by rw [List.map_map]; rfl
  repeat' (first | (refine aops_cons ?_; first | (refine zg rfl ?_; first | refine grd_on ?_ | refine zo ?_ | (refine zs ?_ ?_ <;> intro hb <;> ((try simp only [bn] at hb); first | subst hb | simp only [hb]))) | (apply aops_o; rfl; simp only [estep, avs, tts, seval, la, b1, b2, e1] <;> exact rr)) | refine aops_nil ?_ | (refine ahops_cons ?_; first | (refine yg rfl ?_; first | refine hgrd_on ?_ | refine yo ?_ | (refine ys ?_ ?_ <;> intro hb <;> ((try simp only [bn] at hb); first | subst hb | simp only [hb]))) | (apply ahops_o; rfl; simp only [hstep, avs, tts, seval, la, b1, b2, e1] <;> exact rr; first | trivial | omega)) | refine ahops_nil ?_ | refine aw_seq ?_ | refine zr ttOk ?_ | refine zR 0 ttOk mixed ?_ | refine zR 1 ttOk mixed ?_ | refine zR 2 ttOk mixed ?_ | refine zR 3 ttOk mixed ?_ | refine zf rfl rfl ?_ | refine zt rfl rfl ?_ | (refine aw_cond rfl rfl ?_ ?_ <;> intro hb <;> ((try simp only [bn] at hb); first | subst hb | simp only [hb])) | refine aw_skip ?_ | refine aw_exit ?_ | refine aw_block ?_)
  show AW _ _ _ _ _
  exact aw_ret ⟨_, rfl, rfl, rfl⟩
theorem find_idx {l : List Hd} {id : ByteArray} {k : Nat} (h : l.findIdx? (fun h => decide (h.id = id)) = some k) : ∃ hk : k < l.length, l[k].id = id ∧ l.find? (fun h => decide (h.id = id)) = some l[k] := by
 have h0 := h
 rw [List.findIdx?_eq_some_iff_getElem] at h
 obtain ⟨hk, h1, h2⟩ := h
 refine ⟨hk, of_decide_eq_true h1, ?_⟩
 rw [List.find?_eq_some_iff_getElem]
 exact ⟨h1, k, hk, rfl, fun j hj => by simpa using h2 j hj⟩
theorem find_none {l : List Hd} {id : ByteArray} (h : l.findIdx? (fun h => decide (h.id = id)) = none) : l.find? (fun h => decide (h.id = id)) = none := by
 rw [List.findIdx?_eq_none_iff] at h
 rw [List.find?_eq_none]
 intro x hx
 simpa using h x hx
theorem endL_set {l : List Hd} {id : ByteArray} {d : Int} {k : Nat} (hk : k < l.length) (hid : l[k].id = id) (hn : (l.map Hd.id).Nodup) : endL l id d = l.set k { l[k] with til := d } := by
 apply List.ext_getElem (by simp [endL])
 intro i h1 h2
 simp only [endL, List.length_map] at h1
 simp only [endL, List.getElem_map, List.getElem_set]
 by_cases e : k = i
 ·subst e
  rw [if_pos rfl]; unfold endH; rw [if_pos hid]
 ·rw [if_neg e]
  unfold endH
  rw [if_neg fun hx => ?_]
  have hp := List.pairwise_iff_getElem.1 hn
  rcases Nat.lt_or_gt_of_ne e with h | h
  ·exact hp k i (by simpa using hk) (by simpa using h1) h (by simp only [List.getElem_map]; rw [hid, hx])
  ·exact hp i k (by simpa using h1) (by simpa using hk) h (by simp only [List.getElem_map]; rw [hid, hx])
theorem valid_ids {l : List Hd} (h : validB l = true) : (l.map Hd.id).Nodup := by
 unfold validB at h
 simp only [Bool.and_eq_true, decide_eq_true_eq] at h
 exact h.1.2
set_option maxRecDepth 100000 in
set_option maxHeartbeats 4000000 in
theorem end_a (l : List Hd) (id : ByteArray) (d : Int) (hs : ∀ h ∈ l, Small h) (hj : ∀ h ∈ l, h.joint.length ≤ 1000) (hl : l.length ≤ 900) : PureA Tryz.prog base 19 [.d (hdsP l), tA id, iA d] (.tup [.d (hdsP (endS l id d).1), iA (endS l id d).2]) := by
 have c1 := rvalid_a (base := base) l hs hj hl
 have c2 := day_a base d
 have c3 := find_a (base := base) l id
 refine pure_enter ttOk Tryz.call19 Tryz.func19 rfl fun H hB hb hF => ?_
 rw [Tryz.results19, Tryz.ntmps19]
 simp only [arr_list, List.length_cons, List.length_nil, List.replicate, List.cons_append, List.nil_append, Nat.reduceAdd, Nat.reduceSub]
 clear hF hb
 have la := hds_len l
 unfold endS
 simp only [iA, tA, boA, hdsP] at c1 c2 c3 ⊢
 obtain ⟨bv, hbv⟩ : ∃ b, validB l = b := ⟨_, rfl⟩
 obtain ⟨bd, hbd⟩ : ∃ b, dayB d = b := ⟨_, rfl⟩
 rw [hbv] at c1 ⊢
 rw [hbd] at c2 ⊢
 by_cases hvd : (bv && bd) = true
 ·simp only [Bool.and_eq_true] at hvd
  obtain ⟨rfl, rfl⟩ := hvd
  simp only [Bool.and_true, if_true]
  have hnd := valid_ids hbv
  cases hfi : l.findIdx? (fun h => decide (h.id = id)) with
  | none =>
   rw [find_none hfi]
   have hI : findI l id = -1 := by unfold findI; rw [hfi]
   rw [hI] at c3
   repeat' (first | (refine aops_cons ?_; first | (refine zg rfl ?_; first | refine grd_on ?_ | refine zo ?_ | (refine zs ?_ ?_ <;> intro hb <;> ((try simp only [bn] at hb); first | subst hb | simp only [hb]))) | (apply aops_o; rfl; simp only [estep, avs, tts, seval, la] <;> exact rr) | (refine za rfl ?_; first | refine zp (c1) ?_ | refine zp (c2) ?_ | refine zp (c3) ?_)) | refine aops_nil ?_ | (refine ahops_cons ?_; first | (refine yg rfl ?_; first | refine hgrd_on ?_ | refine yo ?_ | (refine ys ?_ ?_ <;> intro hb <;> ((try simp only [bn] at hb); first | subst hb | simp only [hb]))) | (apply ahops_o; rfl; simp only [hstep, avs, tts, seval, la] <;> exact rr; first | trivial | omega) | (refine ya rfl ?_; first | refine yp (c1) ?_ | refine yp (c2) ?_ | refine yp (c3) ?_)) | refine ahops_nil ?_ | refine aw_seq ?_ | refine zr ttOk ?_ | refine zR 0 ttOk mixed ?_ | refine zR 1 ttOk mixed ?_ | refine zR 2 ttOk mixed ?_ | refine zR 3 ttOk mixed ?_ | refine zf rfl rfl ?_ | refine zt rfl rfl ?_ | (refine aw_cond rfl rfl ?_ ?_ <;> intro hb <;> ((try simp only [bn] at hb); first | subst hb | simp only [hb])) | refine aw_skip ?_ | refine aw_exit ?_ | refine aw_block ?_)
   refine aw_nils 6 10 rfl (by simp only [l_set0, l_setS] <;> rfl) ?_
   exact aw_ret ⟨_, rfl, [], by simp, rfl⟩
  | some k =>
   obtain ⟨hk, hid, hf⟩ := find_idx hfi
   have hI : findI l id = (k : Int) := by unfold findI; rw [hfi]
   rw [hI] at c3
   rw [hf, endL_set hk hid hnd]
   have hix : (0 : Int) ≤ (k : Int) := by omega
   have hix2 : decide ((k : Int) < 0) = false := decide_eq_false (by omega)
   have hgd := hds_get hk
   have hgI : (l.map hdI)[k]? = some (hdI l[k]) := by rw [List.getElem?_map, List.getElem?_eq_getElem hk]; rfl
   have hlI := hdI_len l
   have hset : ∀ y : Hd, (l.map hdI).set k (hdI y) = (l.set k y).map hdI := fun y => by rw [List.map_set]
   obtain ⟨h, hh⟩ : ∃ h, l[k] = h := ⟨_, rfl⟩
   simp only [hh] at hgd hgI ⊢
   have hset2 := hset { h with til := d }
   obtain ⟨hid', company, holder, nominee, pledged, joint, capital, votes, fr, til⟩ := h
   simp only at hset2 ⊢
   simp only [hdC] at hgd
   simp only [hdI, hdC, List.map_cons, List.map_nil] at hgI
   obtain ⟨ct, gt⟩ : ∃ c, decide (til = -1) = c := ⟨_, rfl⟩
   obtain ⟨cf, gf⟩ : ∃ c, decide (d ≤ fr) = c := ⟨_, rfl⟩
   have et : (til = -1) = (ct = true) := by rw [← gt]; simp
   have ef : (d ≤ fr) = (cf = true) := by rw [← gf]; simp
   simp only [et, ef]
   clear et ef hset
   repeat' (first | (refine aops_cons ?_; first | (refine zg rfl ?_; first | refine grd_on ?_ | refine zo ?_ | (refine zs ?_ ?_ <;> intro hb <;> ((try simp only [bn] at hb); first | subst hb | simp only [hb]))) | (apply aops_o; rfl; simp only [estep, avs, tts, seval, la, hix, hix2, hk, hgd, gt, gf] <;> exact rr) | (refine za rfl ?_; first | refine zp (c1) ?_ | refine zp (c2) ?_ | refine zp (c3) ?_)) | refine aops_nil ?_ | (refine ahops_cons ?_; first | (refine yg rfl ?_; first | refine hgrd_on ?_ | refine yo ?_ | (refine ys ?_ ?_ <;> intro hb <;> ((try simp only [bn] at hb); first | subst hb | simp only [hb]))) | (apply ahops_o; rfl; simp only [hstep, avs, tts, seval, la, hix, hix2, hk, hgd, gt, gf] <;> exact rr; first | trivial | omega) | (refine ya rfl ?_; first | refine yp (c1) ?_ | refine yp (c2) ?_ | refine yp (c3) ?_)) | refine ahops_nil ?_ | refine aw_seq ?_ | refine zr ttOk ?_ | refine zR 0 ttOk mixed ?_ | refine zR 1 ttOk mixed ?_ | refine zR 2 ttOk mixed ?_ | refine zR 3 ttOk mixed ?_ | refine zf rfl rfl ?_ | refine zt rfl rfl ?_ | (refine aw_cond rfl rfl ?_ ?_ <;> intro hb <;> ((try simp only [bn] at hb); first | subst hb | simp only [hb])) | refine aw_skip ?_ | refine aw_exit ?_ | refine aw_block ?_)
   ·(try show AW _ _ _ _ _)
    refine aw_nils 6 10 rfl (by simp only [l_set0, l_setS] <;> rfl) ?_
    exact aw_ret ⟨_, rfl, [], by simp, rfl⟩
   ·(try show AW _ _ _ _ _)
    refine aw_nils 6 10 rfl (by simp only [l_set0, l_setS] <;> rfl) ?_
    exact aw_ret ⟨_, rfl, [], by simp, rfl⟩
   ·refine aops_call rfl (by simp only [avs] <;> rfl) (⟨_, cloneh_c base l (by omega), ?_⟩)
    rintro r H' ⟨rfl, rfl⟩ hle
    clear c1 c2 c3
    repeat' (first | (refine aops_cons ?_; first | (refine zg rfl ?_; first | refine grd_on ?_ | refine zo ?_ | (refine zs ?_ ?_ <;> intro hb <;> ((try simp only [bn] at hb); first | subst hb | simp only [hb]))) | (apply aops_o; rfl; simp only [estep, avs, tts, seval, hlI, hix, hk, hgI] <;> exact rr)) | refine aops_nil ?_ | (refine ahops_cons ?_; first | (refine yg rfl ?_; first | refine hgrd_on ?_ | refine yo ?_ | (refine ys ?_ ?_ <;> intro hb <;> ((try simp only [bn] at hb); first | subst hb | simp only [hb]))) | (apply ahops_o; rfl; simp only [hstep, avs, tts, seval, hlI, hix, hk, hgI] <;> exact rr; first | trivial | omega)) | refine ahops_nil ?_ | refine aw_seq ?_ | refine zr ttOk ?_ | refine zR 0 ttOk mixed ?_ | refine zR 1 ttOk mixed ?_ | refine zR 2 ttOk mixed ?_ | refine zR 3 ttOk mixed ?_ | refine zf rfl rfl ?_ | refine zt rfl rfl ?_ | (refine aw_cond rfl rfl ?_ ?_ <;> intro hb <;> ((try simp only [bn] at hb); first | subst hb | simp only [hb])) | refine aw_skip ?_ | refine aw_exit ?_ | refine aw_block ?_)
    have hgD : (l.map hdI).getD k [] = hdI ⟨hid', company, holder, nominee, pledged, joint, capital, votes, fr, til⟩ := by rw [List.getD_eq_getElem?_getD, hgI]; rfl
    have e9 : (l.map hdI).set k (List.take 9 ((l.map hdI).getD k []) ++ .d (.v (.int .i64 d)) :: List.drop 10 ((l.map hdI).getD k [])) = (l.set k ⟨hid', company, holder, nominee, pledged, joint, capital, votes, fr, d⟩).map hdI := by rw [hgD]; exact hset2
    rw [e9]
    have hu : unI ((l.map hdI).set k (hdI ⟨hid', company, holder, nominee, pledged, joint, capital, votes, fr, d⟩)) = some ((l.map hdC).set k (hdC ⟨hid', company, holder, nominee, pledged, joint, capital, votes, fr, d⟩)) := by rw [← List.map_set, ← List.map_set]; exact unI_hd _
    show AW _ _ _ _ _
    refine aw_ret ⟨_, rfl, _, rfl, ?_⟩
    simp [sealA, sealL, hu]
 ·have hvd' : (bv && bd) = false := by simpa using hvd
  rw [hvd']
  simp only [Bool.false_eq_true, if_false]
  clear hbv hbd hvd
  cases bv with
  | false =>
   repeat' (first | (refine aops_cons ?_; first | (refine zg rfl ?_; first | refine grd_on ?_ | refine zo ?_ | (refine zs ?_ ?_ <;> intro hb <;> ((try simp only [bn] at hb); first | subst hb | simp only [hb]))) | (apply aops_o; rfl; simp only [estep, avs, tts, seval] <;> exact rr) | (refine za rfl ?_; first | refine zp (c1) ?_ | refine zp (c2) ?_)) | refine aops_nil ?_ | (refine ahops_cons ?_; first | (refine yg rfl ?_; first | refine hgrd_on ?_ | refine yo ?_ | (refine ys ?_ ?_ <;> intro hb <;> ((try simp only [bn] at hb); first | subst hb | simp only [hb]))) | (apply ahops_o; rfl; simp only [hstep, avs, tts, seval] <;> exact rr; first | trivial | omega) | (refine ya rfl ?_; first | refine yp (c1) ?_ | refine yp (c2) ?_)) | refine ahops_nil ?_ | refine aw_seq ?_ | refine zr ttOk ?_ | refine zR 0 ttOk mixed ?_ | refine zR 1 ttOk mixed ?_ | refine zR 2 ttOk mixed ?_ | refine zR 3 ttOk mixed ?_ | refine zf rfl rfl ?_ | refine zt rfl rfl ?_ | (refine aw_cond rfl rfl ?_ ?_ <;> intro hb <;> ((try simp only [bn] at hb); first | subst hb | simp only [hb])) | refine aw_skip ?_ | refine aw_exit ?_ | refine aw_block ?_)
   refine aw_nils 6 10 rfl (by simp only [l_set0, l_setS] <;> rfl) ?_
   exact aw_ret ⟨_, rfl, [], by simp, rfl⟩
  | true =>
   have : bd = false := by simpa using hvd'
   subst this
   repeat' (first | (refine aops_cons ?_; first | (refine zg rfl ?_; first | refine grd_on ?_ | refine zo ?_ | (refine zs ?_ ?_ <;> intro hb <;> ((try simp only [bn] at hb); first | subst hb | simp only [hb]))) | (apply aops_o; rfl; simp only [estep, avs, tts, seval] <;> exact rr) | (refine za rfl ?_; first | refine zp (c1) ?_ | refine zp (c2) ?_)) | refine aops_nil ?_ | (refine ahops_cons ?_; first | (refine yg rfl ?_; first | refine hgrd_on ?_ | refine yo ?_ | (refine ys ?_ ?_ <;> intro hb <;> ((try simp only [bn] at hb); first | subst hb | simp only [hb]))) | (apply ahops_o; rfl; simp only [hstep, avs, tts, seval] <;> exact rr; first | trivial | omega) | (refine ya rfl ?_; first | refine yp (c1) ?_ | refine yp (c2) ?_)) | refine ahops_nil ?_ | refine aw_seq ?_ | refine zr ttOk ?_ | refine zR 0 ttOk mixed ?_ | refine zR 1 ttOk mixed ?_ | refine zR 2 ttOk mixed ?_ | refine zR 3 ttOk mixed ?_ | refine zf rfl rfl ?_ | refine zt rfl rfl ?_ | (refine aw_cond rfl rfl ?_ ?_ <;> intro hb <;> ((try simp only [bn] at hb); first | subst hb | simp only [hb])) | refine aw_skip ?_ | refine aw_exit ?_ | refine aw_block ?_)
   refine aw_nils 6 10 rfl (by simp only [l_set0, l_setS] <;> rfl) ?_
   exact aw_ret ⟨_, rfl, [], by simp, rfl⟩
end
end Av
end Go.Proofs.YtdekcppfpgeneaaGreatDoor
set_option linter.unusedVariables false
set_option linter.unusedSimpArgs false
namespace Go.Proofs.YtdekcppfpgeneaaGreatDoor
open Go Go.RowKit
namespace Rg
open Av Nt
def putS (l : List Hd) (h : Hd) : List Hd × Int :=
 if validB l && properB h then
  (if 0 ≤ findI l h.id then ([], 9)
  else if decide (l.length + 1 ≤ 400) && decide ((partiesS (l ++ [h])).length ≤ 60) then (if bearB (l ++ [h]) then (l ++ [h], 0) else ([], 10)) else ([], 2))
 else ([], 1)
/-- the two new rows, in the order in which they were made -/
def two (o a b : Bool) (x y : AObj) : AHeap := if a then (if b then (if o then [x, y] else [y, x]) else [x]) else if b then [y] else []
end Rg
namespace Av
attribute [local irreducible] AW AOps AHOps
open Nt Rg

/-! register.Put. -/
section
variable {base : World}
set_option maxRecDepth 100000 in
set_option maxHeartbeats 8000000 in
theorem put_a (l : List Hd) (h : Hd) (hs : ∀ h ∈ l, Small h) (hsh : Small h) (hj : ∀ h ∈ l, h.joint.length ≤ 1000) (hjh : h.joint.length ≤ 1000) (hl : l.length ≤ 800) : PureA Tryz.prog base 17 [.d (hdsP l), hdA h] (.tup [.d (hdsP (putS l h).1), iA (putS l h).2]) := by
 have c1 := rvalid_a (base := base) l hs hj (by omega)
 have c2 := proper_a base h hsh
 have c3 := find_a (base := base) l h.id
 have c4 := parties_a (base := base) (l ++ [h]) (fun x hx => by rcases List.mem_append.1 hx with hx | hx; exact hs x hx; rw [List.mem_singleton] at hx; rw [hx]; exact hsh) (fun x hx => by rcases List.mem_append.1 hx with hx | hx; exact hj x hx; rw [List.mem_singleton] at hx; rw [hx]; exact hjh) (by simp; omega)
 have c5 := fun hp => bearable_a (base := base) (l ++ [h]) hp (by simp; omega)
 refine pure_enter ttOk Tryz.call17 Tryz.func17 rfl fun H hB hb hF => ?_
 rw [Tryz.results17, Tryz.ntmps17]
 simp only [arr_list, List.length_cons, List.length_nil, List.replicate, List.cons_append, List.nil_append, Nat.reduceAdd, Nat.reduceSub]
 clear hF hb
 have la := hds_len l
 have la2 := hds_len (l ++ [h])
 unfold putS
 simp only [iA, tA, boA, hdsP] at c1 c2 c3 c4 c5 ⊢
 obtain ⟨bv, hbv⟩ : ∃ b, validB l = b := ⟨_, rfl⟩
 obtain ⟨bp, hbp⟩ : ∃ b, properB h = b := ⟨_, rfl⟩
 have hpct : bv = true → bp = true → ∀ x ∈ l ++ [h], Pct x := fun e1 e2 x hx => by
  subst e1 e2
  rcases List.mem_append.1 hx with hx | hx
  ·exact pct_of ((valid_all hbv).1 x hx)
  ·rw [List.mem_singleton] at hx; rw [hx]; exact pct_of hbp
 rw [hbv] at c1 ⊢
 rw [hbp] at c2 ⊢
 clear hbv hbp
 obtain ⟨cb, hcb⟩ : ∃ b, bearB (l ++ [h]) = b := ⟨_, rfl⟩
 obtain ⟨ps, hps⟩ : ∃ ps, partiesS (l ++ [h]) = ps := ⟨_, rfl⟩
 obtain ⟨cf, gf⟩ : ∃ c, decide (findI l h.id ≥ 0) = c := ⟨_, rfl⟩
 have ef : (0 ≤ findI l h.id) = (cf = true) := by rw [← gf]; simp
 rw [hcb] at c5 ⊢
 rw [hps] at c4 ⊢
 simp only [ef]
 clear ef hcb hps
 obtain ⟨m, hm⟩ : ∃ m, findI l h.id = m := ⟨_, rfl⟩
 rw [hm] at c3 gf
 clear hm
 have hI : hdI h = hdL h := rfl
 have hrow : (l.map hdI) ++ [hdL h] = (l ++ [h]).map hdI := by simp [hI]
 have hun := unI_hd (l ++ [h])
 have hlen : (l ++ [h]).length = l.length + 1 := by simp
 have hlI := hdI_len l
 obtain ⟨id, company, holder, nominee, pledged, joint, capital, votes, fr, til⟩ := h
 obtain ⟨L, hL⟩ : ∃ L, l ++ [⟨id, company, holder, nominee, pledged, joint, capital, votes, fr, til⟩] = L := ⟨_, rfl⟩
 rw [hL] at la2 hun hlen hrow c4 c5 hpct ⊢
 clear hL
 simp only [hdA, hdL, tA, iA] at c2 c3 hrow ⊢
 obtain ⟨cp, gp⟩ : ∃ c, decide (ps.length ≤ 60) = c := ⟨_, rfl⟩
 obtain ⟨cl, gl⟩ : ∃ c, decide (l.length + 1 ≤ 400) = c := ⟨_, rfl⟩
 rw [gp, gl]
 have gp2 : decide ((ps.length : Int) > 60) = !cp := by
  subst gp; by_cases h : ps.length ≤ 60
  ·rw [decide_eq_true h, decide_eq_false (by omega)]; rfl
  ·rw [decide_eq_false h, decide_eq_true (by omega)]; rfl
 have gl2 : decide (((l.length + 1 : Nat) : Int) > 400) = !cl := by
  subst gl; by_cases h : l.length + 1 ≤ 400
  ·rw [decide_eq_true h, decide_eq_false (by omega)]; rfl
  ·rw [decide_eq_false h, decide_eq_true (by omega)]; rfl
 have psl : (ps.map fun s => [PD.v (.string s)]).length = ps.length := by simp
 clear gp gl
 cases bv with
 | false =>
  repeat' (first | (refine aops_cons ?_; first | (refine zg rfl ?_; first | refine grd_on ?_ | refine zo ?_ | (refine zs ?_ ?_ <;> intro hb <;> ((try simp only [bn] at hb); first | subst hb | simp only [hb]))) | (apply aops_o; rfl; simp only [estep, avs, tts, seval] <;> exact rr) | (refine za rfl ?_; first | refine zp (c1) ?_ | refine zp (c2) ?_)) | refine aops_nil ?_ | (refine ahops_cons ?_; first | (refine yg rfl ?_; first | refine hgrd_on ?_ | refine yo ?_ | (refine ys ?_ ?_ <;> intro hb <;> ((try simp only [bn] at hb); first | subst hb | simp only [hb]))) | (apply ahops_o; rfl; simp only [hstep, avs, tts, seval] <;> exact rr; first | trivial | omega) | (refine ya rfl ?_; first | refine yp (c1) ?_ | refine yp (c2) ?_)) | refine ahops_nil ?_ | refine aw_seq ?_ | refine zr ttOk ?_ | refine zR 0 ttOk mixed ?_ | refine zR 1 ttOk mixed ?_ | refine zR 2 ttOk mixed ?_ | refine zR 3 ttOk mixed ?_ | refine zf rfl rfl ?_ | refine zt rfl rfl ?_ | (refine aw_cond rfl rfl ?_ ?_ <;> intro hb <;> ((try simp only [bn] at hb); first | subst hb | simp only [hb])) | refine aw_skip ?_ | refine aw_exit ?_ | refine aw_block ?_)
  refine aw_nils 4 10 rfl (by simp only [l_set0, l_setS] <;> rfl) ?_
  exact aw_ret ⟨_, rfl, _, rfl, rfl⟩
 | true =>
 cases bp with
 | false =>
  repeat' (first | (refine aops_cons ?_; first | (refine zg rfl ?_; first | refine grd_on ?_ | refine zo ?_ | (refine zs ?_ ?_ <;> intro hb <;> ((try simp only [bn] at hb); first | subst hb | simp only [hb]))) | (apply aops_o; rfl; simp only [estep, avs, tts, seval] <;> exact rr) | (refine za rfl ?_; first | refine zp (c1) ?_ | refine zp (c2) ?_)) | refine aops_nil ?_ | (refine ahops_cons ?_; first | (refine yg rfl ?_; first | refine hgrd_on ?_ | refine yo ?_ | (refine ys ?_ ?_ <;> intro hb <;> ((try simp only [bn] at hb); first | subst hb | simp only [hb]))) | (apply ahops_o; rfl; simp only [hstep, avs, tts, seval] <;> exact rr; first | trivial | omega) | (refine ya rfl ?_; first | refine yp (c1) ?_ | refine yp (c2) ?_)) | refine ahops_nil ?_ | refine aw_seq ?_ | refine zr ttOk ?_ | refine zR 0 ttOk mixed ?_ | refine zR 1 ttOk mixed ?_ | refine zR 2 ttOk mixed ?_ | refine zR 3 ttOk mixed ?_ | refine zf rfl rfl ?_ | refine zt rfl rfl ?_ | (refine aw_cond rfl rfl ?_ ?_ <;> intro hb <;> ((try simp only [bn] at hb); first | subst hb | simp only [hb])) | refine aw_skip ?_ | refine aw_exit ?_ | refine aw_block ?_)
  refine aw_nils 4 10 rfl (by simp only [l_set0, l_setS] <;> rfl) ?_
  exact aw_ret ⟨_, rfl, _, rfl, rfl⟩
 | true =>
 have c5 := c5 (hpct rfl rfl)
 cases cf with
 | true =>
  repeat' (first | (refine aops_cons ?_; first | (refine zg rfl ?_; first | refine grd_on ?_ | refine zo ?_ | (refine zs ?_ ?_ <;> intro hb <;> ((try simp only [bn] at hb); first | subst hb | simp only [hb]))) | (apply aops_o; rfl; simp only [estep, avs, tts, seval, gf] <;> exact rr) | (refine za rfl ?_; first | refine zp (c1) ?_ | refine zp (c2) ?_ | refine zp (c3) ?_)) | refine aops_nil ?_ | (refine ahops_cons ?_; first | (refine yg rfl ?_; first | refine hgrd_on ?_ | refine yo ?_ | (refine ys ?_ ?_ <;> intro hb <;> ((try simp only [bn] at hb); first | subst hb | simp only [hb]))) | (apply ahops_o; rfl; simp only [hstep, avs, tts, seval, gf] <;> exact rr; first | trivial | omega) | (refine ya rfl ?_; first | refine yp (c1) ?_ | refine yp (c2) ?_ | refine yp (c3) ?_)) | refine ahops_nil ?_ | refine aw_seq ?_ | refine zr ttOk ?_ | refine zR 0 ttOk mixed ?_ | refine zR 1 ttOk mixed ?_ | refine zR 2 ttOk mixed ?_ | refine zR 3 ttOk mixed ?_ | refine zf rfl rfl ?_ | refine zt rfl rfl ?_ | (refine aw_cond rfl rfl ?_ ?_ <;> intro hb <;> ((try simp only [bn] at hb); first | subst hb | simp only [hb])) | refine aw_skip ?_ | refine aw_exit ?_ | refine aw_block ?_)
  refine aw_nils 4 10 rfl (by simp only [l_set0, l_setS] <;> rfl) ?_
  exact aw_ret ⟨_, rfl, _, rfl, rfl⟩
 | false =>
 repeat refine aw_seq ?_
 refine zr ttOk ?_
 repeat (refine aops_cons ?_; first | (apply aops_o; rfl; simp only [estep, avs, tts, seval] <;> exact rr) | (refine zg rfl ?_; first | refine grd_on ?_ | refine zo ?_))
 refine aops_nil ?_
 repeat refine aw_seq ?_
 refine zr ttOk ?_
 repeat (refine aops_cons ?_; first | (apply aops_o; rfl; simp only [estep, avs, tts, seval] <;> exact rr) | (refine zg rfl ?_; first | refine grd_on ?_ | refine zo ?_))
 refine zP rfl (c1) ?_
 repeat (refine aops_cons ?_; first | (apply aops_o; rfl; simp only [estep, avs, tts, seval] <;> exact rr) | (refine zg rfl ?_; first | refine grd_on ?_ | refine zo ?_))
 refine zP rfl (c2) ?_
 repeat (refine aops_cons ?_; first | (apply aops_o; rfl; simp only [estep, avs, tts, seval] <;> exact rr) | (refine zg rfl ?_; first | refine grd_on ?_ | refine zo ?_))
 refine aops_nil ?_
 repeat refine aw_seq ?_
 refine aw_cond rfl rfl (fun hb => ?_) fun hb => ?_
 ·cases hb
 refine aw_skip ?_
 repeat refine aw_seq ?_
 refine zr ttOk ?_
 repeat (refine aops_cons ?_; first | (apply aops_o; rfl; simp only [estep, avs, tts, seval] <;> exact rr) | (refine zg rfl ?_; first | refine grd_on ?_ | refine zo ?_))
 refine zP rfl (c3) ?_
 repeat (refine aops_cons ?_; first | (apply aops_o; rfl; simp only [estep, avs, tts, seval, gf] <;> exact rr) | (refine zg rfl ?_; first | refine grd_on ?_ | refine zo ?_))
 refine aops_nil ?_
 repeat refine aw_seq ?_
 refine aw_cond rfl rfl (fun hb => ?_) fun hb => ?_
 ·cases hb
 refine aw_skip ?_
 repeat refine aw_seq ?_
 have la3 : (L.map hdC).length = l.length + 1 := by rw [la2, hlen]
 have lI3 : (L.map hdI).length = l.length + 1 := by rw [hdI_len, hlen]
 have b1 : l.length + 1 ≤ 9223372036854775807 := by omega
 have b2 : (l.length + 1) * 136 ≤ 140737488355328 := by omega
 refine aw_midF (Q0 := fun env K => K = H ++ [.box 36 [.d (.v (.string id)), .d (.v (.string company)), .d (.v (.string holder)), .d (.v (.string nominee)), .d (.v (.string pledged)), .d (strsP joint), .d (.v (.int .i64 capital)), .d (.v (.int .i64 votes)), .d (.v (.int .i64 fr)), .d (.v (.int .i64 til))]] ∧ env = (.d (.sl 10 (l.map hdC)) :: .undef :: .undef :: .ptr H.length 0 :: .undef :: .undef :: .d (.sl 10 (L.map hdC)) :: List.replicate 33 .undef)) ?_ ?_
 ·refine aw_orders ttOk mixed (by kernel_rfl) (by kernel_rfl) (fun β env K => ∃ o : Bool, (β 1 = true → β 3 = false → o = true) ∧ (β 3 = true → β 1 = false → o = false) ∧ (β 4 = true → β 1 = true ∧ β 3 = true) ∧ (β 5 = true → β 4 = true) ∧ K = H ++ .box 36 [.d (.v (.string id)), .d (.v (.string company)), .d (.v (.string holder)), .d (.v (.string nominee)), .d (.v (.string pledged)), .d (strsP joint), .d (.v (.int .i64 capital)), .d (.v (.int .i64 votes)), .d (.v (.int .i64 fr)), .d (.v (.int .i64 til))] :: two o (β 1) (β 3) (.row 36 10 0 (if β 4 = true then L.map hdI else l.map hdI)) (.row 36 10 0 [[.d (.v (.string id)), .d (.v (.string company)), .d (.v (.string holder)), .d (.v (.string nominee)), .d (.v (.string pledged)), .d (strsP joint), .d (.v (.int .i64 capital)), .d (.v (.int .i64 votes)), .d (.v (.int .i64 fr)), .d (.v (.int .i64 til))]]) ∧ env = (.d (.sl 10 (l.map hdC)) :: .undef :: .undef :: .ptr H.length 0 :: .undef :: .undef :: (if β 5 = true then .ms (H.length + if o = true then 1 else 2) 0 (l.length + 1) else .undef) :: List.replicate 13 .undef ++ (if β 0 = true then .d (.sl 10 (l.map hdC)) else .undef) :: (if β 1 = true then .ms (H.length + if o = true then 1 else 2) 0 l.length else .undef) :: (if β 2 = true then .agg [.d (.v (.string id)), .d (.v (.string company)), .d (.v (.string holder)), .d (.v (.string nominee)), .d (.v (.string pledged)), .d (strsP joint), .d (.v (.int .i64 capital)), .d (.v (.int .i64 votes)), .d (.v (.int .i64 fr)), .d (.v (.int .i64 til))] else .undef) :: (if β 3 = true then .ms (H.length + if o = true then 2 else 1) 0 1 else .undef) :: (if β 4 = true then .ms (H.length + if o = true then 1 else 2) 0 (l.length + 1) else .undef) :: List.replicate 15 .undef)) (H0 := H ++ [.box 36 [.d (.v (.string id)), .d (.v (.string company)), .d (.v (.string holder)), .d (.v (.string nominee)), .d (.v (.string pledged)), .d (strsP joint), .d (.v (.int .i64 capital)), .d (.v (.int .i64 votes)), .d (.v (.int .i64 fr)), .d (.v (.int .i64 til))]]) (env0 := (.d (.sl 10 (l.map hdC)) :: .undef :: .undef :: .ptr H.length 0 :: List.replicate 36 .undef)) ⟨by simp [EnvLe, List.replicate], .inl (by simp only [strsP])⟩ ⟨true, by simp, by simp, by simp, by simp, by simp [two], by simp⟩ ?_ ?_
  ·rintro β env K ⟨o, h13, h31, h4, h5, rfl, rfl⟩ hN2 i op hget hβ hr
   simp only [rp]
   simp only [arr_list] at hget
   rcases i with _ | _ | _ | _ | _ | _ | i
   all_goals (try simp only [l_get0, l_getS, Option.some.injEq, List.getElem?_nil, reduceCtorEq] at hget)
   all_goals (try subst hget)
   all_goals (simp [ready1, Region.binds] at hr)
   all_goals try (simp only [Nat.zero_add, Nat.reduceAdd] at hβ)
   ·simp only [AGuard, AStep, ite_tt, ite_ft, avs, tts, Nat.reduceAdd, Nat.reduceSub, reduceCtorEq, hr]
    exact ⟨o, by simpa using h13, by simpa using h31, by simpa using h4, by simpa using h5, by simp, by simp⟩
   ·have h4' : β 4 = false := by cases h : β 4 with
     | false => rfl
     | true => rw [(h4 h).1] at hβ; cases hβ
    have h5' : β 5 = false := by cases h : β 5 with
     | false => rfl
     | true => rw [h5 h] at h4'; cases h4'
    simp only [AGuard, AStep, ite_tt, ite_ft, avs, tts, Nat.reduceAdd, Nat.reduceSub, reduceCtorEq, hr]
    refine ⟨_, cloneh_c base l (by omega), ?_⟩
    rintro r H' ⟨rfl, rfl⟩ _
    cases h3 : β 3 with
    | false => exact ⟨true, by simp, by simp [h3], by simp [h4'], by simp [h5'], by simp [two, h3, h4', hβ], by simp [h3, h4', h5', hβ, two]⟩
    | true => exact ⟨false, by simp [h3], by simp, by simp [h4'], by simp [h5'], by simp [two, h3, h4', hβ], by
      have := h31 h3 hβ
      subst this
      simp [h3, h4', h5', hβ, two]⟩
   ·simp only [AGuard, AStep, ite_tt, ite_ft, avs, tts, Nat.reduceAdd, Nat.reduceSub, reduceCtorEq, hr]
    exact ⟨o, by simpa using h13, by simpa using h31, by simpa using h4, by simpa using h5, by simp, by simp⟩
   ·have h4' : β 4 = false := by cases h : β 4 with
     | false => rfl
     | true => rw [(h4 h).2] at hβ; cases hβ
    have h5' : β 5 = false := by cases h : β 5 with
     | false => rfl
     | true => rw [h5 h] at h4'; cases h4'
    rcases Bool.eq_false_or_eq_true (β 1) with h1 | h1
    rotate_left
    ·
     simp only [AGuard, AStep, ite_tt, ite_ft, avs, tts, Nat.reduceAdd, Nat.reduceSub, reduceCtorEq, hr, hβ, h1, h4', two]
     exact ⟨false, by simp [h1], by simp, by simp [h4'], by simp [h5'], by simp [two, h1, h4', hβ], by simp [h1, h4', h5', hβ]⟩
    ·
     have := h13 h1 hβ
     subst this
     simp only [AGuard, AStep, ite_tt, ite_ft, avs, tts, Nat.reduceAdd, Nat.reduceSub, reduceCtorEq, hr, hβ, h1, h4', two]
     exact ⟨true, by simp, by simp [h1], by simp [h4'], by simp [h5'], by simp [two, h1, h4', hβ], by simp [h1, h4', h5', hβ]⟩
   ·cases o with
    | true =>
     simp only [AGuard, AStep, ite_tt, ite_ft, avs, tts, Nat.reduceAdd, Nat.reduceSub, reduceCtorEq, hr, hβ, two, hlI, b1, b2, hrow]
     exact ⟨true, by simp, by simp [hr], by simp [hr], by simp, by simp [two, hr], by simp [hr]⟩
    | false =>
     simp only [AGuard, AStep, ite_tt, ite_ft, avs, tts, Nat.reduceAdd, Nat.reduceSub, reduceCtorEq, hr, hβ, two, hlI, b1, b2, hrow]
     exact ⟨false, by simp [hr], by simp, by simp [hr], by simp, by simp [two, hr], by simp [hr]⟩
   ·simp only [AGuard, AStep, ite_tt, ite_ft, avs, tts, Nat.reduceAdd, Nat.reduceSub, reduceCtorEq, hr]
    exact ⟨o, by first | simp | simpa using h13, by first | simp | simpa using h31, by first | simp | simpa using h4, by simp [hr], by simp, by simp [hr]⟩
  ·rintro β env K ⟨o, h13, h31, h4, h5, rfl, rfl⟩ hall
   simp only [List.replicate, List.cons_append, List.nil_append, hall 0 (by decide), hall 1 (by decide), hall 2 (by decide), hall 3 (by decide), hall 4 (by decide), hall 5 (by decide), ite_tt, two]
   cases o with
   | true => exact ⟨by first | trivial | rfl, _, _, _, _, .inl ⟨H.length + 1, (by simp only [avs, tts, Nat.reduceAdd, Nat.reduceMul, Nat.reduceSub, Nat.reduceEqDiff, Nat.reduceLT, Nat.reduceLeDiff, Int.reduceToNat, Int.reduceLE, Int.reduceLT, Int.toNat_natCast, reduceCtorEq, frzL, frzA, frzO, unI_dI, dI_len, unI, unL, Nat.add_eq_left, Nat.left_eq_add, Nat.one_ne_zero, hun, lI3] <;> rfl), (by simp only [avs, tts, Nat.reduceAdd, Nat.reduceMul, Nat.reduceSub, Nat.reduceEqDiff, Nat.reduceLT, Nat.reduceLeDiff, Int.reduceToNat, Int.reduceLE, Int.reduceLT, Int.toNat_natCast, reduceCtorEq, frzL, frzA, frzO, unI_dI, dI_len, unI, unL, Nat.add_eq_left, Nat.left_eq_add, Nat.one_ne_zero] <;> rfl)⟩, ⟨by simp [EnvLe, List.replicate], .inr ⟨by simp, by simp [belL, AV.bel, List.replicate], .more hB (.cons (by simp [AObj.bel, belL, AV.bel, strsP]) .nil), _, by simp only [List.append_assoc, List.cons_append, List.nil_append]; rfl⟩⟩, rfl, rfl⟩
   | false => exact ⟨by first | trivial | rfl, _, _, _, _, .inl ⟨H.length + 2, (by simp only [avs, tts, Nat.reduceAdd, Nat.reduceMul, Nat.reduceSub, Nat.reduceEqDiff, Nat.reduceLT, Nat.reduceLeDiff, Int.reduceToNat, Int.reduceLE, Int.reduceLT, Int.toNat_natCast, reduceCtorEq, frzL, frzA, frzO, unI_dI, dI_len, unI, unL, Nat.add_eq_left, Nat.left_eq_add, Nat.one_ne_zero, hun, lI3] <;> rfl), (by simp only [avs, tts, Nat.reduceAdd, Nat.reduceMul, Nat.reduceSub, Nat.reduceEqDiff, Nat.reduceLT, Nat.reduceLeDiff, Int.reduceToNat, Int.reduceLE, Int.reduceLT, Int.toNat_natCast, reduceCtorEq, frzL, frzA, frzO, unI_dI, dI_len, unI, unL, Nat.add_eq_left, Nat.left_eq_add, Nat.one_ne_zero] <;> rfl)⟩, ⟨by simp [EnvLe, List.replicate], .inr ⟨by simp, by simp [belL, AV.bel, List.replicate], .more hB (.cons (by simp [AObj.bel, belL, AV.bel, strsP]) .nil), _, by simp only [List.append_assoc, List.cons_append, List.nil_append]; rfl⟩⟩, rfl, rfl⟩
 rintro env0 K0 ⟨rfl, rfl⟩
 simp only [rp]
 repeat' (first | (refine aops_cons ?_; first | (refine zg rfl ?_; first | refine grd_on ?_ | refine zo ?_ | (refine zs ?_ ?_ <;> intro hb <;> ((try simp only [bn] at hb); first | subst hb | simp only [hb]))) | (apply aops_o; rfl; simp only [estep, avs, tts, seval, la3, gp2, gl2, psl] <;> exact rr) | (refine za rfl ?_; first | refine zp (c4) ?_ | refine zp (c5) ?_)) | refine aops_nil ?_ | (refine ahops_cons ?_; first | (refine yg rfl ?_; first | refine hgrd_on ?_ | refine yo ?_ | (refine ys ?_ ?_ <;> intro hb <;> ((try simp only [bn] at hb); first | subst hb | simp only [hb]))) | (apply ahops_o; rfl; simp only [hstep, avs, tts, seval, la3, gp2, gl2, psl] <;> exact rr; first | trivial | omega) | (refine ya rfl ?_; first | refine yp (c4) ?_ | refine yp (c5) ?_)) | refine ahops_nil ?_ | refine aw_seq ?_ | refine zr ttOk ?_ | refine zR 0 ttOk mixed ?_ | refine zR 1 ttOk mixed ?_ | refine zR 2 ttOk mixed ?_ | refine zR 3 ttOk mixed ?_ | refine zf rfl rfl ?_ | refine zt rfl rfl ?_ | (refine aw_cond rfl rfl ?_ ?_ <;> intro hb <;> ((try simp only [bn] at hb); first | subst hb | simp only [hb])) | refine aw_skip ?_ | refine aw_exit ?_ | refine aw_block ?_)
 all_goals first
  | (show AW _ _ _ _ _; refine aw_nils 4 10 rfl (by simp only [l_set0, l_setS] <;> rfl) ?_; refine aw_ret ⟨_, rfl, _, rfl, ?_⟩; rfl)
  | (show AW _ _ _ _ _; refine aw_ret ⟨_, rfl, _, rfl, ?_⟩; rfl)
end
end Av
end Go.Proofs.YtdekcppfpgeneaaGreatDoor
set_option linter.unusedVariables false
set_option linter.unusedSimpArgs false
namespace Go.Proofs.YtdekcppfpgeneaaGreatDoor
namespace Nt

/-! Lowest terms: plain. -/
theorem low_cross {n d n' d' : Nat} (hd : 0 < d) (hd' : 0 < d') (h : n * d' = n' * d) : n / Nat.gcd n d = n' / Nat.gcd n' d' ∧ d / Nat.gcd n d = d' / Nat.gcd n' d' := by
 have hg : 0 < Nat.gcd n d := Nat.gcd_pos_of_pos_right _ hd
 have hg' : 0 < Nat.gcd n' d' := Nat.gcd_pos_of_pos_right _ hd'
 have c1 := Nat.coprime_div_gcd_div_gcd hg
 have c2 := Nat.coprime_div_gcd_div_gcd hg'
 obtain ⟨a, ha⟩ := Nat.gcd_dvd_left n d
 obtain ⟨b, hb⟩ := Nat.gcd_dvd_right n d
 obtain ⟨a', ha'⟩ := Nat.gcd_dvd_left n' d'
 obtain ⟨b', hb'⟩ := Nat.gcd_dvd_right n' d'
 generalize Nat.gcd n d = g at *
 generalize Nat.gcd n' d' = g' at *
 subst ha hb ha' hb'
 rw [Nat.mul_div_cancel_left _ hg, Nat.mul_div_cancel_left _ hg] at *
 rw [Nat.mul_div_cancel_left _ hg', Nat.mul_div_cancel_left _ hg'] at *
 have e : a * b' = a' * b := by
  have : (g * g') * (a * b') = (g * g') * (a' * b) := by
   calc (g * g') * (a * b') = (g * a) * (g' * b') := by simp only [Nat.mul_left_comm, Nat.mul_comm, Nat.mul_assoc]
    _ = (g' * a') * (g * b) := h
    _ = (g * g') * (a' * b) := by simp only [Nat.mul_left_comm, Nat.mul_comm, Nat.mul_assoc]
  exact Nat.eq_of_mul_eq_mul_left (Nat.mul_pos hg hg') this
 have d1 : b ∣ b' := c1.symm.dvd_of_dvd_mul_left ⟨a', by rw [e, Nat.mul_comm]⟩
 have d2 : b' ∣ b := c2.symm.dvd_of_dvd_mul_left ⟨a, by rw [← e, Nat.mul_comm]⟩
 have eb := Nat.dvd_antisymm d1 d2
 subst eb
 have hb0 : 0 < b := by rcases Nat.eq_zero_or_pos b with h | h; subst h; simp at hd; exact h
 exact ⟨Nat.eq_of_mul_eq_mul_right hb0 e, rfl⟩
theorem low_pos {n d : Nat} (hd : 0 < d) : 0 < d / Nat.gcd n d := Nat.div_pos (Nat.le_of_dvd hd (Nat.gcd_dvd_right n d)) (Nat.gcd_pos_of_pos_right _ hd)
theorem low_back {n d : Nat} : n / Nat.gcd n d * d = n * (d / Nat.gcd n d) := by
 rcases Nat.eq_zero_or_pos (Nat.gcd n d) with h | h
 ·rw [h]; simp [Nat.eq_zero_of_gcd_eq_zero_left h, Nat.eq_zero_of_gcd_eq_zero_right h]
 ·obtain ⟨a, ha⟩ := Nat.gcd_dvd_left n d
  obtain ⟨b, hb⟩ := Nat.gcd_dvd_right n d
  generalize Nat.gcd n d = g at *
  subst ha hb
  rw [Nat.mul_div_cancel_left _ h, Nat.mul_div_cancel_left _ h]
  simp only [Nat.mul_left_comm, Nat.mul_comm, Nat.mul_assoc]
theorem low_cop {n d : Nat} (hd : 0 < d) : Nat.gcd (n / Nat.gcd n d) (d / Nat.gcd n d) = 1 := (Nat.coprime_div_gcd_div_gcd (Nat.gcd_pos_of_pos_right _ hd)).gcd_eq_one
/-- units of a part -/
theorem low_units {n N : Nat} (hN : 0 < N) : N % (N / Nat.gcd n N) = 0 ∧ n / Nat.gcd n N * (N / (N / Nat.gcd n N)) = n := by
 have hg : 0 < Nat.gcd n N := Nat.gcd_pos_of_pos_right _ hN
 obtain ⟨a, ha⟩ := Nat.gcd_dvd_left n N
 obtain ⟨b, hb⟩ := Nat.gcd_dvd_right n N
 generalize Nat.gcd n N = g at *
 subst ha hb
 have hb0 : 0 < b := by rcases Nat.eq_zero_or_pos b with h | h; subst h; simp at hN; exact h
 rw [Nat.mul_div_cancel_left _ hg, Nat.mul_div_cancel_left _ hg, Nat.mul_div_cancel _ hb0, Nat.mul_mod_left]
 exact ⟨rfl, Nat.mul_comm _ _⟩
end Nt
end Go.Proofs.YtdekcppfpgeneaaGreatDoor
set_option linter.unusedVariables false
set_option linter.unusedSimpArgs false
namespace Go.Proofs.YtdekcppfpgeneaaGreatDoor
open Go Go.RowKit
namespace Rg
open Av Nt
/-! The units of a part. -/
theorem decFrom_val : ∀ (l : List UInt8) (acc : Nat), l.all digitB = true → Lib.decFrom acc l = some (acc * 10 ^ l.length + decVal l)
 | [], acc, _ => by simp [Lib.decFrom, decVal]
 | c :: r, acc, h => by
  rw [List.all_cons, Bool.and_eq_true] at h
  have hd : Lib.digitVal c = some (c.toNat - 48) := by
   have := h.1
   unfold digitB at this
   simp only [Bool.and_eq_true, decide_eq_true_eq] at this
   unfold Lib.digitVal
   rw [if_pos this]
  rw [Lib.decFrom, hd]
  simp only
  rw [decFrom_val r _ h.2]
  have e : decVal (c :: r) = (c.toNat - 48) * 10 ^ r.length + decVal r := by
   have := decVal_append [c] r
   simp only [List.singleton_append] at this
   rw [this]
   simp [decVal]
  rw [e, List.length_cons, Nat.pow_succ, Nat.add_mul]
  congr 1
  rw [Nat.mul_comm (10 ^ r.length) 10, ← Nat.mul_assoc, Nat.add_assoc]
theorem atoi_val {t : ByteArray} (h : IsNat t) : Lib.atoi t.data.toList = some (valS t : Int) := by
 have hd := h.digits
 have hp := h.pos
 rw [Lib.size_eq] at hp
 unfold valS
 cases hl : t.data.toList with
 | nil => rw [hl] at hp; simp at hp
 | cons c r =>
  rw [hl] at hd
  have hc : digitB c = true := by rw [List.all_cons, Bool.and_eq_true] at hd; exact hd.1
  unfold digitB at hc
  simp only [Bool.and_eq_true, decide_eq_true_eq] at hc
  have h1 : (c == 45) = false := by
   rw [beq_eq_false_iff_ne]; rintro rfl; revert hc; decide
  have h2 : (c == 43) = false := by
   rw [beq_eq_false_iff_ne]; rintro rfl; revert hc; decide
  rw [Lib.atoi, h1, h2]
  simp only [Bool.false_eq_true, if_false, Lib.decNat, List.isEmpty_cons]
  rw [decFrom_val _ _ hd]
  simp
def unitsR (r : Rt) : Int := if (validR r && (!r.neg && (decide (r.num.size ≤ 4) && decide (r.den.size ≤ 4)))) = true then (if valS r.num ≤ valS r.den ∧ 6000 % valS r.den = 0 then ((valS r.num * (6000 / valS r.den) : Nat) : Int) else 0) else 0
theorem valid_nat {r : Rt} (h : validR r = true) : IsNat r.num ∧ IsNat r.den ∧ valS r.den ≠ 0 := by
 unfold validR at h
 split at h
 ·rename_i ho
  unfold okN at ho
  rw [Bool.and_eq_true] at ho
  refine ⟨isN_ok ho.1, isN_ok ho.2, fun e => ?_⟩
  rw [if_pos e] at h; cases h
 ·cases h
theorem val_4 {t : ByteArray} (h : IsNat t) (hs : t.size ≤ 4) : valS t < 10000 := by
 have := decVal_lt h.digits
 refine Nat.lt_of_lt_of_le this (Nat.le_trans (Nat.pow_le_pow_right (by decide) (by rw [← Lib.size_eq]; exact hs)) (by decide))
theorem units_bd (r : Rt) : 0 ≤ unitsR r ∧ unitsR r ≤ 6000 := by
 unfold unitsR
 split
 ·split
  ·rename_i h1 h2
   have h := Nat.mul_le_mul_right (6000 / valS r.den) h2.1
   have h3 : valS r.den * (6000 / valS r.den) ≤ 6000 := Nat.mul_div_le _ _
   omega
  ·omega
 ·omega
end Rg
namespace Av
attribute [local irreducible] AW AOps AHOps
open Nt Rg
section
variable (base : World)
theorem atoi_a (t : ByteArray) (h : IsNat t) (hs : t.size ≤ 4) : PureA Tryz.prog base 70 [tA t] (.tup [iA (valS t), .d (.v .nilIface)]) :=
 pure_of_rep Tryz.call70 fun s vs hs' ha => by
  rw [args1 ha]
  refine (Tryz.strconv_Atoi t (valS t) (by omega) (atoi_val h) s.w).mono ?_
  rintro e w' ⟨rfl, tt0, rfl⟩
  have hv := val_4 h hs
  refine ⟨_, rfl, Lib.bytesWorld_below _ _ _, fun s' _ _ => ?_⟩
  simp only [Rep]
  refine ⟨_, rfl, .cons ?_ (.cons ?_ .nil)⟩
  ·simp only [iA, Rep, PRep, true_and, small, IntKind.min, IntKind.max, IntKind.signed, IntKind.bits]
   (try simp)
   omega
  ·simp only [Rep, PRep, true_and, small]
set_option maxRecDepth 100000 in
set_option maxHeartbeats 4000000 in
theorem units_a {base : World} (hT : Tabs base) (r : Rt) (h1 : r.num.size ≤ 9223372036854775807) (h2 : r.den.size ≤ 9223372036854775807) : PureA Tryz.prog base 41 [ratA r] (iA (unitsR r)) := by
 have cv := valid_a hT r h1 h2
 refine pure_enter ttOk Tryz.call41 Tryz.func41 rfl fun H hB hb hF => ?_
 rw [Tryz.results41, Tryz.ntmps41]
 simp only [arr_list, List.length_cons, List.length_nil, List.replicate, List.cons_append, List.nil_append, Nat.reduceAdd, Nat.reduceSub]
 clear hF hb
 obtain ⟨neg, num, den⟩ := r
 have hvn := valid_nat (r := ⟨neg, num, den⟩)
 simp only at h1 h2 hvn
 unfold unitsR
 simp only [ratA, tA, iA] at cv ⊢
 obtain ⟨bv, hbv⟩ : ∃ b, validR ⟨neg, num, den⟩ = b := ⟨_, rfl⟩
 rw [hbv] at cv hvn ⊢
 obtain ⟨b1, e1⟩ : ∃ d, decide (num.size ≤ 4) = d := ⟨_, rfl⟩
 obtain ⟨b2, e2⟩ : ∃ d, decide (den.size ≤ 4) = d := ⟨_, rfl⟩
 have f1 : decide ((num.size : Int) > 4) = !b1 := by
  subst e1; by_cases h : num.size ≤ 4
  ·rw [decide_eq_true h, decide_eq_false (by omega)]; rfl
  ·rw [decide_eq_false h, decide_eq_true (by omega)]; rfl
 have f2 : decide ((den.size : Int) > 4) = !b2 := by
  subst e2; by_cases h : den.size ≤ 4
  ·rw [decide_eq_true h, decide_eq_false (by omega)]; rfl
  ·rw [decide_eq_false h, decide_eq_true (by omega)]; rfl
 rw [e1, e2]
 by_cases hg : (bv && (!neg && (b1 && b2))) = true
 ·rw [if_pos hg]
  simp only [Bool.and_eq_true, Bool.not_eq_true'] at hg
  obtain ⟨rfl, rfl, rfl, rfl⟩ := hg
  obtain ⟨hn, hd, h0⟩ := hvn rfl
  have s1 := of_decide_eq_true e1
  have s2 := of_decide_eq_true e2
  have c1 := atoi_a base num hn s1
  have c2 := atoi_a base den hd s2
  have v1 := val_4 hn s1
  have v2 := val_4 hd s2
  simp only [tA, iA] at c1 c2
  generalize valS num = n at *
  generalize valS den = d at *
  have z1 : ((d : Int) = 0) = False := eq_false (by omega)
  obtain ⟨q, hq⟩ : ∃ q, 6000 / d = q := ⟨_, rfl⟩
  obtain ⟨m, hm⟩ : ∃ m, 6000 % d = m := ⟨_, rfl⟩
  have q1 : q ≤ 6000 := hq ▸ Nat.div_le_self _ _
  have q2 : d * q ≤ 6000 := hq ▸ Nat.mul_div_le _ _
  have m1 : m ≤ 6000 := hm ▸ Nat.mod_le _ _
  have z2 : (6000 : Int).tmod (d : Int) = (m : Int) := by rw [← hm]; rfl
  have z3 : (6000 : Int).tdiv (d : Int) = (q : Int) := by rw [← hq]; rfl
  have z4 : IntKind.i64.wrap (q : Int) = (q : Int) := by rw [IntKind.wrap_i64]; omega
  have z5 : IntKind.i64.wrap (m : Int) = (m : Int) := by rw [IntKind.wrap_i64]; omega
  rw [hq, hm]
  obtain ⟨d1, g1⟩ : ∃ c, decide ((n : Int) > (d : Int)) = c := ⟨_, rfl⟩
  obtain ⟨d2, g2⟩ : ∃ c, decide ((m : Int) = 0) = c := ⟨_, rfl⟩
  have z6 : d1 = false → IntKind.i64.wrap ((n : Int) * (q : Int)) = ((n * q : Nat) : Int) := fun hd1 => by
   have h1 : n ≤ d := by subst hd1; have := of_decide_eq_false g1; omega
   have h2 := Nat.mul_le_mul_right q h1
   rw [← Int.natCast_mul, IntKind.wrap_i64]
   generalize n * q = nq at *
   omega
  have hif : (n ≤ d ∧ m = 0) = (d1 = false ∧ d2 = true) := by
   subst g1 g2
   simp only [decide_eq_false_iff_not, decide_eq_true_eq]
   exact propext ⟨fun h => ⟨by omega, by omega⟩, fun h => ⟨by omega, by omega⟩⟩
  simp only [hif]
  repeat' (first | (refine aops_cons ?_; first | (refine zg rfl ?_; first | refine grd_on ?_ | refine zo ?_ | (refine zs ?_ ?_ <;> intro hb <;> ((try simp only [bn] at hb); first | subst hb | simp only [hb]))) | (apply aops_o; rfl; simp only [estep, avs, tts, seval, f1, f2, z1, z2, z3, z4, z5, g1, g2, Bool.not_true, Bool.not_false] <;> exact rr) | (refine za rfl ?_; first | refine zp (cv) ?_ | refine zp (c1) ?_ | refine zp (c2) ?_)) | refine aops_nil ?_ | (refine ahops_cons ?_; first | (refine yg rfl ?_; first | refine hgrd_on ?_ | refine yo ?_ | (refine ys ?_ ?_ <;> intro hb <;> ((try simp only [bn] at hb); first | subst hb | simp only [hb]))) | (apply ahops_o; rfl; simp only [hstep, avs, tts, seval, f1, f2, z1, z2, z3, z4, z5, g1, g2, Bool.not_true, Bool.not_false] <;> exact rr; first | trivial | omega) | (refine ya rfl ?_; first | refine yp (cv) ?_ | refine yp (c1) ?_ | refine yp (c2) ?_)) | refine ahops_nil ?_ | refine aw_seq ?_ | refine zr ttOk ?_ | refine zR 0 ttOk mixed ?_ | refine zR 1 ttOk mixed ?_ | refine zR 2 ttOk mixed ?_ | refine zR 3 ttOk mixed ?_ | refine zf rfl rfl ?_ | refine zt rfl rfl ?_ | (refine aw_cond rfl rfl ?_ ?_ <;> intro hb <;> ((try simp only [bn] at hb); first | subst hb | simp only [hb])) | refine aw_skip ?_ | refine aw_exit ?_ | refine aw_block ?_)
  all_goals (simp only [Bool.false_eq_true, and_true, and_false, false_and, true_and, if_true, if_false, reduceCtorEq])
  all_goals first
   | (show AW _ _ _ _ _; exact aw_ret ⟨_, rfl, _, rfl, rfl⟩)
   | (rw [z6 rfl]; show AW _ _ _ _ _; exact aw_ret ⟨_, rfl, _, rfl, rfl⟩)
 ·rw [if_neg hg]
  clear hbv e1 e2 hvn
  have hg' : (bv && (!neg && (b1 && b2))) = false := by simpa using hg
  clear hg
  repeat' (first | (refine aops_cons ?_; first | (refine zg rfl ?_; first | refine grd_on ?_ | refine zo ?_ | (refine zs ?_ ?_ <;> intro hb <;> ((try simp only [bn] at hb); first | subst hb | simp only [hb]))) | (apply aops_o; rfl; simp only [estep, avs, tts, seval, f1, f2, Bool.not_true, Bool.not_false] <;> exact rr) | (refine za rfl ?_; refine zp (cv) ?_)) | refine aops_nil ?_ | (refine ahops_cons ?_; first | (refine yg rfl ?_; first | refine hgrd_on ?_ | refine yo ?_ | (refine ys ?_ ?_ <;> intro hb <;> ((try simp only [bn] at hb); first | subst hb | simp only [hb]))) | (apply ahops_o; rfl; simp only [hstep, avs, tts, seval, f1, f2, Bool.not_true, Bool.not_false] <;> exact rr; first | trivial | omega) | (refine ya rfl ?_; refine yp (cv) ?_)) | refine ahops_nil ?_ | refine aw_seq ?_ | refine zr ttOk ?_ | refine zR 0 ttOk mixed ?_ | refine zR 1 ttOk mixed ?_ | refine zR 2 ttOk mixed ?_ | refine zR 3 ttOk mixed ?_ | refine zf rfl rfl ?_ | refine zt rfl rfl ?_ | (refine aw_cond rfl rfl ?_ ?_ <;> intro hb <;> ((try simp only [bn] at hb); first | subst hb | simp only [hb])) | refine aw_skip ?_ | refine aw_exit ?_ | refine aw_block ?_)
  all_goals first
   | (exfalso; revert hg'; decide)
   | (show AW _ _ _ _ _; exact aw_ret ⟨_, rfl, _, rfl, rfl⟩)
end
end Av
end Go.Proofs.YtdekcppfpgeneaaGreatDoor
set_option linter.unusedVariables false
set_option linter.unusedSimpArgs false
namespace Go.Proofs.YtdekcppfpgeneaaGreatDoor
open Go Go.RowKit
namespace Rg
open Av Nt
/-! Well-formed links: plain. -/
def riseB (p : Int × Int) (c h : Int) : Bool := decide (c > p.1) || (decide (c = p.1) && decide (h > p.2))
def lastK (l : List Lk) : Int × Int := match l.getLast? with
 | none => (-1, -1)
 | some x => (x.company, x.holder)
def totU (l : List Lk) (c : Int) : Int := sumF (fun x => decide (x.company = c)) (fun x => unitsR x.part) l
def bad1 (n : Int) (pre : List Lk) (x : Lk) : Bool := decide (x.company < 0) || (decide (x.company ≥ n) || (decide (x.holder < 0) || (decide (x.holder ≥ n) || (decide (x.company = x.holder) || (!riseB (lastK pre) x.company x.holder || (decide (unitsR x.part = 0) || decide (totU (pre ++ [x]) x.company > 6000)))))))
def goodF (n : Int) : List Lk → List Lk → Bool
 | _, [] => true
 | pre, x :: r => !bad1 n pre x && goodF n (pre ++ [x]) r
def goodB (n : Int) (l : List Lk) : Bool := goodF n [] l
theorem goodF_at {n : Int} : ∀ {l pre : List Lk}, goodF n pre l = true ↔ ∀ k (h : k < l.length), bad1 n (pre ++ l.take k) l[k] = false
 | [], pre => by simp [goodF]
 | x :: r, pre => by
  rw [goodF, Bool.and_eq_true, goodF_at]
  constructor
  ·rintro ⟨h1, h2⟩ k hk
   cases k with
   | zero => simpa using h1
   | succ k => have := h2 k (by simpa using hk); simpa using this
  ·intro h
   refine ⟨by have := h 0 (by simp); simpa using this, fun k hk => ?_⟩
   have := h (k + 1) (by simpa using hk)
   simpa using this
theorem goodB_at {n : Int} {l : List Lk} : goodB n l = true ↔ ∀ k (h : k < l.length), bad1 n (l.take k) l[k] = false := by
 unfold goodB; rw [goodF_at]; simp
theorem goodB_no {n : Int} {l : List Lk} {k : Nat} (h : k < l.length) (hb : bad1 n (l.take k) l[k] = true) : goodB n l = false := by
 cases hg : goodB n l with
 | false => rfl
 | true => rw [goodB_at.1 hg k h] at hb; cases hb
theorem totU_snoc (l : List Lk) (x : Lk) (c : Int) : totU (l ++ [x]) c = totU l c + (if x.company = c then unitsR x.part else 0) := by
 unfold totU
 rw [sumF_snoc]
 simp only [decide_eq_true_eq]
theorem totU_nonneg (l : List Lk) (c : Int) : 0 ≤ totU l c := sumF_nonneg fun x _ _ => (units_bd x.part).1
theorem lastK_take {l : List Lk} {k : Nat} (h : k < l.length) : lastK (l.take (k + 1)) = (l[k].company, l[k].holder) := by
 have e : l.take (k + 1) = l.take k ++ [l[k]] := by rw [List.take_add_one, List.getElem?_eq_getElem h]; rfl
 rw [e]
 unfold lastK
 rw [List.getLast?_concat]
def encI (i : Int) : Value := .int .i64 i
theorem keq_I (a b : Int) : keyEq (encI a) (encI b) = decide (a = b) := by
 show keyEq (.int .i64 a) (.int .i64 b) = _
 simp [keyEq, eqV]
def totV (l : List Lk) (c : Int) : AV := .d (.v (.int .i64 (totU l c)))
def totE (l : List Lk) : List (Value × AV) := mpE encI (kfold (l.map Lk.company)) (totV l)
theorem totU_out {l : List Lk} {c : Int} (h : ¬ c ∈ kfold (l.map Lk.company)) : totU l c = 0 := by
 unfold totU
 refine Classical.byContradiction fun hn => ?_
 obtain ⟨x, hx, he⟩ := sumF_pos_mem hn
 exact h (mem_kfold.2 (List.mem_map.2 ⟨x, hx, of_decide_eq_true he⟩))
theorem totE_get (l : List Lk) (c : Int) : (mget (totE l) (.int .i64 c)).getD (.d (.v (.int .i64 0))) = .d (.v (.int .i64 (totU l c))) :=
 mgetD_eq keq_I (f := totV l) (k := c) fun h => by unfold totV; rw [totU_out h]
theorem totE_set (l : List Lk) (x : Lk) : mset (totE l) (.int .i64 x.company) (.d (.v (.int .i64 (totU (l ++ [x]) x.company)))) = totE (l ++ [x]) := by
 have := mset_mpE keq_I (kfold_nodup (l.map Lk.company)) (totV l) x.company (.d (.v (.int .i64 (totU (l ++ [x]) x.company))))
 unfold totE
 rw [show (Value.int .i64 x.company) = encI x.company from rfl, this, List.map_append, List.map_cons, List.map_nil, kfold_snoc]
 congr 1
 funext c
 unfold updF totV
 by_cases h : c = x.company
 ·subst h; rw [if_pos rfl]
 ·rw [if_neg h, totU_snoc, if_neg (fun e => h e.symm), Int.add_zero]
theorem totE_len (l : List Lk) : (totE l).length ≤ l.length := by
 unfold totE
 rw [mpE_len]
 refine Nat.le_trans (kfold_len _) ?_
 simp
theorem bel_totE {n : Nat} {kt et : Nat} {ks : KS} (l : List Lk) : (AObj.mp kt et ks (totE l)).bel n := by
 show belM n (totE l)
 unfold totE mpE
 induction kfold (l.map Lk.company) with
 | nil => exact trivial
 | cons a r ih => exact ⟨trivial, ih⟩
end Rg
namespace Av
attribute [local irreducible] AW AOps AHOps
open Nt Rg
section
variable {base : World} (hT : Tabs base)
include hT
set_option maxRecDepth 100000 in
set_option maxHeartbeats 16000000 in
theorem good_a {H : AHeap} {ln : Nat} (l : List Lk) (n : Int) (hn : H[ln]? = some (.box 3 [iA n])) (hl : l.length ≤ 1000000000) (hsz : ∀ x ∈ l, x.part.num.size ≤ 9223372036854775807 ∧ x.part.den.size ≤ 9223372036854775807) :
  ReadA Tryz.prog base 40 [.d (lklP l), .ptr ln 0] H (boA (goodB n l)) := by
 refine read_enter ttOk Tryz.call40 Tryz.func40 rfl fun hB hb hF => ?_
 rw [Tryz.results40, Tryz.ntmps40]
 simp only [arr_list, List.length_cons, List.length_nil, List.replicate, List.cons_append, List.nil_append, Nat.reduceAdd, Nat.reduceSub]
 clear hF hb
 have la : (l.map lkP).length = l.length := by simp
 have hnl := lt_of_get hn
 have ksh : ∀ i, keyShape (.one (.int .i64)) (.int .i64 i) = true := fun _ => rfl
 have ms0 : totE (l.take 0) = [] := rfl
 simp only [lklP]
 obtain ⟨P, hP⟩ : ∃ P, goodB n l = P := ⟨_, rfl⟩
 rw [hP]
 repeat' (first | (refine aops_cons ?_; first | (refine zg rfl ?_; first | refine grd_on ?_ | refine zo ?_ | (refine zs ?_ ?_ <;> intro hb <;> ((try simp only [bn] at hb); first | subst hb | simp only [hb]))) | (apply aops_o; rfl; simp only [estep, avs, tts, seval, la] <;> exact rr)) | refine aops_nil ?_ | (refine ahops_cons ?_; first | (refine yg rfl ?_; first | refine hgrd_on ?_ | refine yo ?_ | (refine ys ?_ ?_ <;> intro hb <;> ((try simp only [bn] at hb); first | subst hb | simp only [hb]))) | (apply ahops_o; rfl; simp only [hstep, avs, tts, seval, la] <;> exact rr; first | trivial | omega)) | refine ahops_nil ?_ | refine aw_seq ?_ | refine zr ttOk ?_ | refine zR 0 ttOk mixed ?_ | refine zR 1 ttOk mixed ?_ | refine zR 2 ttOk mixed ?_ | refine zR 3 ttOk mixed ?_ | refine zf rfl rfl ?_ | refine zt rfl rfl ?_ | (refine aw_cond rfl rfl ?_ ?_ <;> intro hb <;> ((try simp only [bn] at hb); first | subst hb | simp only [hb])) | refine aw_skip ?_ | refine aw_exit ?_ | refine aw_block ?_)
 refine aw_loop (H0 := H ++ [.mp 3 3 (.one (.int .i64)) (totE (l.take 0)), .box 63 [.d (.v (.int .i64 (-1))), .d (.v (.int .i64 (-1)))]]) (fun r env K => ∃ k, r = l.length - k ∧ k ≤ l.length ∧ (∀ i (hi : i < l.length), i < k → bad1 n (l.take i) l[i] = false) ∧ (∀ c, totU (l.take k) c ≤ 6000) ∧ K = H ++ [.mp 3 3 (.one (.int .i64)) (totE (l.take k)), .box 63 [.d (.v (.int .i64 (lastK (l.take k)).1)), .d (.v (.int .i64 (lastK (l.take k)).2))]] ∧ env = (.d (.sl 5 (l.map lkP)) :: .ptr ln 0 :: .undef :: .undef :: .mp H.length :: .ptr (H.length + 1) 0 :: List.replicate 7 .undef ++ .d (.sl 5 (l.map lkP)) :: .d (.v (.int .i64 (l.length : Int))) :: .d (.v (.int .i64 (k : Int))) :: List.replicate 80 .undef)) ?_ ⟨0, rfl, Nat.zero_le _, fun i _ h => by omega, fun c => by simp [totU, sumF], rfl, rfl⟩ ?_
 ·exact ⟨by simp [EnvLe, List.replicate], .inl rfl⟩
 rintro r env K ⟨k, rfl, hk, hok, htot, rfl, rfl⟩ hN
 simp only [rp]
 obtain ⟨c1, g1⟩ : ∃ c1, decide ((k : Int) < (l.length : Int)) = c1 := ⟨_, rfl⟩
 cases c1 with
 | false =>
  have hka : k = l.length := by
                 have : ¬ k < l.length := by simpa using g1
                 omega
  have hp : P = true := by rw [← hP]; exact goodB_at.2 fun i hi => hok i hi (by omega)
  repeat' (first | (refine aops_cons ?_; first | (refine zg rfl ?_; first | refine grd_on ?_ | refine zo ?_ | (refine zs ?_ ?_ <;> intro hb <;> ((try simp only [bn] at hb); first | subst hb | simp only [hb]))) | (apply aops_o; rfl; simp only [estep, avs, tts, seval, g1] <;> exact rr)) | refine aops_nil ?_ | (refine ahops_cons ?_; first | (refine yg rfl ?_; first | refine hgrd_on ?_ | refine yo ?_ | (refine ys ?_ ?_ <;> intro hb <;> ((try simp only [bn] at hb); first | subst hb | simp only [hb]))) | (apply ahops_o; rfl; simp only [hstep, avs, tts, seval, g1] <;> exact rr; first | trivial | omega)) | refine ahops_nil ?_ | refine aw_seq ?_ | refine zr ttOk ?_ | refine zR 0 ttOk mixed ?_ | refine zR 1 ttOk mixed ?_ | refine zR 2 ttOk mixed ?_ | refine zR 3 ttOk mixed ?_ | refine zf rfl rfl ?_ | refine zt rfl rfl ?_ | (refine aw_cond rfl rfl ?_ ?_ <;> intro hb <;> ((try simp only [bn] at hb); first | subst hb | simp only [hb])) | refine aw_skip ?_ | refine aw_exit ?_ | refine aw_block ?_)
  rw [hp]
  exact aw_ret ⟨_, rfl, _, rfl, rfl⟩
 | true =>
  have hlt : k < l.length := by simpa using g1
  have hix : (0 : Int) ≤ (k : Int) := by omega
  have ga := lk_get hlt
  have w1 : IntKind.i64.wrap ((k : Int) + 1) = ((k + 1 : Nat) : Int) := wrap_succ hlt (by omega)
  have hsn : l.take (k + 1) = l.take k ++ [l[k]] := by rw [List.take_add_one, List.getElem?_eq_getElem hlt]; rfl
  have hla := lastK_take hlt
  have hszk := hsz _ (List.getElem_mem hlt)
  have hno := fun hb => goodB_no (n := n) hlt hb
  have hoks : bad1 n (l.take k) l[k] = false → ∀ i (hi : i < l.length), i < k + 1 → bad1 n (l.take i) l[i] = false := fun h i hi h2 => by
   rcases Nat.lt_succ_iff_lt_or_eq.1 h2 with h3 | h3
   ·exact hok i hi h3
   ·subst h3; exact h
  have hlen := totE_len (l.take k)
  have hlenk : (l.take k).length = k := by simp; omega
  have hub := units_bd l[k].part
  have cu := units_a hT l[k].part hszk.1 hszk.2
  obtain ⟨x, hx⟩ : ∃ x, l[k] = x := ⟨_, rfl⟩
  simp only [hx] at ga hsn hla hno hoks hub cu
  obtain ⟨pre, hpre⟩ : ∃ p, l.take k = p := ⟨_, rfl⟩
  rw [hpre] at hsn htot hno hoks hlen hlenk ⊢
  rw [hsn] at hla
  have t1 := totE_get pre x.company
  have t2 := totE_get (pre ++ [x]) x.company
  have t3 := totE_set pre x
  have t4 := totU_snoc pre x
  have t5 := totU_nonneg pre x.company
  have t6 := htot x.company
  have hbad : bad1 n pre x = (decide (x.company < 0) || (decide (x.company ≥ n) || (decide (x.holder < 0) || (decide (x.holder ≥ n) || (decide (x.company = x.holder) || (!riseB (lastK pre) x.company x.holder || (decide (unitsR x.part = 0) || decide (totU (pre ++ [x]) x.company > 6000)))))))) := rfl
  obtain ⟨lk, hlk⟩ : ∃ p, lastK pre = p := ⟨_, rfl⟩
  rw [hlk] at hbad ⊢
  clear hlk
  obtain ⟨u, hu⟩ : ∃ u, unitsR x.part = u := ⟨_, rfl⟩
  obtain ⟨t, ht⟩ : ∃ t, totU pre x.company = t := ⟨_, rfl⟩
  have ht' : totU (pre ++ [x]) x.company = t + u := by rw [t4, if_pos rfl, ht, hu]
  have hnext : bad1 n pre x = false → ∀ c, totU (pre ++ [x]) c ≤ 6000 := fun hb c => by
   by_cases hc : x.company = c
   ·subst hc
    rw [hbad] at hb
    simp only [Bool.or_eq_false_iff, decide_eq_false_iff_not] at hb
    omega
   ·rw [t4, if_neg hc]; have := htot c; omega
  rw [ht'] at t2 t3 hbad
  rw [ht] at t1 t5 t6
  rw [hu] at cu hub hbad
  clear t4 ht ht' hu
  obtain ⟨xc, xh, xp⟩ := x
  obtain ⟨rn, ru, rd⟩ := xp
  simp only [ratA, tA, iA] at cu hn
  simp only [lkP] at ga
  simp only at t1 t2 t3 hbad hla
  unfold riseB at hbad
  have w2 : IntKind.i64.wrap (t + u) = t + u := by rw [IntKind.wrap_i64]; omega
  have q4 : ((totE pre).length ≤ 9223372036854775807) = True := eq_true (by omega)
  obtain ⟨lk1, lk2⟩ := lk
  simp only at hbad ⊢
  obtain ⟨e1, f1⟩ : ∃ c, decide (xc < 0) = c := ⟨_, rfl⟩
  obtain ⟨e2, f2⟩ : ∃ c, decide (xc ≥ n) = c := ⟨_, rfl⟩
  obtain ⟨e3, f3⟩ : ∃ c, decide (xh < 0) = c := ⟨_, rfl⟩
  obtain ⟨e4, f4⟩ : ∃ c, decide (xh ≥ n) = c := ⟨_, rfl⟩
  obtain ⟨e5, f5⟩ : ∃ c, decide (xc = xh) = c := ⟨_, rfl⟩
  obtain ⟨e6, f6⟩ : ∃ c, decide (xc > lk1) = c := ⟨_, rfl⟩
  obtain ⟨e7, f7⟩ : ∃ c, decide (xc = lk1) = c := ⟨_, rfl⟩
  obtain ⟨e8, f8⟩ : ∃ c, decide (xh > lk2) = c := ⟨_, rfl⟩
  obtain ⟨e9, f9⟩ : ∃ c, decide (u = 0) = c := ⟨_, rfl⟩
  obtain ⟨e10, f10⟩ : ∃ c, decide (t + u > 6000) = c := ⟨_, rfl⟩
  rw [f1, f2, f3, f4, f5, f6, f7, f8, f9, f10] at hbad
  have hn2 := fun G => got hn G
  repeat' (first | (refine aops_cons ?_; first | (refine zg rfl ?_; first | refine grd_on ?_ | refine zo ?_ | (refine zs ?_ ?_ <;> intro hb <;> ((try simp only [bn] at hb); first | subst hb | simp only [hb]))) | (apply aops_o; rfl; simp only [estep, avs, tts, seval, hix, hlt, ga, la, g1, hn2, w1, w2, ksh, t1, t2, t3, q4, f1, f2, f3, f4, f5, f6, f7, f8, f9, f10, Bool.not_true, Bool.not_false] <;> exact rr) | (refine za rfl ?_; refine zp (cu) ?_)) | refine aops_nil ?_ | (refine ahops_cons ?_; first | (refine yg rfl ?_; first | refine hgrd_on ?_ | refine yo ?_ | (refine ys ?_ ?_ <;> intro hb <;> ((try simp only [bn] at hb); first | subst hb | simp only [hb]))) | (apply ahops_o; rfl; simp only [hstep, avs, tts, seval, hix, hlt, ga, la, g1, hn2, w1, w2, ksh, t1, t2, t3, q4, f1, f2, f3, f4, f5, f6, f7, f8, f9, f10, Bool.not_true, Bool.not_false] <;> exact rr; first | trivial | omega) | (refine ya rfl ?_; refine yp (cu) ?_)) | refine ahops_nil ?_ | refine aw_seq ?_ | refine zr ttOk ?_ | refine zR 0 ttOk mixed ?_ | refine zR 1 ttOk mixed ?_ | refine zR 2 ttOk mixed ?_ | refine zR 3 ttOk mixed ?_ | refine zf rfl rfl ?_ | refine zt rfl rfl ?_ | (refine aw_cond rfl rfl ?_ ?_ <;> intro hb <;> ((try simp only [bn] at hb); first | subst hb | simp only [hb])) | refine aw_skip ?_ | refine aw_exit ?_ | refine aw_block ?_)
  all_goals first
   | (have hp : P = false := (by rw [← hP]; exact hno (by rw [hbad]; rfl)); subst hp; show AW _ _ _ _ _; refine aw_ret ⟨_, rfl, _, rfl, ?_⟩; rfl)
   | (refine ⟨l.length - (k + 1), _, H ++ [.mp 3 3 (.one (.int .i64)) (totE (pre ++ [⟨xc, xh, ⟨rn, ru, rd⟩⟩])), .box 63 [.d (.v (.int .i64 xc)), .d (.v (.int .i64 xh))]], by omega, ⟨?_, .inr ⟨by simp, ?_, .more hB (.cons (bel_totE _) (.cons (by simp [AObj.bel, belL, AV.bel]) .nil)), _, by simp only [List.append_assoc, List.cons_append, List.nil_append]; rfl⟩⟩, k + 1, rfl, hlt, hoks (by rw [hbad]; rfl), by rw [hsn]; exact hnext (by rw [hbad]; rfl), by rw [hsn, hla], rfl⟩; (· simp [EnvLe, List.replicate]); (· simp [belL, AV.bel, List.replicate]; omega))
end
end Av
end Go.Proofs.YtdekcppfpgeneaaGreatDoor
set_option linter.unusedVariables false
set_option linter.unusedSimpArgs false
namespace Go.Proofs.YtdekcppfpgeneaaGreatDoor
open Go Go.RowKit
namespace Rg
open Av Nt
/-! Well-formed structures: plain. -/
def nbad (pre : List ByteArray) (x : ByteArray) : Bool := !nameB x || (match pre.getLast? with
 | none => false
 | some p => (ltT x p || decide (x = p)))
def namesF : List ByteArray → List ByteArray → Bool
 | _, [] => true
 | pre, x :: r => !nbad pre x && namesF (pre ++ [x]) r
theorem namesF_at : ∀ {l pre : List ByteArray}, namesF pre l = true ↔ ∀ k (h : k < l.length), nbad (pre ++ l.take k) l[k] = false
 | [], pre => by simp [namesF]
 | x :: r, pre => by
  rw [namesF, Bool.and_eq_true, namesF_at]
  constructor
  ·rintro ⟨h1, h2⟩ k hk
   cases k with
   | zero => simpa using h1
   | succ k => have := h2 k (by simpa using hk); simpa using this
  ·intro h
   refine ⟨by have := h 0 (by simp); simpa using this, fun k hk => ?_⟩
   have := h (k + 1) (by simpa using hk)
   simpa using this
theorem names_at {l : List ByteArray} : namesF [] l = true ↔ ∀ k (h : k < l.length), nbad (l.take k) l[k] = false := by
 rw [namesF_at]; simp
theorem names_no {l : List ByteArray} {k : Nat} (h : k < l.length) (hb : nbad (l.take k) l[k] = true) : namesF [] l = false := by
 cases hg : namesF [] l with
 | false => rfl
 | true => rw [names_at.1 hg k h] at hb; cases hb
def soundB (s : Str) : Bool := namesF [] s.parties && (decide (s.parties.length ≤ 60) && (goodB s.parties.length s.capital && goodB s.parties.length s.votes))
theorem nbad_zero {l : List ByteArray} (h : 0 < l.length) : nbad (l.take 0) l[0] = !nameB l[0] := by
 unfold nbad; simp
theorem nbad_succ {l : List ByteArray} {j : Nat} (h : j + 1 < l.length) : nbad (l.take (j + 1)) l[j + 1] = (!nameB l[j + 1] || (ltT l[j + 1] l[j] || decide (l[j + 1] = l[j]))) := by
 have e : l.take (j + 1) = l.take j ++ [l[j]] := by rw [List.take_add_one, List.getElem?_eq_getElem (by omega)]; rfl
 rw [e]
 unfold nbad
 rw [List.getLast?_concat]
end Rg
namespace Av
--nosv
attribute [local irreducible] AW AOps AHOps
open Nt Rg
section
variable {base : World} (hT : Tabs base)
include hT
set_option maxRecDepth 100000 in
set_option maxHeartbeats 8000000 in
theorem sound_a (s : Str) (h1 : s.parties.length ≤ 1000000) (h0 : ∀ t ∈ s.parties, t.size ≤ 9223372036854775807) (h2 : s.capital.length ≤ 1000000000) (h3 : s.votes.length ≤ 1000000000) (h4 : ∀ x ∈ s.capital, x.part.num.size ≤ 9223372036854775807 ∧ x.part.den.size ≤ 9223372036854775807) (h5 : ∀ x ∈ s.votes, x.part.num.size ≤ 9223372036854775807 ∧ x.part.den.size ≤ 9223372036854775807) :
  PureA Tryz.prog base 14 [strA s] (boA (soundB s)) := by
 obtain ⟨ps, cs, vs⟩ := s
 simp only at h0 h1 h2 h3 h4 h5
 have cg := fun (H : AHeap) (ln : Nat) hn => good_a (base := base) hT (H := H) (ln := ln) cs (ps.length : Int) hn h2 h4
 have cv := fun (H : AHeap) (ln : Nat) hn => good_a (base := base) hT (H := H) (ln := ln) vs (ps.length : Int) hn h3 h5
 refine pure_enter ttOk Tryz.call14 Tryz.func14 rfl fun H hB hb hF => ?_
 rw [Tryz.results14, Tryz.ntmps14]
 simp only [arr_list, List.length_cons, List.length_nil, List.replicate, List.cons_append, List.nil_append, Nat.reduceAdd, Nat.reduceSub]
 clear hF hb
 have la : (ps.map fun s => [PD.v (.string s)]).length = ps.length := by simp
 obtain ⟨P, hP⟩ : ∃ P, soundB ⟨ps, cs, vs⟩ = P := ⟨_, rfl⟩
 rw [hP]
 unfold soundB at hP
 simp only [strA, strL, strsP] at hP ⊢
 generalize goodB (ps.length : Int) cs = b1 at *
 generalize goodB (ps.length : Int) vs = b2 at *
 simp only [lklP, iA] at cg cv ⊢
 generalize cs.map lkP = cs at *
 generalize vs.map lkP = vs at *
 repeat' (first | (refine aops_cons ?_; first | (refine zg rfl ?_; first | refine grd_on ?_ | refine zo ?_ | (refine zs ?_ ?_ <;> intro hb <;> ((try simp only [bn] at hb); first | subst hb | simp only [hb]))) | (apply aops_o; rfl; simp only [estep, avs, tts, Nat.reduceAdd, Nat.reduceMul, Nat.reduceSub, Nat.reduceEqDiff, Nat.reduceLT, Nat.reduceLeDiff, Int.reduceToNat, Int.reduceLE, Int.reduceLT, Int.toNat_natCast, reduceCtorEq, la] <;> exact rr)) | refine aops_nil ?_ | (refine ahops_cons ?_; first | (refine yg rfl ?_; first | refine hgrd_on ?_ | refine yo ?_ | (refine ys ?_ ?_ <;> intro hb <;> ((try simp only [bn] at hb); first | subst hb | simp only [hb]))) | (apply ahops_o; rfl; simp only [hstep, avs, tts, Nat.reduceAdd, Nat.reduceMul, Nat.reduceSub, Nat.reduceEqDiff, Nat.reduceLT, Nat.reduceLeDiff, Int.reduceToNat, Int.reduceLE, Int.reduceLT, Int.toNat_natCast, reduceCtorEq, la] <;> exact rr; first | trivial | omega)) | refine ahops_nil ?_ | refine aw_seq ?_ | refine zr ttOk ?_ | refine zR 0 ttOk mixed ?_ | refine zR 1 ttOk mixed ?_ | refine zR 2 ttOk mixed ?_ | refine zR 3 ttOk mixed ?_ | refine zf rfl rfl ?_ | refine zt rfl rfl ?_ | (refine aw_cond rfl rfl ?_ ?_ <;> intro hb <;> ((try simp only [bn] at hb); first | subst hb | simp only [hb])) | refine aw_skip ?_ | refine aw_exit ?_ | refine aw_block ?_)
 refine aw_loop (H0 := H ++ [.box 25 [.d (.sl 1 (ps.map fun s => [PD.v (.string s)])), .d (.sl 5 cs), .d (.sl 5 vs)]]) (fun r env K => ∃ k, r = ps.length - k ∧ k ≤ ps.length ∧ (∀ i (hi : i < ps.length), i < k → nbad (ps.take i) ps[i] = false) ∧ K = H ++ [.box 25 [.d (.sl 1 (ps.map fun s => [PD.v (.string s)])), .d (.sl 5 cs), .d (.sl 5 vs)]] ∧ env = (.undef :: .ptr H.length 0 :: .undef :: .undef :: .undef :: .undef :: .undef :: .undef :: .d (.sl 1 (ps.map fun s => [PD.v (.string s)])) :: .d (.v (.int .i64 (ps.length : Int))) :: .d (.v (.int .i64 (k : Int))) :: List.replicate 40 .undef)) ?_ ⟨0, rfl, Nat.zero_le _, fun i _ h => by omega, rfl, rfl⟩ ?_
 ·exact ⟨by simp [EnvLe, List.replicate], .inl rfl⟩
 rintro r env K ⟨k, rfl, hk, hok, rfl, rfl⟩ hN
 simp only [rp]
 obtain ⟨c1, g1⟩ : ∃ c1, decide ((k : Int) < (ps.length : Int)) = c1 := ⟨_, rfl⟩
 cases c1 with
 | false =>
  have hka : k = ps.length := by
                  have : ¬ k < ps.length := by simpa using g1
                  omega
  have hp : namesF [] ps = true := names_at.2 fun i hi => hok i hi (by omega)
  rw [hp] at hP
  obtain ⟨c2, g2⟩ : ∃ c, decide (ps.length ≤ 60) = c := ⟨_, rfl⟩
  rw [g2] at hP
  have g3 : decide ((ps.length : Int) ≤ 60) = c2 := by rw [← g2]; exact decide_eq_decide.2 (by omega)
  clear g2
  have cg2 := fun G => cg (H ++ (.box 25 [.d (.sl 1 (ps.map fun s => [PD.v (.string s)])), .d (.sl 5 cs), .d (.sl 5 vs)] :: .box 3 [.d (.v (.int .i64 (ps.length : Int)))] :: G)) (H.length + 1) (by simp)
  have cv2 := fun G => cv (H ++ (.box 25 [.d (.sl 1 (ps.map fun s => [PD.v (.string s)])), .d (.sl 5 cs), .d (.sl 5 vs)] :: .box 3 [.d (.v (.int .i64 (ps.length : Int)))] :: G)) (H.length + 1) (by simp)
  repeat' (first | (refine aops_cons ?_; first | (refine zg rfl ?_; first | refine grd_on ?_ | refine zo ?_ | (refine zs ?_ ?_ <;> intro hb <;> ((try simp only [bn] at hb); first | subst hb | simp only [hb]))) | (apply aops_o; rfl; simp only [estep, avs, tts, Nat.reduceAdd, Nat.reduceMul, Nat.reduceSub, Nat.reduceEqDiff, Nat.reduceLT, Nat.reduceLeDiff, Int.reduceToNat, Int.reduceLE, Int.reduceLT, Int.toNat_natCast, reduceCtorEq, g1, g3, la] <;> exact rr) | (refine za rfl ?_; first | refine zd (cg2 _) ?_ | refine zd (cv2 _) ?_)) | refine aops_nil ?_ | (refine ahops_cons ?_; first | (refine yg rfl ?_; first | refine hgrd_on ?_ | refine yo ?_ | (refine ys ?_ ?_ <;> intro hb <;> ((try simp only [bn] at hb); first | subst hb | simp only [hb]))) | (apply ahops_o; rfl; simp only [hstep, avs, tts, Nat.reduceAdd, Nat.reduceMul, Nat.reduceSub, Nat.reduceEqDiff, Nat.reduceLT, Nat.reduceLeDiff, Int.reduceToNat, Int.reduceLE, Int.reduceLT, Int.toNat_natCast, reduceCtorEq, g1, g3, la] <;> exact rr; first | trivial | omega) | (refine ya rfl ?_; first | refine yd (cg2 _) ?_ | refine yd (cv2 _) ?_)) | refine ahops_nil ?_ | refine aw_seq ?_ | refine zr ttOk ?_ | refine zR 0 ttOk mixed ?_ | refine zR 1 ttOk mixed ?_ | refine zR 2 ttOk mixed ?_ | refine zR 3 ttOk mixed ?_ | refine zf rfl rfl ?_ | refine zt rfl rfl ?_ | (refine aw_cond rfl rfl ?_ ?_ <;> intro hb <;> ((try simp only [bn] at hb); first | subst hb | simp only [hb])) | refine aw_skip ?_ | refine aw_exit ?_ | refine aw_block ?_)
  all_goals (rw [← hP]; exact aw_ret ⟨_, rfl, _, rfl, rfl⟩)
 | true =>
  have hlt : k < ps.length := by simpa using g1
  have hix : (0 : Int) ≤ (k : Int) := by omega
  have ga := strsP_get hlt
  have w1 : IntKind.i64.wrap ((k : Int) + 1) = ((k + 1 : Nat) : Int) := wrap_succ hlt (by omega)
  have hno := fun hb => names_no hlt hb
  have hoks : nbad (ps.take k) ps[k] = false → ∀ i (hi : i < ps.length), i < k + 1 → nbad (ps.take i) ps[i] = false := fun h i hi h2 => by
   rcases Nat.lt_succ_iff_lt_or_eq.1 h2 with h3 | h3
   ·exact hok i hi h3
   ·subst h3; exact h
  have cn := name_a base ps[k] (h0 _ (List.getElem_mem hlt))
  cases k with
  | zero =>
   rw [nbad_zero hlt] at hno hoks
   obtain ⟨x, hx⟩ : ∃ x, ps[0] = x := ⟨_, rfl⟩
   rw [hx] at hno hoks ga cn
   generalize nameB x = b at *
   have gz : decide (((0 : Nat) : Int) > 0) = false := rfl
   simp only [tA] at cn
   repeat' (first | (refine aops_cons ?_; first | (refine zg rfl ?_; first | refine grd_on ?_ | refine zo ?_ | (refine zs ?_ ?_ <;> intro hb <;> ((try simp only [bn] at hb); first | subst hb | simp only [hb]))) | (apply aops_o; rfl; simp only [estep, avs, tts, Nat.reduceAdd, Nat.reduceMul, Nat.reduceSub, Nat.reduceEqDiff, Nat.reduceLT, Nat.reduceLeDiff, Int.reduceToNat, Int.reduceLE, Int.reduceLT, Int.toNat_natCast, reduceCtorEq, hix, hlt, ga, la, g1, w1, gz, Bool.not_true, Bool.not_false] <;> exact rr) | (refine za rfl ?_; refine zp (cn) ?_)) | refine aops_nil ?_ | (refine ahops_cons ?_; first | (refine yg rfl ?_; first | refine hgrd_on ?_ | refine yo ?_ | (refine ys ?_ ?_ <;> intro hb <;> ((try simp only [bn] at hb); first | subst hb | simp only [hb]))) | (apply ahops_o; rfl; simp only [hstep, avs, tts, Nat.reduceAdd, Nat.reduceMul, Nat.reduceSub, Nat.reduceEqDiff, Nat.reduceLT, Nat.reduceLeDiff, Int.reduceToNat, Int.reduceLE, Int.reduceLT, Int.toNat_natCast, reduceCtorEq, hix, hlt, ga, la, g1, w1, gz, Bool.not_true, Bool.not_false] <;> exact rr; first | trivial | omega) | (refine ya rfl ?_; refine yp (cn) ?_)) | refine ahops_nil ?_ | refine aw_seq ?_ | refine zr ttOk ?_ | refine zR 0 ttOk mixed ?_ | refine zR 1 ttOk mixed ?_ | refine zR 2 ttOk mixed ?_ | refine zR 3 ttOk mixed ?_ | refine zf rfl rfl ?_ | refine zt rfl rfl ?_ | (refine aw_cond rfl rfl ?_ ?_ <;> intro hb <;> ((try simp only [bn] at hb); first | subst hb | simp only [hb])) | refine aw_skip ?_ | refine aw_exit ?_ | refine aw_block ?_)
   all_goals first
    | (have hp : P = false := (by rw [← hP, hno (by rfl)]; rfl); subst hp; show AW _ _ _ _ _; refine aw_ret ⟨_, rfl, _, rfl, ?_⟩; rfl)
    | (refine ⟨ps.length - (0 + 1), _, _, by omega, ⟨?_, .inl rfl⟩, 0 + 1, rfl, hlt, hoks (by rfl), rfl, rfl⟩; simp [EnvLe, List.replicate])
  | succ j =>
   rw [nbad_succ hlt] at hno hoks
   have hlt3 : j < ps.length := by omega
   have ga3 := strsP_get hlt3
   have hix3 : (0 : Int) ≤ (j : Int) := by omega
   have gz : decide (((j + 1 : Nat) : Int) > 0) = true := decide_eq_true (by omega)
   have w3 : IntKind.i64.wrap (((j + 1 : Nat) : Int) - 1) = (j : Int) := by rw [IntKind.wrap_i64]; omega
   have hls := less_eq ps[j + 1] ps[j]
   obtain ⟨x, hx⟩ : ∃ x, ps[j + 1] = x := ⟨_, rfl⟩
   rw [hx] at hno hoks ga cn hls
   obtain ⟨y, hy⟩ : ∃ y, ps[j] = y := ⟨_, rfl⟩
   rw [hy] at hno hoks ga3 hls
   generalize nameB x = b at *
   generalize ltT x y = b3 at *
   obtain ⟨b4, g4⟩ : ∃ c, decide (x = y) = c := ⟨_, rfl⟩
   rw [g4] at hno hoks
   obtain ⟨b5, g5⟩ : ∃ c, (b3 || b4) = c := ⟨_, rfl⟩
   rw [g5] at hno hoks
   simp only [tA] at cn
   repeat' (first | (refine aops_cons ?_; first | (refine zg rfl ?_; first | refine grd_on ?_ | refine zo ?_ | (refine zs ?_ ?_ <;> intro hb <;> ((try simp only [bn] at hb); first | subst hb | simp only [hb]))) | (apply aops_o; rfl; simp only [estep, avs, tts, Nat.reduceAdd, Nat.reduceMul, Nat.reduceSub, Nat.reduceEqDiff, Nat.reduceLT, Nat.reduceLeDiff, Int.reduceToNat, Int.reduceLE, Int.reduceLT, Int.toNat_natCast, reduceCtorEq, hix, hlt, ga, la, g1, w1, gz, w3, hix3, hlt3, ga3, hls, g4, g5, Bool.not_true, Bool.not_false] <;> exact rr) | (refine za rfl ?_; refine zp (cn) ?_)) | refine aops_nil ?_ | (refine ahops_cons ?_; first | (refine yg rfl ?_; first | refine hgrd_on ?_ | refine yo ?_ | (refine ys ?_ ?_ <;> intro hb <;> ((try simp only [bn] at hb); first | subst hb | simp only [hb]))) | (apply ahops_o; rfl; simp only [hstep, avs, tts, Nat.reduceAdd, Nat.reduceMul, Nat.reduceSub, Nat.reduceEqDiff, Nat.reduceLT, Nat.reduceLeDiff, Int.reduceToNat, Int.reduceLE, Int.reduceLT, Int.toNat_natCast, reduceCtorEq, hix, hlt, ga, la, g1, w1, gz, w3, hix3, hlt3, ga3, hls, g4, g5, Bool.not_true, Bool.not_false] <;> exact rr; first | trivial | omega) | (refine ya rfl ?_; refine yp (cn) ?_)) | refine ahops_nil ?_ | refine aw_seq ?_ | refine zr ttOk ?_ | refine zR 0 ttOk mixed ?_ | refine zR 1 ttOk mixed ?_ | refine zR 2 ttOk mixed ?_ | refine zR 3 ttOk mixed ?_ | refine zf rfl rfl ?_ | refine zt rfl rfl ?_ | (refine aw_cond rfl rfl ?_ ?_ <;> intro hb <;> ((try simp only [bn] at hb); first | subst hb | simp only [hb])) | refine aw_skip ?_ | refine aw_exit ?_ | refine aw_block ?_)
   all_goals first
    | (have hp : P = false := (by rw [← hP, hno (by rfl)]; rfl); subst hp; show AW _ _ _ _ _; refine aw_ret ⟨_, rfl, _, rfl, ?_⟩; rfl)
    | (refine ⟨ps.length - ((j + 1) + 1), _, _, by omega, ⟨?_, .inl rfl⟩, (j + 1) + 1, rfl, hlt, hoks (by rfl), rfl, rfl⟩; simp [EnvLe, List.replicate])
end
end Av
end Go.Proofs.YtdekcppfpgeneaaGreatDoor
set_option linter.unusedVariables false
set_option linter.unusedSimpArgs false
namespace Go.Proofs.YtdekcppfpgeneaaGreatDoor
open Go Go.RowKit
namespace Rg
open Av Nt

/-! Parts in 6000ths; the examples, reckoned. -/
theorem lowR_cross {n d n' d' : Nat} (hd : 0 < d) (hd' : 0 < d') (h : n * d' = n' * d) : lowR false n d = lowR false n' d' := by
 obtain ⟨h1, h2⟩ := low_cross hd hd' h
 unfold lowR
 rw [h1, h2]
 rfl
theorem ofR_nat (n d : Nat) (hd : 0 < d) : ofR (n : Int) (d : Int) = lowR false n d := by
 unfold ofR
 rw [if_neg (by omega), decide_eq_false (by omega), decide_eq_false (by omega)]
 rfl
theorem ofR_cross {n d n' d' : Nat} (hd : 0 < d) (hd' : 0 < d') (h : n * d' = n' * d) : ofR (n : Int) (d : Int) = ofR (n' : Int) (d' : Int) := by
 rw [ofR_nat _ _ hd, ofR_nat _ _ hd', lowR_cross hd hd' h]
theorem decT_4 {n : Nat} (h : n < 10000) : (decT n).size ≤ 4 := by
 rw [decT_size]; exact dec_le 3 n h
theorem valid_low {n d : Nat} (hn : 0 < n) (hd : 0 < d) (h1 : n < tp 300) (h2 : d < tp 300) : validR (lowR false n d) = true := by
 have hg : 0 < Nat.gcd n d := Nat.gcd_pos_of_pos_right _ hd
 have l1 : n / Nat.gcd n d < tp 300 := Nat.lt_of_le_of_lt (Nat.div_le_self _ _) h1
 have l2 : d / Nat.gcd n d < tp 300 := Nat.lt_of_le_of_lt (Nat.div_le_self _ _) h2
 have p1 : 0 < n / Nat.gcd n d := Nat.div_pos (Nat.le_of_dvd hn (Nat.gcd_dvd_left n d)) hg
 have p2 := low_pos (n := n) hd
 have c := low_cop (n := n) hd
 unfold validR lowR okN
 simp only
 rw [isN_decT (dec_tp (k := 299) l1), isN_decT (dec_tp (k := 299) l2), valS_decT, valS_decT]
 simp only [Bool.and_self, if_true]
 rw [if_neg (by omega), if_neg (by omega)]
 exact decide_eq_true c
theorem units_of {v : Nat} (h0 : 0 < v) (h1 : v ≤ 6000) : unitsR (ofR (v : Int) 6000) = v := by
 rw [show (6000 : Int) = ((6000 : Nat) : Int) from rfl, ofR_nat v 6000 (by omega)]
 have hv := valid_low (n := v) (d := 6000) h0 (by omega) (Nat.lt_of_le_of_lt h1 (Nat.lt_of_lt_of_le (by decide : 6000 < tp 4) (tp_le (by decide)))) (Nat.lt_of_lt_of_le (by decide : 6000 < tp 4) (tp_le (by decide)))
 have hu := low_units (n := v) (N := 6000) (by omega)
 have hg : 0 < Nat.gcd v 6000 := Nat.gcd_pos_of_pos_right _ (by omega)
 have l1 : v / Nat.gcd v 6000 ≤ v := Nat.div_le_self _ _
 have l2 : 6000 / Nat.gcd v 6000 ≤ 6000 := Nat.div_le_self _ _
 have l3 : v / Nat.gcd v 6000 ≤ 6000 / Nat.gcd v 6000 := Nat.div_le_div_right h1
 unfold unitsR
 rw [hv]
 unfold lowR
 simp only [Bool.false_and, Bool.not_false, Bool.true_and]
 rw [decide_eq_true (decT_4 (by omega)), decide_eq_true (decT_4 (by omega)), valS_decT, valS_decT]
 simp only [Bool.and_self, if_true]
 rw [if_pos ⟨l3, hu.1⟩, hu.2]
def nmA : ByteArray := ⟨#[97]⟩
def nmP : ByteArray := ⟨#[112]⟩
def nmQ : ByteArray := ⟨#[113]⟩
def nmR : ByteArray := ⟨#[114]⟩
def nmZ : ByteArray := ⟨#[122]⟩
def hd1 : Hd := ⟨⟨#[104, 49]⟩, nmA, nmP, ⟨#[]⟩, ⟨#[]⟩, [], 60, 60, 0, -1⟩
def hd2 : Hd := ⟨⟨#[104, 50]⟩, nmA, nmQ, ⟨#[]⟩, ⟨#[]⟩, [nmR], 30, 0, 0, -1⟩
def hd3 : Hd := ⟨⟨#[104, 51]⟩, nmA, nmZ, ⟨#[]⟩, ⟨#[]⟩, [], 50, 0, 0, -1⟩
def hdN : Hd := ⟨⟨#[104, 49]⟩, nmA, nmP, nmQ, nmR, [], 60, 60, 0, -1⟩
def hdL6 : Hd := ⟨⟨#[104, 49]⟩, nmA, nmP, ⟨#[]⟩, ⟨#[]⟩, [], 60, 60, 6, -1⟩
theorem parties_eq {l : List Hd} {m : List ByteArray} (hm : m.Nodup) (hs : m.Pairwise fun a b => leT a b = true) (h : ∀ x, x ∈ l.flatMap namesH ↔ x ∈ m) : partiesS l = m :=
 sortT_eq (kfold_nodup _) hm hs fun x => by rw [mem_kfold]; exact h x
theorem ps12 : partiesS [hd1, hd2] = [nmA, nmP, nmQ, nmR] := parties_eq (by decide) (by decide) fun x => by
 rw [show [hd1, hd2].flatMap namesH = [nmA, nmP, nmA, nmQ, nmR] from by kernel_rfl]
 simp only [List.mem_cons, List.not_mem_nil, or_false]
 constructor
 ·rintro (h | h | h | h | h) <;> simp [h]
 ·rintro (h | h | h | h) <;> simp [h]
theorem psN : partiesS [hdN] = [nmA, nmP, nmQ, nmR] := parties_eq (by decide) (by decide) fun x => by
 rw [show [hdN].flatMap namesH = [nmA, nmP, nmQ, nmR] from by kernel_rfl]
theorem psL : partiesS [hdL6] = [nmA, nmP] := parties_eq (by decide) (by decide) fun x => by
 rw [show [hdL6].flatMap namesH = [nmA, nmP] from by kernel_rfl]
theorem ps1 : partiesS [hd1] = [nmA, nmP] := parties_eq (by decide) (by decide) fun x => by
 rw [show [hd1].flatMap namesH = [nmA, nmP] from by kernel_rfl]
theorem ps13 : partiesS [hd1, hd3] = [nmA, nmP, nmZ] := parties_eq (by decide) (by decide) fun x => by
 rw [show [hd1, hd3].flatMap namesH = [nmA, nmP, nmA, nmZ] from by kernel_rfl]
 simp only [List.mem_cons, List.not_mem_nil, or_false]
 constructor
 ·rintro (h | h | h | h) <;> simp [h]
 ·rintro (h | h | h) <;> simp [h]
theorem valid_eq {l : List Hd} {m : List ByteArray} (hp : partiesS l = m) (h : ((l.all properB && decide ((l.map Hd.id).Nodup)) && (decide (l.length ≤ 400) && (decide (m.length ≤ 60) && bearB l))) = true) : validB l = true := by
 unfold validB; rw [hp]; exact h
theorem v12 : validB [hd1, hd2] = true := valid_eq ps12 (by kernel_rfl)
theorem vN : validB [hdN] = true := valid_eq psN (by kernel_rfl)
theorem vL : validB [hdL6] = true := valid_eq psL (by kernel_rfl)
theorem v1 : validB [hd1] = true := valid_eq ps1 (by kernel_rfl)
theorem sortK_id {l : List (Int × Int)} (hn : l.Nodup) (hs : l.Pairwise leK) : sortK l = l := sortK_eq hn hn hs fun _ => Iff.rfl
theorem at12 : atS [hd1, hd2] 5 = ⟨[nmA, nmP, nmQ, nmR], [⟨0, 1, ofR 3 5⟩, ⟨0, 2, ofR 3 20⟩, ⟨0, 3, ofR 3 20⟩], [⟨0, 1, ofR 3 5⟩]⟩ ∧ atE [hd1, hd2] 5 = 0 := by
 unfold atS atE
 rw [v12, ps12, show dayB 5 = true from rfl]
 simp only [Bool.and_self, if_true]
 refine ⟨?_, trivial⟩
 unfold lnkS
 rw [show (capK (ixS [nmA, nmP, nmQ, nmR]) 5 [hd1, hd2]).1 = [(0, 1), (0, 2), (0, 3)] from by kernel_rfl, show (votK (ixS [nmA, nmP, nmQ, nmR]) 5 [hd1, hd2]).1 = [(0, 1)] from by kernel_rfl]
 rw [sortK_id (by decide) (by simp [leK]), sortK_id (by decide) (by simp [leK])]
 simp only [List.map_cons, List.map_nil, lkOf]
 rw [show (capK (ixS [nmA, nmP, nmQ, nmR]) 5 [hd1, hd2]).2 (0, 1) = 3600 from by kernel_rfl, show (capK (ixS [nmA, nmP, nmQ, nmR]) 5 [hd1, hd2]).2 (0, 2) = 900 from by kernel_rfl, show (capK (ixS [nmA, nmP, nmQ, nmR]) 5 [hd1, hd2]).2 (0, 3) = 900 from by kernel_rfl, show (votK (ixS [nmA, nmP, nmQ, nmR]) 5 [hd1, hd2]).2 (0, 1) = 3600 from by kernel_rfl]
 rw [show ofR 3600 6000 = ofR 3 5 from ofR_cross (n := 3600) (d := 6000) (n' := 3) (d' := 5) (by decide) (by decide) (by decide), show ofR 900 6000 = ofR 3 20 from ofR_cross (n := 900) (d := 6000) (n' := 3) (d' := 20) (by decide) (by decide) (by decide)]
theorem atN : (atS [hdN] 5).capital = [⟨0, 2, ofR 3 5⟩] ∧ (atS [hdN] 5).votes = [⟨0, 3, ofR 3 5⟩] ∧ atE [hdN] 5 = 0 := by
 unfold atS atE
 rw [vN, psN, show dayB 5 = true from rfl]
 simp only [Bool.and_self, if_true, and_true]
 unfold lnkS
 rw [show (capK (ixS [nmA, nmP, nmQ, nmR]) 5 [hdN]).1 = [(0, 2)] from by kernel_rfl, show (votK (ixS [nmA, nmP, nmQ, nmR]) 5 [hdN]).1 = [(0, 3)] from by kernel_rfl]
 rw [sortK_id (by decide) (by simp [leK]), sortK_id (by decide) (by simp [leK])]
 simp only [List.map_cons, List.map_nil, lkOf]
 rw [show (capK (ixS [nmA, nmP, nmQ, nmR]) 5 [hdN]).2 (0, 2) = 3600 from by kernel_rfl, show (votK (ixS [nmA, nmP, nmQ, nmR]) 5 [hdN]).2 (0, 3) = 3600 from by kernel_rfl]
 rw [show ofR 3600 6000 = ofR 3 5 from ofR_cross (n := 3600) (d := 6000) (n' := 3) (d' := 5) (by decide) (by decide) (by decide)]
 exact ⟨rfl, rfl⟩
theorem atL : atS [hdL6] 5 = ⟨[nmA, nmP], [], []⟩ ∧ atE [hdL6] 5 = 0 := by
 unfold atS atE
 rw [vL, psL, show dayB 5 = true from rfl]
 simp only [Bool.and_self, if_true, and_true]
 unfold lnkS
 rw [show (capK (ixS [nmA, nmP]) 5 [hdL6]).1 = [] from by kernel_rfl, show (votK (ixS [nmA, nmP]) 5 [hdL6]).1 = [] from by kernel_rfl]
 rw [sortK_id (by decide) (by simp)]
 rfl
theorem putZ : putS [hd1] hd3 = ([], 10) := by
 unfold putS
 rw [v1, show properB hd3 = true from by kernel_rfl, show [hd1] ++ [hd3] = [hd1, hd3] from rfl, ps13, show bearB [hd1, hd3] = false from by kernel_rfl, show findI [hd1] hd3.id = -1 from by kernel_rfl]
 rfl
theorem u35 : unitsR (ofR 3 5) = 3600 := by
 rw [show ofR 3 5 = ofR 3600 6000 from ofR_cross (n := 3) (d := 5) (n' := 3600) (d' := 6000) (by decide) (by decide) (by decide)]
 exact units_of (v := 3600) (by decide) (by decide)
theorem u320 : unitsR (ofR 3 20) = 900 := by
 rw [show ofR 3 20 = ofR 900 6000 from ofR_cross (n := 3) (d := 20) (n' := 900) (d' := 6000) (by decide) (by decide) (by decide)]
 exact units_of (v := 900) (by decide) (by decide)
theorem sound12 : soundB ⟨[nmA, nmP, nmQ, nmR], [⟨0, 1, ofR 3 5⟩, ⟨0, 2, ofR 3 20⟩, ⟨0, 3, ofR 3 20⟩], [⟨0, 1, ofR 3 5⟩]⟩ = true := by
 unfold soundB
 rw [show namesF [] [nmA, nmP, nmQ, nmR] = true from by kernel_rfl]
 simp only [goodB, goodF, bad1, lastK, riseB, totU, sumF, u35, u320, List.nil_append, List.cons_append, List.length_cons, List.length_nil]
 decide
end Rg
end Go.Proofs.YtdekcppfpgeneaaGreatDoor
set_option linter.unusedVariables false
set_option linter.unusedSimpArgs false
namespace Go.Proofs.YtdekcppfpgeneaaGreatDoor
open Go Go.RowKit
namespace Av
open Nt Rg
theorem PureA.leArg {P : Program} {base : World} {f : FuncId} {args args' : List AV} {r : AV} (h : PureA P base f args' r) (k : LeL args args') : PureA P base f args r := fun H =>
 ⟨(h H).enter, fun μ w vs hs ha => (h H).run μ w vs hs (k.rep ha)⟩
/-- pure data that say less: nil slices az empty ones -/
def LeP (p q : PD) : Prop := q.one = true ∧ ∀ w imm v, PRep w imm p v → PRep w imm q v
theorem LeP.nil (k : Nat) : LeP (.v (.slice none 0 0)) (.sl k []) := ⟨rfl, fun w imm v h => by
 simp only [PRep] at h ⊢
 exact ⟨none, 0, h.1, Nat.le_refl _, by unfold maxLen; omega, .inl trivial⟩⟩
def LePL : List PD → List PD → Prop
 | [], [] => True
 | a :: l, b :: m => (a = b ∨ LeP a b) ∧ LePL l m
 | _, _ => False
theorem LePL.refl : ∀ l : List PD, LePL l l
 | [] => trivial
 | a :: l => ⟨.inl rfl, LePL.refl l⟩
theorem LePL.len : ∀ {l m : List PD}, LePL l m → l.length = m.length
 | [], [], _ => rfl
 | [], _ :: _, h => h.elim
 | _ :: _, [], h => h.elim
 | a :: l, b :: m, h => by rw [List.length_cons, List.length_cons, h.2.len]
theorem LePL.cells {w : World} {imm : Nat → Prop} {b : Nat} : ∀ {l m : List PD} {o : Nat}, LePL l m → PCells w imm l b o → PCells w imm m b o
 | [], [], _, _, h => h
 | [], _ :: _, _, h, _ => h.elim
 | _ :: _, [], _, h, _ => h.elim
 | p :: l, q :: m, o, h, k => by
  simp only [PCells] at k ⊢
  refine ⟨?_, h.2.cells k.2⟩
  rcases h.1 with rfl | h1
  ·exact k.1
  ·obtain ⟨_, c, k1, k2⟩ := k.1
   exact ⟨h1.1, c, k1, h1.2 _ _ _ k2⟩
def LePR : List (List PD) → List (List PD) → Prop
 | [], [] => True
 | a :: l, b :: m => LePL a b ∧ LePR l m
 | _, _ => False
theorem LePR.rows {w : World} {imm : Nat → Prop} {b k : Nat} : ∀ {l m : List (List PD)} {o : Nat}, LePR l m → PRows w imm l b k o → PRows w imm m b k o
 | [], [], _, _, h => h
 | [], _ :: _, _, h, _ => h.elim
 | _ :: _, [], _, h, _ => h.elim
 | p :: l, q :: m, o, h, k => by
  simp only [PRows] at k ⊢
  exact ⟨h.1.len.symm.trans k.1, h.1.cells k.2.1, h.2.rows k.2.2⟩
theorem LePR.len : ∀ {l m : List (List PD)}, LePR l m → l.length = m.length
 | [], [], _ => rfl
 | [], _ :: _, h => h.elim
 | _ :: _, [], h => h.elim
 | a :: l, b :: m, h => by rw [List.length_cons, List.length_cons, h.2.len]
theorem LeA.sl {k : Nat} {l m : List (List PD)} (h : LePR l m) : LeA (.d (.sl k l)) (.d (.sl k m)) := fun s v hv => by
 simp only [Rep, PRep] at hv ⊢
 obtain ⟨ao, cap, h1, h2, h3, h4⟩ := hv
 refine ⟨ao, cap, by rw [← h.len]; exact h1, by rw [← h.len]; exact h2, h3, ?_⟩
 rcases h4 with rfl | ⟨b, o, h4, h5, h6⟩
 ·left
  cases m with
  | nil => rfl
  | cons _ _ => exact h.elim
 ·exact .inr ⟨b, o, h4, h5, h.rows h6⟩
/-- a holding whose joint holders are nil -/
def hdC0 (h : Hd) : List PD := [.v (.string h.id), .v (.string h.company), .v (.string h.holder), .v (.string h.nominee), .v (.string h.pledged), .v (.slice none 0 0), .v (.int .i64 h.capital), .v (.int .i64 h.votes), .v (.int .i64 h.fr), .v (.int .i64 h.til)]
theorem hdC0_le {h : Hd} (e : h.joint = []) : LePL (hdC0 h) (hdC h) := by
 unfold hdC0 hdC
 refine ⟨.inl rfl, .inl rfl, .inl rfl, .inl rfl, .inl rfl, .inr ?_, .inl rfl, .inl rfl, .inl rfl, .inl rfl, trivial⟩
 rw [e]; exact LeP.nil 1
attribute [local irreducible] AW AOps AHOps

/-! The examples of the law. -/
section
variable {base : World} (hT : Tabs base)
theorem small_ex : ∀ h ∈ [hd1, hd2, hd3, hdN, hdL6], Small h := fun h hh => by
 have : (few1 h && few2 h) = true := by
  simp only [List.mem_cons, List.not_mem_nil, or_false] at hh
  rcases hh with rfl | rfl | rfl | rfl | rfl <;> kernel_rfl
 exact (few_small (n := 1) (l := [h]) (by unfold fewB; simp [this])).2 h (by simp) |>.1
theorem joint_ex : ∀ h ∈ [hd1, hd2, hd3, hdN, hdL6], h.joint.length ≤ 1000 := fun h hh => by
 simp only [List.mem_cons, List.not_mem_nil, or_false] at hh
 rcases hh with rfl | rfl | rfl | rfl | rfl <;> decide
theorem part_sz {n d : Nat} (hd : 0 < d) (h1 : n < 10000) (h2 : d < 10000) : (ofR (n : Int) (d : Int)).num.size ≤ 9223372036854775807 ∧ (ofR (n : Int) (d : Int)).den.size ≤ 9223372036854775807 := by
 rw [ofR_nat n d hd]
 unfold lowR
 have q1 := decT_4 (n := n / Nat.gcd n d) (Nat.lt_of_le_of_lt (Nat.div_le_self _ _) h1)
 have q2 := decT_4 (n := d / Nat.gcd n d) (Nat.lt_of_le_of_lt (Nat.div_le_self _ _) h2)
 exact ⟨by simp only; omega, by simp only; omega⟩
include hT
set_option maxRecDepth 100000 in
set_option maxHeartbeats 8000000 in
theorem head_a : PureA Tryz.prog base 10 [] (boA true) := by
 have sm := small_ex
 have jm := joint_ex
 have a1 := at_b (base := base) hT [hd1, hd2] 5 (fun h hh => sm h (by simp only [List.mem_cons, List.not_mem_nil, or_false] at hh ⊢; rcases hh with h | h <;> simp [h])) (fun h hh => jm h (by simp only [List.mem_cons, List.not_mem_nil, or_false] at hh ⊢; rcases hh with h | h <;> simp [h])) (by simp)
 have a2 := at_b (base := base) hT [hdN] 5 (fun h hh => sm h (by simp at hh; simp [hh])) (fun h hh => jm h (by simp at hh; simp [hh])) (by simp)
 have a3 := at_b (base := base) hT [hdL6] 5 (fun h hh => sm h (by simp at hh; simp [hh])) (fun h hh => jm h (by simp at hh; simp [hh])) (by simp)
 have a4 := put_a (base := base) [hd1] hd3 (fun h hh => sm h (by simp at hh; simp [hh])) (sm _ (by simp)) (fun h hh => jm h (by simp at hh; simp [hh])) (jm _ (by simp)) (by simp)
 rw [at12.1, at12.2] at a1
 rw [putZ] at a4
 rw [atL.1, atL.2] at a3
 have o1 := lof_a hT 3 5 (by decide) (by decide) (by decide) (by decide)
 have o2 := lof_a hT 3 20 (by decide) (by decide) (by decide) (by decide)
 have z1 : (ofR 3 5).num.size ≤ 9223372036854775807 ∧ (ofR 3 5).den.size ≤ 9223372036854775807 := part_sz (n := 3) (d := 5) (by decide) (by decide) (by decide)
 have z2 : (ofR 3 20).num.size ≤ 9223372036854775807 ∧ (ofR 3 20).den.size ≤ 9223372036854775807 := part_sz (n := 3) (d := 20) (by decide) (by decide) (by decide)
 have hN := atN
 have s0 := sound12
 generalize ofR 3 5 = r1 at *
 generalize ofR 3 20 = r2 at *
 have s1 := sound_a hT ⟨[nmA, nmP, nmQ, nmR], [⟨0, 1, r1⟩, ⟨0, 2, r2⟩, ⟨0, 3, r2⟩], [⟨0, 1, r1⟩]⟩ (by simp) (fun t ht => by simp only [List.mem_cons, List.not_mem_nil, or_false] at ht; rcases ht with rfl | rfl | rfl | rfl <;> decide) (by simp) (by simp) (fun x hx => by simp only [List.mem_cons, List.not_mem_nil, or_false] at hx; rcases hx with rfl | rfl | rfl; exact z1; exact z2; exact z2) (fun x hx => by simp only [List.mem_cons, List.not_mem_nil, or_false] at hx; subst hx; exact z1)
 rw [s0] at s1
 have e1 := same_a base ⟨[nmA, nmP, nmQ, nmR], [⟨0, 1, r1⟩, ⟨0, 2, r2⟩, ⟨0, 3, r2⟩], [⟨0, 1, r1⟩]⟩ ⟨[nmA, nmP, nmQ, nmR], [⟨0, 1, r1⟩, ⟨0, 2, r2⟩, ⟨0, 3, r2⟩], [⟨0, 1, r1⟩]⟩ (by simp) (by simp) (by simp) (by simp) (by simp) (by simp)
 have e2 := slinks_a base [⟨0, 2, r1⟩] [⟨0, 2, r1⟩] (by simp) (by simp)
 have e3 := slinks_a base [⟨0, 3, r1⟩] [⟨0, 3, r1⟩] (by simp) (by simp)
 have e4 := texts_a base [nmA, nmP] [nmA, nmP] (by simp) (by simp)
 rw [decide_eq_true rfl] at e1 e2 e3 e4
 generalize atS [hdN] 5 = S2 at a2 hN
 obtain ⟨p2, c2, v2⟩ := S2
 simp only at hN
 obtain ⟨rfl, rfl, hN⟩ := hN
 rw [hN] at a2
 clear hN sm jm z1 z2 s0
 obtain ⟨rn, ru, rd⟩ := r1
 obtain ⟨qn, qu, qd⟩ := r2
 have a1 := a1.leArg (args := [.d (.sl 10 [hdC0 hd1, hdC hd2]), iA 5]) ⟨LeA.sl ⟨hdC0_le rfl, LePL.refl _, trivial⟩, .refl _, trivial⟩
 have a2 := a2.leArg (args := [.d (.sl 10 [hdC0 hdN]), iA 5]) ⟨LeA.sl ⟨hdC0_le rfl, trivial⟩, .refl _, trivial⟩
 have a3 := a3.leArg (args := [.d (.sl 10 [hdC0 hdL6]), iA 5]) ⟨LeA.sl ⟨hdC0_le rfl, trivial⟩, .refl _, trivial⟩
 have a4 := a4.leArg (args := [.d (.sl 10 [hdC0 hd1]), .agg [tA hd3.id, tA hd3.company, tA hd3.holder, tA hd3.nominee, tA hd3.pledged, .d (.v (.slice none 0 0)), iA hd3.capital, iA hd3.votes, iA hd3.fr, iA hd3.til]]) ⟨LeA.sl ⟨hdC0_le rfl, trivial⟩, LeA.agg ⟨.refl _, .refl _, .refl _, .refl _, .refl _, .nil 1, .refl _, .refl _, .refl _, .refl _, trivial⟩, trivial⟩
 simp only [strA, strL, strsP, lklP, lkP, ratA, hdsP, List.map_cons, List.map_nil, iA, tA, boA, hdC0, hdC, hd1, hd2, hd3, hdN, hdL6, nmA, nmP, nmQ, nmR, nmZ] at a1 a2 a3 a4 o1 o2 s1 e1 e2 e3 e4 ⊢
 refine pure_enter ttOk Tryz.call10 Tryz.func10 rfl fun H hB hb hF => ?_
 rw [Tryz.results10, Tryz.ntmps10]
 simp only [arr_list, List.length_cons, List.length_nil, List.replicate, List.cons_append, List.nil_append, Nat.reduceAdd, Nat.reduceSub]
 clear hF hb
 repeat refine aw_seq ?_
 refine zr ttOk ?_
 repeat (refine aops_cons ?_; first | (apply aops_o; rfl; simp only [estep, avs, tts, seval] <;> exact rr) | (refine zg rfl ?_; first | refine grd_on ?_ | refine zo ?_))
 refine aops_nil ?_
 repeat refine aw_seq ?_
 refine zr ttOk ?_
 repeat (refine aops_cons ?_; first | (apply aops_o; rfl; simp only [estep, avs, tts, seval] <;> exact rr) | (refine zg rfl ?_; first | refine grd_on ?_ | refine zo ?_))
 refine aops_nil ?_
 repeat refine aw_seq ?_
 refine zr ttOk ?_
 repeat (refine aops_cons ?_; first | (apply aops_o; rfl; simp only [estep, avs, tts, seval] <;> exact rr) | (refine zg rfl ?_; first | refine grd_on ?_ | refine zo ?_))
 refine aops_nil ?_
 refine aw_frzB (H.length + 1) (H.length + 2) (by omega) (by simp only [avs] <;> rfl) (by simp only [avs, tts, Nat.reduceAdd, Nat.reduceMul, Nat.reduceSub, Nat.reduceEqDiff, Nat.reduceLT, Nat.reduceLeDiff, Int.reduceToNat, Int.reduceLE, Int.reduceLT, Int.toNat_natCast, reduceCtorEq, frzL, frzA, frzO, unI_dI, dI_len, unI, unL, Nat.add_eq_left, Nat.left_eq_add, Nat.one_ne_zero] <;> rfl) (by simp only [avs, tts, Nat.reduceAdd, Nat.reduceMul, Nat.reduceSub, Nat.reduceEqDiff, Nat.reduceLT, Nat.reduceLeDiff, Int.reduceToNat, Int.reduceLE, Int.reduceLT, Int.toNat_natCast, reduceCtorEq, frzL, frzA, frzO, unI_dI, dI_len, unI, unL, Nat.add_eq_left, Nat.left_eq_add, Nat.one_ne_zero] <;> rfl) (by simp only [avs, tts, Nat.reduceAdd, Nat.reduceMul, Nat.reduceSub, Nat.reduceEqDiff, Nat.reduceLT, Nat.reduceLeDiff, Int.reduceToNat, Int.reduceLE, Int.reduceLT, Int.toNat_natCast, reduceCtorEq, frzL, frzA, frzO, unI_dI, dI_len, unI, unL, Nat.add_eq_left, Nat.left_eq_add, Nat.one_ne_zero] <;> rfl) ?_
 repeat' (first | (refine aops_cons ?_; first | (refine zg rfl ?_; first | refine grd_on ?_ | refine zo ?_ | (refine zs ?_ ?_ <;> intro hb <;> ((try simp only [bn] at hb); first | subst hb | simp only [hb]))) | (apply aops_o; rfl; simp only [estep, avs, tts, seval] <;> exact rr)) | refine aops_nil ?_ | (refine ahops_cons ?_; first | (refine yg rfl ?_; first | refine hgrd_on ?_ | refine yo ?_ | (refine ys ?_ ?_ <;> intro hb <;> ((try simp only [bn] at hb); first | subst hb | simp only [hb]))) | (apply ahops_o; rfl; simp only [hstep, avs, tts, seval] <;> exact rr; first | trivial | omega)) | refine ahops_nil ?_ | refine aw_seq ?_ | refine zr ttOk ?_ | refine zR 0 ttOk mixed ?_ | refine zR 1 ttOk mixed ?_ | refine zR 2 ttOk mixed ?_ | refine zR 3 ttOk mixed ?_ | refine zf rfl rfl ?_ | refine zt rfl rfl ?_ | (refine aw_cond rfl rfl ?_ ?_ <;> intro hb <;> ((try simp only [bn] at hb); first | subst hb | simp only [hb])) | refine aw_skip ?_ | refine aw_exit ?_ | refine aw_block ?_)
 refine aops_cons ?_
 refine aops_at rfl (by simp only [avs] <;> rfl) ?_
 refine at_f ((H.length + 3)) (by simp only [avs, tts, seval, frzL, frzA, frzO, unI_dI, dI_len, unI, unL, Nat.add_eq_left, Nat.left_eq_add, Nat.one_ne_zero] <;> rfl) (by simp only [avs, tts, seval, frzL, frzA, frzO, unI_dI, dI_len, unI, unL, Nat.add_eq_left, Nat.left_eq_add, Nat.one_ne_zero] <;> rfl) (a1) (by simp only [avs] <;> rfl) ?_
 repeat' (first | (refine aops_cons ?_; first | (refine zg rfl ?_; first | refine grd_on ?_ | refine zo ?_ | (refine zs ?_ ?_ <;> intro hb <;> ((try simp only [bn] at hb); first | subst hb | simp only [hb]))) | (apply aops_o; rfl; simp only [estep, avs, tts, seval] <;> exact rr) | (refine za rfl ?_; first | refine zp (o1) ?_ | refine zp (o2) ?_ | refine zp (e1) ?_)) | refine aops_nil ?_ | (refine ahops_cons ?_; first | (refine yg rfl ?_; first | refine hgrd_on ?_ | refine yo ?_ | (refine ys ?_ ?_ <;> intro hb <;> ((try simp only [bn] at hb); first | subst hb | simp only [hb]))) | (apply ahops_o; rfl; simp only [hstep, avs, tts, seval] <;> exact rr; first | trivial | omega) | (refine ya rfl ?_; first | refine yp (o1) ?_ | refine yp (o2) ?_ | refine yp (e1) ?_)) | refine ahops_nil ?_ | refine aw_seq ?_ | refine zr ttOk ?_ | refine zR 0 ttOk mixed ?_ | refine zR 1 ttOk mixed ?_ | refine zR 2 ttOk mixed ?_ | refine zR 3 ttOk mixed ?_ | refine zf rfl rfl ?_ | refine zt rfl rfl ?_ | (refine aw_cond rfl rfl ?_ ?_ <;> intro hb <;> ((try simp only [bn] at hb); first | subst hb | simp only [hb])) | refine aw_skip ?_ | refine aw_exit ?_ | refine aw_block ?_)
 refine aops_cons ?_
 refine aops_at rfl (by simp only [avs] <;> rfl) ?_
 refine at_f ((H.length + 9)) (by simp only [avs, tts, seval, frzL, frzA, frzO, unI_dI, dI_len, unI, unL, Nat.add_eq_left, Nat.left_eq_add, Nat.one_ne_zero] <;> rfl) (by simp only [avs, tts, seval, frzL, frzA, frzO, unI_dI, dI_len, unI, unL, Nat.add_eq_left, Nat.left_eq_add, Nat.one_ne_zero] <;> rfl) (a2) (by simp only [avs] <;> rfl) ?_
 repeat' (first | (refine aops_cons ?_; first | (refine zg rfl ?_; first | refine grd_on ?_ | refine zo ?_ | (refine zs ?_ ?_ <;> intro hb <;> ((try simp only [bn] at hb); first | subst hb | simp only [hb]))) | (apply aops_o; rfl; simp only [estep, avs, tts, seval] <;> exact rr) | (refine za rfl ?_; first | refine zp (o1) ?_ | refine zp (e2) ?_ | refine zp (e3) ?_)) | refine aops_nil ?_ | (refine ahops_cons ?_; first | (refine yg rfl ?_; first | refine hgrd_on ?_ | refine yo ?_ | (refine ys ?_ ?_ <;> intro hb <;> ((try simp only [bn] at hb); first | subst hb | simp only [hb]))) | (apply ahops_o; rfl; simp only [hstep, avs, tts, seval] <;> exact rr; first | trivial | omega) | (refine ya rfl ?_; first | refine yp (o1) ?_ | refine yp (e2) ?_ | refine yp (e3) ?_)) | refine ahops_nil ?_ | refine aw_seq ?_ | refine zr ttOk ?_ | refine zR 0 ttOk mixed ?_ | refine zR 1 ttOk mixed ?_ | refine zR 2 ttOk mixed ?_ | refine zR 3 ttOk mixed ?_ | refine zf rfl rfl ?_ | refine zt rfl rfl ?_ | (refine aw_cond rfl rfl ?_ ?_ <;> intro hb <;> ((try simp only [bn] at hb); first | subst hb | simp only [hb])) | refine aw_skip ?_ | refine aw_exit ?_ | refine aw_block ?_)
 refine aops_cons ?_
 refine aops_at rfl (by simp only [avs] <;> rfl) ?_
 refine at_f ((H.length + 14)) (by simp only [avs, tts, seval, frzL, frzA, frzO, unI_dI, dI_len, unI, unL, Nat.add_eq_left, Nat.left_eq_add, Nat.one_ne_zero] <;> rfl) (by simp only [avs, tts, seval, frzL, frzA, frzO, unI_dI, dI_len, unI, unL, Nat.add_eq_left, Nat.left_eq_add, Nat.one_ne_zero] <;> rfl) (a3) (by simp only [avs] <;> rfl) ?_
 repeat' (first | (refine aops_cons ?_; first | (refine zg rfl ?_; first | refine grd_on ?_ | refine zo ?_ | (refine zs ?_ ?_ <;> intro hb <;> ((try simp only [bn] at hb); first | subst hb | simp only [hb]))) | (apply aops_o; rfl; simp only [estep, avs, tts, seval] <;> exact rr)) | refine aops_nil ?_ | (refine ahops_cons ?_; first | (refine yg rfl ?_; first | refine hgrd_on ?_ | refine yo ?_ | (refine ys ?_ ?_ <;> intro hb <;> ((try simp only [bn] at hb); first | subst hb | simp only [hb]))) | (apply ahops_o; rfl; simp only [hstep, avs, tts, seval] <;> exact rr; first | trivial | omega)) | refine ahops_nil ?_ | refine aw_seq ?_ | refine zr ttOk ?_ | refine zR 0 ttOk mixed ?_ | refine zR 1 ttOk mixed ?_ | refine zR 2 ttOk mixed ?_ | refine zR 3 ttOk mixed ?_ | refine zf rfl rfl ?_ | refine zt rfl rfl ?_ | (refine aw_cond rfl rfl ?_ ?_ <;> intro hb <;> ((try simp only [bn] at hb); first | subst hb | simp only [hb])) | refine aw_skip ?_ | refine aw_exit ?_ | refine aw_block ?_)
 refine aops_cons ?_
 refine aops_at rfl (by simp only [avs] <;> rfl) ?_
 refine at_f ((H.length + 16)) (by simp only [avs, tts, seval, frzL, frzA, frzO, unI_dI, dI_len, unI, unL, Nat.add_eq_left, Nat.left_eq_add, Nat.one_ne_zero] <;> rfl) (by simp only [avs, tts, seval, frzL, frzA, frzO, unI_dI, dI_len, unI, unL, Nat.add_eq_left, Nat.left_eq_add, Nat.one_ne_zero] <;> rfl) (a4) (by simp only [avs] <;> rfl) ?_
 repeat' (first | (refine aops_cons ?_; first | (refine zg rfl ?_; first | refine grd_on ?_ | refine zo ?_ | (refine zs ?_ ?_ <;> intro hb <;> ((try simp only [bn] at hb); first | subst hb | simp only [hb]))) | (apply aops_o; rfl; simp only [estep, avs, tts, seval] <;> exact rr)) | refine aops_nil ?_ | (refine ahops_cons ?_; first | (refine yg rfl ?_; first | refine hgrd_on ?_ | refine yo ?_ | (refine ys ?_ ?_ <;> intro hb <;> ((try simp only [bn] at hb); first | subst hb | simp only [hb]))) | (apply ahops_o; rfl; simp only [hstep, avs, tts, seval] <;> exact rr; first | trivial | omega)) | refine ahops_nil ?_ | refine aw_seq ?_ | refine zr ttOk ?_ | refine zR 0 ttOk mixed ?_ | refine zR 1 ttOk mixed ?_ | refine zR 2 ttOk mixed ?_ | refine zR 3 ttOk mixed ?_ | refine zf rfl rfl ?_ | refine zt rfl rfl ?_ | (refine aw_cond rfl rfl ?_ ?_ <;> intro hb <;> ((try simp only [bn] at hb); first | subst hb | simp only [hb])) | refine aw_skip ?_ | refine aw_exit ?_ | refine aw_block ?_)
 refine aops_cons ?_
 refine aops_at rfl (by simp only [avs] <;> rfl) ?_
 refine at_v (e4) (by simp only [avs, tts, seval, viewA.eq_def, viewL.eq_def, unI_dI, dI_len] <;> rfl) rfl (by simp only [avs] <;> rfl) ?_
 repeat' (first | (refine aops_cons ?_; first | (refine zg rfl ?_; first | refine grd_on ?_ | refine zo ?_ | (refine zs ?_ ?_ <;> intro hb <;> ((try simp only [bn] at hb); first | subst hb | simp only [hb]))) | (apply aops_o; rfl; simp only [estep, avs, tts, seval] <;> exact rr) | (refine za rfl ?_; refine zp (s1) ?_)) | refine aops_nil ?_ | (refine ahops_cons ?_; first | (refine yg rfl ?_; first | refine hgrd_on ?_ | refine yo ?_ | (refine ys ?_ ?_ <;> intro hb <;> ((try simp only [bn] at hb); first | subst hb | simp only [hb]))) | (apply ahops_o; rfl; simp only [hstep, avs, tts, seval] <;> exact rr; first | trivial | omega) | (refine ya rfl ?_; refine yp (s1) ?_)) | refine ahops_nil ?_ | refine aw_seq ?_ | refine zr ttOk ?_ | refine zR 0 ttOk mixed ?_ | refine zR 1 ttOk mixed ?_ | refine zR 2 ttOk mixed ?_ | refine zR 3 ttOk mixed ?_ | refine zf rfl rfl ?_ | refine zt rfl rfl ?_ | (refine aw_cond rfl rfl ?_ ?_ <;> intro hb <;> ((try simp only [bn] at hb); first | subst hb | simp only [hb])) | refine aw_skip ?_ | refine aw_exit ?_ | refine aw_block ?_)
 simp only [decide_true, if_true]
 show AW _ _ _ _ _
 exact aw_ret ⟨_, rfl, _, rfl, rfl⟩
end
end Av
end Go.Proofs.YtdekcppfpgeneaaGreatDoor
set_option linter.unusedVariables false
set_option linter.unusedSimpArgs false
namespace Go.Proofs.YtdekcppfpgeneaaGreatDoor
open Go Go.RowKit
namespace Av
open Nt Rg

/-! The statement's arguments: registers and structures out of any wide value. -/
def rowSt (w : World) : St := ⟨fun _ => none, [], w⟩
theorem rowSt_imm (w : World) (b : Nat) (h : b < w.heap.size) : (rowSt w).imm b := ⟨h, fun ⟨l, o, h1, _⟩ => by simp [rowSt] at h1⟩
theorem rowSt_sim (w : World) : Sim w (rowSt w) := ⟨Below.refl _ _, fun l o h => by simp [rowSt] at h, fun l l' o o' b h => by simp [rowSt] at h⟩
def HdsIn (w : World) (v : Value) (l : List Hd) : Prop := Rep (rowSt w) (.d (hdsP l)) v
def ptHd : List PT := [.s, .s, .s, .s, .s, .sl [.s], .i .i64, .i .i64, .i .i64, .i .i64]
theorem fits_hd {ps : List PD} (h : fitsL ptHd ps) : ∃ x : Hd, ps = hdC x := by
 obtain ⟨p1, r1, rfl, h1, k1⟩ := fits_cons h
 obtain ⟨a1, rfl⟩ := fits_s h1
 obtain ⟨p2, r2, rfl, h2, k2⟩ := fits_cons k1
 obtain ⟨a2, rfl⟩ := fits_s h2
 obtain ⟨p3, r3, rfl, h3, k3⟩ := fits_cons k2
 obtain ⟨a3, rfl⟩ := fits_s h3
 obtain ⟨p4, r4, rfl, h4, k4⟩ := fits_cons k3
 obtain ⟨a4, rfl⟩ := fits_s h4
 obtain ⟨p5, r5, rfl, h5, k5⟩ := fits_cons k4
 obtain ⟨a5, rfl⟩ := fits_s h5
 obtain ⟨p6, r6, rfl, h6, k6⟩ := fits_cons k5
 obtain ⟨a6, rfl⟩ := fits_strs h6
 obtain ⟨p7, r7, rfl, h7, k7⟩ := fits_cons k6
 obtain ⟨a7, rfl⟩ := fits_i h7
 obtain ⟨p8, r8, rfl, h8, k8⟩ := fits_cons k7
 obtain ⟨a8, rfl⟩ := fits_i h8
 obtain ⟨p9, r9, rfl, h9, k9⟩ := fits_cons k8
 obtain ⟨a9, rfl⟩ := fits_i h9
 obtain ⟨p10, r10, rfl, h10, k10⟩ := fits_cons k9
 obtain ⟨a10, rfl⟩ := fits_i h10
 exact ⟨⟨a1, a2, a3, a4, a5, a6, a7, a8, a9, a10⟩, by rw [fits_nil k10]; rfl⟩
set_option maxRecDepth 100000 in
theorem open_hds {H : Type} {enc : TypeId × Value → H} {w : World} {b0 : Nat} {v : Value} {d : DataW H} {p : List MemPlace} (hv : Value.okWide Tryz.prog w .any b0 26 v) (h : DataW.Trod enc Tryz.prog w 0 (fun _ => true) true 26 v d p) :
  ∃ l, HdsIn w v l := by
 obtain ⟨a, n, c, rfl⟩ := Go.WideShapes.okWide_slice Tryz.underlying26 hv
 obtain ⟨n, hn⟩ := h
 obtain ⟨ps, h1, h2⟩ := open_pd (s := rowSt w) rfl (rowSt_imm w) n 8 26 _ _ [.sl ptHd] (by kernel_rfl) hn
 obtain ⟨p, r, rfl, h3, h4⟩ := fits_cons h1
 have h5 := fits_nil h4
 subst h5
 obtain ⟨l, rfl, hl⟩ := fits_sl h3
 obtain ⟨xs, rfl⟩ := list_of (f := hdC) (l := l) fun it hi => fits_hd (hl it hi)
 refine ⟨xs, ?_⟩
 simp only [dL, List.map_cons, List.map_nil, RepL] at h2
 obtain ⟨x, t, e, h6, rfl⟩ := h2
 simp only [Value.cells] at e
 cases e
 exact h6
theorem calls_of_a {P : Program} {w : World} {f : FuncId} {args : List AV} {vs : Array Value} {R : AV → AHeap → Prop} (h : CallsA P w f args [] R) (ha : RepL (rowSt w) args vs.toList) (hR : ∀ r H', R r H' → r = .d (.v (.bool true))) :
  Calls P f vs w fun e w' => e = .returned (.bool true) ∧ Below w.heap.size w w' := by
 refine (h.run (fun _ => none) w vs (rowSt_sim w) ha).mono fun e w' ⟨v, r, H', μ', h1, h2, h3, h4, h5, h6⟩ => ?_
 rw [hR r H' h2] at h5
 simp only [Rep, PRep] at h5
 exact ⟨by rw [h1, h5.1], h4.below⟩
theorem rep_i (w : World) {n : Int} (h0 : -9223372036854775808 ≤ n) (h1 : n ≤ 9223372036854775807) : Rep (rowSt w) (iA n) (.int .i64 n) := by
 simp only [iA, Rep, PRep, true_and, small, IntKind.min, IntKind.max, IntKind.signed, IntKind.bits]
 (try simp)
 omega
theorem rep_w (w : World) {n : Int} (h : (Lit.int .i64 n).wf = true) : Rep (rowSt w) (iA n) (.int .i64 n) := by
 simp only [Lit.wf, Bool.and_eq_true, decide_eq_true_eq, IntKind.min, IntKind.max, IntKind.signed, IntKind.bits] at h
 (try simp at h)
 exact rep_i w (by omega) (by omega)
theorem rep_t (w : World) {t : ByteArray} (h : t.size ≤ maxLen) : Rep (rowSt w) (tA t) (.string t) := by
 simp only [tA, Rep, PRep, small]; refine ⟨trivial, ?_⟩; unfold maxLen at h; omega
end Av
end Go.Proofs.YtdekcppfpgeneaaGreatDoor
set_option linter.unusedVariables false
namespace Go.Proofs.YtdekcppfpgeneaaGreatDoor
open Go Go.RowKit

def bru64 : List Int := [0, 1, 56, 2, 57, 49, 28, 3, 61, 58, 42, 50, 38, 29, 17, 4, 62, 47, 59, 36, 45, 43, 51, 22, 53, 39, 33, 30, 24, 18, 12, 5, 63, 55, 48, 27, 60, 41, 37, 16, 46, 35, 44, 21, 52, 32, 23, 11, 54, 26, 40, 15, 34, 20, 31, 10, 25, 14, 19, 9, 13, 8, 7, 6]
theorem tabs_of {W : World} {rest : List (String × DataW Unit)} (h : laidMet Tryz.prog (("math/bits.deBruijn32tab", Rows.laid_math_bits_deBruijn32tab) :: ("math/bits.deBruijn64tab", Rows.laid_math_bits_deBruijn64tab) :: ("internal/strconv.uint64pow10", Rows.laid_internal_strconv_uint64pow10) :: rest) W) : Tabs W := by
 have h1 : laidMet Tryz.prog (("math/bits.deBruijn64tab", Lib.tabData .u8 bru64) :: ("internal/strconv.uint64pow10", Lib.tabData .u64 Lib.pow10Tab) :: rest) W := laidMet.tail h
 have t1 := Lib.tabIs_of_head (g := 6) (t := 250) (e := 5) (n := 64) (by kernel_rfl) (by kernel_rfl) (by kernel_rfl) (by kernel_rfl) (by kernel_rfl) (by kernel_rfl) h1
 have t2 := Lib.tabIs_of_head (g := 2) (t := 225) (e := 167) (n := 20) (by kernel_rfl) (by kernel_rfl) (by kernel_rfl) (by kernel_rfl) (by kernel_rfl) (by kernel_rfl) (laidMet.tail h1)
 have hc := t1.cell (g := 6) (by kernel_rfl) 15 (by decide)
 refine ⟨t2, hc, ?_⟩
 rcases Nat.lt_or_ge 6 W.heap.size with h' | h'
 ·exact h'
 ·rw [World.cell?, Array.getElem?_eq_none h'] at hc
  cases hc
end Go.Proofs.YtdekcppfpgeneaaGreatDoor
set_option linter.unusedVariables false
set_option linter.unusedSimpArgs false
namespace Go.Proofs.YtdekcppfpgeneaaGreatDoor
open Go Go.RowKit
namespace Rg
open Av Nt
theorem shareK_fold_len (ix : ByteArray → Int) (day : Int) (pc : Hd → Int) (who : Hd → List ByteArray) : ∀ (l : List Hd) (s : KSt), (∀ h ∈ l, (who h).length ≤ 1001) → (l.foldl (shrK pc who ix day) s).1.length ≤ s.1.length + 1001 * l.length
 | [], s, _ => by simp
 | h :: r, s, hw => by
  have h1 := shareK_fold_len ix day pc who r (shrK pc who ix day s h) fun x hx => hw x (List.mem_cons_of_mem _ hx)
  have h2 := hw h (List.mem_cons_self ..)
  have h3 : (shrK pc who ix day s h).1.length ≤ s.1.length + 1001 := by
   unfold shrK
   split
   ·have := shareK_len ix h.company (pc h) (who h) s; omega
   ·omega
  rw [List.foldl_cons, List.length_cons]; omega
theorem lnkS_len (s : KSt) : (lnkS s).length = s.1.length := by unfold lnkS; rw [List.length_map]; exact (sortK_perm _).length_eq
structure Short (s : Str) : Prop where
 p : s.parties.length ≤ 1000000
 c : s.capital.length ≤ 1000000
 v : s.votes.length ≤ 1000000
theorem atS_short {l : List Hd} (day : Int) (hj : ∀ h ∈ l, h.joint.length ≤ 1000) (hl : l.length ≤ 900) : Short (atS l day) := by
 unfold atS
 cases hv : validB l && dayB day with
 | false => exact ⟨by simp, by simp, by simp⟩
 | true =>
  simp only [Bool.and_eq_true] at hv
  have := (valid_all hv.1).2
  have hc := shareK_fold_len (ixS (partiesS l)) day Hd.capital whoC l nilK fun h hh => whoC_len (hj h hh)
  have hvv := shareK_fold_len (ixS (partiesS l)) day Hd.votes whoV l nilK fun h hh => whoV_len (hj h hh)
  rw [show nilK.1.length = 0 from rfl] at hc hvv
  simp only [if_true]
  exact ⟨by simp only; omega, by simp only [lnkS_len]; unfold capK; rw [stC_shr]; omega, by simp only [lnkS_len]; unfold votK; rw [stV_shr]; omega⟩
end Rg
namespace Av
attribute [local irreducible] AW AOps AHOps
open Nt Rg

/-! RegisterOrder. -/
section
variable {base : World} (hT : Tabs base)
include hT
end
end Av
end Go.Proofs.YtdekcppfpgeneaaGreatDoor
set_option linter.unusedVariables false
set_option linter.unusedSimpArgs false
namespace Go.Proofs.YtdekcppfpgeneaaGreatDoor
open Go Go.RowKit
namespace Rg
open Av Nt
theorem id_unique {l : List Hd} (hn : (l.map Hd.id).Nodup) {a b : Hd} (ha : a ∈ l) (hb : b ∈ l) (e : a.id = b.id) : a = b := by
 obtain ⟨i, hi, rfl⟩ := List.getElem_of_mem ha
 obtain ⟨j, hj, rfl⟩ := List.getElem_of_mem hb
 have hp := List.pairwise_iff_getElem.1 hn
 rcases Nat.lt_trichotomy i j with h | h | h
 ·exact absurd (by rw [List.getElem_map, List.getElem_map]; exact e) (hp i j (by simpa using hi) (by simpa using hj) h)
 ·subst h; rfl
 ·exact absurd (by rw [List.getElem_map, List.getElem_map]; exact e.symm) (hp j i (by simpa using hj) (by simpa using hi) h)
theorem end_ok {l : List Hd} {id : ByteArray} {d : Int} (h : (endS l id d).2 = 0) : validB l = true ∧ Ends l id d ∧ (endS l id d).1 = endL l id d := by
 unfold endS at h ⊢
 cases hv : validB l && dayB d with
 | false => rw [hv] at h; simp at h
 | true =>
  rw [hv] at h
  simp only [if_true] at h ⊢
  simp only [Bool.and_eq_true] at hv
  cases hf : l.find? (fun h => decide (h.id = id)) with
  | none => rw [hf] at h; simp at h
  | some x =>
   rw [hf] at h
   simp only at h ⊢
   by_cases h1 : x.til = -1
   ·rw [if_pos h1] at h ⊢
    by_cases h2 : d ≤ x.fr
    ·rw [if_pos h2] at h; simp at h
    ·rw [if_neg h2]
     have hx := List.mem_of_find?_eq_some hf
     have hxi : x.id = id := by simpa using List.find?_some hf
     have hu : ∀ y ∈ l, y.id = id → y = x := fun y hy e => id_unique (valid_ids hv.1) hy hx (e.trans hxi.symm)
     exact ⟨hv.1, ⟨hv.2, fun y hy e => by rw [hu y hy e]; exact h1, fun y hy e => by rw [hu y hy e]; omega⟩, rfl⟩
   ·rw [if_neg h1] at h; simp at h
theorem atE_ok {l : List Hd} {day : Int} (h : atE l day = 0) : validB l = true ∧ dayB day = true := by
 unfold atE at h
 cases hv : validB l && dayB day with
 | false => rw [hv] at h; simp at h
 | true => simpa using hv
theorem small_end {id : ByteArray} {d : Int} {h : Hd} (hs : Small h) : Small (endH id d h) := by
 unfold endH; split
 ·exact ⟨hs.id, hs.company, hs.holder, hs.nominee, hs.pledged, hs.joint, hs.jlen⟩
 ·exact hs
theorem joint_end (id : ByteArray) (d : Int) (h : Hd) : (endH id d h).joint = h.joint := by unfold endH; split <;> rfl
theorem all_take_succ {α : Type} (p : α → Bool) (l : List α) {k : Nat} (h : k < l.length) : (l.take (k + 1)).all p = ((l.take k).all p && p l[k]) := by
 rw [List.take_add_one, List.getElem?_eq_getElem h, List.all_append]; simp
end Rg
namespace Av
attribute [local irreducible] AW AOps AHOps
open Nt Rg

/-! RegisterTime. -/
section
variable {base : World} (hT : Tabs base)
include hT
set_option maxRecDepth 100000 in
set_option maxHeartbeats 16000000 in
theorem time_a (l : List Hd) (day later : Int) (id : ByteArray) : PureA Tryz.prog base 8 [.d (hdsP l), iA day, iA later, tA id] (boA true) := by
 have hd := head_a hT
 have cf := lfew_a (base := base) l
 obtain ⟨bf, hbf⟩ : ∃ b, fewB 20 l = b := ⟨_, rfl⟩
 rw [hbf] at cf
 obtain ⟨c1, g1⟩ : ∃ c, decide (later < day) = c := ⟨_, rfl⟩
 obtain ⟨c2, g2⟩ : ∃ c, decide ((id.size : Int) > 60) = c := ⟨_, rfl⟩
 by_cases hgo : (bf && (!c1 && !c2)) = true
 ·simp only [Bool.and_eq_true, Bool.not_eq_true'] at hgo
  obtain ⟨rfl, rfl, rfl⟩ := hgo
  obtain ⟨h20, hsm⟩ := few_small hbf
  have hs := fun h hh => (hsm h hh).1
  have hj : ∀ h ∈ l, h.joint.length ≤ 1000 := fun h hh => by have := (hsm h hh).2; omega
  have hle : day ≤ later := by have := of_decide_eq_false g1; omega
  have a1 := at_b (base := base) hT l day hs hj (by omega)
  have a2 := at_b (base := base) hT l later hs hj (by omega)
  have en := end_a base l id later hs hj (by omega)
  have sh1 := atS_short (l := l) day hj (by omega)
  have sh2 := atS_short (l := l) later hj (by omega)
  have s1 := same_a base (atS l day) (atS l later) sh1.p sh2.p sh1.c sh2.c sh1.v sh2.v
  obtain ⟨sb, hsb⟩ : ∃ b, decide (atS l day = atS l later) = b := ⟨_, rfl⟩
  rw [hsb] at s1
  obtain ⟨k1, z1⟩ : ∃ c, decide (atE l day = 0) = c := ⟨_, rfl⟩
  obtain ⟨k2, z2⟩ : ∃ c, decide (atE l later = 0) = c := ⟨_, rfl⟩
  have hq : k1 = true → k2 = true → l.all (quietB day later) = true → sb = true := fun e1 e2 h => by
   subst e1 e2
   have q1 := atE_ok (of_decide_eq_true z1)
   have q2 := atE_ok (of_decide_eq_true z2)
   rw [← hsb]
   exact decide_eq_true (atS_quiet hle h q1.2 q2.2).symm
  obtain ⟨k3, z3⟩ : ∃ c, decide ((endS l id later).2 = 0) = c := ⟨_, rfl⟩
  obtain ⟨k4, z4⟩ : ∃ c, decide (day = later) = c := ⟨_, rfl⟩
  have hm : k1 = true → k3 = true → k4 = false → PureA Tryz.prog base 13 [.d (hdsP (endS l id later).1), iA day] (.tup [strA (atS l day), iA 0]) := fun e1 e3 e4 => by
   subst e1 e3 e4
   obtain ⟨v1, v2, v3⟩ := end_ok (of_decide_eq_true z3)
   have := of_decide_eq_false z4
   have e := atS_end v2 v1 (day := day) (by omega)
   have a3 := at_b (base := base) hT (endL l id later) day (fun h hh => by
    obtain ⟨x, hx, rfl⟩ := List.mem_map.1 hh
    exact small_end (hs x hx)) (fun h hh => by
    obtain ⟨x, hx, rfl⟩ := List.mem_map.1 hh
    rw [joint_end]; exact hj x hx) (by unfold endL; rw [List.length_map]; omega)
   rw [v3]
   rw [e.1, e.2, of_decide_eq_true z1] at a3
   exact a3
  have s2 := same_a base (atS l day) (atS l day) sh1.p sh1.p sh1.c sh1.c sh1.v sh1.v
  rw [decide_eq_true rfl] at s2
  clear sh1 sh2 hsb hbf hsm hs g1
  refine pure_enter ttOk Tryz.call8 Tryz.func8 rfl fun H hB hb hF => ?_
  rw [Tryz.results8, Tryz.ntmps8]
  simp only [arr_list, List.length_cons, List.length_nil, List.replicate, List.cons_append, List.nil_append, Nat.reduceAdd, Nat.reduceSub]
  clear hF hb
  have la := hds_len l
  generalize (endS l id later).1 = M at *
  generalize (endS l id later).2 = g at *
  generalize atS l day = S1 at *
  generalize atS l later = S2 at *
  generalize atE l day = E1 at *
  generalize atE l later = E2 at *
  obtain ⟨sp, sc, sv⟩ := S1
  obtain ⟨sp2, sc2, sv2⟩ := S2
  simp only [hdsP, iA, tA, boA, strA, strL] at cf hd a1 a2 s1 s2 en hm ⊢
  have g1 : decide (later < day) = false := decide_eq_false (by omega)
  repeat' (first | (refine aops_cons ?_; first | (refine zg rfl ?_; first | refine grd_on ?_ | refine zo ?_ | (refine zs ?_ ?_ <;> intro hb <;> ((try simp only [bn] at hb); first | subst hb | simp only [hb]))) | (apply aops_o; rfl; simp only [estep, avs, tts, seval, g1, g2, z1, z2, Bool.not_true, Bool.not_false] <;> exact rr) | (refine za rfl ?_; first | refine zp (hd) ?_ | refine zp (cf) ?_ | refine zp (a1) ?_ | refine zp (a2) ?_)) | refine aops_nil ?_ | (refine ahops_cons ?_; first | (refine yg rfl ?_; first | refine hgrd_on ?_ | refine yo ?_ | (refine ys ?_ ?_ <;> intro hb <;> ((try simp only [bn] at hb); first | subst hb | simp only [hb]))) | (apply ahops_o; rfl; simp only [hstep, avs, tts, seval, g1, g2, z1, z2, Bool.not_true, Bool.not_false] <;> exact rr; first | trivial | omega) | (refine ya rfl ?_; first | refine yp (hd) ?_ | refine yp (cf) ?_ | refine yp (a1) ?_ | refine yp (a2) ?_)) | refine ahops_nil ?_ | refine aw_seq ?_ | refine zr ttOk ?_ | refine zR 0 ttOk mixed ?_ | refine zR 1 ttOk mixed ?_ | refine zR 2 ttOk mixed ?_ | refine zR 3 ttOk mixed ?_ | refine zf rfl rfl ?_ | refine zt rfl rfl ?_ | (refine aw_cond rfl rfl ?_ ?_ <;> intro hb <;> ((try simp only [bn] at hb); first | subst hb | simp only [hb])) | refine aw_skip ?_ | refine aw_exit ?_ | refine aw_block ?_)
  all_goals try
   (show AW _ _ _ _ _; refine aw_ret ⟨_, rfl, _, rfl, ?_⟩; rfl)
  have hq := hq rfl rfl
  have hm := hm rfl
  clear a1 a2 cf hd z1 z2
  refine aw_loop (H0 := H ++ [.box 25 [.d (strsP sp), .d (lklP sc), .d (lklP sv)], .box 25 [.d (strsP sp2), .d (lklP sc2), .d (lklP sv2)]]) (fun n env K => ∃ (k : Nat) (b : Bool), n = l.length - k ∧ k ≤ l.length ∧ (l.take k).all (quietB day later) = b ∧ K = H ++ [.box 25 [.d (strsP sp), .d (lklP sc), .d (lklP sv)], .box 25 [.d (strsP sp2), .d (lklP sc2), .d (lklP sv2)]] ∧ env = (.d (.sl 10 (l.map hdC)) :: .d (.v (.int .i64 day)) :: .d (.v (.int .i64 later)) :: .d (.v (.string id)) :: .undef :: .undef :: .undef :: .undef :: .undef :: .d (.v (.bool true)) :: .ptr H.length 0 :: .d (.v (.int .i64 E1)) :: .ptr (H.length + 1) 0 :: .d (.v (.int .i64 E2)) :: .d (.v (.bool b)) :: .d (.v (.int .i64 (k : Int))) :: List.replicate 119 .undef)) ?_ ⟨0, true, rfl, Nat.zero_le _, rfl, rfl, rfl⟩ ?_
  ·exact ⟨by simp [EnvLe, List.replicate], .inl rfl⟩
  rintro n env K ⟨k, b, rfl, hk, hal, rfl, rfl⟩ hN
  simp only [rp]
  obtain ⟨c0, g0⟩ : ∃ c0, decide ((k : Int) < (l.length : Int)) = c0 := ⟨_, rfl⟩
  cases c0 with
  | false =>
   have hkl : k = l.length := by
                  have : ¬ k < l.length := by simpa using g0
                  omega
   subst hkl
   rw [List.take_length] at hal
   have hsb : b = true → sb = true := fun e => hq (hal.trans e)
   clear hq hal
   cases b with
   | false =>
    cases k3 with
    | false =>
     repeat' (first | (refine aops_cons ?_; first | (refine zg rfl ?_; first | refine grd_on ?_ | refine zo ?_ | (refine zs ?_ ?_ <;> intro hb <;> ((try simp only [bn] at hb); first | subst hb | simp only [hb]))) | (apply aops_o; rfl; simp only [estep, avs, tts, seval, g0, la, z3, z4] <;> exact rr) | (refine za rfl ?_; first | refine zp (en) ?_ | refine zp (s1) ?_)) | refine aops_nil ?_ | (refine ahops_cons ?_; first | (refine yg rfl ?_; first | refine hgrd_on ?_ | refine yo ?_ | (refine ys ?_ ?_ <;> intro hb <;> ((try simp only [bn] at hb); first | subst hb | simp only [hb]))) | (apply ahops_o; rfl; simp only [hstep, avs, tts, seval, g0, la, z3, z4] <;> exact rr; first | trivial | omega) | (refine ya rfl ?_; first | refine yp (en) ?_ | refine yp (s1) ?_)) | refine ahops_nil ?_ | refine aw_seq ?_ | refine zr ttOk ?_ | refine zR 0 ttOk mixed ?_ | refine zR 1 ttOk mixed ?_ | refine zR 2 ttOk mixed ?_ | refine zR 3 ttOk mixed ?_ | refine zf rfl rfl ?_ | refine zt rfl rfl ?_ | (refine aw_cond rfl rfl ?_ ?_ <;> intro hb <;> ((try simp only [bn] at hb); first | subst hb | simp only [hb])) | refine aw_skip ?_ | refine aw_exit ?_ | refine aw_block ?_)
     show AW _ _ _ _ _
     exact aw_ret ⟨_, rfl, _, rfl, rfl⟩
    | true =>
    cases k4 with
    | true =>
     repeat' (first | (refine aops_cons ?_; first | (refine zg rfl ?_; first | refine grd_on ?_ | refine zo ?_ | (refine zs ?_ ?_ <;> intro hb <;> ((try simp only [bn] at hb); first | subst hb | simp only [hb]))) | (apply aops_o; rfl; simp only [estep, avs, tts, seval, g0, la, z3, z4] <;> exact rr) | (refine za rfl ?_; first | refine zp (en) ?_ | refine zp (s1) ?_)) | refine aops_nil ?_ | (refine ahops_cons ?_; first | (refine yg rfl ?_; first | refine hgrd_on ?_ | refine yo ?_ | (refine ys ?_ ?_ <;> intro hb <;> ((try simp only [bn] at hb); first | subst hb | simp only [hb]))) | (apply ahops_o; rfl; simp only [hstep, avs, tts, seval, g0, la, z3, z4] <;> exact rr; first | trivial | omega) | (refine ya rfl ?_; first | refine yp (en) ?_ | refine yp (s1) ?_)) | refine ahops_nil ?_ | refine aw_seq ?_ | refine zr ttOk ?_ | refine zR 0 ttOk mixed ?_ | refine zR 1 ttOk mixed ?_ | refine zR 2 ttOk mixed ?_ | refine zR 3 ttOk mixed ?_ | refine zf rfl rfl ?_ | refine zt rfl rfl ?_ | (refine aw_cond rfl rfl ?_ ?_ <;> intro hb <;> ((try simp only [bn] at hb); first | subst hb | simp only [hb])) | refine aw_skip ?_ | refine aw_exit ?_ | refine aw_block ?_)
     show AW _ _ _ _ _
     exact aw_ret ⟨_, rfl, _, rfl, rfl⟩
    | false =>
     have a3 := hm rfl rfl
     repeat' (first | (refine aops_cons ?_; first | (refine zg rfl ?_; first | refine grd_on ?_ | refine zo ?_ | (refine zs ?_ ?_ <;> intro hb <;> ((try simp only [bn] at hb); first | subst hb | simp only [hb]))) | (apply aops_o; rfl; simp only [estep, avs, tts, seval, g0, la, z3, z4, decide_true] <;> exact rr) | (refine za rfl ?_; first | refine zp (en) ?_ | refine zp (s1) ?_ | refine zp (a3) ?_ | refine zp (s2) ?_)) | refine aops_nil ?_ | (refine ahops_cons ?_; first | (refine yg rfl ?_; first | refine hgrd_on ?_ | refine yo ?_ | (refine ys ?_ ?_ <;> intro hb <;> ((try simp only [bn] at hb); first | subst hb | simp only [hb]))) | (apply ahops_o; rfl; simp only [hstep, avs, tts, seval, g0, la, z3, z4, decide_true] <;> exact rr; first | trivial | omega) | (refine ya rfl ?_; first | refine yp (en) ?_ | refine yp (s1) ?_ | refine yp (a3) ?_ | refine yp (s2) ?_)) | refine ahops_nil ?_ | refine aw_seq ?_ | refine zr ttOk ?_ | refine zR 0 ttOk mixed ?_ | refine zR 1 ttOk mixed ?_ | refine zR 2 ttOk mixed ?_ | refine zR 3 ttOk mixed ?_ | refine zf rfl rfl ?_ | refine zt rfl rfl ?_ | (refine aw_cond rfl rfl ?_ ?_ <;> intro hb <;> ((try simp only [bn] at hb); first | subst hb | simp only [hb])) | refine aw_skip ?_ | refine aw_exit ?_ | refine aw_block ?_)
     show AW _ _ _ _ _
     exact aw_ret ⟨_, rfl, _, rfl, rfl⟩
   | true =>
    have e := hsb rfl
    subst e
    cases k3 with
    | false =>
     repeat' (first | (refine aops_cons ?_; first | (refine zg rfl ?_; first | refine grd_on ?_ | refine zo ?_ | (refine zs ?_ ?_ <;> intro hb <;> ((try simp only [bn] at hb); first | subst hb | simp only [hb]))) | (apply aops_o; rfl; simp only [estep, avs, tts, seval, g0, la, z3, z4, Bool.not_true] <;> exact rr) | (refine za rfl ?_; first | refine zp (en) ?_ | refine zp (s1) ?_)) | refine aops_nil ?_ | (refine ahops_cons ?_; first | (refine yg rfl ?_; first | refine hgrd_on ?_ | refine yo ?_ | (refine ys ?_ ?_ <;> intro hb <;> ((try simp only [bn] at hb); first | subst hb | simp only [hb]))) | (apply ahops_o; rfl; simp only [hstep, avs, tts, seval, g0, la, z3, z4, Bool.not_true] <;> exact rr; first | trivial | omega) | (refine ya rfl ?_; first | refine yp (en) ?_ | refine yp (s1) ?_)) | refine ahops_nil ?_ | refine aw_seq ?_ | refine zr ttOk ?_ | refine zR 0 ttOk mixed ?_ | refine zR 1 ttOk mixed ?_ | refine zR 2 ttOk mixed ?_ | refine zR 3 ttOk mixed ?_ | refine zf rfl rfl ?_ | refine zt rfl rfl ?_ | (refine aw_cond rfl rfl ?_ ?_ <;> intro hb <;> ((try simp only [bn] at hb); first | subst hb | simp only [hb])) | refine aw_skip ?_ | refine aw_exit ?_ | refine aw_block ?_)
     show AW _ _ _ _ _
     exact aw_ret ⟨_, rfl, _, rfl, rfl⟩
    | true =>
    cases k4 with
    | true =>
     repeat' (first | (refine aops_cons ?_; first | (refine zg rfl ?_; first | refine grd_on ?_ | refine zo ?_ | (refine zs ?_ ?_ <;> intro hb <;> ((try simp only [bn] at hb); first | subst hb | simp only [hb]))) | (apply aops_o; rfl; simp only [estep, avs, tts, seval, g0, la, z3, z4, Bool.not_true] <;> exact rr) | (refine za rfl ?_; first | refine zp (en) ?_ | refine zp (s1) ?_)) | refine aops_nil ?_ | (refine ahops_cons ?_; first | (refine yg rfl ?_; first | refine hgrd_on ?_ | refine yo ?_ | (refine ys ?_ ?_ <;> intro hb <;> ((try simp only [bn] at hb); first | subst hb | simp only [hb]))) | (apply ahops_o; rfl; simp only [hstep, avs, tts, seval, g0, la, z3, z4, Bool.not_true] <;> exact rr; first | trivial | omega) | (refine ya rfl ?_; first | refine yp (en) ?_ | refine yp (s1) ?_)) | refine ahops_nil ?_ | refine aw_seq ?_ | refine zr ttOk ?_ | refine zR 0 ttOk mixed ?_ | refine zR 1 ttOk mixed ?_ | refine zR 2 ttOk mixed ?_ | refine zR 3 ttOk mixed ?_ | refine zf rfl rfl ?_ | refine zt rfl rfl ?_ | (refine aw_cond rfl rfl ?_ ?_ <;> intro hb <;> ((try simp only [bn] at hb); first | subst hb | simp only [hb])) | refine aw_skip ?_ | refine aw_exit ?_ | refine aw_block ?_)
     show AW _ _ _ _ _
     exact aw_ret ⟨_, rfl, _, rfl, rfl⟩
    | false =>
     have a3 := hm rfl rfl
     repeat' (first | (refine aops_cons ?_; first | (refine zg rfl ?_; first | refine grd_on ?_ | refine zo ?_ | (refine zs ?_ ?_ <;> intro hb <;> ((try simp only [bn] at hb); first | subst hb | simp only [hb]))) | (apply aops_o; rfl; simp only [estep, avs, tts, seval, g0, la, z3, z4, decide_true, Bool.not_true] <;> exact rr) | (refine za rfl ?_; first | refine zp (en) ?_ | refine zp (s1) ?_ | refine zp (a3) ?_ | refine zp (s2) ?_)) | refine aops_nil ?_ | (refine ahops_cons ?_; first | (refine yg rfl ?_; first | refine hgrd_on ?_ | refine yo ?_ | (refine ys ?_ ?_ <;> intro hb <;> ((try simp only [bn] at hb); first | subst hb | simp only [hb]))) | (apply ahops_o; rfl; simp only [hstep, avs, tts, seval, g0, la, z3, z4, decide_true, Bool.not_true] <;> exact rr; first | trivial | omega) | (refine ya rfl ?_; first | refine yp (en) ?_ | refine yp (s1) ?_ | refine yp (a3) ?_ | refine yp (s2) ?_)) | refine ahops_nil ?_ | refine aw_seq ?_ | refine zr ttOk ?_ | refine zR 0 ttOk mixed ?_ | refine zR 1 ttOk mixed ?_ | refine zR 2 ttOk mixed ?_ | refine zR 3 ttOk mixed ?_ | refine zf rfl rfl ?_ | refine zt rfl rfl ?_ | (refine aw_cond rfl rfl ?_ ?_ <;> intro hb <;> ((try simp only [bn] at hb); first | subst hb | simp only [hb])) | refine aw_skip ?_ | refine aw_exit ?_ | refine aw_block ?_)
     show AW _ _ _ _ _
     exact aw_ret ⟨_, rfl, _, rfl, rfl⟩
  | true =>
   have hlt : k < l.length := by simpa using g0
   have hix : (0 : Int) ≤ (k : Int) := by omega
   have hgd := hds_get hlt
   have w1 : IntKind.i64.wrap ((k : Int) + 1) = ((k + 1 : Nat) : Int) := wrap_succ hlt (by omega)
   have hnx := all_take_succ (quietB day later) l hlt
   rw [hal] at hnx
   clear hq hm en s1 s2
   generalize l[k] = h at hgd hnx
   obtain ⟨hid, company, holder, nominee, pledged, joint, capital, votes, fr, til⟩ := h
   simp only [hdC] at hgd
   unfold quietB at hnx
   simp only at hnx
   obtain ⟨f1, e1⟩ : ∃ c, decide (fr ≤ day) = c := ⟨_, rfl⟩
   obtain ⟨f2, e2⟩ : ∃ c, decide (fr > later) = c := ⟨_, rfl⟩
   obtain ⟨f3, e3⟩ : ∃ c, decide (til ≤ day) = c := ⟨_, rfl⟩
   obtain ⟨f4, e4⟩ : ∃ c, decide (til > later) = c := ⟨_, rfl⟩
   rw [e1, e2, e3, e4] at hnx
   repeat' (first | (refine aops_cons ?_; first | (refine zg rfl ?_; first | refine grd_on ?_ | refine zo ?_ | (refine zs ?_ ?_ <;> intro hb <;> ((try simp only [bn] at hb); first | subst hb | simp only [hb]))) | (apply aops_o; rfl; simp only [estep, avs, tts, seval, g0, hix, hlt, hgd, la, w1, e1, e2, e3, e4] <;> exact rr)) | refine aops_nil ?_ | (refine ahops_cons ?_; first | (refine yg rfl ?_; first | refine hgrd_on ?_ | refine yo ?_ | (refine ys ?_ ?_ <;> intro hb <;> ((try simp only [bn] at hb); first | subst hb | simp only [hb]))) | (apply ahops_o; rfl; simp only [hstep, avs, tts, seval, g0, hix, hlt, hgd, la, w1, e1, e2, e3, e4] <;> exact rr; first | trivial | omega)) | refine ahops_nil ?_ | refine aw_seq ?_ | refine zr ttOk ?_ | refine zR 0 ttOk mixed ?_ | refine zR 1 ttOk mixed ?_ | refine zR 2 ttOk mixed ?_ | refine zR 3 ttOk mixed ?_ | refine zf rfl rfl ?_ | refine zt rfl rfl ?_ | (refine aw_cond rfl rfl ?_ ?_ <;> intro hb <;> ((try simp only [bn] at hb); first | subst hb | simp only [hb])) | refine aw_skip ?_ | refine aw_exit ?_ | refine aw_block ?_)
   all_goals
    (refine ⟨l.length - (k + 1), _, _, by omega, ⟨?_, .inl rfl⟩, k + 1, _, rfl, hlt, hnx, rfl, rfl⟩; (try simp only [rp]); repeat (first | exact trivial | refine ⟨.inr rfl, ?_⟩ | refine ⟨.inl rfl, ?_⟩))
 ·have hgo' : (bf && (!c1 && !c2)) = false := by simpa using hgo
  clear hgo hbf
  refine pure_enter ttOk Tryz.call8 Tryz.func8 rfl fun H hB hb hF => ?_
  rw [Tryz.results8, Tryz.ntmps8]
  simp only [arr_list, List.length_cons, List.length_nil, List.replicate, List.cons_append, List.nil_append, Nat.reduceAdd, Nat.reduceSub]
  clear hF hb
  simp only [hdsP, iA, tA, boA] at cf hd ⊢
  repeat' (first | (refine aops_cons ?_; first | (refine zg rfl ?_; first | refine grd_on ?_ | refine zo ?_ | (refine zs ?_ ?_ <;> intro hb <;> ((try simp only [bn] at hb); first | subst hb | simp only [hb]))) | (apply aops_o; rfl; simp only [estep, avs, tts, seval, g1, g2, Bool.not_true, Bool.not_false] <;> exact rr) | (refine za rfl ?_; first | refine zp (hd) ?_ | refine zp (cf) ?_)) | refine aops_nil ?_ | (refine ahops_cons ?_; first | (refine yg rfl ?_; first | refine hgrd_on ?_ | refine yo ?_ | (refine ys ?_ ?_ <;> intro hb <;> ((try simp only [bn] at hb); first | subst hb | simp only [hb]))) | (apply ahops_o; rfl; simp only [hstep, avs, tts, seval, g1, g2, Bool.not_true, Bool.not_false] <;> exact rr; first | trivial | omega) | (refine ya rfl ?_; first | refine yp (hd) ?_ | refine yp (cf) ?_)) | refine ahops_nil ?_ | refine aw_seq ?_ | refine zr ttOk ?_ | refine zR 0 ttOk mixed ?_ | refine zR 1 ttOk mixed ?_ | refine zR 2 ttOk mixed ?_ | refine zR 3 ttOk mixed ?_ | refine zf rfl rfl ?_ | refine zt rfl rfl ?_ | (refine aw_cond rfl rfl ?_ ?_ <;> intro hb <;> ((try simp only [bn] at hb); first | subst hb | simp only [hb])) | refine aw_skip ?_ | refine aw_exit ?_ | refine aw_block ?_)
  all_goals first
   | (exfalso; revert hgo'; decide)
   | (show AW _ _ _ _ _; refine aw_ret ⟨_, rfl, _, rfl, ?_⟩; rfl)
   | (show AW _ _ _ _ _; refine aw_ret ⟨_, rfl, [], by simp, ?_⟩; rfl)
end
end Av
theorem registerTime.walk {w : World} (hT : Tabs w) (v0 : Value) (a0 : List Rg.Hd) (h0 : Av.HdsIn w v0 a0) (a1 : Int) (w1 : (Lit.int .i64 a1).wf = true) (a2 : Int) (w2 : (Lit.int .i64 a2).wf = true) (a3 : ByteArray) (h3 : a3.size ≤ maxLen) : Calls Tryz.prog 8 #[v0, .int .i64 a1, .int .i64 a2, .string a3] w fun e w' => e = .returned (.bool true) ∧ Below w.heap.size w w' :=
 Av.calls_of_a (Av.time_a hT a0 a1 a2 a3 []) (.cons h0 (.cons (Av.rep_w w w1) (.cons (Av.rep_w w w2) (.one (Av.rep_t w h3))))) fun r H' h => h.1
end Go.Proofs.YtdekcppfpgeneaaGreatDoor
set_option linter.unusedVariables false
set_option linter.unusedSimpArgs false
namespace Go.Proofs.YtdekcppfpgeneaaGreatDoor
open Go Go.RowKit
namespace Rg
open Av Nt
theorem findI_neg {l : List Hd} {id : ByteArray} (h : ¬ 0 ≤ findI l id) : ∀ x ∈ l, x.id ≠ id := by
 unfold findI at h
 cases hf : l.findIdx? (fun h => decide (h.id = id)) with
 | none =>
  rw [List.findIdx?_eq_none_iff] at hf
  exact fun x hx => by simpa using hf x hx
 | some i => rw [hf] at h; simp at h
theorem put_ok {l : List Hd} {h : Hd} (e : (putS l h).2 = 0) : (putS l h).1 = l ++ [h] ∧ validB (l ++ [h]) = true := by
 unfold putS at e ⊢
 cases hv : validB l && properB h with
 | false => rw [hv] at e; simp at e
 | true =>
  rw [hv] at e
  simp only [if_true] at e ⊢
  simp only [Bool.and_eq_true] at hv
  by_cases h1 : 0 ≤ findI l h.id
  ·rw [if_pos h1] at e; simp at e
  ·rw [if_neg h1] at e ⊢
   cases h2 : (decide (l.length + 1 ≤ 400) && decide ((partiesS (l ++ [h])).length ≤ 60)) with
   | false => rw [h2] at e; simp at e
   | true =>
    rw [h2] at e
    simp only [if_true] at e ⊢
    cases h3 : bearB (l ++ [h]) with
    | false => rw [h3] at e; simp at e
    | true =>
     simp only [if_true, true_and]
     simp only [Bool.and_eq_true, decide_eq_true_eq] at h2
     have ha := (valid_all hv.1).1
     have hn := valid_ids hv.1
     have hf := findI_neg h1
     unfold validB
     simp only [Bool.and_eq_true, decide_eq_true_eq]
     refine ⟨⟨List.all_eq_true.2 fun x hx => ?_, ?_⟩, by simpa using h2.1, h2.2, h3⟩
     ·rcases List.mem_append.1 hx with hx | hx
      ·exact ha x hx
      ·rw [List.mem_singleton] at hx; rw [hx]; exact hv.2
     ·rw [List.map_append, List.nodup_append]
      refine ⟨hn, by simp, ?_⟩
      intro a ha2 b hb e2
      simp only [List.map_cons, List.map_nil, List.mem_singleton] at hb
      obtain ⟨x, hx, rfl⟩ := List.mem_map.1 ha2
      exact hf x hx (e2.trans hb)
theorem end_bad {l : List Hd} {id : ByteArray} {d : Int} (h : (endS l id d).2 ≠ 0) : (endS l id d).1 = [] := by
 unfold endS at h ⊢
 cases hv : validB l && dayB d with
 | false => simp
 | true =>
  rw [hv] at h
  simp only [if_true] at h ⊢
  cases hf : l.find? (fun h => decide (h.id = id)) with
  | none => rfl
  | some x =>
   rw [hf] at h
   simp only at h ⊢
   by_cases h1 : x.til = -1
   ·rw [if_pos h1] at h ⊢
    by_cases h2 : d ≤ x.fr
    ·rw [if_pos h2]
    ·rw [if_neg h2] at h; exact absurd rfl h
   ·rw [if_neg h1]
/-- how many holdings have the Id -/
def cntI (l : List Hd) (id : ByteArray) : Nat := l.countP fun h => decide (h.id = id)
theorem cnt_take {l : List Hd} {id : ByteArray} {k : Nat} (h : k < l.length) : cntI (l.take (k + 1)) id = cntI (l.take k) id + (if l[k].id = id then 1 else 0) := by
 unfold cntI
 rw [List.take_add_one, List.getElem?_eq_getElem h, List.countP_append]
 by_cases e : l[k].id = id <;> simp [e]
theorem cnt_one : ∀ {l : List Hd} {id : ByteArray}, (l.map Hd.id).Nodup → (∃ x ∈ l, x.id = id) → cntI l id = 1
 | [], id, _, h => by obtain ⟨x, hx, _⟩ := h; cases hx
 | a :: r, id, hn, h => by
  rw [List.map_cons, List.nodup_cons] at hn
  unfold cntI
  rw [List.countP_cons]
  by_cases e : a.id = id
  ·have h0 : r.countP (fun h => decide (h.id = id)) = 0 := by
    rw [List.countP_eq_zero]
    intro x hx
    simp only [decide_eq_true_eq]
    intro e2
    exact hn.1 (List.mem_map.2 ⟨x, hx, e2.trans e.symm⟩)
   rw [h0]; simp [e]
  ·obtain ⟨x, hx, e2⟩ := h
   rcases List.mem_cons.1 hx with rfl | hx
   ·exact absurd e2 e
   ·have := cnt_one hn.2 ⟨x, hx, e2⟩
    unfold cntI at this
    rw [this]; simp [e]
theorem end_has {l : List Hd} {id : ByteArray} {d : Int} (h : (endS l id d).2 = 0) : cntI l id = 1 := by
 have hv := (end_ok h).1
 refine cnt_one (valid_ids hv) ?_
 unfold endS at h
 cases hv2 : validB l && dayB d with
 | false => rw [hv2] at h; simp at h
 | true =>
  rw [hv2] at h
  simp only [if_true] at h
  cases hf : l.find? (fun h => decide (h.id = id)) with
  | none => rw [hf] at h; simp at h
  | some x => exact ⟨x, List.mem_of_find?_eq_some hf, by simpa using List.find?_some hf⟩
theorem endL_get {l : List Hd} {id : ByteArray} {d : Int} {k : Nat} (h : k < l.length) : ((endL l id d).map hdC).getD k [] = hdC (endH id d l[k]) := by
 have h2 : k < (endL l id d).length := by unfold endL; rw [List.length_map]; exact h
 rw [hds_get h2]
 congr 1
 exact List.getElem_map ..
end Rg
namespace Av
attribute [local irreducible] AW AOps AHOps
open Nt Rg

/-! RegisterStays. -/
section
variable {base : World} (hT : Tabs base)
include hT
set_option maxRecDepth 100000 in
set_option maxHeartbeats 16000000 in
theorem stays_a (l : List Hd) (h : Hd) (id : ByteArray) (day : Int) : PureA Tryz.prog base 7 [.d (hdsP l), hdA h, tA id, iA day] (boA true) := by
 have hd := head_a hT
 have cf := lfew_a (base := base) l
 have cf2 := lfew_a (base := base) [h]
 obtain ⟨bf, hbf⟩ : ∃ b, fewB 20 l = b := ⟨_, rfl⟩
 obtain ⟨bg, hbg⟩ : ∃ b, fewB 20 [h] = b := ⟨_, rfl⟩
 rw [hbf] at cf
 rw [hbg] at cf2
 obtain ⟨c2, g2⟩ : ∃ c, decide ((id.size : Int) > 60) = c := ⟨_, rfl⟩
 cases bf with
 | false =>
  refine pure_enter ttOk Tryz.call7 Tryz.func7 rfl fun H hB hb hF => ?_
  rw [Tryz.results7, Tryz.ntmps7]
  simp only [arr_list, List.length_cons, List.length_nil, List.replicate, List.cons_append, List.nil_append, Nat.reduceAdd, Nat.reduceSub]
  clear hF hb
  simp only [hdsP, iA, tA, boA, hdA, hdL] at cf hd ⊢
  repeat' (first | (refine aops_cons ?_; first | (refine zg rfl ?_; first | refine grd_on ?_ | refine zo ?_ | (refine zs ?_ ?_ <;> intro hb <;> ((try simp only [bn] at hb); first | subst hb | simp only [hb]))) | (apply aops_o; rfl; simp only [estep, avs, tts, seval, g2, Bool.not_true, Bool.not_false] <;> exact rr) | (refine za rfl ?_; first | refine zp (hd) ?_ | refine zp (cf) ?_)) | refine aops_nil ?_ | (refine ahops_cons ?_; first | (refine yg rfl ?_; first | refine hgrd_on ?_ | refine yo ?_ | (refine ys ?_ ?_ <;> intro hb <;> ((try simp only [bn] at hb); first | subst hb | simp only [hb]))) | (apply ahops_o; rfl; simp only [hstep, avs, tts, seval, g2, Bool.not_true, Bool.not_false] <;> exact rr; first | trivial | omega) | (refine ya rfl ?_; first | refine yp (hd) ?_ | refine yp (cf) ?_)) | refine ahops_nil ?_ | refine aw_seq ?_ | refine zr ttOk ?_ | refine zR 0 ttOk mixed ?_ | refine zR 1 ttOk mixed ?_ | refine zR 2 ttOk mixed ?_ | refine zR 3 ttOk mixed ?_ | refine zf rfl rfl ?_ | refine zt rfl rfl ?_ | (refine aw_cond rfl rfl ?_ ?_ <;> intro hb <;> ((try simp only [bn] at hb); first | subst hb | simp only [hb])) | refine aw_skip ?_ | refine aw_exit ?_ | refine aw_block ?_)
  refine aw_ret ⟨_, rfl, _, rfl, ?_⟩
  rfl
 | true =>
 obtain ⟨h20, hsm⟩ := few_small hbf
 have hs := fun h hh => (hsm h hh).1
 have hj : ∀ h ∈ l, h.joint.length ≤ 1000 := fun h hh => by have := (hsm h hh).2; omega
 have cv := rvalid_a (base := base) l hs hj (by omega)
 obtain ⟨bv, hbv⟩ : ∃ b, validB l = b := ⟨_, rfl⟩
 rw [hbv] at cv
 have main : bg = true → ∀ H : AHeap, HBel H.length H → True := fun _ _ _ => trivial
 clear main
 have sh1 := few_small (n := 20) (l := [h])
 rw [hbg] at sh1
 have cp := fun (e : bg = true) => put_a (base := base) l h hs ((sh1 e).2 h (by simp)).1 hj (by have := ((sh1 e).2 h (by simp)).2; omega) (by omega)
 have hjh : bg = true → h.joint.length ≤ 1000 := fun e => by have := ((sh1 e).2 h (by simp)).2; omega
 have hsh : bg = true → Small h := fun e => ((sh1 e).2 h (by simp)).1
 have ce := end_a base l id day hs hj (by omega)
 have po := put_ok (l := l) (h := h)
 have eb := end_bad (l := l) (id := id) (d := day)
 have eo := end_ok (l := l) (id := id) (d := day)
 have eh := end_has (l := l) (id := id) (d := day)
 clear sh1 hbg hbf hsm
 refine pure_enter ttOk Tryz.call7 Tryz.func7 rfl fun H hB hb hF => ?_
 rw [Tryz.results7, Tryz.ntmps7]
 simp only [arr_list, List.length_cons, List.length_nil, List.replicate, List.cons_append, List.nil_append, Nat.reduceAdd, Nat.reduceSub]
 clear hF hb
 have la := hds_len l
 have hdl : hdC h = hdC h := rfl
 have lgt : ((l ++ [h]).map hdC).length = l.length + 1 := by simp
 have ltk : ((l ++ [h]).map hdC).take l.length = l.map hdC := by simp
 have lgd : ((l ++ [h]).map hdC).getD l.length [] = hdC h := by simp
 have w0 : IntKind.i64.wrap ((l.length : Int) + 1) = ((l.length + 1 : Nat) : Int) := by rw [IntKind.wrap_i64]; omega
 have cA : bg = true → validB (l ++ [h]) = true → PureA Tryz.prog base 22 [.d (hdsP (l ++ [h]))] (boA true) := fun e1 e2 => by
  have := rvalid_a (base := base) (l ++ [h]) (fun x hx => by
   rcases List.mem_append.1 hx with hx | hx
   ·exact hs x hx
   ·rw [List.mem_singleton] at hx; rw [hx]; exact hsh e1) (fun x hx => by
   rcases List.mem_append.1 hx with hx | hx
   ·exact hj x hx
   ·rw [List.mem_singleton] at hx; rw [hx]; exact hjh e1) (by simp; omega)
  rw [e2] at this; exact this
 have cS := sholds_a base l l (by omega) (by omega) (fun h hh => by have := hj h hh; omega) (fun h hh => by have := hj h hh; omega)
 rw [decide_eq_true rfl] at cS
 have cH : bg = true → PureA Tryz.prog base 25 [hdA h, hdA h] (boA true) := fun e => by
  have := shold_a base h h (by have := hjh e; omega) (by have := hjh e; omega)
  rw [decide_eq_true rfl] at this; exact this
 have cW : validB (endL l id day) = true → PureA Tryz.prog base 22 [.d (hdsP (endL l id day))] (boA true) := fun e2 => by
  have := rvalid_a (base := base) (endL l id day) (fun h hh => by
    obtain ⟨x, hx, rfl⟩ := List.mem_map.1 hh
    exact small_end (hs x hx)) (fun h hh => by
    obtain ⟨x, hx, rfl⟩ := List.mem_map.1 hh
    rw [joint_end]; exact hj x hx) (by unfold endL; rw [List.length_map]; omega)
  rw [e2] at this; exact this
 obtain ⟨hid, company, holder, nominee, pledged, joint, capital, votes, fr, til⟩ := h
 obtain ⟨L, hL⟩ : ∃ L, l ++ [⟨hid, company, holder, nominee, pledged, joint, capital, votes, fr, til⟩] = L := ⟨_, rfl⟩
 rw [hL] at po lgt ltk lgd cA
 generalize (putS l ⟨hid, company, holder, nominee, pledged, joint, capital, votes, fr, til⟩).1 = A at *
 generalize (putS l ⟨hid, company, holder, nominee, pledged, joint, capital, votes, fr, til⟩).2 = E1 at *
 generalize (endS l id day).1 = B at *
 generalize (endS l id day).2 = E2 at *
 simp only [hdsP, iA, tA, boA, hdA, hdL, hdC, List.map_cons, List.map_nil] at cf hd cf2 cv cp ce cA cS cH cW lgd ⊢
 repeat' (first | (refine aops_cons ?_; first | (refine zg rfl ?_; first | refine grd_on ?_ | refine zo ?_ | (refine zs ?_ ?_ <;> intro hb <;> ((try simp only [bn] at hb); first | subst hb | simp only [hb]))) | (apply aops_o; rfl; simp only [estep, avs, tts, seval] <;> exact rr) | (refine za rfl ?_; first | refine zp (hd) ?_ | refine zp (cf) ?_)) | refine aops_nil ?_ | (refine ahops_cons ?_; first | (refine yg rfl ?_; first | refine hgrd_on ?_ | refine yo ?_ | (refine ys ?_ ?_ <;> intro hb <;> ((try simp only [bn] at hb); first | subst hb | simp only [hb]))) | (apply ahops_o; rfl; simp only [hstep, avs, tts, seval] <;> exact rr; first | trivial | omega) | (refine ya rfl ?_; first | refine yp (hd) ?_ | refine yp (cf) ?_)) | refine ahops_nil ?_ | refine aw_seq ?_ | refine zr ttOk ?_ | refine zR 0 ttOk mixed ?_ | refine zR 1 ttOk mixed ?_ | refine zR 2 ttOk mixed ?_ | refine zR 3 ttOk mixed ?_ | refine zf rfl rfl ?_ | refine zt rfl rfl ?_ | (refine aw_cond rfl rfl ?_ ?_ <;> intro hb <;> ((try simp only [bn] at hb); first | subst hb | simp only [hb])) | refine aw_skip ?_ | refine aw_exit ?_ | refine aw_block ?_)
 refine aops_cons ?_
 refine aops_at rfl (by simp only [avs] <;> rfl) ?_
 refine at_f ((H.length + 1)) (by simp only [avs, tts, seval, frzL, frzA, frzO, unI_dI, dI_len, unI, unL, Nat.add_eq_left, Nat.left_eq_add, Nat.one_ne_zero] <;> rfl) (by simp only [avs, tts, seval, frzL, frzA, frzO, unI_dI, dI_len, unI, unL, Nat.add_eq_left, Nat.left_eq_add, Nat.one_ne_zero] <;> rfl) (cf2) (by simp only [avs] <;> rfl) ?_
 cases bg with
 | false =>
  repeat' (first | (refine aops_cons ?_; first | (refine zg rfl ?_; first | refine grd_on ?_ | refine zo ?_ | (refine zs ?_ ?_ <;> intro hb <;> ((try simp only [bn] at hb); first | subst hb | simp only [hb]))) | (apply aops_o; rfl; simp only [estep, avs, tts, seval, g2, Bool.not_true, Bool.not_false] <;> exact rr) | (refine za rfl ?_; refine zp (cv) ?_)) | refine aops_nil ?_ | (refine ahops_cons ?_; first | (refine yg rfl ?_; first | refine hgrd_on ?_ | refine yo ?_ | (refine ys ?_ ?_ <;> intro hb <;> ((try simp only [bn] at hb); first | subst hb | simp only [hb]))) | (apply ahops_o; rfl; simp only [hstep, avs, tts, seval, g2, Bool.not_true, Bool.not_false] <;> exact rr; first | trivial | omega) | (refine ya rfl ?_; refine yp (cv) ?_)) | refine ahops_nil ?_ | refine aw_seq ?_ | refine zr ttOk ?_ | refine zR 0 ttOk mixed ?_ | refine zR 1 ttOk mixed ?_ | refine zR 2 ttOk mixed ?_ | refine zR 3 ttOk mixed ?_ | refine zf rfl rfl ?_ | refine zt rfl rfl ?_ | (refine aw_cond rfl rfl ?_ ?_ <;> intro hb <;> ((try simp only [bn] at hb); first | subst hb | simp only [hb])) | refine aw_skip ?_ | refine aw_exit ?_ | refine aw_block ?_)
  exact aw_ret ⟨_, rfl, _, rfl, rfl⟩
 | true =>
 cases c2 with
 | true =>
  repeat' (first | (refine aops_cons ?_; first | (refine zg rfl ?_; first | refine grd_on ?_ | refine zo ?_ | (refine zs ?_ ?_ <;> intro hb <;> ((try simp only [bn] at hb); first | subst hb | simp only [hb]))) | (apply aops_o; rfl; simp only [estep, avs, tts, seval, g2, Bool.not_true, Bool.not_false] <;> exact rr) | (refine za rfl ?_; refine zp (cv) ?_)) | refine aops_nil ?_ | (refine ahops_cons ?_; first | (refine yg rfl ?_; first | refine hgrd_on ?_ | refine yo ?_ | (refine ys ?_ ?_ <;> intro hb <;> ((try simp only [bn] at hb); first | subst hb | simp only [hb]))) | (apply ahops_o; rfl; simp only [hstep, avs, tts, seval, g2, Bool.not_true, Bool.not_false] <;> exact rr; first | trivial | omega) | (refine ya rfl ?_; refine yp (cv) ?_)) | refine ahops_nil ?_ | refine aw_seq ?_ | refine zr ttOk ?_ | refine zR 0 ttOk mixed ?_ | refine zR 1 ttOk mixed ?_ | refine zR 2 ttOk mixed ?_ | refine zR 3 ttOk mixed ?_ | refine zf rfl rfl ?_ | refine zt rfl rfl ?_ | (refine aw_cond rfl rfl ?_ ?_ <;> intro hb <;> ((try simp only [bn] at hb); first | subst hb | simp only [hb])) | refine aw_skip ?_ | refine aw_exit ?_ | refine aw_block ?_)
  exact aw_ret ⟨_, rfl, _, rfl, rfl⟩
 | false =>
 cases bv with
 | false =>
  repeat' (first | (refine aops_cons ?_; first | (refine zg rfl ?_; first | refine grd_on ?_ | refine zo ?_ | (refine zs ?_ ?_ <;> intro hb <;> ((try simp only [bn] at hb); first | subst hb | simp only [hb]))) | (apply aops_o; rfl; simp only [estep, avs, tts, seval, g2, Bool.not_true, Bool.not_false] <;> exact rr) | (refine za rfl ?_; refine zp (cv) ?_)) | refine aops_nil ?_ | (refine ahops_cons ?_; first | (refine yg rfl ?_; first | refine hgrd_on ?_ | refine yo ?_ | (refine ys ?_ ?_ <;> intro hb <;> ((try simp only [bn] at hb); first | subst hb | simp only [hb]))) | (apply ahops_o; rfl; simp only [hstep, avs, tts, seval, g2, Bool.not_true, Bool.not_false] <;> exact rr; first | trivial | omega) | (refine ya rfl ?_; refine yp (cv) ?_)) | refine ahops_nil ?_ | refine aw_seq ?_ | refine zr ttOk ?_ | refine zR 0 ttOk mixed ?_ | refine zR 1 ttOk mixed ?_ | refine zR 2 ttOk mixed ?_ | refine zR 3 ttOk mixed ?_ | refine zf rfl rfl ?_ | refine zt rfl rfl ?_ | (refine aw_cond rfl rfl ?_ ?_ <;> intro hb <;> ((try simp only [bn] at hb); first | subst hb | simp only [hb])) | refine aw_skip ?_ | refine aw_exit ?_ | refine aw_block ?_)
  exact aw_ret ⟨_, rfl, _, rfl, rfl⟩
 | true =>
 have cp := cp rfl
 have cA := cA rfl
 have cH := cH rfl
 clear cf2 hjh hsh hdl
 obtain ⟨k1, z1⟩ : ∃ c, decide (E1 = 0) = c := ⟨_, rfl⟩
 obtain ⟨k2, z2⟩ : ∃ c, decide (E2 = 0) = c := ⟨_, rfl⟩
 repeat' (first | (refine aops_cons ?_; first | (refine zg rfl ?_; first | refine grd_on ?_ | refine zo ?_ | (refine zs ?_ ?_ <;> intro hb <;> ((try simp only [bn] at hb); first | subst hb | simp only [hb]))) | (apply aops_o; rfl; simp only [estep, avs, tts, seval, g2, Bool.not_true, Bool.not_false] <;> exact rr) | (refine za rfl ?_; refine zp (cv) ?_)) | refine aops_nil ?_ | (refine ahops_cons ?_; first | (refine yg rfl ?_; first | refine hgrd_on ?_ | refine yo ?_ | (refine ys ?_ ?_ <;> intro hb <;> ((try simp only [bn] at hb); first | subst hb | simp only [hb]))) | (apply ahops_o; rfl; simp only [hstep, avs, tts, seval, g2, Bool.not_true, Bool.not_false] <;> exact rr; first | trivial | omega) | (refine ya rfl ?_; refine yp (cv) ?_)) | refine ahops_nil ?_ | refine aw_seq ?_ | refine zr ttOk ?_ | refine zR 0 ttOk mixed ?_ | refine zR 1 ttOk mixed ?_ | refine zR 2 ttOk mixed ?_ | refine zR 3 ttOk mixed ?_ | refine zf rfl rfl ?_ | refine zt rfl rfl ?_ | (refine aw_cond rfl rfl ?_ ?_ <;> intro hb <;> ((try simp only [bn] at hb); first | subst hb | simp only [hb])) | refine aw_skip ?_ | refine aw_exit ?_ | refine aw_block ?_)
 refine zP rfl (cp) ?_
 repeat (refine aops_cons ?_; first | (apply aops_o; rfl; simp only [estep, avs, tts, seval] <;> exact rr) | (refine zg rfl ?_; first | refine grd_on ?_ | refine zo ?_))
 refine aops_nil ?_
 repeat refine aw_seq ?_
 refine aw_mid2 (Q0 := fun env K => K = H ++ [.box 36 [.d (.v (.string hid)), .d (.v (.string company)), .d (.v (.string holder)), .d (.v (.string nominee)), .d (.v (.string pledged)), .d (strsP joint), .d (.v (.int .i64 capital)), .d (.v (.int .i64 votes)), .d (.v (.int .i64 fr)), .d (.v (.int .i64 til))], .dead] ∧ env = (.d (.sl 10 (l.map hdC)) :: .undef :: .d (.v (.string id)) :: .d (.v (.int .i64 day)) :: .undef :: .undef :: .undef :: .undef :: .undef :: .d (.v (.bool true)) :: List.replicate 67 .undef ++ .d (.v (.bool false)) :: List.replicate 55 .undef)) ?_ ?_
 ·cases k1 with
  | false =>
   repeat' (first | (refine aops_cons ?_; first | (refine zg rfl ?_; first | refine grd_on ?_ | refine zo ?_ | (refine zs ?_ ?_ <;> intro hb <;> ((try simp only [bn] at hb); first | subst hb | simp only [hb]))) | (apply aops_o; rfl; simp only [estep, avs, tts, seval, z1] <;> exact rr)) | refine aops_nil ?_ | (refine ahops_cons ?_; first | (refine yg rfl ?_; first | refine hgrd_on ?_ | refine yo ?_ | (refine ys ?_ ?_ <;> intro hb <;> ((try simp only [bn] at hb); first | subst hb | simp only [hb]))) | (apply ahops_o; rfl; simp only [hstep, avs, tts, seval, z1] <;> exact rr; first | trivial | omega)) | refine ahops_nil ?_ | refine aw_seq ?_ | refine zr ttOk ?_ | refine zR 0 ttOk mixed ?_ | refine zR 1 ttOk mixed ?_ | refine zR 2 ttOk mixed ?_ | refine zR 3 ttOk mixed ?_ | refine zf rfl rfl ?_ | refine zt rfl rfl ?_ | (refine aw_cond rfl rfl ?_ ?_ <;> intro hb <;> ((try simp only [bn] at hb); first | subst hb | simp only [hb])) | refine aw_skip ?_ | refine aw_exit ?_ | refine aw_block ?_)
   refine ⟨rfl, (.d (.sl 10 (l.map hdC)) :: .undef :: .d (.v (.string id)) :: .d (.v (.int .i64 day)) :: .undef :: .undef :: .undef :: .undef :: .undef :: .d (.v (.bool true)) :: List.replicate 67 .undef ++ .d (.v (.bool false)) :: List.replicate 55 .undef), _, ⟨?_, .inl rfl⟩, rfl, rfl⟩
   (try simp only [rp]); (repeat (first | exact trivial | refine ⟨.inr rfl, ?_⟩ | refine ⟨.inl rfl, ?_⟩))
  | true =>
   obtain ⟨rfl, hvL⟩ := po (of_decide_eq_true z1)
   have cA := cA hvL
   have hix : (0 : Int) ≤ (l.length : Int) := by omega
   have hlt : l.length < l.length + 1 := by omega
   have hle : l.length ≤ l.length + 1 := by omega
   repeat' (first | (refine aops_cons ?_; first | (refine zg rfl ?_; first | refine grd_on ?_ | refine zo ?_ | (refine zs ?_ ?_ <;> intro hb <;> ((try simp only [bn] at hb); first | subst hb | simp only [hb]))) | (apply aops_o; rfl; simp only [estep, avs, tts, seval, z1, la, lgt, w0, Nat.sub_zero, ltk, lgd, hix, hlt, hle, decide_true, Bool.not_true, Bool.not_false] <;> exact rr) | (refine za rfl ?_; first | refine zp (cA) ?_ | refine zp (cS) ?_ | refine zp (cH) ?_)) | refine aops_nil ?_ | (refine ahops_cons ?_; first | (refine yg rfl ?_; first | refine hgrd_on ?_ | refine yo ?_ | (refine ys ?_ ?_ <;> intro hb <;> ((try simp only [bn] at hb); first | subst hb | simp only [hb]))) | (apply ahops_o; rfl; simp only [hstep, avs, tts, seval, z1, la, lgt, w0, Nat.sub_zero, ltk, lgd, hix, hlt, hle, decide_true, Bool.not_true, Bool.not_false] <;> exact rr; first | trivial | omega) | (refine ya rfl ?_; first | refine yp (cA) ?_ | refine yp (cS) ?_ | refine yp (cH) ?_)) | refine ahops_nil ?_ | refine aw_seq ?_ | refine zr ttOk ?_ | refine zR 0 ttOk mixed ?_ | refine zR 1 ttOk mixed ?_ | refine zR 2 ttOk mixed ?_ | refine zR 3 ttOk mixed ?_ | refine zf rfl rfl ?_ | refine zt rfl rfl ?_ | (refine aw_cond rfl rfl ?_ ?_ <;> intro hb <;> ((try simp only [bn] at hb); first | subst hb | simp only [hb])) | refine aw_skip ?_ | refine aw_exit ?_ | refine aw_block ?_)
   refine ⟨rfl, (.d (.sl 10 (l.map hdC)) :: .undef :: .d (.v (.string id)) :: .d (.v (.int .i64 day)) :: .undef :: .undef :: .undef :: .undef :: .undef :: .d (.v (.bool true)) :: List.replicate 67 .undef ++ .d (.v (.bool false)) :: List.replicate 55 .undef), _, ⟨?_, .inl rfl⟩, rfl, rfl⟩
   (try simp only [rp]); (repeat (first | exact trivial | refine ⟨.inr rfl, ?_⟩ | refine ⟨.inl rfl, ?_⟩))
 rintro env0 K0 ⟨rfl, rfl⟩
 simp only [rp]
 clear cp cA cS cH po lgd ltk lgt w0 z1 cv cf hd g2
 cases k2 with
 | false =>
  have hB0 := eb (of_decide_eq_false z2)
  subst hB0
  simp only [List.map_nil] at ce
  repeat' (first | (refine aops_cons ?_; first | (refine zg rfl ?_; first | refine grd_on ?_ | refine zo ?_ | (refine zs ?_ ?_ <;> intro hb <;> ((try simp only [bn] at hb); first | subst hb | simp only [hb]))) | (apply aops_o; rfl; simp only [estep, avs, tts, seval, z2, decide_true, Bool.not_true, Bool.not_false] <;> exact rr) | (refine za rfl ?_; refine zp (ce) ?_)) | refine aops_nil ?_ | (refine ahops_cons ?_; first | (refine yg rfl ?_; first | refine hgrd_on ?_ | refine yo ?_ | (refine ys ?_ ?_ <;> intro hb <;> ((try simp only [bn] at hb); first | subst hb | simp only [hb]))) | (apply ahops_o; rfl; simp only [hstep, avs, tts, seval, z2, decide_true, Bool.not_true, Bool.not_false] <;> exact rr; first | trivial | omega) | (refine ya rfl ?_; refine yp (ce) ?_)) | refine ahops_nil ?_ | refine aw_seq ?_ | refine zr ttOk ?_ | refine zR 0 ttOk mixed ?_ | refine zR 1 ttOk mixed ?_ | refine zR 2 ttOk mixed ?_ | refine zR 3 ttOk mixed ?_ | refine zf rfl rfl ?_ | refine zt rfl rfl ?_ | (refine aw_cond rfl rfl ?_ ?_ <;> intro hb <;> ((try simp only [bn] at hb); first | subst hb | simp only [hb])) | refine aw_skip ?_ | refine aw_exit ?_ | refine aw_block ?_)
  show AW _ _ _ _ _
  exact aw_ret ⟨_, rfl, _, rfl, rfl⟩
 | true =>
 obtain ⟨hv, hen, rfl⟩ := eo (of_decide_eq_true z2)
 have eh := eh (of_decide_eq_true z2)
 have cW := cW (validB_end hen hv)
 have lb : ((endL l id day).map hdC).length = l.length := by unfold endL; simp
 have hget := fun k (h : k < l.length) => endL_get (l := l) (id := id) (d := day) h
 have hbox : ∀ n, (.box 36 [.d (.v (.string hid)), .d (.v (.string company)), .d (.v (.string holder)), .d (.v (.string nominee)), .d (.v (.string pledged)), .d (strsP joint), .d (.v (.int .i64 capital)), .d (.v (.int .i64 votes)), .d (.v (.int .i64 fr)), .d (.v (.int .i64 til))] : AObj).bel n := fun n => by simp [AObj.bel, belL, AV.bel, strsP]
 obtain ⟨obx, hobx⟩ : ∃ o : AObj, o = .box 36 [.d (.v (.string hid)), .d (.v (.string company)), .d (.v (.string holder)), .d (.v (.string nominee)), .d (.v (.string pledged)), .d (strsP joint), .d (.v (.int .i64 capital)), .d (.v (.int .i64 votes)), .d (.v (.int .i64 fr)), .d (.v (.int .i64 til))] := ⟨_, rfl⟩
 rw [← hobx] at hbox ⊢
 clear hobx
 repeat' (first | (refine aops_cons ?_; first | (refine zg rfl ?_; first | refine grd_on ?_ | refine zo ?_ | (refine zs ?_ ?_ <;> intro hb <;> ((try simp only [bn] at hb); first | subst hb | simp only [hb]))) | (apply aops_o; rfl; simp only [estep, avs, tts, seval, z2, la, lb, decide_true, Bool.not_true, Bool.not_false] <;> exact rr) | (refine za rfl ?_; first | refine zp (ce) ?_ | refine zp (cW) ?_)) | refine aops_nil ?_ | (refine ahops_cons ?_; first | (refine yg rfl ?_; first | refine hgrd_on ?_ | refine yo ?_ | (refine ys ?_ ?_ <;> intro hb <;> ((try simp only [bn] at hb); first | subst hb | simp only [hb]))) | (apply ahops_o; rfl; simp only [hstep, avs, tts, seval, z2, la, lb, decide_true, Bool.not_true, Bool.not_false] <;> exact rr; first | trivial | omega) | (refine ya rfl ?_; first | refine yp (ce) ?_ | refine yp (cW) ?_)) | refine ahops_nil ?_ | refine aw_seq ?_ | refine zr ttOk ?_ | refine zR 0 ttOk mixed ?_ | refine zR 1 ttOk mixed ?_ | refine zR 2 ttOk mixed ?_ | refine zR 3 ttOk mixed ?_ | refine zf rfl rfl ?_ | refine zt rfl rfl ?_ | (refine aw_cond rfl rfl ?_ ?_ <;> intro hb <;> ((try simp only [bn] at hb); first | subst hb | simp only [hb])) | refine aw_skip ?_ | refine aw_exit ?_ | refine aw_block ?_)
 refine aw_loop (H0 := H ++ [obx, .dead]) (fun r env K => ∃ k, r = l.length - k ∧ k ≤ l.length ∧ K = H ++ [obx, .dead] ∧ env = (.d (.sl 10 (l.map hdC)) :: .undef :: .d (.v (.string id)) :: .d (.v (.int .i64 day)) :: .undef :: .undef :: .undef :: .undef :: .undef :: .d (.v (.bool true)) :: .undef :: .undef :: .d (.sl 10 ((endL l id day).map hdC)) :: .undef :: .d (.v (.int .i64 (cntI (l.take k) id : Int))) :: .d (.v (.int .i64 (k : Int))) :: List.replicate 117 .undef)) ?_ ⟨0, rfl, Nat.zero_le _, rfl, rfl⟩ ?_
 ·exact ⟨by (try simp only [rp]); (repeat (first | exact trivial | refine ⟨.inr rfl, ?_⟩ | refine ⟨.inl rfl, ?_⟩)), .inl rfl⟩
 rintro r env K ⟨k, rfl, hk, rfl, rfl⟩ hN
 simp only [rp]
 obtain ⟨c0, g0⟩ : ∃ c0, decide ((k : Int) < (l.length : Int)) = c0 := ⟨_, rfl⟩
 cases c0 with
 | false =>
  have hkl : k = l.length := by
                 have : ¬ k < l.length := by simpa using g0
                 omega
  have hc1 : decide ((cntI (l.take k) id : Int) = 1) = true := by
   rw [hkl, List.take_length, eh]; rfl
  repeat' (first | (refine aops_cons ?_; first | (refine zg rfl ?_; first | refine grd_on ?_ | refine zo ?_ | (refine zs ?_ ?_ <;> intro hb <;> ((try simp only [bn] at hb); first | subst hb | simp only [hb]))) | (apply aops_o; rfl; simp only [estep, avs, tts, seval, g0, la, hc1] <;> exact rr)) | refine aops_nil ?_ | (refine ahops_cons ?_; first | (refine yg rfl ?_; first | refine hgrd_on ?_ | refine yo ?_ | (refine ys ?_ ?_ <;> intro hb <;> ((try simp only [bn] at hb); first | subst hb | simp only [hb]))) | (apply ahops_o; rfl; simp only [hstep, avs, tts, seval, g0, la, hc1] <;> exact rr; first | trivial | omega)) | refine ahops_nil ?_ | refine aw_seq ?_ | refine zr ttOk ?_ | refine zR 0 ttOk mixed ?_ | refine zR 1 ttOk mixed ?_ | refine zR 2 ttOk mixed ?_ | refine zR 3 ttOk mixed ?_ | refine zf rfl rfl ?_ | refine zt rfl rfl ?_ | (refine aw_cond rfl rfl ?_ ?_ <;> intro hb <;> ((try simp only [bn] at hb); first | subst hb | simp only [hb])) | refine aw_skip ?_ | refine aw_exit ?_ | refine aw_block ?_)
  show AW _ _ _ _ _
  exact aw_ret ⟨_, rfl, _, rfl, rfl⟩
 | true =>
  have hlt : k < l.length := by simpa using g0
  have hix : (0 : Int) ≤ (k : Int) := by omega
  have hgd := hds_get hlt
  have hbd := hget k hlt
  have w1 : IntKind.i64.wrap ((k : Int) + 1) = ((k + 1 : Nat) : Int) := wrap_succ hlt (by omega)
  have hct := cnt_take (id := id) hlt
  have hcl : cntI (l.take k) id ≤ l.length := Nat.le_trans List.countP_le_length (by rw [List.length_take]; omega)
  have w2 : IntKind.i64.wrap ((cntI (l.take k) id : Int) + 1) = ((cntI (l.take k) id + 1 : Nat) : Int) := by rw [IntKind.wrap_i64]; omega
  have cs := fun (y : Hd) (e : y.joint = l[k].joint) => shold_a base y y (by rw [e]; have := hj _ (List.getElem_mem hlt); omega) (by rw [e]; have := hj _ (List.getElem_mem hlt); omega)
  obtain ⟨x, hx⟩ : ∃ x, l[k] = x := ⟨_, rfl⟩
  rw [hx] at hgd hbd hct cs
  clear hx ce cW hget
  obtain ⟨xid, xco, xho, xno, xpl, xjo, xca, xvo, xfr, xti⟩ := x
  simp only [hdC] at hgd
  simp only at hct
  unfold endH at hbd
  simp only at hbd
  obtain ⟨c3, g3⟩ : ∃ c, decide (xid = id) = c := ⟨_, rfl⟩
  have ec : (xid = id) = (c3 = true) := by rw [← g3]; simp
  simp only [ec] at hct hbd
  clear ec
  cases c3 with
  | true =>
   simp only [if_true] at hct hbd
   have cs := cs ⟨xid, xco, xho, xno, xpl, xjo, xca, xvo, xfr, day⟩ rfl
   rw [decide_eq_true rfl] at cs
   simp only [hdC] at hbd
   simp only [hdA, hdL, tA, iA] at cs
   repeat' (first | (refine aops_cons ?_; first | (refine zg rfl ?_; first | refine grd_on ?_ | refine zo ?_ | (refine zs ?_ ?_ <;> intro hb <;> ((try simp only [bn] at hb); first | subst hb | simp only [hb]))) | (apply aops_o; rfl; simp only [estep, avs, tts, seval, g0, la, lb, hix, hlt, hgd, hbd, w1, w2, g3, Bool.not_true] <;> exact rr) | (refine za rfl ?_; refine zp (cs) ?_)) | refine aops_nil ?_ | (refine ahops_cons ?_; first | (refine yg rfl ?_; first | refine hgrd_on ?_ | refine yo ?_ | (refine ys ?_ ?_ <;> intro hb <;> ((try simp only [bn] at hb); first | subst hb | simp only [hb]))) | (apply ahops_o; rfl; simp only [hstep, avs, tts, seval, g0, la, lb, hix, hlt, hgd, hbd, w1, w2, g3, Bool.not_true] <;> exact rr; first | trivial | omega) | (refine ya rfl ?_; refine yp (cs) ?_)) | refine ahops_nil ?_ | refine aw_seq ?_ | refine zr ttOk ?_ | refine zR 0 ttOk mixed ?_ | refine zR 1 ttOk mixed ?_ | refine zR 2 ttOk mixed ?_ | refine zR 3 ttOk mixed ?_ | refine zf rfl rfl ?_ | refine zt rfl rfl ?_ | (refine aw_cond rfl rfl ?_ ?_ <;> intro hb <;> ((try simp only [bn] at hb); first | subst hb | simp only [hb])) | refine aw_skip ?_ | refine aw_exit ?_ | refine aw_block ?_)
   refine ⟨l.length - (k + 1), _, H ++ [obx, .dead], by omega, ⟨?_, .inr ⟨by simp, ?_, .more hB (.cons (hbox _) (.cons trivial .nil)), _, by simp only [List.append_assoc, List.cons_append, List.nil_append]; rfl⟩⟩, k + 1, rfl, hlt, rfl, rfl⟩
   ·rw [hct]; (try simp only [rp]); (repeat (first | exact trivial | refine ⟨.inr rfl, ?_⟩ | refine ⟨.inl rfl, ?_⟩))
   ·simp [belL, AV.bel, List.replicate]
  | false =>
   simp only [Bool.false_eq_true, if_false, Nat.add_zero] at hct hbd
   have cs := cs ⟨xid, xco, xho, xno, xpl, xjo, xca, xvo, xfr, xti⟩ rfl
   rw [decide_eq_true rfl] at cs
   simp only [hdC] at hbd
   simp only [hdA, hdL, tA, iA] at cs
   repeat' (first | (refine aops_cons ?_; first | (refine zg rfl ?_; first | refine grd_on ?_ | refine zo ?_ | (refine zs ?_ ?_ <;> intro hb <;> ((try simp only [bn] at hb); first | subst hb | simp only [hb]))) | (apply aops_o; rfl; simp only [estep, avs, tts, seval, g0, la, lb, hix, hlt, hgd, hbd, w1, g3, Bool.not_true] <;> exact rr) | (refine za rfl ?_; refine zp (cs) ?_)) | refine aops_nil ?_ | (refine ahops_cons ?_; first | (refine yg rfl ?_; first | refine hgrd_on ?_ | refine yo ?_ | (refine ys ?_ ?_ <;> intro hb <;> ((try simp only [bn] at hb); first | subst hb | simp only [hb]))) | (apply ahops_o; rfl; simp only [hstep, avs, tts, seval, g0, la, lb, hix, hlt, hgd, hbd, w1, g3, Bool.not_true] <;> exact rr; first | trivial | omega) | (refine ya rfl ?_; refine yp (cs) ?_)) | refine ahops_nil ?_ | refine aw_seq ?_ | refine zr ttOk ?_ | refine zR 0 ttOk mixed ?_ | refine zR 1 ttOk mixed ?_ | refine zR 2 ttOk mixed ?_ | refine zR 3 ttOk mixed ?_ | refine zf rfl rfl ?_ | refine zt rfl rfl ?_ | (refine aw_cond rfl rfl ?_ ?_ <;> intro hb <;> ((try simp only [bn] at hb); first | subst hb | simp only [hb])) | refine aw_skip ?_ | refine aw_exit ?_ | refine aw_block ?_)
   refine ⟨l.length - (k + 1), _, H ++ [obx, .dead], by omega, ⟨?_, .inr ⟨by simp, ?_, .more hB (.cons (hbox _) (.cons trivial .nil)), _, by simp only [List.append_assoc, List.cons_append, List.nil_append]; rfl⟩⟩, k + 1, rfl, hlt, rfl, rfl⟩
   ·rw [hct]; (try simp only [rp]); (repeat (first | exact trivial | refine ⟨.inr rfl, ?_⟩ | refine ⟨.inl rfl, ?_⟩))
   ·simp [belL, AV.bel, List.replicate]
end
end Av
end Go.Proofs.YtdekcppfpgeneaaGreatDoor
set_option linter.unusedVariables false
set_option linter.unusedSimpArgs false
namespace Go.Proofs.YtdekcppfpgeneaaGreatDoor
open Go Go.RowKit
namespace Av
open Nt Rg

/-! A holding out of any wide value; RegisterStays. -/
def HdIn (w : World) (v : Value) (x : Hd) : Prop := Rep (rowSt w) (hdA x) v
set_option maxRecDepth 100000 in
theorem open_hd {H : Type} {enc : TypeId × Value → H} {w : World} {b0 : Nat} {v : Value} {d : DataW H} {p : List MemPlace} (hv : Value.okWide Tryz.prog w .any b0 36 v) (h : DataW.Trod enc Tryz.prog w 0 (fun _ => true) true 36 v d p) :
  ∃ x, HdIn w v x := by
 obtain ⟨cs, rfl, _⟩ := Go.WideShapes.okWide_struct Tryz.underlying36 hv
 obtain ⟨n, hn⟩ := h
 obtain ⟨ps, h1, h2⟩ := open_pd (s := rowSt w) rfl (rowSt_imm w) n 6 36 _ _ ptHd (by kernel_rfl) hn
 obtain ⟨x, rfl⟩ := fits_hd h1
 refine ⟨x, ?_⟩
 simp only [HdIn, hdA, Rep]
 exact ⟨cs, rfl, by simpa [dL, Value.cells, hdC, hdL, tA, iA] using h2⟩
end Av
theorem registerStays.walk {w : World} (hT : Tabs w) (v0 : Value) (a0 : List Rg.Hd) (h0 : Av.HdsIn w v0 a0) (v1 : Value) (a1 : Rg.Hd) (h1 : Av.HdIn w v1 a1) (a2 : ByteArray) (h2 : a2.size ≤ maxLen) (a3 : Int) (w3 : (Lit.int .i64 a3).wf = true) : Calls Tryz.prog 7 #[v0, v1, .string a2, .int .i64 a3] w fun e w' => e = .returned (.bool true) ∧ Below w.heap.size w w' :=
 Av.calls_of_a (Av.stays_a hT a0 a1 a2 a3 []) (.cons h0 (.cons h1 (.cons (Av.rep_t w h2) (.one (Av.rep_w w w3))))) fun r H' h => h.1
end Go.Proofs.YtdekcppfpgeneaaGreatDoor
set_option linter.unusedVariables false
set_option linter.unusedSimpArgs false
namespace Go.Proofs.YtdekcppfpgeneaaGreatDoor
open Go Go.RowKit
namespace Av
attribute [local irreducible] AW AOps AHOps
open Nt Rg

/-! ratio.Add where neither is negative. -/
def prC (p : ByteArray × ByteArray) : List PD := [.v (.string p.1), .v (.string p.2)]
def muls (l : List (ByteArray × ByteArray)) : List ByteArray := l.map fun p => binS (· * ·) p.1 p.2
theorem prC_get {l : List (ByteArray × ByteArray)} {k : Nat} (h : k < l.length) : (l.map prC).getD k [] = prC l[k] := by simp [h]
theorem unI_strs (l : List ByteArray) : unI (l.map fun s => [tA s]) = some (l.map fun s => [PD.v (.string s)]) := by
 induction l with
 | nil => rfl
 | cons a r ih => simp [unI, ih, unL, tA]
theorem str_bel (n : Nat) (l : List ByteArray) : (AObj.row 9 1 0 (l.map fun s => [tA s])).bel n := by
 have e : (l.map fun s => [tA s]) = dI (l.map fun s => [PD.v (.string s)]) := by unfold dI; rw [List.map_map]; rfl
 rw [e]; exact bel_dI _
section
variable {base : World} (hT : Tabs base)
include hT
set_option maxRecDepth 100000 in
set_option maxHeartbeats 4000000 in
theorem prods_a (l : List (ByteArray × ByteArray)) (hl : l.length ≤ 1000) (hs : ∀ p ∈ l, p.1.size ≤ 9223372036854775807 ∧ p.2.size ≤ 9223372036854775807) : PureA Tryz.prog base 111 [.d (.sl 2 (l.map prC))] (.d (strsP (muls l))) := by
 refine pure_enter ttOk Tryz.call111 Tryz.func111 rfl fun H hB hb hF => ?_
 rw [Tryz.results111, Tryz.ntmps111]
 simp only [arr_list, List.length_cons, List.length_nil, List.replicate, List.cons_append, List.nil_append, Nat.reduceAdd, Nat.reduceSub]
 clear hF hb
 have la : (l.map prC).length = l.length := by simp
 repeat refine aw_seq ?_
 refine zr ttOk ?_
 repeat (refine aops_cons ?_; first | (apply aops_o; rfl; simp only [estep, avs, tts, seval] <;> exact rr) | (refine zg rfl ?_; first | refine grd_on ?_ | refine zo ?_))
 refine aops_nil ?_
 repeat refine aw_seq ?_
 refine zr ttOk ?_
 repeat (refine aops_cons ?_; first | (apply aops_o; rfl; simp only [estep, avs, tts, seval] <;> exact rr) | (refine zg rfl ?_; first | refine grd_on ?_ | refine zo ?_))
 refine aops_nil ?_
 refine aw_nilrow 3 9 1 rfl (by simp only [l_set0, l_setS] <;> rfl) ?_
 repeat' (first | (refine aops_cons ?_; first | (refine zg rfl ?_; first | refine grd_on ?_ | refine zo ?_ | (refine zs ?_ ?_ <;> intro hb <;> ((try simp only [bn] at hb); first | subst hb | simp only [hb]))) | (apply aops_o; rfl; simp only [estep, avs, tts, seval, la] <;> exact rr)) | refine aops_nil ?_ | (refine ahops_cons ?_; first | (refine yg rfl ?_; first | refine hgrd_on ?_ | refine yo ?_ | (refine ys ?_ ?_ <;> intro hb <;> ((try simp only [bn] at hb); first | subst hb | simp only [hb]))) | (apply ahops_o; rfl; simp only [hstep, avs, tts, seval, la] <;> exact rr; first | trivial | omega)) | refine ahops_nil ?_ | refine aw_seq ?_ | refine zr ttOk ?_ | refine zR 0 ttOk mixed ?_ | refine zR 1 ttOk mixed ?_ | refine zR 2 ttOk mixed ?_ | refine zR 3 ttOk mixed ?_ | refine zf rfl rfl ?_ | refine zt rfl rfl ?_ | (refine aw_cond rfl rfl ?_ ?_ <;> intro hb <;> ((try simp only [bn] at hb); first | subst hb | simp only [hb])) | refine aw_skip ?_ | refine aw_exit ?_ | refine aw_block ?_)
 refine aw_loop (H0 := H ++ [.row 9 1 0 ((muls (l.take 0)).map fun s => [tA s])]) (fun n env K => ∃ k, n = l.length - k ∧ k ≤ l.length ∧ K = H ++ [.row 9 1 0 ((muls (l.take k)).map fun s => [tA s])] ∧ env = (.d (.sl 2 (l.map prC)) :: .undef :: .undef :: .ms H.length 0 k :: .undef :: .undef :: .undef :: .undef :: .d (.sl 2 (l.map prC)) :: .d (.v (.int .i64 (l.length : Int))) :: .d (.v (.int .i64 (k : Int))) :: List.replicate 17 .undef)) ?_ ⟨0, rfl, Nat.zero_le _, rfl, rfl⟩ ?_
 ·exact ⟨by simp [EnvLe, List.replicate], .inl (by simp [muls])⟩
 rintro n env K ⟨k, rfl, hk, rfl, rfl⟩ hN
 simp only [rp]
 have lr : ((muls (l.take k)).map fun s => [tA s]).length = k := by simp [muls, hk]
 obtain ⟨c0, g0⟩ : ∃ c, decide ((k : Int) < (l.length : Int)) = c := ⟨_, rfl⟩
 cases c0 with
 | false =>
  have hka : k = l.length := by
                 have : ¬ k < l.length := by simpa using g0
                 omega
  have hu := unI_strs (muls (l.take k))
  repeat' (first | (refine aops_cons ?_; first | (refine zg rfl ?_; first | refine grd_on ?_ | refine zo ?_ | (refine zs ?_ ?_ <;> intro hb <;> ((try simp only [bn] at hb); first | subst hb | simp only [hb]))) | (apply aops_o; rfl; simp only [estep, avs, tts, seval, g0] <;> exact rr)) | refine aops_nil ?_ | (refine ahops_cons ?_; first | (refine yg rfl ?_; first | refine hgrd_on ?_ | refine yo ?_ | (refine ys ?_ ?_ <;> intro hb <;> ((try simp only [bn] at hb); first | subst hb | simp only [hb]))) | (apply ahops_o; rfl; simp only [hstep, avs, tts, seval, g0] <;> exact rr; first | trivial | omega)) | refine ahops_nil ?_ | refine aw_seq ?_ | refine zr ttOk ?_ | refine zR 0 ttOk mixed ?_ | refine zR 1 ttOk mixed ?_ | refine zR 2 ttOk mixed ?_ | refine zR 3 ttOk mixed ?_ | refine zf rfl rfl ?_ | refine zt rfl rfl ?_ | (refine aw_cond rfl rfl ?_ ?_ <;> intro hb <;> ((try simp only [bn] at hb); first | subst hb | simp only [hb])) | refine aw_skip ?_ | refine aw_exit ?_ | refine aw_block ?_)
  have e : l.take k = l := by rw [hka, List.take_length]
  rw [e] at hu ⊢
  refine aw_ret ⟨_, rfl, _, rfl, ?_⟩
  simp [sealA, sealL, hu]
  exact ⟨by rw [hka]; simp [muls], rfl⟩
 | true =>
  have hlt : k < l.length := by simpa using g0
  have hix : (0 : Int) ≤ (k : Int) := by omega
  have hgd := prC_get hlt
  have hsp := hs _ (List.getElem_mem hlt)
  have w1 : IntKind.i64.wrap ((k : Int) + 1) = ((k + 1 : Nat) : Int) := wrap_succ hlt (by omega)
  have cm := nmul_a hT l[k].1 l[k].2 hsp.1 hsp.2
  have hrow : ((muls (l.take k)).map fun s => [tA s]) ++ [[tA (binS (· * ·) l[k].1 l[k].2)]] = (muls (l.take (k + 1))).map fun s => [tA s] := by
   unfold muls
   rw [List.take_add_one, List.getElem?_eq_getElem hlt, List.map_append, List.map_append]; rfl
  generalize l[k] = p at hgd cm hrow
  obtain ⟨p1, p2⟩ := p
  simp only [prC] at hgd
  simp only [iA] at cm
  generalize binS (· * ·) p1 p2 = m at cm hrow
  simp only [tA] at cm hrow lr
  have b1 : k + 1 ≤ 9223372036854775807 := by omega
  have b2 : (k + 1) * 16 ≤ 140737488355328 := by omega
  repeat' (first | (refine aops_cons ?_; first | (refine zg rfl ?_; first | refine grd_on ?_ | refine zo ?_ | (refine zs ?_ ?_ <;> intro hb <;> ((try simp only [bn] at hb); first | subst hb | simp only [hb]))) | (apply aops_o; rfl; simp only [estep, avs, tts, seval, g0, hix, hlt, hgd, w1, lr, hrow, b1, b2, la] <;> exact rr) | (refine za rfl ?_; refine zp (cm) ?_)) | refine aops_nil ?_ | (refine ahops_cons ?_; first | (refine yg rfl ?_; first | refine hgrd_on ?_ | refine yo ?_ | (refine ys ?_ ?_ <;> intro hb <;> ((try simp only [bn] at hb); first | subst hb | simp only [hb]))) | (apply ahops_o; rfl; simp only [hstep, avs, tts, seval, g0, hix, hlt, hgd, w1, lr, hrow, b1, b2, la] <;> exact rr; first | trivial | omega) | (refine ya rfl ?_; refine yp (cm) ?_)) | refine ahops_nil ?_ | refine aw_seq ?_ | refine zr ttOk ?_ | refine zR 0 ttOk mixed ?_ | refine zR 1 ttOk mixed ?_ | refine zR 2 ttOk mixed ?_ | refine zR 3 ttOk mixed ?_ | refine zf rfl rfl ?_ | refine zt rfl rfl ?_ | (refine aw_cond rfl rfl ?_ ?_ <;> intro hb <;> ((try simp only [bn] at hb); first | subst hb | simp only [hb])) | refine aw_skip ?_ | refine aw_exit ?_ | refine aw_block ?_)
  refine ⟨l.length - (k + 1), _, H ++ [.row 9 1 0 ((muls (l.take (k + 1))).map fun s => [tA s])], by omega, ⟨?_, .inr ⟨by simp, ?_, .more hB (.cons (str_bel _ _) .nil), _, by simp only [List.append_assoc, List.cons_append, List.nil_append]; rfl⟩⟩, k + 1, rfl, hlt, rfl, rfl⟩
  ·simp [EnvLe, List.replicate]
  ·simp [belL, AV.bel, List.replicate]
omit hT in
theorem tp18 {n : Nat} (h : n < 10 ^ 19) : n < tp 300 := Nat.lt_of_lt_of_le h (tp_le (a := 19) (by decide))
omit hT in
theorem mul18 {a b : Nat} (ha : a < 1000000000) (hb : b < 1000000000) : a * b < 10 ^ 18 := by
 have h1 : a * b ≤ 999999999 * 999999999 := Nat.mul_le_mul (by omega) (by omega)
 omega
set_option maxRecDepth 100000 in
set_option maxHeartbeats 4000000 in
theorem sum_a (p1 q1 p2 q2 : Nat) (h1 : p1 < 1000000000) (h2 : q1 < 1000000000) (h3 : p2 < 1000000000) (h4 : q2 < 1000000000) (k1 : 0 < q1) (k2 : 0 < q2) : PureA Tryz.prog base 84 [ratA ⟨false, decT p1, decT q1⟩, ratA ⟨false, decT p2, decT q2⟩] (.tup [ratA (lowR false (p1 * q2 + p2 * q1) (q1 * q2)), iA 0]) := by
 have m1 := mul18 h1 h4
 have m2 := mul18 h3 h2
 have m3 := mul18 h2 h4
 have z : ∀ {n : Nat}, n < 1000000000 → (decT n).size ≤ 9223372036854775807 := fun h => decT_sz (tp18 (Nat.lt_of_lt_of_le h (by decide)))
 have w : ∀ {n : Nat}, n < 1000000000 → n < tp 300 := fun h => tp18 (Nat.lt_of_lt_of_le h (by decide))
 have w2 : ∀ {n : Nat}, n < 10 ^ 18 → n < tp 300 := fun h => tp18 (Nat.lt_of_lt_of_le h (by decide))
 have cp := prods_a hT [(decT p1, decT q2), (decT p2, decT q1), (decT q1, decT q2)] (by simp) (by
  intro p hp
  simp only [List.mem_cons, List.not_mem_nil, or_false] at hp
  rcases hp with rfl | rfl | rfl
  ·exact ⟨z h1, z h4⟩
  ·exact ⟨z h3, z h2⟩
  ·exact ⟨z h2, z h4⟩)
 have hm : muls [(decT p1, decT q2), (decT p2, decT q1), (decT q1, decT q2)] = [decT (p1 * q2), decT (p2 * q1), decT (q1 * q2)] := by
  simp only [muls, List.map_cons, List.map_nil]
  rw [(bin_ok (F := (· * ·)) (w h1) (w h4) (w2 m1)).1, (bin_ok (F := (· * ·)) (w h3) (w h2) (w2 m2)).1, (bin_ok (F := (· * ·)) (w h2) (w h4) (w2 m3)).1]
 rw [hm] at cp
 have hs : p1 * q2 + p2 * q1 < 10 ^ 19 := by
  have : (10 : Nat) ^ 19 = 10 * 10 ^ 18 := by decide
  omega
 have cn := nadd_a hT (decT (p1 * q2)) (decT (p2 * q1)) (decT_sz (w2 m1)) (decT_sz (w2 m2))
 have hn := bin_ok (F := (· + ·)) (w2 m1) (w2 m2) (tp18 hs)
 rw [hn.1, hn.2] at cn
 have cl := lowest_a hT false (tp18 hs) (w2 m3) (Nat.mul_pos k1 k2)
 simp only [strsP, List.map_cons, List.map_nil, prC] at cp
 simp only [tA, iA] at cn cl
 generalize decT (p1 * q2) = x at *
 generalize decT (p2 * q1) = y at *
 generalize decT (q1 * q2) = d at *
 generalize decT (p1 * q2 + p2 * q1) = n at *
 generalize lowR false (p1 * q2 + p2 * q1) (q1 * q2) = r at *
 clear hn hm hs m1 m2 m3 z w w2
 generalize decT p1 = a1 at *
 generalize decT q1 = a2 at *
 generalize decT p2 = a3 at *
 generalize decT q2 = a4 at *
 refine pure_enter ttOk Tryz.call84 Tryz.func84 rfl fun H hB hb hF => ?_
 rw [Tryz.results84, Tryz.ntmps84]
 simp only [arr_list, List.length_cons, List.length_nil, List.replicate, List.cons_append, List.nil_append, Nat.reduceAdd, Nat.reduceSub]
 clear hF hb
 obtain ⟨r1, r2, r3⟩ := r
 simp only [ratA, tA, iA] at cl ⊢
 repeat' (first | (refine aops_cons ?_; first | (refine zg rfl ?_; first | refine grd_on ?_ | refine zo ?_ | (refine zs ?_ ?_ <;> intro hb <;> ((try simp only [bn] at hb); first | subst hb | simp only [hb]))) | (apply aops_o; rfl; simp only [estep, avs, tts, seval] <;> exact rr)) | refine aops_nil ?_ | (refine ahops_cons ?_; first | (refine yg rfl ?_; first | refine hgrd_on ?_ | refine yo ?_ | (refine ys ?_ ?_ <;> intro hb <;> ((try simp only [bn] at hb); first | subst hb | simp only [hb]))) | (apply ahops_o; rfl; simp only [hstep, avs, tts, seval] <;> exact rr; first | trivial | omega)) | refine ahops_nil ?_ | refine aw_seq ?_ | refine zr ttOk ?_ | refine zR 0 ttOk mixed ?_ | refine zR 1 ttOk mixed ?_ | refine zR 2 ttOk mixed ?_ | refine zR 3 ttOk mixed ?_ | refine zf rfl rfl ?_ | refine zt rfl rfl ?_ | (refine aw_cond rfl rfl ?_ ?_ <;> intro hb <;> ((try simp only [bn] at hb); first | subst hb | simp only [hb])) | refine aw_skip ?_ | refine aw_exit ?_ | refine aw_block ?_)
 refine aops_cons ?_
 refine aops_at rfl (by simp only [avs] <;> rfl) ?_
 refine at_f ((H.length + 3)) (by simp only [avs, tts, seval, frzL, frzA, frzO, unI_dI, dI_len, unI, unL, Nat.add_eq_left, Nat.left_eq_add, Nat.one_ne_zero] <;> rfl) (by simp only [avs, tts, seval, frzL, frzA, frzO, unI_dI, dI_len, unI, unL, Nat.add_eq_left, Nat.left_eq_add, Nat.one_ne_zero] <;> rfl) (cp) (by simp only [avs] <;> rfl) ?_
 repeat' (first | (refine aops_cons ?_; first | (refine zg rfl ?_; first | refine grd_on ?_ | refine zo ?_ | (refine zs ?_ ?_ <;> intro hb <;> ((try simp only [bn] at hb); first | subst hb | simp only [hb]))) | (apply aops_o; rfl; simp only [estep, avs, tts, seval, decide_true] <;> exact rr) | (refine za rfl ?_; first | refine zp (cn) ?_ | refine zp (cl) ?_)) | refine aops_nil ?_ | (refine ahops_cons ?_; first | (refine yg rfl ?_; first | refine hgrd_on ?_ | refine yo ?_ | (refine ys ?_ ?_ <;> intro hb <;> ((try simp only [bn] at hb); first | subst hb | simp only [hb]))) | (apply ahops_o; rfl; simp only [hstep, avs, tts, seval, decide_true] <;> exact rr; first | trivial | omega) | (refine ya rfl ?_; first | refine yp (cn) ?_ | refine yp (cl) ?_)) | refine ahops_nil ?_ | refine aw_seq ?_ | refine zr ttOk ?_ | refine zR 0 ttOk mixed ?_ | refine zR 1 ttOk mixed ?_ | refine zR 2 ttOk mixed ?_ | refine zR 3 ttOk mixed ?_ | refine zf rfl rfl ?_ | refine zt rfl rfl ?_ | (refine aw_cond rfl rfl ?_ ?_ <;> intro hb <;> ((try simp only [bn] at hb); first | subst hb | simp only [hb])) | refine aw_skip ?_ | refine aw_exit ?_ | refine aw_block ?_)
 show AW _ _ _ _ _
 refine aw_ret ⟨_, (by simp only [aResult, aResL, aRes, avs, tts] <;> rfl), _, rfl, ?_⟩
 simp [sealA, sealL]
set_option maxRecDepth 100000 in
set_option maxHeartbeats 4000000 in
theorem radd_a (p1 q1 p2 q2 : Nat) (h1 : p1 < 1000000000) (h2 : q1 < 1000000000) (h3 : p2 < 1000000000) (h4 : q2 < 1000000000) (k1 : 0 < q1) (k2 : 0 < q2) (v1 : validR ⟨false, decT p1, decT q1⟩ = true) (v2 : validR ⟨false, decT p2, decT q2⟩ = true) : PureA Tryz.prog base 59 [ratA ⟨false, decT p1, decT q1⟩, ratA ⟨false, decT p2, decT q2⟩] (.tup [ratA (lowR false (p1 * q2 + p2 * q1) (q1 * q2)), iA 0]) := by
 have cs := sum_a hT p1 q1 p2 q2 h1 h2 h3 h4 k1 k2
 have z1 := (decT_9 h1).2
 have z2 := (decT_9 h2).2
 have z3 := (decT_9 h3).2
 have z4 := (decT_9 h4).2
 have c1 := valid_a hT ⟨false, decT p1, decT q1⟩ (by simp only; omega) (by simp only; omega)
 have c2 := valid_a hT ⟨false, decT p2, decT q2⟩ (by simp only; omega) (by simp only; omega)
 rw [v1] at c1
 rw [v2] at c2
 clear v1 v2
 generalize lowR false (p1 * q2 + p2 * q1) (q1 * q2) = r at *
 generalize decT p1 = a1 at *
 generalize decT q1 = a2 at *
 generalize decT p2 = a3 at *
 generalize decT q2 = a4 at *
 have g1 : decide ((a1.size : Int) > 140) = false := decide_eq_false (by omega)
 have g2 : decide ((a2.size : Int) > 140) = false := decide_eq_false (by omega)
 have g3 : decide ((a3.size : Int) > 140) = false := decide_eq_false (by omega)
 have g4 : decide ((a4.size : Int) > 140) = false := decide_eq_false (by omega)
 obtain ⟨r1, r2, r3⟩ := r
 simp only [ratA, tA, iA] at cs c1 c2
 have cr : PureA Tryz.prog base 85 [.agg [.d (.v (.bool false)), .fn (.func 84) [] []], .agg [.d (.v (.bool false)), .d (.v (.string a1)), .d (.v (.string a2))], .agg [.d (.v (.bool false)), .d (.v (.string a3)), .d (.v (.string a4))]] (.tup [.agg [.d (.v (.bool r1)), .d (.v (.string r2)), .d (.v (.string r3))], .d (.v (.int .i64 0))]) := by
  refine pure_enter ttOk Tryz.call85 Tryz.func85 rfl fun H hB hb hF => ?_
  rw [Tryz.results85, Tryz.ntmps85]
  simp only [arr_list, List.length_cons, List.length_nil, List.replicate, List.cons_append, List.nil_append, Nat.reduceAdd, Nat.reduceSub]
  clear hF hb
  repeat' (first | (refine aops_cons ?_; first | (refine zg rfl ?_; first | refine grd_on ?_ | refine zo ?_ | (refine zs ?_ ?_ <;> intro hb <;> ((try simp only [bn] at hb); first | subst hb | simp only [hb]))) | (apply aops_o; rfl; simp only [estep, avs, tts, seval, Bool.not_true, g1, g2, g3, g4] <;> exact rr) | (refine za rfl ?_; first | refine zp (c1) ?_ | refine zp (c2) ?_ | refine zp (cs) ?_)) | refine aops_nil ?_ | (refine ahops_cons ?_; first | (refine yg rfl ?_; first | refine hgrd_on ?_ | refine yo ?_ | (refine ys ?_ ?_ <;> intro hb <;> ((try simp only [bn] at hb); first | subst hb | simp only [hb]))) | (apply ahops_o; rfl; simp only [hstep, avs, tts, seval, Bool.not_true, g1, g2, g3, g4] <;> exact rr; first | trivial | omega) | (refine ya rfl ?_; first | refine yp (c1) ?_ | refine yp (c2) ?_ | refine yp (cs) ?_)) | refine ahops_nil ?_ | refine aw_seq ?_ | refine zr ttOk ?_ | refine zR 0 ttOk mixed ?_ | refine zR 1 ttOk mixed ?_ | refine zR 2 ttOk mixed ?_ | refine zR 3 ttOk mixed ?_ | refine zf rfl rfl ?_ | refine zt rfl rfl ?_ | (refine aw_cond rfl rfl ?_ ?_ <;> intro hb <;> ((try simp only [bn] at hb); first | subst hb | simp only [hb])) | refine aw_skip ?_ | refine aw_exit ?_ | refine aw_block ?_)
  trace_state
  show AW _ _ _ _ _
  refine aw_ret ⟨_, (by simp only [aResult, aResL, aRes, avs, tts] <;> rfl), _, rfl, ?_⟩
  simp [sealA, sealL]
 clear c1 c2 cs
 refine pure_enter ttOk Tryz.call59 Tryz.func59 rfl fun H hB hb hF => ?_
 rw [Tryz.results59, Tryz.ntmps59]
 simp only [arr_list, List.length_cons, List.length_nil, List.replicate, List.cons_append, List.nil_append, Nat.reduceAdd, Nat.reduceSub]
 clear hF hb
 simp only [ratA, tA, iA]
 repeat' (first | (refine aops_cons ?_; first | (refine zg rfl ?_; first | refine grd_on ?_ | refine zo ?_ | (refine zs ?_ ?_ <;> intro hb <;> ((try simp only [bn] at hb); first | subst hb | simp only [hb]))) | (apply aops_o; rfl; simp only [estep, avs, tts, seval] <;> exact rr) | (refine za rfl ?_; refine zp (cr) ?_)) | refine aops_nil ?_ | (refine ahops_cons ?_; first | (refine yg rfl ?_; first | refine hgrd_on ?_ | refine yo ?_ | (refine ys ?_ ?_ <;> intro hb <;> ((try simp only [bn] at hb); first | subst hb | simp only [hb]))) | (apply ahops_o; rfl; simp only [hstep, avs, tts, seval] <;> exact rr; first | trivial | omega) | (refine ya rfl ?_; refine yp (cr) ?_)) | refine ahops_nil ?_ | refine aw_seq ?_ | refine zr ttOk ?_ | refine zR 0 ttOk mixed ?_ | refine zR 1 ttOk mixed ?_ | refine zR 2 ttOk mixed ?_ | refine zR 3 ttOk mixed ?_ | refine zf rfl rfl ?_ | refine zt rfl rfl ?_ | (refine aw_cond rfl rfl ?_ ?_ <;> intro hb <;> ((try simp only [bn] at hb); first | subst hb | simp only [hb])) | refine aw_skip ?_ | refine aw_exit ?_ | refine aw_block ?_)
 refine aw_ret ⟨_, (by simp only [aResult, aResL, aRes, avs, tts] <;> rfl), _, rfl, ?_⟩
 simp [sealA, sealL]
end
end Av
end Go.Proofs.YtdekcppfpgeneaaGreatDoor
set_option linter.unusedVariables false
set_option linter.unusedSimpArgs false
namespace Go.Proofs.YtdekcppfpgeneaaGreatDoor
open Go Go.RowKit
namespace Rg
open Av Nt

/-! A proper holding, in parts. -/
theorem name_ne {t : ByteArray} (h : nameB t = true) : t ≠ emp := by
 unfold nameB at h
 simp only [Bool.and_eq_true, Bool.not_eq_true', decide_eq_false_iff_not] at h
 exact h.2.1
structure Prp (h : Hd) : Prop where
 id : nameB h.id = true
 company : nameB h.company = true
 holder : nameB h.holder = true
 nominee : h.nominee = emp ∨ nameB h.nominee = true
 pledged : h.pledged = emp ∨ nameB h.pledged = true
 joint4 : h.joint.length ≤ 4
 alone : h.nominee = emp ∨ h.joint = []
 joint : ∀ t ∈ h.joint, nameB t = true
 nodup : (h.holder :: h.joint).Nodup
 own : ¬ h.company ∈ h.holder :: h.joint
 nom : h.company ≠ h.nominee
 pct : pctB h.capital = true ∧ pctB h.votes = true
 days : pr4 h = true
theorem proper_iff (h : Hd) : properB h = true ↔ Prp h := by
 unfold properB pr1 pr2 pr3 optB
 simp only [Bool.and_eq_true, Bool.or_eq_true, Bool.not_eq_true', decide_eq_true_eq, decide_eq_false_iff_not, List.all_eq_true, memB_no]
 constructor
 ·rintro ⟨⟨h1, h2, h3, h4, h5, h6, h7⟩, ⟨h8, h9⟩, ⟨h10, h11, h12⟩, h13⟩
  exact ⟨h1, h2, h3, h4, h5, h6, h7.imp id (fun e => List.length_eq_zero_iff.1 e), h8, h9, h10, h11, h12, h13⟩
 ·rintro ⟨h1, h2, h3, h4, h5, h6, h7, h8, h9, h10, h11, h12, h13⟩
  exact ⟨⟨h1, h2, h3, h4, h5, h6, h7.imp id (fun e => List.length_eq_zero_iff.2 e)⟩, ⟨h8, h9⟩, ⟨h10, h11, h12⟩, h13⟩
end Rg
end Go.Proofs.YtdekcppfpgeneaaGreatDoor
set_option linter.unusedVariables false
set_option linter.unusedSimpArgs false
namespace Go.Proofs.YtdekcppfpgeneaaGreatDoor
open Go Go.RowKit
namespace Rg
open Av Nt

/-! Nominees: a holding of the party for whom it is held. -/
theorem sumF_map {α β : Type} (p : β → Bool) (g : β → Int) (f : α → β) : ∀ l : List α, sumF p g (l.map f) = sumF (fun a => p (f a)) (fun a => g (f a)) l
 | [] => rfl
 | a :: r => by simp only [List.map_cons, sumF, sumF_map p g f r]
/-! places of names -/
theorem ix_at {ps : List ByteArray} {x : ByteArray} (hx : x ∈ ps) : ∃ (i : Nat) (h : i < ps.length), ixS ps x = i ∧ ps[i] = x := by
 have hi0 : (ps.findIdx fun y => decide (y = x)) < ps.length := List.findIdx_lt_length_of_exists ⟨x, hx, by simp⟩
 exact ⟨_, hi0, rfl, by simpa using List.findIdx_getElem (w := hi0)⟩
theorem ix_inj {ps : List ByteArray} {x y : ByteArray} (hx : x ∈ ps) (hy : y ∈ ps) : ixS ps x = ixS ps y ↔ x = y := by
 obtain ⟨i, hi, e1, e2⟩ := ix_at hx
 obtain ⟨j, hj, e3, e4⟩ := ix_at hy
 constructor
 ·intro h
  rw [e1, e3] at h
  have : i = j := by omega
  subst this
  exact e2.symm.trans e4
 ·rintro rfl; rfl
theorem ix_get {ps : List ByteArray} (hn : ps.Nodup) {i : Nat} (hi : i < ps.length) : ixS ps ps[i] = i := by
 obtain ⟨j, hj, e1, e2⟩ := ix_at (List.getElem_mem hi)
 rw [e1]
 have hp := List.pairwise_iff_getElem.1 hn
 rcases Nat.lt_trichotomy i j with h | h | h
 ·exact absurd e2.symm (hp i j hi hj h)
 ·omega
 ·exact absurd e2 (hp j i hj hi h)
theorem whoC_names {h : Hd} (hp : properB h = true) {x : ByteArray} (hx : x ∈ whoC h) : x ∈ namesH h := by
 rw [proper_iff] at hp
 unfold whoC at hx
 unfold namesH
 simp only [List.mem_cons, List.mem_filter, Bool.not_eq_true', decide_eq_false_iff_not]
 by_cases e : h.nominee = emp
 ·rw [if_pos e] at hx
  rcases List.mem_cons.1 hx with rfl | hx
  ·exact .inr (.inl rfl)
  ·exact .inr (.inr ⟨.inr (.inr hx), name_ne (hp.joint x hx)⟩)
 ·rw [if_neg e] at hx
  rw [List.mem_singleton] at hx
  subst hx
  exact .inr (.inr ⟨.inl rfl, e⟩)
end Rg
end Go.Proofs.YtdekcppfpgeneaaGreatDoor
set_option linter.unusedVariables false
set_option linter.unusedSimpArgs false
namespace Go.Proofs.YtdekcppfpgeneaaGreatDoor
open Go Go.RowKit
namespace Rg
open Av Nt

/-! Sums: the parts of a company. -/
/-- what the keys of a company hold -/
def totK (c : Int) (s : KSt) : Int := sumF (fun k : Int × Int => decide (k.1 = c)) s.2 s.1
theorem sumF_add {α : Type} [DecidableEq α] (p : α → Bool) (g : α → Int) (k : α) (v : Int) : ∀ {l : List α}, l.Nodup → sumF p (fun x => if x = k then g k + v else g x) l = sumF p g l + (if k ∈ l then (if p k then v else 0) else 0)
 | [], _ => by simp [sumF]
 | a :: r, hn => by
  rw [List.nodup_cons] at hn
  have ih := sumF_add p g k v hn.2
  simp only [sumF, ih, List.mem_cons]
  by_cases e : a = k
  ·subst e
   have hx : ¬ a ∈ r := hn.1
   cases hp : p a with
   | true => simp [hx]; omega
   | false => simp [hx]
  ·rw [if_neg e]
   by_cases h2 : k ∈ r
   ·simp only [h2, or_true, if_true]
    omega
   ·have h3 : ¬ (k = a ∨ k ∈ r) := fun h => h.elim (fun h => e h.symm) h2
    rw [if_neg h2, if_neg h3]
    omega
theorem totK_add {s : KSt} {M : Int} (hs : KOk s M) (k : Int × Int) (v c : Int) : totK c (addK s k v) = totK c s + (if k.1 = c then v else 0) := by
 unfold totK addK insK
 simp only
 by_cases h : k ∈ s.1
 ·rw [if_pos h, sumF_add _ _ _ _ hs.nd, if_pos h]
  simp only [decide_eq_true_eq]
 ·rw [if_neg h, sumF_snoc, sumF_add _ _ _ _ hs.nd, if_neg h, hs.out k h]
  simp only [decide_eq_true_eq, if_true]
  omega
/-- how many of these a holding gives to -/
def cntW (company : ByteArray) (who : List ByteArray) : Int := ((who.countP fun x => !decide (x = company) : Nat) : Int)
theorem cntW_cons (company x : ByteArray) (who : List ByteArray) : cntW company (x :: who) = (if x = company then 0 else 1) + cntW company who := by
 unfold cntW
 rw [List.countP_cons]
 by_cases e : x = company <;> simp [e] <;> omega
theorem foldK_tot {ix : ByteArray → Int} {company : ByteArray} {pc : Int} (h0 : 0 ≤ pc) (h1 : pc ≤ 100) {n : Nat} (c : Int) : ∀ (who : List ByteArray), (0 < n ∨ who = []) → ∀ {s : KSt} {M : Int}, KOk s M → totK c (who.foldl (stepK ix company pc n) s) = totK c s + (if ix company = c then (pc * 60).tdiv n * cntW company who else 0)
 | [], _, s, M, _ => by simp [cntW]
 | x :: r, hn, s, M, hs => by
  have hn' : 0 < n := by rcases hn with h | h; exact h; cases h
  have hst := stepK_ok (ix := ix) (company := company) (x := x) h0 h1 hn' hs
  rw [List.foldl_cons, foldK_tot h0 h1 c r (.inl hn') hst, cntW_cons]
  have e : totK c (stepK ix company pc n s x) = totK c s + (if ix company = c then (if x = company then 0 else (pc * 60).tdiv n) else 0) := by
   unfold stepK
   by_cases h : pc > 0 ∧ x ≠ company
   ·rw [if_pos h, totK_add hs, if_neg h.2]
   ·rw [if_neg h]
    by_cases e2 : x = company
    ·rw [if_pos e2]; split <;> omega
    ·have hp : pc = 0 := by
      have : ¬ pc > 0 := fun h3 => h ⟨h3, e2⟩
      omega
     subst hp
     rw [if_neg e2]
     simp
  rw [e]
  by_cases h2 : ix company = c
  ·simp only [if_pos h2]
   by_cases e2 : x = company
   ·simp only [if_pos e2]; rw [Int.zero_add, Int.add_zero]
   ·simp only [if_neg e2]; rw [Int.mul_add, Int.mul_one]; omega
  ·simp only [if_neg h2]; omega
/-- who is whole: 60 per cent parts can be shared by up to five -/
theorem tdiv_five {pc : Int} (h0 : 0 ≤ pc) {n : Nat} (h1 : 0 < n) (h5 : n ≤ 5) : (pc * 60).tdiv n * n = pc * 60 := by
 have : n = 1 ∨ n = 2 ∨ n = 3 ∨ n = 4 ∨ n = 5 := by omega
 rcases this with rfl | rfl | rfl | rfl | rfl <;> (rw [Int.tdiv_eq_ediv_of_nonneg (by omega)]; omega)
theorem cntW_all {company : ByteArray} {who : List ByteArray} (h : ¬ company ∈ who) : cntW company who = who.length := by
 unfold cntW
 congr 1
 rw [List.countP_eq_length]
 intro x hx
 simp only [Bool.not_eq_true', decide_eq_false_iff_not]
 rintro rfl; exact h hx
def giveT (pc : Hd → Int) (who : Hd → List ByteArray) (ix : ByteArray → Int) (c : Int) (h : Hd) : Int := if ix h.company = c then (pc h * 60).tdiv (who h).length * cntW h.company (who h) else 0
theorem fold_tot (pc : Hd → Int) (who : Hd → List ByteArray) (ix : ByteArray → Int) (day c : Int) : ∀ (l : List Hd), (∀ h ∈ l, 0 ≤ pc h ∧ pc h ≤ 100) → ∀ {s : KSt} {M : Int}, KOk s M → totK c (l.foldl (shrK pc who ix day) s) = totK c s + sumF (fun h => runsB h day) (giveT pc who ix c) l
 | [], _, s, M, _ => by simp [sumF]
 | h :: r, hp, s, M, hs => by
  have hh := hp h (List.mem_cons_self ..)
  rw [List.foldl_cons]
  simp only [sumF]
  have hw : 0 < (who h).length ∨ who h = [] := by cases who h with | nil => exact .inr rfl | cons a r => exact .inl (by simp)
  by_cases e : runsB h day = true
  ·have e1 : shrK pc who ix day s h = shareK ix h.company (pc h) (who h) s := by unfold shrK; rw [if_pos e]
   have hs2 := shareK_ok (ix := ix) (company := h.company) hh.1 hh.2 (who h) hs
   rw [e1, fold_tot pc who ix day c r (fun x hx => hp x (List.mem_cons_of_mem _ hx)) hs2, if_pos e]
   have := foldK_tot (ix := ix) (company := h.company) hh.1 hh.2 c (who h) hw hs
   unfold shareK giveT
   rw [this]; omega
  ·have e1 : shrK pc who ix day s h = s := by unfold shrK; rw [if_neg e]
   rw [e1, fold_tot pc who ix day c r (fun x hx => hp x (List.mem_cons_of_mem _ hx)) hs, if_neg e]
   omega
theorem whoC_own {h : Hd} (hp : Prp h) : ¬ h.company ∈ whoC h ∧ 0 < (whoC h).length ∧ (whoC h).length ≤ 5 := by
 unfold whoC
 split
 ·exact ⟨hp.own, by simp, by have := hp.joint4; simp; omega⟩
 ·exact ⟨by simpa using hp.nom, by simp, by simp⟩
theorem giveT_cap {h : Hd} (hp : Prp h) (h0 : 0 ≤ h.capital) (ix : ByteArray → Int) (c : Int) : giveT Hd.capital whoC ix c h = if ix h.company = c then h.capital * 60 else 0 := by
 obtain ⟨h1, h2, h3⟩ := whoC_own hp
 unfold giveT
 rw [cntW_all h1, tdiv_five h0 h2 h3]
/-- who votes: not a company for itself -/
def selfP (h : Hd) : Bool := decide (h.pledged = h.company)
theorem giveT_vot {h : Hd} (hp : Prp h) (h0 : 0 ≤ h.votes) (ix : ByteArray → Int) (c : Int) : giveT Hd.votes whoV ix c h = if ix h.company = c then (if selfP h = true then 0 else h.votes * 60) else 0 := by
 unfold giveT whoV selfP
 by_cases e : h.pledged = emp
 ·rw [if_pos e]
  obtain ⟨h1, h2, h3⟩ := whoC_own hp
  have hne : h.pledged ≠ h.company := fun e2 => name_ne hp.company (e2.symm.trans e)
  rw [cntW_all h1, tdiv_five h0 h2 h3, decide_eq_false hne]
  simp
 ·rw [if_neg e]
  by_cases e2 : h.pledged = h.company
  ·rw [decide_eq_true e2]
   unfold cntW
   simp [e2]
  ·rw [decide_eq_false e2]
   unfold cntW
   simp [e2]
theorem sumF_mul {α : Type} (p : α → Bool) (g : α → Int) (m : Int) : ∀ l : List α, sumF p (fun x => g x * m) l = sumF p g l * m
 | [] => by simp [sumF]
 | a :: r => by
  simp only [sumF, sumF_mul p g m r]
  split
  ·rw [Int.add_mul]
  ·rw [Int.add_mul]; simp
theorem capP {l : List Hd} (hp : ∀ h ∈ l, properB h = true) : ∀ h ∈ l, (0 ≤ h.capital ∧ h.capital ≤ 100) ∧ (0 ≤ h.votes ∧ h.votes ≤ 100) := fun h hh => by
 have := ((proper_iff h).1 (hp h hh)).pct
 unfold pctB at this
 simp only [Bool.and_eq_true, decide_eq_true_eq] at this
 exact this
theorem cap_tot {l m : List Hd} (hp : ∀ h ∈ l, properB h = true) (hm : ∀ h ∈ l, h ∈ m) {i : Nat} (hi : i < (partiesS m).length) (day : Int) : totK (i : Int) (capK (ixS (partiesS m)) day l) = capS l day (partiesS m)[i] * 60 := by
 have hc := capP hp
 have h1 := fold_tot Hd.capital whoC (ixS (partiesS m)) day (i : Int) l (fun h hh => (hc h hh).1) nilK_ok
 have e : capK (ixS (partiesS m)) day l = l.foldl (shrK Hd.capital whoC (ixS (partiesS m)) day) nilK := rfl
 rw [e, h1]
 have hz : totK (i : Int) nilK = 0 := rfl
 rw [hz, Int.zero_add]
 unfold capS
 rw [← sumF_mul]
 have aux : ∀ q : List Hd, (∀ h ∈ q, h ∈ l) → sumF (fun h => runsB h day) (giveT Hd.capital whoC (ixS (partiesS m)) (i : Int)) q = sumF (inB day (partiesS m)[i]) (fun x => x.capital * 60) q := by
  intro q
  induction q with
  | nil => intro _; rfl
  | cons h r ih =>
   intro hq
   have hl := hq h (List.mem_cons_self ..)
   simp only [sumF, ih fun x hx => hq x (List.mem_cons_of_mem _ hx)]
   have hcm : h.company ∈ partiesS m := mem_partiesS.2 ⟨h, hm h hl, by unfold namesH; exact List.mem_cons_self ..⟩
   have hx := ix_inj hcm (List.getElem_mem hi)
   have hxi : ixS (partiesS m) (partiesS m)[i] = i := ix_get (partiesS_nodup m) hi
   rw [hxi] at hx
   rw [giveT_cap ((proper_iff h).1 (hp h hl)) (hc h hl).1.1]
   have hd : decide (h.company = (partiesS m)[i]) = decide (ixS (partiesS m) h.company = i) := decide_eq_decide.2 hx.symm
   unfold inB
   rw [hd]
   by_cases e1 : runsB h day = true <;> by_cases e2 : ixS (partiesS m) h.company = i <;> simp [e1, e2]
 exact aux l fun h hh => hh
theorem vot_tot {l m : List Hd} (hp : ∀ h ∈ l, properB h = true) (hm : ∀ h ∈ l, h ∈ m) {i : Nat} (hi : i < (partiesS m).length) (day : Int) : totK (i : Int) (votK (ixS (partiesS m)) day l) = sumF (fun h => inB day (partiesS m)[i] h && !selfP h) Hd.votes l * 60 := by
 have hc := capP hp
 have h1 := fold_tot Hd.votes whoV (ixS (partiesS m)) day (i : Int) l (fun h hh => (hc h hh).2) nilK_ok
 have e : votK (ixS (partiesS m)) day l = l.foldl (shrK Hd.votes whoV (ixS (partiesS m)) day) nilK := rfl
 rw [e, h1]
 have hz : totK (i : Int) nilK = 0 := rfl
 rw [hz, Int.zero_add]
 rw [← sumF_mul]
 have aux : ∀ q : List Hd, (∀ h ∈ q, h ∈ l) → sumF (fun h => runsB h day) (giveT Hd.votes whoV (ixS (partiesS m)) (i : Int)) q = sumF (fun h => inB day (partiesS m)[i] h && !selfP h) (fun x => x.votes * 60) q := by
  intro q
  induction q with
  | nil => intro _; rfl
  | cons h r ih =>
   intro hq
   have hl := hq h (List.mem_cons_self ..)
   simp only [sumF, ih fun x hx => hq x (List.mem_cons_of_mem _ hx)]
   have hcm : h.company ∈ partiesS m := mem_partiesS.2 ⟨h, hm h hl, by unfold namesH; exact List.mem_cons_self ..⟩
   have hx := ix_inj hcm (List.getElem_mem hi)
   have hxi : ixS (partiesS m) (partiesS m)[i] = i := ix_get (partiesS_nodup m) hi
   rw [hxi] at hx
   rw [giveT_vot ((proper_iff h).1 (hp h hl)) (hc h hl).2.1]
   have hd : decide (h.company = (partiesS m)[i]) = decide (ixS (partiesS m) h.company = i) := decide_eq_decide.2 hx.symm
   unfold inB
   rw [hd]
   by_cases e1 : runsB h day = true <;> by_cases e2 : ixS (partiesS m) h.company = i <;> by_cases e3 : selfP h = true <;> simp [e1, e2, e3]
 exact aux l fun h hh => hh
/-! on every day a company is held by no more than its whole -/
theorem latest {l : List Hd} (p : Hd → Bool) : (∃ h ∈ l, p h = true) → ∃ h ∈ l, p h = true ∧ ∀ x ∈ l, p x = true → x.fr ≤ h.fr := by
 induction l with
 | nil => rintro ⟨h, hh, _⟩; cases hh
 | cons a r ih =>
  rintro ⟨h, hh, hp⟩
  by_cases hr : ∃ x ∈ r, p x = true
  ·obtain ⟨b, hb, h1, h2⟩ := ih hr
   by_cases hc : p a = true ∧ b.fr ≤ a.fr
   ·refine ⟨a, List.mem_cons_self .., hc.1, fun x hx hpx => ?_⟩
    rcases List.mem_cons.1 hx with rfl | hx
    ·exact Int.le_refl _
    ·have := h2 x hx hpx; omega
   ·refine ⟨b, List.mem_cons_of_mem _ hb, h1, fun x hx hpx => ?_⟩
    rcases List.mem_cons.1 hx with rfl | hx
    ·have : ¬ b.fr ≤ x.fr := fun h3 => hc ⟨hpx, h3⟩
     omega
    ·exact h2 x hx hpx
  ·rcases List.mem_cons.1 hh with rfl | hh
   ·refine ⟨h, List.mem_cons_self .., hp, fun x hx hpx => ?_⟩
    rcases List.mem_cons.1 hx with rfl | hx
    ·exact Int.le_refl _
    ·exact absurd ⟨x, hx, hpx⟩ hr
   ·exact absurd ⟨h, hh, hp⟩ hr
/-- each holding on its own first day -/
def sumsB (l : List Hd) : Bool := l.all fun h => okC l h.fr h.company
theorem held0 {l : List Hd} (hp : ∀ h ∈ l, properB h = true) (hb : sumsB l = true) (day : Int) (c : ByteArray) : capS l day c ≤ 100 ∧ votS l day c ≤ 100 := by
 have hc := capP hp
 by_cases hr : ∃ h ∈ l, inB day c h = true
 ·obtain ⟨h, hh, h1, h2⟩ := latest _ hr
  have h4 := List.all_eq_true.1 hb h hh
  unfold inB at h1
  simp only [Bool.and_eq_true, decide_eq_true_eq] at h1
  rw [h1.2] at h4
  unfold okC at h4
  simp only [Bool.and_eq_true, decide_eq_true_eq] at h4
  have hle : ∀ x ∈ l, inB day c x = true → inB h.fr c x = true := fun x hx hi => by
   have h5 := h2 x hx hi
   unfold inB runsB at hi ⊢
   simp only [Bool.and_eq_true, Bool.or_eq_true, decide_eq_true_eq] at hi ⊢
   have h1r := h1.1
   unfold runsB at h1r
   simp only [Bool.and_eq_true, Bool.or_eq_true, decide_eq_true_eq] at h1r
   refine ⟨⟨h5, ?_⟩, hi.2⟩
   rcases hi.1.2 with h6 | h6
   ·exact .inl h6
   ·exact .inr (by omega)
  have s1 : capS l day c ≤ capS l h.fr c := by
   unfold capS
   refine sumF_le fun x hx => ?_
   have h6 := (hc x hx).1.1
   by_cases e : inB day c x = true
   ·rw [if_pos e, if_pos (hle x hx e)]; exact Int.le_refl _
   ·rw [if_neg e]; split <;> omega
  have s2 : votS l day c ≤ votS l h.fr c := by
   unfold votS
   refine sumF_le fun x hx => ?_
   have h6 := (hc x hx).2.1
   by_cases e : inB day c x = true
   ·rw [if_pos e, if_pos (hle x hx e)]; exact Int.le_refl _
   ·rw [if_neg e]; split <;> omega
  omega
 ·have z : ∀ g : Hd → Int, sumF (inB day c) g l = 0 := fun g => sumF_zero fun h hh e => absurd ⟨h, hh, e⟩ hr
  unfold capS votS
  rw [z, z]; omega
theorem own_runs {h : Hd} (hp : properB h = true) : runsB h h.fr = true := by
 have := ((proper_iff h).1 hp).days
 unfold pr4 at this
 unfold runsB
 simp only [Bool.and_eq_true, Bool.or_eq_true, decide_eq_true_eq] at this ⊢
 exact ⟨Int.le_refl _, this.2.imp id fun h => h.2⟩
theorem sums_bear {l : List Hd} (hp : ∀ h ∈ l, properB h = true) : sumsB l = bearB l := by
 rw [Bool.eq_iff_iff]
 constructor
 ·intro hb
  unfold bearB onB
  refine List.all_eq_true.2 fun h hh => List.all_eq_true.2 fun g hg => ?_
  have := held0 hp hb h.fr g.company
  unfold okC
  rw [decide_eq_true this.1, decide_eq_true this.2]
  simp
 ·intro hb
  unfold sumsB
  refine List.all_eq_true.2 fun h hh => ?_
  have h3 := List.all_eq_true.1 hb h hh
  have h4 := List.all_eq_true.1 h3 h hh
  rw [own_runs (hp h hh)] at h4
  simpa using h4
theorem held {l : List Hd} (hp : ∀ h ∈ l, properB h = true) (hb : bearB l = true) (day : Int) (c : ByteArray) : capS l day c ≤ 100 ∧ votS l day c ≤ 100 := held0 hp (by rw [sums_bear hp]; exact hb) day c
end Rg
end Go.Proofs.YtdekcppfpgeneaaGreatDoor
set_option linter.unusedVariables false
set_option linter.unusedSimpArgs false
namespace Go.Proofs.YtdekcppfpgeneaaGreatDoor
open Go Go.RowKit
namespace Rg
open Av Nt

/-! What At returns for a valid register is well-formed. -/
theorem sumF_ge {α : Type} {p : α → Bool} {f : α → Int} : ∀ {l : List α}, (∀ h ∈ l, p h = true → 0 ≤ f h) → ∀ {x : α}, x ∈ l → p x = true → f x ≤ sumF p f l
 | [], _, x, hx, _ => by cases hx
 | a :: r, hn, x, hx, hp => by
  have h0 := sumF_nonneg (p := p) (f := f) (l := r) fun y hy => hn y (List.mem_cons_of_mem _ hy)
  have ha := hn a (List.mem_cons_self ..)
  simp only [sumF]
  rcases List.mem_cons.1 hx with rfl | hx
  ·rw [if_pos hp]; omega
  ·have := sumF_ge (fun y hy => hn y (List.mem_cons_of_mem _ hy)) hx hp
   by_cases e : p a = true
   ·rw [if_pos e]; have := ha e; omega
   ·rw [if_neg e]; omega
theorem tdiv_pos {pc : Int} (h0 : 0 < pc) {n : Nat} (h1 : 0 < n) (h5 : n ≤ 5) : 0 < (pc * 60).tdiv n := by
 have := tdiv_five (pc := pc) (by omega) h1 h5
 refine Classical.byContradiction fun hn => ?_
 have h2 : (pc * 60).tdiv n * n ≤ 0 := Int.mul_nonpos_of_nonpos_of_nonneg (by omega) (by omega)
 omega
theorem tdiv_nn {pc : Int} (h0 : 0 ≤ pc) (n : Nat) : 0 ≤ (pc * 60).tdiv n := Int.tdiv_nonneg (by omega) (Int.natCast_nonneg n)
/-- a list of links out of a map of pairs of places of parties: what it has to be -/
structure KGood (n : Nat) (s : KSt) : Prop where
 nd : s.1.Nodup
 rng : ∀ k ∈ s.1, (0 ≤ k.1 ∧ k.1 < n) ∧ (0 ≤ k.2 ∧ k.2 < n) ∧ k.1 ≠ k.2
 pos : ∀ k ∈ s.1, 0 < s.2 k
 tot : ∀ c : Int, totK c s ≤ 6000
theorem val_le_tot {n : Nat} {s : KSt} (h : KGood n s) {k : Int × Int} (hk : k ∈ s.1) : s.2 k ≤ 6000 := by
 have h1 := h.tot k.1
 have h2 := sumF_ge (p := fun j : Int × Int => decide (j.1 = k.1)) (f := s.2) (l := s.1) (fun j hj _ => Int.le_of_lt (h.pos j hj)) hk (decide_eq_true rfl)
 unfold totK at h1
 omega
theorem units_lk {n : Nat} {s : KSt} (h : KGood n s) {k : Int × Int} (hk : k ∈ s.1) : unitsR (lkOf s k).part = s.2 k := by
 have h1 := h.pos k hk
 have h2 := val_le_tot h hk
 unfold lkOf
 simp only
 obtain ⟨v, hv⟩ : ∃ v : Nat, s.2 k = v := ⟨(s.2 k).toNat, by omega⟩
 rw [hv] at h1 h2 ⊢
 exact units_of (by omega) (by omega)
theorem totU_lk {n : Nat} {s : KSt} (h : KGood n s) {l : List (Int × Int)} (hl : ∀ k ∈ l, k ∈ s.1) (c : Int) : totU (l.map (lkOf s)) c = sumF (fun k : Int × Int => decide (k.1 = c)) s.2 l := by
 unfold totU
 rw [sumF_map]
 exact sumF_congr fun k hk => ⟨rfl, fun _ => units_lk h (hl k hk)⟩
theorem ix_rng {ps : List ByteArray} {x : ByteArray} (hx : x ∈ ps) : 0 ≤ ixS ps x ∧ ixS ps x < ps.length := by
 obtain ⟨i, hi, e, _⟩ := ix_at hx
 omega
theorem whoV_names {h : Hd} (hp : properB h = true) {x : ByteArray} (hx : x ∈ whoV h) : x ∈ namesH h := by
 unfold whoV at hx
 by_cases e : h.pledged = emp
 ·rw [if_pos e] at hx; exact whoC_names hp hx
 ·rw [if_neg e, List.mem_singleton] at hx
  subst hx
  unfold namesH
  simp only [List.mem_cons, List.mem_filter, Bool.not_eq_true', decide_eq_false_iff_not, true_or, or_true, true_and]
  exact .inr (.inr e)
theorem whoV_len5 {h : Hd} (hp : Prp h) : 0 < (whoV h).length ∧ (whoV h).length ≤ 5 := by
 unfold whoV
 split
 ·exact ⟨(whoC_own hp).2.1, (whoC_own hp).2.2⟩
 ·exact ⟨by simp, by simp⟩
theorem tot_other {ps : List ByteArray} {s : KSt} (hr : ∀ k ∈ s.1, 0 ≤ k.1 ∧ k.1 < ps.length) (ht : ∀ i, i < ps.length → totK (i : Int) s ≤ 6000) (c : Int) : totK c s ≤ 6000 := by
 by_cases h : 0 ≤ c ∧ c < ps.length
 ·obtain ⟨i, rfl⟩ : ∃ i : Nat, c = i := ⟨c.toNat, by omega⟩
  exact ht i (by omega)
 ·have : totK c s = 0 := sumF_zero fun k hk e => by
   have := hr k hk
   have : k.1 = c := of_decide_eq_true e
   omega
  omega
/-- one of At's maps -/
theorem kgood_of {l : List Hd} (hv : validB l = true) (day : Int) (pc : Hd → Int) (who : Hd → List ByteArray) (h0 : ∀ h ∈ l, 0 ≤ pc h) (hw : ∀ h ∈ l, 0 < (who h).length ∧ (who h).length ≤ 5) (hn : ∀ h ∈ l, ∀ x ∈ who h, x ∈ namesH h) {s : KSt} (hnd : s.1.Nodup)
  (hm : ∀ k, k ∈ s.1 ↔ ∃ h ∈ l, runsB h day = true ∧ ∃ x ∈ who h, giveC (ixS (partiesS l)) h.company (pc h) k x = true)
  (hval : ∀ k, s.2 k = sumF (fun h => runsB h day) (fun h => giveF (ixS (partiesS l)) h.company (pc h) (who h) k) l)
  (ht : ∀ i, i < (partiesS l).length → totK (i : Int) s ≤ 6000) : KGood (partiesS l).length s := by
 have hrng : ∀ k ∈ s.1, (0 ≤ k.1 ∧ k.1 < (partiesS l).length) ∧ (0 ≤ k.2 ∧ k.2 < (partiesS l).length) ∧ k.1 ≠ k.2 := fun k hk => by
  obtain ⟨h, hh, _, x, hx, h2⟩ := (hm k).1 hk
  unfold giveC at h2
  simp only [decide_eq_true_eq] at h2
  have hc : h.company ∈ partiesS l := mem_partiesS.2 ⟨h, hh, by unfold namesH; exact List.mem_cons_self ..⟩
  have hxm : x ∈ partiesS l := mem_partiesS.2 ⟨h, hh, hn h hh x hx⟩
  rw [← h2.2.2]
  refine ⟨ix_rng hc, ix_rng hxm, fun e => ?_⟩
  exact h2.2.1 ((ix_inj hc hxm).1 e).symm
 refine ⟨hnd, hrng, fun k hk => ?_, fun c => tot_other (fun k hk => (hrng k hk).1) ht c⟩
 obtain ⟨h, hh, h1, x, hx, h2⟩ := (hm k).1 hk
 have hpc : 0 < pc h := by unfold giveC at h2; simp only [decide_eq_true_eq] at h2; exact h2.1
 have h3 := tdiv_pos hpc (hw h hh).1 (hw h hh).2
 have h4 : (pc h * 60).tdiv (who h).length ≤ giveF (ixS (partiesS l)) h.company (pc h) (who h) k := by
  unfold giveF
  exact sumF_ge (f := fun _ => (pc h * 60).tdiv (who h).length) (fun _ _ _ => Int.le_of_lt h3) hx h2
 have h5 := sumF_ge (p := fun h => runsB h day) (f := fun h => giveF (ixS (partiesS l)) h.company (pc h) (who h) k) (l := l) (fun y hy _ => by
  unfold giveF
  exact sumF_nonneg fun _ _ _ => tdiv_nn (h0 y hy) _) hh h1
 rw [hval]
 omega
theorem cap_good {l : List Hd} (hv : validB l = true) (day : Int) : KGood (partiesS l).length (capK (ixS (partiesS l)) day l) := by
 have hp := (valid_all hv).1
 have hc := capP hp
 have hb : bearB l = true := by
  unfold validB at hv; simp only [Bool.and_eq_true] at hv; exact hv.2.2.2
 refine kgood_of hv day Hd.capital whoC (fun h hh => (hc h hh).1.1) (fun h hh => (whoC_own ((proper_iff h).1 (hp h hh))).2) (fun h hh x hx => whoC_names (hp h hh) hx) (capK_nodup ..) (capK_mem _ day l) (capK_val _ day l) fun i hi => ?_
 rw [cap_tot hp (fun h hh => hh) hi day]
 have := (held hp hb day (partiesS l)[i]).1
 omega
theorem vot_good {l : List Hd} (hv : validB l = true) (day : Int) : KGood (partiesS l).length (votK (ixS (partiesS l)) day l) := by
 have hp := (valid_all hv).1
 have hc := capP hp
 have hb : bearB l = true := by
  unfold validB at hv; simp only [Bool.and_eq_true] at hv; exact hv.2.2.2
 refine kgood_of hv day Hd.votes whoV (fun h hh => (hc h hh).2.1) (fun h hh => whoV_len5 ((proper_iff h).1 (hp h hh))) (fun h hh x hx => whoV_names (hp h hh) hx) (votK_nodup ..) (votK_mem _ day l) (votK_val _ day l) fun i hi => ?_
 rw [vot_tot hp (fun h hh => hh) hi day]
 have h1 := (held hp hb day (partiesS l)[i]).2
 have h2 : sumF (fun h => inB day (partiesS l)[i] h && !selfP h) Hd.votes l ≤ votS l day (partiesS l)[i] := by
  unfold votS
  refine sumF_le fun x hx => ?_
  have h6 := (hc x hx).2.1
  by_cases e : inB day (partiesS l)[i] x = true
  ·rw [if_pos e]; split <;> omega
  ·simp [e]
 omega
end Rg
end Go.Proofs.YtdekcppfpgeneaaGreatDoor
set_option linter.unusedVariables false
set_option linter.unusedSimpArgs false
namespace Go.Proofs.YtdekcppfpgeneaaGreatDoor
open Go Go.RowKit
namespace Rg
open Av Nt
theorem totU_take {L : List Lk} (c : Int) {k : Nat} (h : k < L.length) : totU (L.take (k + 1)) c = totU (L.take k) c + (if L[k].company = c then unitsR L[k].part else 0) := by
 have e : L.take (k + 1) = L.take k ++ [L[k]] := by rw [List.take_add_one, List.getElem?_eq_getElem h]; rfl
 rw [e, totU_snoc]
theorem totU_le {L : List Lk} (c : Int) (k : Nat) : totU (L.take k) c ≤ totU L c := sumF_take_le (fun x _ _ => (units_bd x.part).1) k
def part6 (T : Nat) : Rt := ofR (T : Int) 6000
structure LGood (L : List Lk) : Prop where
 part : ∀ x ∈ L, x.part = part6 (unitsR x.part).toNat
theorem lgood_lnk {n : Nat} {s : KSt} (h : KGood n s) : LGood (lnkS s) := ⟨fun x hx => by
 unfold lnkS at hx
 obtain ⟨k, hk, rfl⟩ := List.mem_map.1 hx
 have hk := sortK_mem.1 hk
 rw [units_lk h hk]
 have := h.pos k hk
 unfold part6
 rw [show ((s.2 k).toNat : Int) = s.2 k by omega]
 rfl⟩
theorem totU_lnk {n : Nat} {s : KSt} (h : KGood n s) (c : Int) : totU (lnkS s) c = totK c s := by
 unfold lnkS
 rw [totU_lk h (fun k hk => sortK_mem.1 hk)]
 exact sumF_perm _ _ (sortK_perm s.1)
theorem part6_form (T : Nat) (h : T ≤ 6000) : ∃ p q : Nat, part6 T = ⟨false, decT p, decT q⟩ ∧ p ≤ 6000 ∧ q ≤ 6000 ∧ 0 < q ∧ p * 6000 = T * q ∧ validR (part6 T) = true := by
 have e : part6 T = lowR false T 6000 := ofR_nat T 6000 (by omega)
 rcases Nat.eq_zero_or_pos T with h0 | h0
 ·subst h0
  refine ⟨0, 1, ?_, by omega, by omega, by omega, by omega, ?_⟩
  ·rw [e]; kernel_rfl
  ·rw [e]; kernel_rfl
 ·have t6 : 6000 < tp 300 := Nat.lt_of_lt_of_le (by decide : 6000 < tp 4) (tp_le (by decide))
  refine ⟨T / Nat.gcd T 6000, 6000 / Nat.gcd T 6000, ?_, ?_, ?_, low_pos (by omega), low_back, ?_⟩
  ·rw [e]; rfl
  ·exact Nat.le_trans (Nat.div_le_self _ _) h
  ·exact Nat.div_le_self _ _
  ·rw [e]; exact valid_low h0 (by omega) (Nat.lt_of_le_of_lt h t6) t6
theorem eqL_rt (x y : Rt) : eqL [.bool x.neg, .string x.num, .string x.den] [.bool y.neg, .string y.num, .string y.den] = decide (x = y) := by
 obtain ⟨c, d, e⟩ := x
 obtain ⟨h, i, j⟩ := y
 simp only [eqL, eqV, Rt.mk.injEq]
 by_cases h3 : c = h <;> by_cases h4 : d = i <;> by_cases h5 : e = j <;> simp [h3, h4, h5]
end Rg
namespace Av
attribute [local irreducible] AW AOps AHOps
open Nt Rg
section
variable {base : World} (hT : Tabs base)
include hT
theorem radd6 (a b : Nat) (ha : a ≤ 6000) (hb : b ≤ 6000) : PureA Tryz.prog base 59 [ratA (part6 a), ratA (part6 b)] (.tup [ratA (part6 (a + b)), iA 0]) := by
 obtain ⟨p1, q1, e1, h1, h2, k1, m1, v1⟩ := part6_form a ha
 obtain ⟨p2, q2, e2, h3, h4, k2, m2, v2⟩ := part6_form b hb
 rw [e1] at v1
 rw [e2] at v2
 rw [e1, e2]
 have := radd_a hT p1 q1 p2 q2 (by omega) (by omega) (by omega) (by omega) k1 k2 v1 v2
 have e : lowR false (p1 * q2 + p2 * q1) (q1 * q2) = part6 (a + b) := by
  unfold part6
  rw [show (6000 : Int) = ((6000 : Nat) : Int) from rfl, ofR_nat _ _ (by omega)]
  refine lowR_cross (Nat.mul_pos k1 k2) (by omega) ?_
  rw [Nat.add_mul, Nat.add_mul]
  have x1 : p1 * q2 * 6000 = a * (q1 * q2) := by
   rw [Nat.mul_right_comm, m1, Nat.mul_assoc]
  have x2 : p2 * q1 * 6000 = b * (q1 * q2) := by
   rw [Nat.mul_right_comm, m2, Nat.mul_assoc, Nat.mul_comm q2 q1]
  rw [x1, x2]
 rw [e] at this
 exact this
set_option maxRecDepth 100000 in
set_option maxHeartbeats 4000000 in
theorem adds_a (L : List Lk) (c p : Int) (hl : L.length ≤ 1000000) (hp0 : 0 ≤ p) (hp1 : p ≤ 100) (hx : LGood L) (ht : totU L c = p * 60) : PureA Tryz.prog base 26 [.d (lklP L), iA c, iA p] (boA true) := by
 have c1 := lof_a (base := base) hT 0 1 (by omega) (by omega) (by omega) (by omega)
 have c2 := lof_a (base := base) hT p 100 (by omega) (by omega) (by omega) (by omega)
 have e0 : ofR 0 1 = part6 0 := ofR_cross (n := 0) (d := 1) (n' := 0) (d' := 6000) (by decide) (by decide) (by decide)
 have e1 : ofR p 100 = part6 (p * 60).toNat := by
  obtain ⟨q, rfl⟩ : ∃ q : Nat, p = q := ⟨p.toNat, by omega⟩
  have : ((q : Int) * 60).toNat = q * 60 := by omega
  rw [this]
  exact ofR_cross (n := q) (d := 100) (n' := q * 60) (d' := 6000) (by decide) (by decide) (by omega)
 rw [e0] at c1
 rw [e1] at c2
 refine pure_enter ttOk Tryz.call26 Tryz.func26 rfl fun H hB hb hF => ?_
 rw [Tryz.results26, Tryz.ntmps26]
 simp only [arr_list, List.length_cons, List.length_nil, List.replicate, List.cons_append, List.nil_append, Nat.reduceAdd, Nat.reduceSub]
 clear hF hb
 have la : (L.map lkP).length = L.length := by simp
 simp only [lklP, iA, ratA, tA] at c1 c2 ⊢
 have hxs : ∀ i (h : i < L.length), L[i].part = part6 (unitsR L[i].part).toNat := fun i h => hx.part _ (List.getElem_mem h)
 have hnn : ∀ k, 0 ≤ totU (L.take k) c := fun k => totU_nonneg _ _
 have hle : ∀ k, totU (L.take k) c ≤ totU L c := totU_le c
 clear e0 e1 hx
 repeat' (first | (refine aops_cons ?_; first | (refine zg rfl ?_; first | refine grd_on ?_ | refine zo ?_ | (refine zs ?_ ?_ <;> intro hb <;> ((try simp only [bn] at hb); first | subst hb | simp only [hb]))) | (apply aops_o; rfl; simp only [estep, avs, tts, seval] <;> exact rr) | (refine za rfl ?_; refine zp (c1) ?_)) | refine aops_nil ?_ | (refine ahops_cons ?_; first | (refine yg rfl ?_; first | refine hgrd_on ?_ | refine yo ?_ | (refine ys ?_ ?_ <;> intro hb <;> ((try simp only [bn] at hb); first | subst hb | simp only [hb]))) | (apply ahops_o; rfl; simp only [hstep, avs, tts, seval] <;> exact rr; first | trivial | omega) | (refine ya rfl ?_; refine yp (c1) ?_)) | refine ahops_nil ?_ | refine aw_seq ?_ | refine zr ttOk ?_ | refine zR 0 ttOk mixed ?_ | refine zR 1 ttOk mixed ?_ | refine zR 2 ttOk mixed ?_ | refine zR 3 ttOk mixed ?_ | refine zf rfl rfl ?_ | refine zt rfl rfl ?_ | (refine aw_cond rfl rfl ?_ ?_ <;> intro hb <;> ((try simp only [bn] at hb); first | subst hb | simp only [hb])) | refine aw_skip ?_ | refine aw_exit ?_ | refine aw_block ?_)
 refine aw_loop (H0 := H ++ [.box 40 [.d (.v (.bool (part6 0).neg)), .d (.v (.string (part6 0).num)), .d (.v (.string (part6 0).den))]]) (fun r env K => ∃ k T, r = L.length - k ∧ k ≤ L.length ∧ totU (L.take k) c = (T : Nat) ∧ K = H ++ [.box 40 [.d (.v (.bool (part6 T).neg)), .d (.v (.string (part6 T).num)), .d (.v (.string (part6 T).den))]] ∧ env = (.d (.sl 5 (L.map lkP)) :: .d (.v (.int .i64 c)) :: .d (.v (.int .i64 p)) :: .undef :: .undef :: .undef :: .undef :: .ptr H.length 0 :: .d (.v (.int .i64 (k : Int))) :: List.replicate 31 .undef)) ?_ ⟨0, 0, rfl, Nat.zero_le _, rfl, rfl, rfl⟩ ?_
 ·exact ⟨by simp [EnvLe, List.replicate], .inl rfl⟩
 rintro r env K ⟨k, T, rfl, hk, hT0, rfl, rfl⟩ hN
 simp only [rp]
 obtain ⟨d0, g0⟩ : ∃ d, decide ((k : Int) < (L.length : Int)) = d := ⟨_, rfl⟩
 cases d0 with
 | false =>
  have hka : k = L.length := by
                 have : ¬ k < L.length := by simpa using g0
                 omega
  rw [hka, List.take_length] at hT0
  have hTp : T = (p * 60).toNat := by omega
  have heq := eqL_rt (part6 T) (part6 T)
  rw [decide_eq_true rfl] at heq
  rw [← hTp] at c2
  repeat' (first | (refine aops_cons ?_; first | (refine zg rfl ?_; first | refine grd_on ?_ | refine zo ?_ | (refine zs ?_ ?_ <;> intro hb <;> ((try simp only [bn] at hb); first | subst hb | simp only [hb]))) | (apply aops_o; rfl; simp only [estep, avs, tts, seval, g0, la, heq] <;> exact rr) | (refine za rfl ?_; refine zp (c2) ?_)) | refine aops_nil ?_ | (refine ahops_cons ?_; first | (refine yg rfl ?_; first | refine hgrd_on ?_ | refine yo ?_ | (refine ys ?_ ?_ <;> intro hb <;> ((try simp only [bn] at hb); first | subst hb | simp only [hb]))) | (apply ahops_o; rfl; simp only [hstep, avs, tts, seval, g0, la, heq] <;> exact rr; first | trivial | omega) | (refine ya rfl ?_; refine yp (c2) ?_)) | refine ahops_nil ?_ | refine aw_seq ?_ | refine zr ttOk ?_ | refine zR 0 ttOk mixed ?_ | refine zR 1 ttOk mixed ?_ | refine zR 2 ttOk mixed ?_ | refine zR 3 ttOk mixed ?_ | refine zf rfl rfl ?_ | refine zt rfl rfl ?_ | (refine aw_cond rfl rfl ?_ ?_ <;> intro hb <;> ((try simp only [bn] at hb); first | subst hb | simp only [hb])) | refine aw_skip ?_ | refine aw_exit ?_ | refine aw_block ?_)
  show AW _ _ _ _ _
  exact aw_ret ⟨_, rfl, _, rfl, rfl⟩
 | true =>
  have hlt : k < L.length := by simpa using g0
  have hix : (0 : Int) ≤ (k : Int) := by omega
  have ga := lk_get hlt
  have w1 : IntKind.i64.wrap ((k : Int) + 1) = ((k + 1 : Nat) : Int) := wrap_succ hlt (by omega)
  have htk := totU_take c hlt
  have hp6 := hxs k hlt
  have hub := units_bd L[k].part
  have h1 := hle (k + 1)
  rw [htk, hT0] at h1
  obtain ⟨x, hxx⟩ : ∃ x, L[k] = x := ⟨_, rfl⟩
  rw [hxx] at ga htk hp6 hub h1
  clear hxx
  obtain ⟨xc, xh, xp⟩ := x
  simp only [lkP] at ga
  simp only at htk hp6 hub h1
  obtain ⟨d1, g1⟩ : ∃ d, decide (xc = c) = d := ⟨_, rfl⟩
  cases d1 with
  | false =>
   rw [if_neg (of_decide_eq_false g1), Int.add_zero, hT0] at htk
   repeat' (first | (refine aops_cons ?_; first | (refine zg rfl ?_; first | refine grd_on ?_ | refine zo ?_ | (refine zs ?_ ?_ <;> intro hb <;> ((try simp only [bn] at hb); first | subst hb | simp only [hb]))) | (apply aops_o; rfl; simp only [estep, avs, tts, seval, g0, la, hix, hlt, ga, w1, g1, Bool.not_false] <;> exact rr)) | refine aops_nil ?_ | (refine ahops_cons ?_; first | (refine yg rfl ?_; first | refine hgrd_on ?_ | refine yo ?_ | (refine ys ?_ ?_ <;> intro hb <;> ((try simp only [bn] at hb); first | subst hb | simp only [hb]))) | (apply ahops_o; rfl; simp only [hstep, avs, tts, seval, g0, la, hix, hlt, ga, w1, g1, Bool.not_false] <;> exact rr; first | trivial | omega)) | refine ahops_nil ?_ | refine aw_seq ?_ | refine zr ttOk ?_ | refine zR 0 ttOk mixed ?_ | refine zR 1 ttOk mixed ?_ | refine zR 2 ttOk mixed ?_ | refine zR 3 ttOk mixed ?_ | refine zf rfl rfl ?_ | refine zt rfl rfl ?_ | (refine aw_cond rfl rfl ?_ ?_ <;> intro hb <;> ((try simp only [bn] at hb); first | subst hb | simp only [hb])) | refine aw_skip ?_ | refine aw_exit ?_ | refine aw_block ?_)
   exact ⟨L.length - (k + 1), _, _, by omega, ⟨by simp [EnvLe, List.replicate], .inl rfl⟩, k + 1, T, rfl, hlt, htk, rfl, rfl⟩
  | true =>
   rw [if_pos (of_decide_eq_true g1), hT0] at htk
   rw [if_pos (of_decide_eq_true g1)] at h1
   obtain ⟨u, hu⟩ : ∃ u : Nat, unitsR xp = u := ⟨(unitsR xp).toNat, by omega⟩
   rw [hu] at hp6 htk h1 hub
   simp only [Int.toNat_natCast] at hp6
   subst hp6
   have cr := radd6 hT T u (by omega) (by omega)
   simp only [ratA, tA, iA] at cr
   repeat refine aw_seq ?_
   refine zr ttOk ?_
   repeat (refine aops_cons ?_; first | (apply aops_o; rfl; simp only [estep, avs, tts, seval, g0, la] <;> exact rr) | (refine zg rfl ?_; first | refine grd_on ?_ | refine zo ?_))
   refine aops_nil ?_
   repeat refine aw_seq ?_
   refine zt rfl rfl ?_
   refine aw_skip ?_
   repeat refine aw_seq ?_
   refine aw_block ?_
   repeat refine aw_seq ?_
   refine zr ttOk ?_
   repeat (refine aops_cons ?_; first | (apply aops_o; rfl; simp only [estep, avs, tts, seval, hix, hlt, la, ga, g1, Bool.not_true] <;> exact rr) | (refine zg rfl ?_; first | refine grd_on ?_ | refine zo ?_))
   refine aops_nil ?_
   repeat refine aw_seq ?_
   refine zf rfl rfl ?_
   refine aw_skip ?_
   repeat refine aw_seq ?_
   refine zr ttOk ?_
   repeat (refine aops_cons ?_; first | (apply aops_o; rfl; simp only [estep, avs, tts, seval] <;> exact rr) | (refine zg rfl ?_; first | refine grd_on ?_ | refine zo ?_))
   refine aops_nil ?_
   repeat refine aw_seq ?_
   refine aw_mid2 (Q0 := fun env K => K = H ++ [.box 40 [.d (.v (.bool (part6 (T + u)).neg)), .d (.v (.string (part6 (T + u)).num)), .d (.v (.string (part6 (T + u)).den))]] ∧ env = (.d (.sl 5 (L.map lkP)) :: .d (.v (.int .i64 c)) :: .d (.v (.int .i64 p)) :: .undef :: .undef :: .undef :: .undef :: .ptr H.length 0 :: .d (.v (.int .i64 (k : Int))) :: .d (.v (.int .i64 0)) :: List.replicate 30 .undef)) ?_ ?_
   ·refine aw_orders ttOk mixed (by kernel_rfl) (by kernel_rfl) (fun β env K => (β 10 = true → β 0 = true) ∧ K = H ++ [.box 40 (if β 10 = true then [.d (.v (.bool (part6 (T + u)).neg)), .d (.v (.string (part6 (T + u)).num)), .d (.v (.string (part6 (T + u)).den))] else [.d (.v (.bool (part6 T).neg)), .d (.v (.string (part6 T).num)), .d (.v (.string (part6 T).den))])] ∧ env = (.d (.sl 5 (L.map lkP)) :: .d (.v (.int .i64 c)) :: .d (.v (.int .i64 p)) :: .undef :: .undef :: .undef :: .undef :: .ptr H.length 0 :: .d (.v (.int .i64 (k : Int))) :: .d (.v (.int .i64 0)) :: List.replicate 14 .undef ++ (if β 7 = true then .tup [.agg [.d (.v (.bool (part6 (T + u)).neg)), .d (.v (.string (part6 (T + u)).num)), .d (.v (.string (part6 (T + u)).den))], .d (.v (.int .i64 0))] else .undef) :: (if β 0 = true then .agg [.d (.v (.bool (part6 T).neg)), .d (.v (.string (part6 T).num)), .d (.v (.string (part6 T).den))] else .undef) :: (if β 1 = true then .d (.sl 5 (L.map lkP)) else .undef) :: (if β 2 = true then .d (.v (.int .i64 (k : Int))) else .undef) :: (if β 3 = true then .rp [PD.v (.int .i64 xc), .v (.int .i64 xh), .v (.bool (part6 u).neg), .v (.string (part6 u).num), .v (.string (part6 u).den)] else .undef) :: (if β 4 = true then .rp [PD.v (.bool (part6 u).neg), .v (.string (part6 u).num), .v (.string (part6 u).den)] else .undef) :: (if β 5 = true then .agg [.d (.v (.bool (part6 u).neg)), .d (.v (.string (part6 u).num)), .d (.v (.string (part6 u).den))] else .undef) :: (if β 6 = true then .tup [.agg [.d (.v (.bool (part6 (T + u)).neg)), .d (.v (.string (part6 (T + u)).num)), .d (.v (.string (part6 (T + u)).den))], .d (.v (.int .i64 0))] else .undef) :: (if β 8 = true then .agg [.d (.v (.bool (part6 (T + u)).neg)), .d (.v (.string (part6 (T + u)).num)), .d (.v (.string (part6 (T + u)).den))] else .undef) :: (if β 9 = true then .d (.v (.int .i64 0)) else .undef) :: .undef :: .undef :: .undef :: .undef :: .undef :: .undef :: [])) (H0 := H ++ [.box 40 [.d (.v (.bool (part6 T).neg)), .d (.v (.string (part6 T).num)), .d (.v (.string (part6 T).den))]]) (env0 := (.d (.sl 5 (L.map lkP)) :: .d (.v (.int .i64 c)) :: .d (.v (.int .i64 p)) :: .undef :: .undef :: .undef :: .undef :: .ptr H.length 0 :: .d (.v (.int .i64 (k : Int))) :: .d (.v (.int .i64 0)) :: List.replicate 30 .undef)) ⟨by simp [EnvLe, List.replicate], .inl rfl⟩ ⟨by simp, by simp, by simp⟩ ?_ ?_
    ·rintro β env K ⟨hc, rfl, rfl⟩ hN2 i op hget hβ hr
     simp only [rp]
     simp only [arr_list] at hget
     rcases i with _ | _ | _ | _ | _ | _ | _ | _ | _ | _ | _ | _ | i
     all_goals (try simp only [l_get0, l_getS, Option.some.injEq, List.getElem?_nil, reduceCtorEq] at hget)
     all_goals (try subst hget)
     all_goals try (simp [ready1, Region.binds] at hr)
     all_goals try (simp only [Nat.zero_add, Nat.reduceAdd] at hβ)
     ·have h10 : β 10 = false := by cases h : β 10 with
       | false => rfl
       | true => rw [hc h] at hβ; cases hβ
      simp only [AGuard, AStep, ite_tt, ite_ft, avs, tts, seval, h10, la, hix, hlt, ga]
      exact ⟨by simp, by simp [h10], by simp⟩
     ·first
       | (simp only [AGuard, AStep, ite_tt, ite_ft, avs, tts, seval, hr, la, hix, hlt, ga]; exact ⟨by first | (simp; done) | simpa using hc, by simp, by simp [hr]⟩)
       | (simp only [AGuard, AStep, ite_tt, ite_ft, avs, tts, seval, la, hix, hlt, ga]; exact ⟨by first | (simp; done) | simpa using hc, by simp, by simp⟩)
     ·first
       | (simp only [AGuard, AStep, ite_tt, ite_ft, avs, tts, seval, hr, la, hix, hlt, ga]; exact ⟨by first | (simp; done) | simpa using hc, by simp, by simp [hr]⟩)
       | (simp only [AGuard, AStep, ite_tt, ite_ft, avs, tts, seval, la, hix, hlt, ga]; exact ⟨by first | (simp; done) | simpa using hc, by simp, by simp⟩)
     ·first
       | (simp only [AGuard, AStep, ite_tt, ite_ft, avs, tts, seval, hr, la, hix, hlt, ga]; exact ⟨by first | (simp; done) | simpa using hc, by simp, by simp [hr]⟩)
       | (simp only [AGuard, AStep, ite_tt, ite_ft, avs, tts, seval, la, hix, hlt, ga]; exact ⟨by first | (simp; done) | simpa using hc, by simp, by simp⟩)
     ·first
       | (simp only [AGuard, AStep, ite_tt, ite_ft, avs, tts, seval, hr, la, hix, hlt, ga]; exact ⟨by first | (simp; done) | simpa using hc, by simp, by simp [hr]⟩)
       | (simp only [AGuard, AStep, ite_tt, ite_ft, avs, tts, seval, la, hix, hlt, ga]; exact ⟨by first | (simp; done) | simpa using hc, by simp, by simp⟩)
     ·first
       | (simp only [AGuard, AStep, ite_tt, ite_ft, avs, tts, seval, hr, la, hix, hlt, ga]; exact ⟨by first | (simp; done) | simpa using hc, by simp, by simp [hr]⟩)
       | (simp only [AGuard, AStep, ite_tt, ite_ft, avs, tts, seval, la, hix, hlt, ga]; exact ⟨by first | (simp; done) | simpa using hc, by simp, by simp⟩)
     ·simp only [AGuard, AStep, ite_tt, ite_ft, avs, tts, seval, hr, la, hix, hlt, ga]
      refine ⟨_, cr _, ?_⟩
      rintro r' H' ⟨rfl, rfl⟩ _
      exact ⟨by first | (simp; done) | simpa using hc, by simp, by simp [hr]⟩
     ·first
       | (simp only [AGuard, AStep, ite_tt, ite_ft, avs, tts, seval, hr, la, hix, hlt, ga]; exact ⟨by first | (simp; done) | simpa using hc, by simp, by simp [hr]⟩)
       | (simp only [AGuard, AStep, ite_tt, ite_ft, avs, tts, seval, la, hix, hlt, ga]; exact ⟨by first | (simp; done) | simpa using hc, by simp, by simp⟩)
     ·first
       | (simp only [AGuard, AStep, ite_tt, ite_ft, avs, tts, seval, hr, la, hix, hlt, ga]; exact ⟨by first | (simp; done) | simpa using hc, by simp, by simp [hr]⟩)
       | (simp only [AGuard, AStep, ite_tt, ite_ft, avs, tts, seval, la, hix, hlt, ga]; exact ⟨by first | (simp; done) | simpa using hc, by simp, by simp⟩)
     ·first
       | (simp only [AGuard, AStep, ite_tt, ite_ft, avs, tts, seval, hr, la, hix, hlt, ga]; exact ⟨by first | (simp; done) | simpa using hc, by simp, by simp [hr]⟩)
       | (simp only [AGuard, AStep, ite_tt, ite_ft, avs, tts, seval, la, hix, hlt, ga]; exact ⟨by first | (simp; done) | simpa using hc, by simp, by simp⟩)
     ·simp only [AGuard, AStep, ite_tt, ite_ft, avs, tts, seval, hr, hβ, la, hix, hlt, ga]
      exact ⟨by simp [hr], by simp, by simp [hr]⟩
     ·first
       | (simp only [AGuard, AStep, ite_tt, ite_ft, avs, tts, seval, hr, la, hix, hlt, ga]; exact ⟨by first | (simp; done) | simpa using hc, by simp, by simp [hr]⟩)
       | (simp only [AGuard, AStep, ite_tt, ite_ft, avs, tts, seval, la, hix, hlt, ga]; exact ⟨by first | (simp; done) | simpa using hc, by simp, by simp⟩)
    ·rintro β env K ⟨hc, rfl, rfl⟩ hall
     simp only [List.replicate, List.cons_append, List.nil_append, hall 0 (by decide), hall 1 (by decide), hall 2 (by decide), hall 3 (by decide), hall 4 (by decide), hall 5 (by decide), hall 6 (by decide), hall 7 (by decide), hall 8 (by decide), hall 9 (by decide), hall 10 (by decide), ite_tt]
     exact ⟨by first | trivial | rfl, _, _, ⟨by simp [EnvLe, List.replicate], .inl rfl⟩, rfl, rfl⟩
   rintro env0 K0 ⟨rfl, rfl⟩
   simp only [rp]
   repeat' (first | (refine aops_cons ?_; first | (refine zg rfl ?_; first | refine grd_on ?_ | refine zo ?_ | (refine zs ?_ ?_ <;> intro hb <;> ((try simp only [bn] at hb); first | subst hb | simp only [hb]))) | (apply aops_o; rfl; simp only [estep, avs, tts, seval, w1, decide_true, Bool.not_true] <;> exact rr)) | refine aops_nil ?_ | (refine ahops_cons ?_; first | (refine yg rfl ?_; first | refine hgrd_on ?_ | refine yo ?_ | (refine ys ?_ ?_ <;> intro hb <;> ((try simp only [bn] at hb); first | subst hb | simp only [hb]))) | (apply ahops_o; rfl; simp only [hstep, avs, tts, seval, w1, decide_true, Bool.not_true] <;> exact rr; first | trivial | omega)) | refine ahops_nil ?_ | refine aw_seq ?_ | refine zr ttOk ?_ | refine zR 0 ttOk mixed ?_ | refine zR 1 ttOk mixed ?_ | refine zR 2 ttOk mixed ?_ | refine zR 3 ttOk mixed ?_ | refine zf rfl rfl ?_ | refine zt rfl rfl ?_ | (refine aw_cond rfl rfl ?_ ?_ <;> intro hb <;> ((try simp only [bn] at hb); first | subst hb | simp only [hb])) | refine aw_skip ?_ | refine aw_exit ?_ | refine aw_block ?_)
   refine ⟨L.length - (k + 1), _, _, by omega, ⟨by simp [EnvLe, List.replicate], .inl rfl⟩, k + 1, T + u, rfl, hlt, by rw [htk]; omega, rfl, rfl⟩
end
end Av
end Go.Proofs.YtdekcppfpgeneaaGreatDoor
