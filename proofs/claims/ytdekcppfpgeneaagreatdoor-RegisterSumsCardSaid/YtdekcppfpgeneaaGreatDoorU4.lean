import Derived.Test.YtdekcppfpgeneaaGreatDoorU3
import Derived.Test.YtdekcppfpgeneaaGreatDoorU2
import Derived.Shelf.SlIter.Nil
import Derived.Shelf.SortM.Plain
import Derived.Shelf.SortM.SortNone
import Derived.Shelf.LaySoft
import Derived.Test.YtdekcppfpgeneaaGreatDoorProg
import Derived.StringKeys
import Derived.DeepKeys4
import Derived.Sort.MapsRangeIn
import Derived.TacticsInMore
import Derived.RegionIn
import Derived.LoopNIn
import Derived.LoopIn
import Derived.OwnWalkIn
import Derived.WalkKit
import Derived.Sort.Walk0
import Derived.Shelf.SlSortCmp.WholeK
import Derived.StillTailTactics
import Derived.LoopN
import Derived.Shelf.SlSortCmp.NoneTotal
set_option linter.unusedVariables false
set_option linter.unusedSimpArgs false
namespace Go.Proofs.YtdekcppfpgeneaaGreatDoor
open Go Go.RowKit
namespace Av
attribute [local irreducible] AW AOps AHOps
open Nt Rg

/-! register: optional, proper. -/
section
variable (base : World)
set_option maxRecDepth 100000 in
theorem opt_a (t : ByteArray) (ht : t.size ≤ 9223372036854775807) : PureA Tryz.prog base 72 [tA t] (boA (optB t)) := by
 have cn := name_a base t ht
 obtain ⟨b1, h1⟩ : ∃ b, decide (t = ⟨#[]⟩) = b := ⟨_, rfl⟩
 unfold optB
 refine pure_enter ttOk Tryz.call72 Tryz.func72 rfl fun H hB hb hF => ?_
 rw [Tryz.results72, Tryz.ntmps72]
 simp only [arr_list, List.length_cons, List.length_nil, List.replicate, List.cons_append, List.nil_append, Nat.reduceAdd, Nat.reduceSub]
 clear hF hb
 simp only [tA] at cn ⊢
 rw [h1]
 generalize nameB t = b2 at cn ⊢
 repeat' (first | (refine aops_cons ?_; first | (refine zg rfl ?_; first | refine grd_on ?_ | refine zo ?_ | (refine zs ?_ ?_ <;> intro hb <;> ((try simp only [bn] at hb); first | subst hb | simp only [hb]))) | (apply aops_o; rfl; simp only [estep, avs, tts, seval, h1] <;> exact rr) | (refine za rfl ?_; refine zp (cn) ?_)) | refine aops_nil ?_ | (refine ahops_cons ?_; first | (refine yg rfl ?_; first | refine hgrd_on ?_ | refine yo ?_ | (refine ys ?_ ?_ <;> intro hb <;> ((try simp only [bn] at hb); first | subst hb | simp only [hb]))) | (apply ahops_o; rfl; simp only [hstep, avs, tts, seval, h1] <;> exact rr; first | trivial | omega) | (refine ya rfl ?_; refine yp (cn) ?_)) | refine ahops_nil ?_ | refine aw_seq ?_ | refine zr ttOk ?_ | refine aw_drawA ttOk mixed (by kernel_rfl) (by kernel_rfl) (by kernel_rfl) ?_ | refine zf rfl rfl ?_ | refine zt rfl rfl ?_ | (refine aw_cond rfl rfl ?_ ?_ <;> intro hb <;> ((try simp only [bn] at hb); first | subst hb | simp only [hb])) | refine aw_skip ?_ | refine aw_exit ?_ | refine aw_block ?_)
 all_goals exact aw_ret ⟨_, rfl, [], by simp, rfl⟩
set_option maxRecDepth 100000 in
set_option maxHeartbeats 16000000 in
theorem proper_a (h : Hd) (hs : Small h) : PureA Tryz.prog base 44 [hdA h] (boA (properB h)) := by
 have n1 := name_a base h.id hs.id
 have n2 := name_a base h.company hs.company
 have n3 := name_a base h.holder hs.holder
 have n4 := opt_a base h.nominee hs.nominee
 have n5 := opt_a base h.pledged hs.pledged
 have q1 := pct_a base h.capital
 have q2 := pct_a base h.votes
 have q3 := day_a base h.fr
 have q4 := day_a base h.til
 have hjn : ∀ (k : Nat) (hk : k < h.joint.length), PureA Tryz.prog base 39 [tA h.joint[k]] (boA (nameB h.joint[k])) := fun k hk => name_a base _ (hs.joint _ (List.getElem_mem hk))
 have hjl := hs.jlen
 have no2 := fun e => properB_no2 (h := h) e
 obtain ⟨P, hP⟩ : ∃ P, P = properB h := ⟨_, rfl⟩
 have hP1 := hP
 unfold properB pr1 pr3 pr4 at hP1
 rw [← hP] at no2 ⊢
 clear hs hP
 have e2 : pr2 h = (h.joint.all nameB && decide ((h.holder :: h.joint).Nodup)) := rfl
 obtain ⟨P2, hP2⟩ : ∃ P2, P2 = pr2 h := ⟨_, rfl⟩
 rw [← hP2] at hP1 no2 e2
 clear hP2
 obtain ⟨id, company, holder, nominee, pledged, joint, capital, votes, fr, til⟩ := h
 simp only at n1 n2 n3 n4 n5 q1 q2 q3 q4 no2 hjn hjl hP1 e2
 simp only [tA, iA] at n1 n2 n3 n4 n5 q1 q2 q3 q4 hjn
 generalize nameB id = b1 at n1 hP1
 generalize nameB company = b2 at n2 hP1
 generalize nameB holder = b3 at n3 hP1
 generalize optB nominee = b4 at n4 hP1
 generalize optB pledged = b5 at n5 hP1
 obtain ⟨b6, h6⟩ : ∃ b, decide ((joint.length : Int) > 4) = b := ⟨_, rfl⟩
 obtain ⟨b7, h7⟩ : ∃ b, decide (nominee = ⟨#[]⟩) = b := ⟨_, rfl⟩
 obtain ⟨b8, h8⟩ : ∃ b, decide ((joint.length : Int) > 0) = b := ⟨_, rfl⟩
 have g6 : decide (joint.length ≤ 4) = !b6 := by rw [← h6, ← decide_not]; exact decide_eq_decide.2 (by omega)
 have g8 : decide (joint.length = 0) = !b8 := by rw [← h8, ← decide_not]; exact decide_eq_decide.2 (by omega)
 rw [g6, h7, g8] at hP1
 clear g6 g8
 refine pure_enter ttOk Tryz.call44 Tryz.func44 rfl fun H hB hb hF => ?_
 rw [Tryz.results44, Tryz.ntmps44]
 simp only [arr_list, List.length_cons, List.length_nil, List.replicate, List.cons_append, List.nil_append, Nat.reduceAdd, Nat.reduceSub]
 clear hF hb
 simp only [iA, hdA, hdL, tA, strsP]
 repeat refine aw_seq ?_
 refine zr ttOk ?_
 repeat (refine aops_cons ?_; first | (apply aops_o; rfl; simp only [estep, avs, tts, seval] <;> exact rr) | (refine zg rfl ?_; first | refine grd_on ?_ | refine zo ?_))
 refine aops_nil ?_
 repeat refine aw_seq ?_
 refine zr ttOk ?_
 repeat (refine aops_cons ?_; first | (apply aops_o; rfl; simp only [estep, avs, tts, seval] <;> exact rr) | (refine zg rfl ?_; first | refine grd_on ?_ | refine zo ?_))
 refine aops_nil ?_
 obtain ⟨Y, hY⟩ : ∃ Y, Y = (b1 && (b2 && (b3 && (b4 && (b5 && (!b6 && (b7 || !b8))))))) := ⟨_, rfl⟩
 rw [← hY] at hP1
 repeat refine aw_seq ?_
 refine aw_mid2 (Q0 := fun env K => K = H ++ [.box 36 [.d (.v (.string id)), .d (.v (.string company)), .d (.v (.string holder)), .d (.v (.string nominee)), .d (.v (.string pledged)), .d (.sl 1 (joint.map fun s => [PD.v (.string s)])), .d (.v (.int .i64 capital)), .d (.v (.int .i64 votes)), .d (.v (.int .i64 fr)), .d (.v (.int .i64 til))]] ∧ env = (.undef :: .ptr H.length 0 :: .d (.v (.bool false)) :: List.replicate 50 .undef ++ .d (.v (.bool (!Y))) :: List.replicate 65 .undef)) ?_ ?_
 ·repeat' (first | (refine aops_cons ?_; first | (refine zg rfl ?_; first | refine grd_on ?_ | refine zo ?_ | (refine zs ?_ ?_ <;> intro hb <;> ((try simp only [bn] at hb); first | subst hb | simp only [hb]))) | (apply aops_o; rfl; simp only [estep, avs, tts, seval, h6, h7, h8] <;> exact rr) | (refine za rfl ?_; first | refine zp (n1) ?_ | refine zp (n2) ?_ | refine zp (n3) ?_ | refine zp (n4) ?_ | refine zp (n5) ?_)) | refine aops_nil ?_ | (refine ahops_cons ?_; first | (refine yg rfl ?_; first | refine hgrd_on ?_ | refine yo ?_ | (refine ys ?_ ?_ <;> intro hb <;> ((try simp only [bn] at hb); first | subst hb | simp only [hb]))) | (apply ahops_o; rfl; simp only [hstep, avs, tts, seval, h6, h7, h8] <;> exact rr; first | trivial | omega) | (refine ya rfl ?_; first | refine yp (n1) ?_ | refine yp (n2) ?_ | refine yp (n3) ?_ | refine yp (n4) ?_ | refine yp (n5) ?_)) | refine ahops_nil ?_ | refine aw_seq ?_ | refine zr ttOk ?_ | refine aw_drawA ttOk mixed (by kernel_rfl) (by kernel_rfl) (by kernel_rfl) ?_ | refine zf rfl rfl ?_ | refine zt rfl rfl ?_ | (refine aw_cond rfl rfl ?_ ?_ <;> intro hb <;> ((try simp only [bn] at hb); first | subst hb | simp only [hb])) | refine aw_skip ?_ | refine aw_exit ?_ | refine aw_block ?_)
  all_goals exact ⟨rfl, _, _, ⟨by simp [EnvLe, List.replicate, hY], .inl rfl⟩, rfl, rfl⟩
 rintro env K ⟨rfl, rfl⟩
 simp only [rp]
 clear n1 n2 n3 n4 n5 hY h6 h8
 cases Y with
 | false =>
  repeat' (first | (refine aops_cons ?_; first | (refine zg rfl ?_; first | refine grd_on ?_ | refine zo ?_ | (refine zs ?_ ?_ <;> intro hb <;> ((try simp only [bn] at hb); first | subst hb | simp only [hb]))) | (apply aops_o; rfl; simp only [estep, avs, tts, seval] <;> exact rr)) | refine aops_nil ?_ | (refine ahops_cons ?_; first | (refine yg rfl ?_; first | refine hgrd_on ?_ | refine yo ?_ | (refine ys ?_ ?_ <;> intro hb <;> ((try simp only [bn] at hb); first | subst hb | simp only [hb]))) | (apply ahops_o; rfl; simp only [hstep, avs, tts, seval] <;> exact rr; first | trivial | omega)) | refine ahops_nil ?_ | refine aw_seq ?_ | refine zr ttOk ?_ | refine aw_drawA ttOk mixed (by kernel_rfl) (by kernel_rfl) (by kernel_rfl) ?_ | refine zf rfl rfl ?_ | refine zt rfl rfl ?_ | (refine aw_cond rfl rfl ?_ ?_ <;> intro hb <;> ((try simp only [bn] at hb); first | subst hb | simp only [hb])) | refine aw_skip ?_ | refine aw_exit ?_ | refine aw_block ?_)
  rw [hP1]
  exact aw_ret ⟨_, rfl, _, rfl, rfl⟩
 | true =>
 have ksh : ∀ x, keyShape (.one .str) (.string x) = true := fun _ => rfl
 have ms0 : mset [] (.string holder) (.d (.v (.bool true))) = setE [holder] := rfl
 repeat refine aw_seq ?_
 refine aw_cond rfl rfl (fun hb => ?_) fun hb => ?_
 ·cases hb
 refine aw_skip ?_
 repeat refine aw_seq ?_
 refine zr ttOk ?_
 repeat (refine aops_cons ?_; first | (apply aops_o; rfl; simp only [estep, avs, tts, seval, ksh, ms0] <;> exact rr) | (refine zg rfl ?_; first | refine grd_on ?_ | refine zo ?_))
 refine aops_nil ?_
 repeat refine aw_seq ?_
 refine zr ttOk ?_
 repeat (refine aops_cons ?_; first | (apply aops_o; rfl; simp only [estep, avs, tts, seval] <;> exact rr) | (refine zg rfl ?_; first | refine grd_on ?_ | refine zo ?_))
 refine aops_nil ?_
 repeat refine aw_seq ?_
 refine aw_block (aw_loop (H0 := H ++ [.box 36 [.d (.v (.string id)), .d (.v (.string company)), .d (.v (.string holder)), .d (.v (.string nominee)), .d (.v (.string pledged)), .d (.sl 1 (joint.map fun s => [PD.v (.string s)])), .d (.v (.int .i64 capital)), .d (.v (.int .i64 votes)), .d (.v (.int .i64 fr)), .d (.v (.int .i64 til))], .mp 9 4 (.one .str) (setE [holder])]) (fun r env K2 => ∃ k, r = joint.length - k ∧ k ≤ joint.length ∧ (∀ (i : Nat) (hi : i < joint.length), i < k → nameB joint[i] = true) ∧ (holder :: joint.take k).Nodup ∧ K2 = H ++ [.box 36 [.d (.v (.string id)), .d (.v (.string company)), .d (.v (.string holder)), .d (.v (.string nominee)), .d (.v (.string pledged)), .d (.sl 1 (joint.map fun s => [PD.v (.string s)])), .d (.v (.int .i64 capital)), .d (.v (.int .i64 votes)), .d (.v (.int .i64 fr)), .d (.v (.int .i64 til))], .mp 9 4 (.one .str) (setE (holder :: joint.take k))] ∧ env = (.undef :: .ptr H.length 0 :: .d (.v (.bool false)) :: .undef :: .mp (H.length + 1) :: List.replicate 54 .undef ++ .d (.sl 1 (joint.map fun s => [PD.v (.string s)])) :: .d (.v (.int .i64 (joint.length : Int))) :: .d (.v (.int .i64 (k : Int))) :: List.replicate 57 .undef)) ?_ ⟨0, rfl, Nat.zero_le _, fun i hi h0 => by omega, by simp, rfl, rfl⟩ ?_)
 ·exact ⟨by simp [EnvLe, List.replicate], .inl rfl⟩
 rintro r env K2 ⟨k, rfl, hk, hok, hnd, rfl, rfl⟩ hN
 simp only [rp]
 obtain ⟨c0, g0⟩ : ∃ c0, decide ((k : Int) < (joint.length : Int)) = c0 := ⟨_, rfl⟩
 repeat refine aw_seq ?_
 refine zr ttOk ?_
 repeat (refine aops_cons ?_; first | (apply aops_o; rfl; simp only [estep, avs, tts, seval, g0] <;> exact rr) | (refine zg rfl ?_; first | refine grd_on ?_ | refine zo ?_))
 refine aops_nil ?_
 cases c0 with
 | true =>
  have hlt : k < joint.length := by simpa using g0
  have hix : (0 : Int) ≤ (k : Int) := by omega
  have hg := strsP_get hlt
  have cj := hjn k hlt
  have w1 : IntKind.i64.wrap ((k : Int) + 1) = ((k + 1 : Nat) : Int) := by rw [IntKind.wrap_i64]; omega
  repeat refine aw_seq ?_
  refine aw_cond rfl rfl (fun hb => ?_) fun hb => ?_
  ·refine aw_skip ?_
   repeat refine aw_seq ?_
   refine aw_block ?_
   obtain ⟨c1, hc1⟩ : ∃ c1, nameB joint[k] = c1 := ⟨_, rfl⟩
   rw [hc1] at cj
   cases c1 with
   | false =>
    repeat' (first | (refine aops_cons ?_; first | (refine zg rfl ?_; first | refine grd_on ?_ | refine zo ?_ | (refine zs ?_ ?_ <;> intro hb <;> ((try simp only [bn] at hb); first | subst hb | simp only [hb]))) | (apply aops_o; rfl; simp only [estep, avs, tts, seval, hix, hlt, hg] <;> exact rr) | (refine za rfl ?_; refine zp (cj) ?_)) | refine aops_nil ?_ | (refine ahops_cons ?_; first | (refine yg rfl ?_; first | refine hgrd_on ?_ | refine yo ?_ | (refine ys ?_ ?_ <;> intro hb <;> ((try simp only [bn] at hb); first | subst hb | simp only [hb]))) | (apply ahops_o; rfl; simp only [hstep, avs, tts, seval, hix, hlt, hg] <;> exact rr; first | trivial | omega) | (refine ya rfl ?_; refine yp (cj) ?_)) | refine ahops_nil ?_ | refine aw_seq ?_ | refine zr ttOk ?_ | refine aw_drawA ttOk mixed (by kernel_rfl) (by kernel_rfl) (by kernel_rfl) ?_ | refine zf rfl rfl ?_ | refine zt rfl rfl ?_ | (refine aw_cond rfl rfl ?_ ?_ <;> intro hb <;> ((try simp only [bn] at hb); first | subst hb | simp only [hb])) | refine aw_skip ?_ | refine aw_exit ?_ | refine aw_block ?_)
    have hal : joint.all nameB = false := by rw [List.all_eq_false]; exact ⟨_, List.getElem_mem hlt, by rw [hc1]; simp⟩
    rw [no2 (by rw [e2, hal]; rfl)]
    exact aw_ret ⟨_, rfl, _, rfl, rfl⟩
   | true =>
    by_cases hin : joint[k] ∈ holder :: joint.take k
    ·have hmg := setE_in hin
     repeat' (first | (refine aops_cons ?_; first | (refine zg rfl ?_; first | refine grd_on ?_ | refine zo ?_ | (refine zs ?_ ?_ <;> intro hb <;> ((try simp only [bn] at hb); first | subst hb | simp only [hb]))) | (apply aops_o; rfl; simp only [estep, avs, tts, seval, hix, hlt, hg, ksh, hmg] <;> exact rr) | (refine za rfl ?_; refine zp (cj) ?_)) | refine aops_nil ?_ | (refine ahops_cons ?_; first | (refine yg rfl ?_; first | refine hgrd_on ?_ | refine yo ?_ | (refine ys ?_ ?_ <;> intro hb <;> ((try simp only [bn] at hb); first | subst hb | simp only [hb]))) | (apply ahops_o; rfl; simp only [hstep, avs, tts, seval, hix, hlt, hg, ksh, hmg] <;> exact rr; first | trivial | omega) | (refine ya rfl ?_; refine yp (cj) ?_)) | refine ahops_nil ?_ | refine aw_seq ?_ | refine zr ttOk ?_ | refine aw_drawA ttOk mixed (by kernel_rfl) (by kernel_rfl) (by kernel_rfl) ?_ | refine zf rfl rfl ?_ | refine zt rfl rfl ?_ | (refine aw_cond rfl rfl ?_ ?_ <;> intro hb <;> ((try simp only [bn] at hb); first | subst hb | simp only [hb])) | refine aw_skip ?_ | refine aw_exit ?_ | refine aw_block ?_)
     rw [no2 (by rw [e2, decide_eq_false (fresh_no hlt hin), Bool.and_false])]
     exact aw_ret ⟨_, rfl, _, rfl, rfl⟩
    ·have hmg := setE_out hin
     have hst := fresh_step hlt hnd hin
     have hms := setE_set hnd joint[k]
     rw [hst.1] at hms
     repeat' (first | (refine aops_cons ?_; first | (refine zg rfl ?_; first | refine grd_on ?_ | refine zo ?_ | (refine zs ?_ ?_ <;> intro hb <;> ((try simp only [bn] at hb); first | subst hb | simp only [hb]))) | (apply aops_o; rfl; simp only [estep, avs, tts, seval, hix, hlt, hg, ksh, hmg, hms, w1] <;> exact rr) | (refine za rfl ?_; refine zp (cj) ?_)) | refine aops_nil ?_ | (refine ahops_cons ?_; first | (refine yg rfl ?_; first | refine hgrd_on ?_ | refine yo ?_ | (refine ys ?_ ?_ <;> intro hb <;> ((try simp only [bn] at hb); first | subst hb | simp only [hb]))) | (apply ahops_o; rfl; simp only [hstep, avs, tts, seval, hix, hlt, hg, ksh, hmg, hms, w1] <;> exact rr; first | trivial | omega) | (refine ya rfl ?_; refine yp (cj) ?_)) | refine ahops_nil ?_ | refine aw_seq ?_ | refine zr ttOk ?_ | refine aw_drawA ttOk mixed (by kernel_rfl) (by kernel_rfl) (by kernel_rfl) ?_ | refine zf rfl rfl ?_ | refine zt rfl rfl ?_ | (refine aw_cond rfl rfl ?_ ?_ <;> intro hb <;> ((try simp only [bn] at hb); first | subst hb | simp only [hb])) | refine aw_skip ?_ | refine aw_exit ?_ | refine aw_block ?_)
     refine ⟨joint.length - (k + 1), _, _, by omega, ⟨?_, .inl rfl⟩, k + 1, rfl, hlt, fun i hi h0 => ?_, hst.2, rfl, rfl⟩
     ·simp [EnvLe, List.replicate]
     ·rcases Nat.lt_succ_iff_lt_or_eq.1 h0 with h | h
      ·exact hok i hi h
      ·subst h; exact hc1
  ·cases hb
 | false =>
  have hk2 : k = joint.length := by
                   have : ¬ k < joint.length := by simpa using g0
                   omega
  subst hk2
  rw [List.take_length] at hnd ⊢
  have hal : joint.all nameB = true := by rw [List.all_eq_true]; intro x hx; obtain ⟨i, hi, rfl⟩ := List.getElem_of_mem hx; exact hok i hi hi
  rw [hal, decide_eq_true hnd] at e2
  subst e2
  clear no2 hok hk hN hjn
  repeat refine aw_seq ?_
  refine aw_cond rfl rfl (fun hb => ?_) fun hb => ?_
  ·cases hb
  refine aw_exit ?_
  show AW _ _ _ _ _
  generalize pctB capital = c3 at q1 hP1
  generalize pctB votes = c4 at q2 hP1
  generalize dayB fr = c5 at q3 hP1
  generalize dayB til = c6 at q4 hP1
  obtain ⟨c2, z2⟩ : ∃ b, decide (company = nominee) = b := ⟨_, rfl⟩
  obtain ⟨c7, z7⟩ : ∃ b, decide (til = -1) = b := ⟨_, rfl⟩
  obtain ⟨c8, z8⟩ : ∃ b, decide (fr < til) = b := ⟨_, rfl⟩
  have z8' : decide (til > fr) = c8 := z8
  rw [z2, z7, z8] at hP1
  by_cases m1 : company ∈ holder :: joint
  ·have hmg := setE_in m1
   rw [memB_iff.2 m1] at hP1
   repeat' (first | (refine aops_cons ?_; first | (refine zg rfl ?_; first | refine grd_on ?_ | refine zo ?_ | (refine zs ?_ ?_ <;> intro hb <;> ((try simp only [bn] at hb); first | subst hb | simp only [hb]))) | (apply aops_o; rfl; simp only [estep, avs, tts, seval, ksh, hmg] <;> exact rr)) | refine aops_nil ?_ | (refine ahops_cons ?_; first | (refine yg rfl ?_; first | refine hgrd_on ?_ | refine yo ?_ | (refine ys ?_ ?_ <;> intro hb <;> ((try simp only [bn] at hb); first | subst hb | simp only [hb]))) | (apply ahops_o; rfl; simp only [hstep, avs, tts, seval, ksh, hmg] <;> exact rr; first | trivial | omega)) | refine ahops_nil ?_ | refine aw_seq ?_ | refine zr ttOk ?_ | refine aw_drawA ttOk mixed (by kernel_rfl) (by kernel_rfl) (by kernel_rfl) ?_ | refine zf rfl rfl ?_ | refine zt rfl rfl ?_ | (refine aw_cond rfl rfl ?_ ?_ <;> intro hb <;> ((try simp only [bn] at hb); first | subst hb | simp only [hb])) | refine aw_skip ?_ | refine aw_exit ?_ | refine aw_block ?_)
   rw [hP1]
   exact aw_ret ⟨_, rfl, _, rfl, rfl⟩
  have hmg := setE_out m1
  rw [memB_no.2 m1] at hP1
  repeat' (first | (refine aops_cons ?_; first | (refine zg rfl ?_; first | refine grd_on ?_ | refine zo ?_ | (refine zs ?_ ?_ <;> intro hb <;> ((try simp only [bn] at hb); first | subst hb | simp only [hb]))) | (apply aops_o; rfl; simp only [estep, avs, tts, seval, ksh, hmg, z2, z7, z8'] <;> exact rr) | (refine za rfl ?_; first | refine zp (q1) ?_ | refine zp (q2) ?_ | refine zp (q3) ?_ | refine zp (q4) ?_)) | refine aops_nil ?_ | (refine ahops_cons ?_; first | (refine yg rfl ?_; first | refine hgrd_on ?_ | refine yo ?_ | (refine ys ?_ ?_ <;> intro hb <;> ((try simp only [bn] at hb); first | subst hb | simp only [hb]))) | (apply ahops_o; rfl; simp only [hstep, avs, tts, seval, ksh, hmg, z2, z7, z8'] <;> exact rr; first | trivial | omega) | (refine ya rfl ?_; first | refine yp (q1) ?_ | refine yp (q2) ?_ | refine yp (q3) ?_ | refine yp (q4) ?_)) | refine ahops_nil ?_ | refine aw_seq ?_ | refine zr ttOk ?_ | refine aw_drawA ttOk mixed (by kernel_rfl) (by kernel_rfl) (by kernel_rfl) ?_ | refine zf rfl rfl ?_ | refine zt rfl rfl ?_ | (refine aw_cond rfl rfl ?_ ?_ <;> intro hb <;> ((try simp only [bn] at hb); first | subst hb | simp only [hb])) | refine aw_skip ?_ | refine aw_exit ?_ | refine aw_block ?_)
  all_goals (rw [hP1]; exact aw_ret ⟨_, rfl, _, rfl, rfl⟩)
end
end Av
end Go.Proofs.YtdekcppfpgeneaaGreatDoor
set_option linter.unusedVariables false
set_option linter.unusedSimpArgs false
namespace Go.Proofs.YtdekcppfpgeneaaGreatDoor
open Go Go.RowKit
namespace Av
attribute [local irreducible] AW AOps AHOps
open Nt Rg

/-! register: searching among holdings. -/
def idxH (p : Hd → Bool) (l : List Hd) : Int := match l.findIdx? p with
 | some i => (i : Int)
 | none => -1
theorem idxH_some {p : Hd → Bool} {l : List Hd} {k : Nat} (hk : k < l.length) (hj : ∀ j, j < k → ∀ h : j < l.length, p l[j] = false) (h : p l[k] = true) : idxH p l = k := by
 unfold idxH
 rw [show l.findIdx? p = some k from by
  rw [List.findIdx?_eq_some_iff_getElem]
  exact ⟨hk, h, fun j hjk => by simp [hj j hjk (by omega)]⟩]
theorem idxH_none {p : Hd → Bool} {l : List Hd} (hj : ∀ j, j < l.length → ∀ h : j < l.length, p l[j] = false) : idxH p l = -1 := by
 unfold idxH
 rw [show l.findIdx? p = none from by
  rw [List.findIdx?_eq_none_iff]
  intro x hx
  obtain ⟨i, hi, rfl⟩ := List.mem_iff_getElem.1 hx
  exact hj i hi hi]
theorem idxH_ge {p : Hd → Bool} {l : List Hd} : decide (0 ≤ idxH p l) = l.any p := by
 unfold idxH
 cases h : l.findIdx? p with
 | none =>
  rw [List.findIdx?_eq_none_iff] at h
  have : l.any p = false := by rw [List.any_eq_false]; exact fun x hx => by simp [h x hx]
  rw [this]; rfl
 | some i =>
  rw [List.findIdx?_eq_some_iff_getElem] at h
  obtain ⟨h1, h2, _⟩ := h
  have : l.any p = true := List.any_eq_true.2 ⟨_, List.getElem_mem h1, h2⟩
  rw [this]
  simp
theorem hds_get {l : List Hd} {k : Nat} (h : k < l.length) : (l.map hdC).getD k [] = hdC l[k] := by simp [h]
theorem hds_len (l : List Hd) : (l.map hdC).length = l.length := List.length_map _
section
variable {base : World}
set_option maxRecDepth 100000 in
set_option maxHeartbeats 4000000 in
theorem indexf_h {H : AHeap} (l : List Hd) (p : Hd → Bool) (g : Nat) (caps : List AV) (hg : ∀ h ∈ l, ReadA Tryz.prog base g ([hdA h] ++ caps) H (boA (p h))) : ReadA Tryz.prog base 74 [.d (hdsP l), .fn (.func g) [] caps] H (iA (idxH p l)) := by
 refine read_enter ttOk Tryz.call74 Tryz.func74 rfl fun hB hb hF => ?_
 rw [Tryz.results74, Tryz.ntmps74]
 simp only [arr_list, List.length_cons, List.length_nil, List.replicate, List.cons_append, List.nil_append, Nat.reduceAdd, Nat.reduceSub]
 have hL : l.length ≤ 9223372036854775807 := by simpa [hdsP, fctL, fctA, fctP] using hF.1.1
 clear hF hb
 have hln := hds_len l
 simp only [iA, hdsP]
 repeat refine aw_seq ?_
 refine zr ttOk ?_
 repeat (refine aops_cons ?_; first | (apply aops_o; rfl; simp only [estep, avs, tts, seval, hln] <;> exact rr) | (refine zg rfl ?_; first | refine grd_on ?_ | refine zo ?_))
 refine aops_nil ?_
 repeat refine aw_seq ?_
 refine zr ttOk ?_
 repeat (refine aops_cons ?_; first | (apply aops_o; rfl; simp only [estep, avs, tts, seval, hln] <;> exact rr) | (refine zg rfl ?_; first | refine grd_on ?_ | refine zo ?_))
 refine aops_nil ?_
 repeat refine aw_seq ?_
 refine aw_block (aw_loop (H0 := H) (fun n env H' => ∃ k, n = l.length - k ∧ k ≤ l.length ∧ H' = H ∧ (∀ j, j < k → ∀ h : j < l.length, p l[j] = false) ∧ env = (.d (.sl 10 (l.map hdC)) :: .fn (.func g) [] caps :: .undef :: .undef :: .undef :: .undef :: .undef :: .d (.v (.int .i64 (l.length : Int))) :: .d (.v (.int .i64 (k : Int))) :: List.replicate 10 .undef)) ?_ ⟨0, rfl, Nat.zero_le _, rfl, fun j hj => by omega, rfl⟩ ?_)
 ·exact ⟨by simp [EnvLe, List.replicate], .inl rfl⟩
 rintro n env H' ⟨k, rfl, hk, rfl, hj, rfl⟩ hN
 simp only [rp]
 obtain ⟨c0, g0⟩ : ∃ c0, decide ((k : Int) < (l.length : Int)) = c0 := ⟨_, rfl⟩
 repeat refine aw_seq ?_
 refine zr ttOk ?_
 repeat (refine aops_cons ?_; first | (apply aops_o; rfl; simp only [estep, avs, tts, seval, g0] <;> exact rr) | (refine zg rfl ?_; first | refine grd_on ?_ | refine zo ?_))
 refine aops_nil ?_
 cases c0 with
 | true =>
  have hlt : k < l.length := by simpa using g0
  have hix : (0 : Int) ≤ (k : Int) := by omega
  have hgd := hds_get hlt
  have cg := hg _ (List.getElem_mem hlt)
  obtain ⟨c1, h1⟩ : ∃ c1, p l[k] = c1 := ⟨_, rfl⟩
  rw [h1] at cg
  have w1 := wrap_succ hlt hL
  simp only [hdA, hdL, tA, iA, List.cons_append, List.nil_append] at cg
  simp only [hdC] at hgd
  cases c1 with
  | true =>
   repeat' (first | (refine aops_cons ?_; first | (refine zg rfl ?_; first | refine grd_on ?_ | refine zo ?_ | (refine zs ?_ ?_ <;> intro hb <;> ((try simp only [bn] at hb); first | subst hb | simp only [hb]))) | (apply aops_o; rfl; simp only [estep, avs, tts, seval, hix, hlt, hgd, hln] <;> exact rr) | (refine za rfl ?_; refine zd (cg) ?_)) | refine aops_nil ?_ | (refine ahops_cons ?_; first | (refine yg rfl ?_; first | refine hgrd_on ?_ | refine yo ?_ | (refine ys ?_ ?_ <;> intro hb <;> ((try simp only [bn] at hb); first | subst hb | simp only [hb]))) | (apply ahops_o; rfl; simp only [hstep, avs, tts, seval, hix, hlt, hgd, hln] <;> exact rr; first | trivial | omega) | (refine ya rfl ?_; refine yd (cg) ?_)) | refine ahops_nil ?_ | refine aw_seq ?_ | refine zr ttOk ?_ | refine aw_drawA ttOk mixed (by kernel_rfl) (by kernel_rfl) (by kernel_rfl) ?_ | refine zf rfl rfl ?_ | refine zt rfl rfl ?_ | (refine aw_cond rfl rfl ?_ ?_ <;> intro hb <;> ((try simp only [bn] at hb); first | subst hb | simp only [hb])) | refine aw_skip ?_ | refine aw_exit ?_ | refine aw_block ?_)
   exact aw_ret ⟨_, rfl, [], by simp, by rw [idxH_some hlt hj h1]; rfl⟩
  | false =>
   repeat' (first | (refine aops_cons ?_; first | (refine zg rfl ?_; first | refine grd_on ?_ | refine zo ?_ | (refine zs ?_ ?_ <;> intro hb <;> ((try simp only [bn] at hb); first | subst hb | simp only [hb]))) | (apply aops_o; rfl; simp only [estep, avs, tts, seval, hix, hlt, hgd, hln, w1] <;> exact rr) | (refine za rfl ?_; refine zd (cg) ?_)) | refine aops_nil ?_ | (refine ahops_cons ?_; first | (refine yg rfl ?_; first | refine hgrd_on ?_ | refine yo ?_ | (refine ys ?_ ?_ <;> intro hb <;> ((try simp only [bn] at hb); first | subst hb | simp only [hb]))) | (apply ahops_o; rfl; simp only [hstep, avs, tts, seval, hix, hlt, hgd, hln, w1] <;> exact rr; first | trivial | omega) | (refine ya rfl ?_; refine yd (cg) ?_)) | refine ahops_nil ?_ | refine aw_seq ?_ | refine zr ttOk ?_ | refine aw_drawA ttOk mixed (by kernel_rfl) (by kernel_rfl) (by kernel_rfl) ?_ | refine zf rfl rfl ?_ | refine zt rfl rfl ?_ | (refine aw_cond rfl rfl ?_ ?_ <;> intro hb <;> ((try simp only [bn] at hb); first | subst hb | simp only [hb])) | refine aw_skip ?_ | refine aw_exit ?_ | refine aw_block ?_)
   refine ⟨l.length - (k + 1), _, _, by omega, ⟨?_, .inl rfl⟩, k + 1, rfl, hlt, rfl, fun j hjk h => ?_, rfl⟩
   ·simp [EnvLe, List.replicate]
   ·rcases Nat.lt_succ_iff_lt_or_eq.1 hjk with h2 | rfl
    ·exact hj j h2 h
    ·exact h1
 | false =>
  have hkL : k = l.length := by
                 have : ¬ k < l.length := by simpa using g0
                 omega
  repeat' (first | (refine aops_cons ?_; first | (refine zg rfl ?_; first | refine grd_on ?_ | refine zo ?_ | (refine zs ?_ ?_ <;> intro hb <;> ((try simp only [bn] at hb); first | subst hb | simp only [hb]))) | (apply aops_o; rfl; simp only [estep, avs, tts, seval] <;> exact rr)) | refine aops_nil ?_ | (refine ahops_cons ?_; first | (refine yg rfl ?_; first | refine hgrd_on ?_ | refine yo ?_ | (refine ys ?_ ?_ <;> intro hb <;> ((try simp only [bn] at hb); first | subst hb | simp only [hb]))) | (apply ahops_o; rfl; simp only [hstep, avs, tts, seval] <;> exact rr; first | trivial | omega)) | refine ahops_nil ?_ | refine aw_seq ?_ | refine zr ttOk ?_ | refine aw_drawA ttOk mixed (by kernel_rfl) (by kernel_rfl) (by kernel_rfl) ?_ | refine zf rfl rfl ?_ | refine zt rfl rfl ?_ | (refine aw_cond rfl rfl ?_ ?_ <;> intro hb <;> ((try simp only [bn] at hb); first | subst hb | simp only [hb])) | refine aw_skip ?_ | refine aw_exit ?_ | refine aw_block ?_)
  exact aw_ret ⟨_, rfl, [], by simp, by rw [idxH_none fun j hjl => hj j (by omega)]; rfl⟩
set_option maxRecDepth 100000 in
theorem containsf_h {H : AHeap} (l : List Hd) (p : Hd → Bool) (g : Nat) (caps : List AV) (hg : ∀ h ∈ l, ReadA Tryz.prog base g ([hdA h] ++ caps) H (boA (p h))) : ReadA Tryz.prog base 77 [.d (hdsP l), .fn (.func g) [] caps] H (boA (l.any p)) := by
 have c := indexf_h l p g caps hg
 rw [← idxH_ge]
 obtain ⟨i, hi⟩ : ∃ i, idxH p l = i := ⟨_, rfl⟩
 rw [hi] at c ⊢
 simp only [iA] at c
 refine read_enter ttOk Tryz.call77 Tryz.func77 rfl fun hB hb hF => ?_
 rw [Tryz.results77, Tryz.ntmps77]
 simp only [arr_list, List.length_cons, List.length_nil, List.replicate, List.cons_append, List.nil_append, Nat.reduceAdd, Nat.reduceSub]
 clear hF hb
 repeat' (first | (refine aops_cons ?_; first | (refine zg rfl ?_; first | refine grd_on ?_ | refine zo ?_ | (refine zs ?_ ?_ <;> intro hb <;> ((try simp only [bn] at hb); first | subst hb | simp only [hb]))) | (apply aops_o; rfl; simp only [estep, avs, tts, seval] <;> exact rr) | (refine za rfl ?_; refine zd (c) ?_)) | refine aops_nil ?_ | (refine ahops_cons ?_; first | (refine yg rfl ?_; first | refine hgrd_on ?_ | refine yo ?_ | (refine ys ?_ ?_ <;> intro hb <;> ((try simp only [bn] at hb); first | subst hb | simp only [hb]))) | (apply ahops_o; rfl; simp only [hstep, avs, tts, seval] <;> exact rr; first | trivial | omega) | (refine ya rfl ?_; refine yd (c) ?_)) | refine ahops_nil ?_ | refine aw_seq ?_ | refine zr ttOk ?_ | refine aw_drawA ttOk mixed (by kernel_rfl) (by kernel_rfl) (by kernel_rfl) ?_ | refine zf rfl rfl ?_ | refine zt rfl rfl ?_ | (refine aw_cond rfl rfl ?_ ?_ <;> intro hb <;> ((try simp only [bn] at hb); first | subst hb | simp only [hb])) | refine aw_skip ?_ | refine aw_exit ?_ | refine aw_block ?_)
 exact aw_ret ⟨_, rfl, [], by simp, rfl⟩
/-- find -/
theorem find1_a {H : AHeap} (h : Hd) (id : ByteArray) {lb : Nat} (hid : H[lb]? = some (.box 9 [tA id])) : ReadA Tryz.prog base 75 [hdA h, .ptr lb 0] H (boA (decide (h.id = id))) := by
 refine read_enter ttOk Tryz.call75 Tryz.func75 rfl fun hB hb hF => ?_
 rw [Tryz.results75, Tryz.ntmps75]
 simp only [arr_list, List.length_cons, List.length_nil, List.replicate, List.cons_append, List.nil_append, Nat.reduceAdd, Nat.reduceSub]
 clear hF hb
 obtain ⟨hid0, company, holder, nominee, pledged, joint, capital, votes, fr, til⟩ := h
 simp only [hdA, hdL, tA, iA] at hid ⊢
 repeat' (first | (refine aops_cons ?_; first | (refine zg rfl ?_; first | refine grd_on ?_ | refine zo ?_ | (refine zs ?_ ?_ <;> intro hb <;> ((try simp only [bn] at hb); first | subst hb | simp only [hb]))) | (apply aops_o; rfl; simp only [estep, avs, tts, seval, hid, got hid] <;> exact rr)) | refine aops_nil ?_ | (refine ahops_cons ?_; first | (refine yg rfl ?_; first | refine hgrd_on ?_ | refine yo ?_ | (refine ys ?_ ?_ <;> intro hb <;> ((try simp only [bn] at hb); first | subst hb | simp only [hb]))) | (apply ahops_o; rfl; simp only [hstep, avs, tts, seval, hid, got hid] <;> exact rr; first | trivial | omega)) | refine ahops_nil ?_ | refine aw_seq ?_ | refine zr ttOk ?_ | refine aw_drawA ttOk mixed (by kernel_rfl) (by kernel_rfl) (by kernel_rfl) ?_ | refine zf rfl rfl ?_ | refine zt rfl rfl ?_ | (refine aw_cond rfl rfl ?_ ?_ <;> intro hb <;> ((try simp only [bn] at hb); first | subst hb | simp only [hb])) | refine aw_skip ?_ | refine aw_exit ?_ | refine aw_block ?_)
 exact aw_ret ⟨_, rfl, _, rfl, rfl⟩
theorem idxH_find (l : List Hd) (id : ByteArray) : idxH (fun h => decide (h.id = id)) l = findI l id := rfl
theorem find_a (l : List Hd) (id : ByteArray) : PureA Tryz.prog base 45 [.d (hdsP l), tA id] (iA (findI l id)) := by
 refine pure_enter ttOk Tryz.call45 Tryz.func45 rfl fun H hB hb hF => ?_
 rw [Tryz.results45, Tryz.ntmps45]
 simp only [arr_list, List.length_cons, List.length_nil, List.replicate, List.cons_append, List.nil_append, Nat.reduceAdd, Nat.reduceSub]
 clear hF hb
 have c := indexf_h (base := base) (H := H ++ [.box 9 [tA id]]) l (fun h => decide (h.id = id)) 75 [.ptr H.length 0] (fun h hh => find1_a h id (by simp))
 rw [idxH_find] at c
 obtain ⟨i, hi⟩ : ∃ i, findI l id = i := ⟨_, rfl⟩
 rw [hi] at c ⊢
 simp only [tA, iA] at c ⊢
 repeat' (first | (refine aops_cons ?_; first | (refine zg rfl ?_; first | refine grd_on ?_ | refine zo ?_ | (refine zs ?_ ?_ <;> intro hb <;> ((try simp only [bn] at hb); first | subst hb | simp only [hb]))) | (apply aops_o; rfl; simp only [estep, avs, tts, seval] <;> exact rr) | (refine za rfl ?_; refine zd (c) ?_)) | refine aops_nil ?_ | (refine ahops_cons ?_; first | (refine yg rfl ?_; first | refine hgrd_on ?_ | refine yo ?_ | (refine ys ?_ ?_ <;> intro hb <;> ((try simp only [bn] at hb); first | subst hb | simp only [hb]))) | (apply ahops_o; rfl; simp only [hstep, avs, tts, seval] <;> exact rr; first | trivial | omega) | (refine ya rfl ?_; refine yd (c) ?_)) | refine ahops_nil ?_ | refine aw_seq ?_ | refine zr ttOk ?_ | refine aw_drawA ttOk mixed (by kernel_rfl) (by kernel_rfl) (by kernel_rfl) ?_ | refine zf rfl rfl ?_ | refine zt rfl rfl ?_ | (refine aw_cond rfl rfl ?_ ?_ <;> intro hb <;> ((try simp only [bn] at hb); first | subst hb | simp only [hb])) | refine aw_skip ?_ | refine aw_exit ?_ | refine aw_block ?_)
 exact aw_ret ⟨_, rfl, _, rfl, rfl⟩
end
end Av
end Go.Proofs.YtdekcppfpgeneaaGreatDoor
set_option linter.unusedVariables false
namespace Go.Proofs
open Go.Shelf
shelf_try shelf_lay_g SlLaysZ.n7 Ggz 7 at Tryz 91 as Tryz.keys91
shelf_try shelf_lay_g SlLaysZ.n6 Ggz 6 at Tryz 90 as Tryz.sorted90
shelf_try shelf_lay_g SlLaysM.n6 Slgm 6 at Tryz 119 as Tryz.sort119
shelf_tried
open Go.RowKit Go.Maps Go.Sort Go.Shelf


theorem Tryz.sorts90 (m : Nat) : AnyZ.SortsIn Tryz.prog Tryz.sorted90_ren Fence.wide m :=
 ⟨fun blk off cap ss W hH hblk hsz => callsIn_wide.2 (AnyM.slices_Sort_string Tryz.sort119 blk off cap ss W hH hblk hsz),
  fun p cap W => callsIn_wide.2 (AnyM.slices_Sort_string_none Tryz.sort119 p cap W)⟩

theorem Tryz.maps_Keys_91 (mb : Option Nat) (W : World) : CallsIn Fence.wide 5 Tryz.prog 91 #[.map mb] W fun e w' => e = .returned (.func (.func 120) #[] #[.pointer (some ⟨W.heap.size, 0, none⟩)]) ∧ w' = W.alloc (.cells #[.map mb] 80) :=
 AnyZ.keys_in Tryz.keys91 Fence.wide 5 trivial rfl mb W

set_option maxHeartbeats 1000000 in
theorem Tryz.slices_Sorted_keys_90_91 {H : Type} (b nn : Nat) (D0 : DataW H) (R : Value → Option (DataW H × List MemPlace)) (w : World) (hown : w.ownsMap Tryz.prog 9 R b nn D0) (hmax : Maps.size D0 ≤ maxLen) (hbytes : Maps.size D0 * 16 ≤ 140737488355328) :
  CallsIn Fence.wide 5 Tryz.prog 90 #[.func (.func 120) #[] #[.pointer (some ⟨w.heap.size, 0, none⟩)]] (w.alloc (.cells #[.map (some b)] 80)) fun e w' => ∃ (v : Value) (ss : List (List UInt8)), e = .returned v ∧ ss.Perm (strKeys D0) ∧
   w'.ownsRow (w.alloc (.cells #[.map (some b)] 80)).heap.size 9 1 v ss.length ((ss.mergeSort (fun x y => decide (x ≤ y))).map encStr) ∧ (v = .slice none 0 0 ↔ ss = []) ∧ Below (w.alloc (.cells #[.map (some b)] 80)).heap.size (w.alloc (.cells #[.map (some b)] 80)) w' := by
 have hbl := hown.lt
 have hseq : SeqGives Fence.wide 2 Tryz.prog 120 #[.pointer (some ⟨w.heap.size, 0, none⟩)] encStr (fun ss => ss.Perm (strKeys D0)) (Maps.size D0) (w.alloc (.cells #[.map (some b)] 80)) :=
  AnyZ.keys_gives (ρ := Tryz.keys91_ren) { Tryz.keys91 with } Fence.wide _ trivial rfl (by omega) w.heap.size b nn D0 _ (by simp) (by simp) (by
   obtain ⟨es, clock, hb, Ft, hs, hD⟩ := hown
   exact ⟨es, clock, (Below.heap_alloc _ _ b hbl).trans hb, Ft, hs, hD⟩)
 exact AnyZ.sorted_in Tryz.sorted90 Fence.wide 5 trivial trivial trivial trivial rfl (by omega) (Tryz.sorts90 _) (enters_of Tryz.func119 (by kernel_rfl) rfl) 120 #[.pointer (some ⟨w.heap.size, 0, none⟩)] trivial (enters_of Tryz.func120 (by kernel_rfl) rfl) _ _ hmax hbytes _ hseq

end Go.Proofs
set_option linter.unusedVariables false
set_option linter.unusedSimpArgs false
namespace Go.Proofs.YtdekcppfpgeneaaGreatDoor
open Go Go.RowKit
namespace Av
attribute [local irreducible] AW AOps AHOps
open Nt Rg

/-! register: the keys of a set, sorted. -/
theorem read_of_rep {P : Program} {base : World} {f : FuncId} {args : List AV} {H : AHeap} {r : AV} (hcall : ∀ (vs : Array Value) (w : World), (callFunc f vs).run P w = .ok (.enter f vs) w)
  (h : ∀ (s : St) (vs : Array Value), s.H = H → Sim base s → RepL s args vs.toList → Calls P f vs s.w fun e w' => ∃ v, e = .returned v ∧ Below s.w.heap.size s.w w' ∧ ∀ s' : St, s'.w = w' → (∀ b, b < w'.heap.size → s.w.heap.size ≤ b → s'.imm b) → Rep s' r v) : ReadA P base f args H r :=
 ⟨hcall, fun μ w vs hs ha => (h ⟨μ, H, w⟩ vs rfl hs ha).mono fun e w' ⟨v, h1, h2, h3⟩ => by
  have hs' := hs.below' (s := ⟨μ, H, w⟩) h2
  refine ⟨v, r, H, μ, h1, ⟨rfl, rfl⟩, Nat.le_refl _, hs'.1, ?_, hs'.2⟩
  refine h3 ⟨μ, H, w'⟩ rfl fun b hb hge => ⟨hb, fun hl => ?_⟩
  have hlt := (hs.live_ge (s := ⟨μ, H, w⟩) hl).2
  have hge' : w.heap.size ≤ b := hge
  have hlt' : b < w.heap.size := hlt
  omega⟩
theorem rep_row1 {s' : St} {w' : World} (hw : s'.w = w') {B ty : Nat} (himm : ∀ b, b < w'.heap.size → B ≤ b → s'.imm b) {v : Value} {n : Nat} {ps : List ByteArray} (h : w'.ownsRow B ty 1 v n (ps.map Value.string)) (hn : n = ps.length) (hs : ∀ p ∈ ps, p.size ≤ 9223372036854775807) : Rep s' (.d (strsP ps)) v := by
 subst hn
 simp only [Rep, strsP, PRep, List.length_map]
 rcases h.2 with ⟨rfl, h0⟩ | ⟨g, cap, cur, rfl, hB, hg, h1, h2, h3, h4⟩
 ·have : ps = [] := List.eq_nil_of_length_eq_zero h0
  subst this
  exact ⟨none, 0, rfl, Nat.le_refl _, by unfold maxLen; omega, .inl rfl⟩
 ·refine ⟨_, cap, rfl, h1, h2, .inr ⟨g, 0, rfl, himm g (Array.getElem?_eq_some_iff.1 hg).1 hB, ?_⟩⟩
  refine rows_pc fun i hi => ?_
  have hi' : i < ps.length := by simpa using hi
  have e : (ps.map fun s => [PD.v (.string s)]).getD i [] = [PD.v (.string ps[i])] := strsP_get hi'
  rw [e]
  refine ⟨rfl, ?_⟩
  simp only [PCells, PRep, and_true]
  refine ⟨rfl, .string ps[i], ?_, rfl, hs _ (List.getElem_mem hi')⟩
  rw [hw]
  have := h.cells (g := g) rfl i (.string ps[i]) (by simp [hi'])
  rw [Lib.add_plain] at this
  simpa using this
theorem maprep_keys {s : St} : ∀ {es : List (Value × AV)} {l : List MapEntry}, MapRep s es l → l.map (·.key) = es.map (·.1)
 | [], l, h => by simp only [MapRep] at h; subst h; rfl
 | (k, a) :: r, l, h => by
  simp only [MapRep] at h
  obtain ⟨e, t, rfl, rfl, _, h3⟩ := h
  simp [maprep_keys h3]
def Rnil : Value → Option (DataW Unit × List MemPlace) := fun _ => some (.nil, [])
theorem sorted_calls (ks : List ByteArray) {b : Nat} {es : Array MapEntry} {clock : Nat} {w : World} (hb : w.heap[b]? = some (.map es clock)) (hst : Go.MapKept.Stamped es clock) (hk : es.toList.map (·.key) = ks.map Value.string) (hsz : ∀ k ∈ ks, k.size ≤ maxLen) (hlen : ks.length ≤ 1000000) :
  Calls Tryz.prog 61 #[.map (some b)] w fun e w' => ∃ (v : Value) (ss : List (List UInt8)), e = .returned v ∧ ss.Perm (ks.map (·.data.toList)) ∧ w'.ownsRow w.heap.size 9 1 v ss.length ((ss.mergeSort (fun x y => decide (x ≤ y))).map encStr) ∧ Below w.heap.size w w' := by
 have hu : Tryz.prog.underlying 9 = some .string := by kernel_rfl
 have hsize : es.size = ks.length := by have := congrArg List.length hk; simpa using this
 have hkey : ∀ x ∈ es.toList, ∃ k ∈ ks, x.key = .string k := fun x hx => by
  have : x.key ∈ ks.map Value.string := by rw [← hk]; exact List.mem_map.2 ⟨x, hx, rfl⟩
  obtain ⟨k, h1, h2⟩ := List.mem_map.1 this
  exact ⟨k, h1, h2.symm⟩
 have hrd : ∀ x ∈ es.toList, ∀ k, x.key = .string k → k ∈ ks → Go.WideElems.rd Tryz.prog 9 Rnil x = some (.string k.data.toList, .nil) := fun x hx k e hkk => by
  unfold Go.WideElems.rd
  rw [e, Go.WideMaps.keyOf_string_mk hu (hsz k hkk)]
  rfl
 have hown : w.ownsMap Tryz.prog 9 Rnil b ks.length (.map ((es.toList.map (Go.WideElems.rg Tryz.prog 9 Rnil)).foldr DataW.insert [])) := by
  refine ⟨es, clock, hb, ⟨by rw [hsize]; unfold maxLen; omega, hst, fun x hx => ?_⟩, by omega, rfl⟩
  obtain ⟨k, h1, h2⟩ := hkey x hx
  exact ⟨_, hrd x hx k h2 h1⟩
 have hsk : (Go.strKeys (.map ((es.toList.map (Go.WideElems.rg Tryz.prog 9 Rnil)).foldr DataW.insert []))).Perm (ks.map (·.data.toList)) := by
  refine ((Go.WideShapes.sorted_perm _).map _).trans ?_
  rw [List.map_map]
  have : es.toList.map ((fun p : Lit × DataW Unit => Go.strOf p.1) ∘ Go.WideElems.rg Tryz.prog 9 Rnil) = ks.map (·.data.toList) := by
   have e1 : es.toList.map ((fun p : Lit × DataW Unit => Go.strOf p.1) ∘ Go.WideElems.rg Tryz.prog 9 Rnil) = (es.toList.map (·.key)).map fun v => match v with | .string s => s.data.toList | _ => [] := by
    rw [List.map_map]
    refine List.map_congr_left fun x hx => ?_
    obtain ⟨k, h1, h2⟩ := hkey x hx
    simp only [Function.comp]
    unfold Go.WideElems.rg
    rw [hrd x hx k h2 h1, h2]
    rfl
   rw [e1, hk, List.map_map]
   rfl
  rw [this]
 have hms : Maps.size (.map ((es.toList.map (Go.WideElems.rg Tryz.prog 9 Rnil)).foldr DataW.insert [])) = ks.length := by
  show List.length _ = _
  rw [Go.length_sorted, List.length_map, Array.length_toList, hsize]
 have hmax : Maps.size (.map ((es.toList.map (Go.WideElems.rg Tryz.prog 9 Rnil)).foldr DataW.insert [])) ≤ maxLen := by rw [hms]; unfold maxLen; omega
 have hbytes : Maps.size (.map ((es.toList.map (Go.WideElems.rg Tryz.prog 9 Rnil)).foldr DataW.insert [])) * 16 ≤ 140737488355328 := by rw [hms]; omega
 generalize (.map ((es.toList.map (Go.WideElems.rg Tryz.prog 9 Rnil)).foldr DataW.insert []) : DataW Unit) = D0 at hown hsk hmax hbytes
 clear hms hkey hrd
 refine (callsIn_wide (n := 6)).1 ?_
 have hfK : Fence.wide.fn 91 := trivial
 have hfS : Fence.wide.fn 90 := trivial
 refine callsIn_of_wp Tryz.func61 rfl trivial ?_ rfl
 simp only [Tryz.ntmps61, List.size_toArray, List.length_cons, List.length_nil, Nat.reduceAdd, Nat.reduceSub, Array.replicate_succ, Array.replicate_zero, List.push_toArray, List.append_toArray, List.nil_append, List.cons_append]
 gi_wp2_with (first
  | (gi_at_call 91; refine (Tryz.maps_Keys_91 _ _).mono ?_; rintro e w' ⟨rfl, rfl⟩)
  | (gi_at_call 90; refine (Tryz.slices_Sorted_keys_90_91 b ks.length D0 Rnil w hown hmax hbytes).mono ?_; rintro e w' ⟨v, ss, rfl, hS, hrow, hnil, hbl⟩))
 go_ret
 exact ⟨v, ss, rfl, hS.trans hsk, ownsRow_base_a hrow (by simp), ((Below.refl _ w).alloc (Nat.le_refl _) _).trans (hbl.mono (by simp))⟩
theorem sortT_of_perm {ss : List (List UInt8)} {ks : List ByteArray} (h : ss.Perm (ks.map (·.data.toList))) : (ss.mergeSort fun x y => decide (x ≤ y)).map encStr = (sortT ks).map Value.string := by
 have e : (ss.mergeSort fun x y => decide (x ≤ y)) = (sortT ks).map (·.data.toList) := by
  rw [mergeSort_of_perm h]
  refine List.Perm.eq_of_pairwise (le := fun a b : List UInt8 => a ≤ b) (fun a b _ _ h1 h2 => List.le_antisymm h1 h2) ?_ ?_ ((List.mergeSort_perm _ _).trans ((sortT_perm ks).symm.map _))
  ·have := List.pairwise_mergeSort (le := leB) (fun a b c h1 h2 => by simp only [leB, decide_eq_true_eq] at *; exact List.le_trans h1 h2) (fun a b => by simp only [leB, Bool.or_eq_true, decide_eq_true_eq]; exact List.le_total a b) (ks.map (·.data.toList))
   exact this.imp fun h => by simpa [leB] using h
  ·rw [List.pairwise_map]
   exact (sortT_sorted ks).imp fun h => by simpa [leT] using h
 rw [e, List.map_map]
 exact List.map_congr_left fun x _ => by simp [encStr]
theorem sorted_a {base : World} {H : AHeap} {l : Nat} {kt et : Nat} (ks : List ByteArray) (hl : H[l]? = some (.mp kt et (.one .str) (setE ks))) (hsz : ∀ k ∈ ks, k.size ≤ 9223372036854775807) (hlen : ks.length ≤ 1000000) : ReadA Tryz.prog base 61 [.mp l] H (.d (strsP (sortT ks))) :=
 read_of_rep Tryz.call61 fun s vs hH hs ha => by
  subst hH
  simp only [RepL, Rep, MpRep, hl] at ha
  obtain ⟨v, t, e1, ⟨_, b, hμ, rfl⟩, rfl⟩ := ha
  obtain rfl : vs = #[.map (some b)] := Array.toList_inj.1 e1
  obtain ⟨_, b', ents, clock, h1, h2, h3, h4, h5⟩ := hs.obj l _ hl
  rw [hμ] at h1; cases h1
  have hk := maprep_keys h4
  have hk2 : (setE ks).map (·.1) = ks.map Value.string := by unfold setE mpE; rw [List.map_map]; rfl
  refine (sorted_calls ks h3 h5.st (hk.trans hk2) (fun k hkk => by have := hsz k hkk; unfold maxLen; omega) hlen).mono ?_
  rintro e w' ⟨v, ss, rfl, hp, hrow, hbl⟩
  refine ⟨v, rfl, hbl, fun s' hw hi => ?_⟩
  rw [sortT_of_perm hp] at hrow
  refine rep_row1 hw hi hrow ?_ fun p hpp => hsz p (sortT_mem.1 hpp)
  have := hp.length_eq
  rw [List.length_map] at this
  rw [this, (sortT_perm ks).length_eq]
end Av
end Go.Proofs.YtdekcppfpgeneaaGreatDoor
set_option linter.unusedVariables false
set_option linter.unusedSimpArgs false
namespace Go.Proofs.YtdekcppfpgeneaaGreatDoor
open Go Go.RowKit
namespace Rg
/-- a pair of places az a key -/
def encK (p : Int × Int) : Value := .agg #[.int .i64 p.1, .int .i64 p.2]
def okK (p : Int × Int) : Prop := (-9223372036854775808 ≤ p.1 ∧ p.1 ≤ 9223372036854775807) ∧ (-9223372036854775808 ≤ p.2 ∧ p.2 ≤ 9223372036854775807)
theorem encK_inj {a b : Int × Int} (h : encK a = encK b) : a = b := by
 unfold encK at h
 simp at h
 exact Prod.ext h.1 h.2
theorem keq_K (a b : Int × Int) : Av.keyEq (encK a) (encK b) = decide (a = b) := by
 unfold encK Av.keyEq
 simp only [Av.eqL, Av.eqV, Bool.and_true]
 obtain ⟨a1, a2⟩ := a
 obtain ⟨b1, b2⟩ := b
 simp only [Prod.mk.injEq, BEq.rfl, true_and, decide_true, Bool.true_and]
 rw [Bool.decide_and]
end Rg
namespace Av
open Nt Rg
attribute [local go_sem] Oper.semAt_some

/-! maps.Keys at pairs of places. -/
theorem key_wide : (match Tryz.prog.underlying 63 with | some (.array _ _) | some (.struct _) => true | _ => false) = true := by kernel_rfl
theorem key_row : (63 : TypeId) < Tryz.prog.types.size := of_decide_eq_true (by kernel_rfl)
theorem key_laid : laidOutB Tryz.prog = true := by kernel_rfl
set_option maxRecDepth 1000000 in
theorem key_keyed : Maps.Keyed Tryz.prog 63 := .of_law (deep_law_laid key_laid (m := 2) (by omega) key_row (by kernel_rfl) key_wide)
theorem key_type : Tryz.prog.keyType 63 = true := by kernel_rfl
theorem key_cells : Tryz.prog.cellsOf 63 = 2 := by kernel_rfl
theorem int_cells : Tryz.prog.cellsOf 3 = 1 := by kernel_rfl
theorem int_und : Tryz.prog.underlying 3 = some (.int .i64) := by kernel_rfl
theorem key_lits : ∃ n, Tryz.prog.types.size + 1 = n + 2 := ⟨Tryz.prog.types.size - 1, by have h : 63 < Tryz.prog.types.size := key_row; generalize Tryz.prog.types.size = m at h ⊢; omega⟩
theorem lits_int (n : Nat) (v : Value) : Tryz.prog.keyLits (n + 1) 3 [v] = match v with
  | .int q' m => if q' = .i64 ∧ (Lit.int .i64 m).wf = true then some [.int .i64 m] else none
  | _ => none := by
 unfold Program.keyLits
 simp only [int_und]
 cases v <;> rfl
theorem lits_key (n : Nat) (a b : Value) : Tryz.prog.keyLits (n + 2) 63 [a, b] = (Tryz.prog.keyLits (n + 1) 3 [a]).bind fun x => (Tryz.prog.keyLits (n + 1) 3 [b]).map fun y => x ++ y := by
 conv => lhs; unfold Program.keyLits
 simp only [Tryz.underlying63]
 simp [key_cells, int_cells, List.mapM_cons, List.mapM_nil]
 cases Tryz.prog.keyLits (n + 1) 3 [a] <;> cases Tryz.prog.keyLits (n + 1) 3 [b] <;> simp
theorem key_of {p : Int × Int} (h : okK p) : keyOf Tryz.prog 63 (encK p) = some (.string (keyBytes [.int .i64 p.1, .int .i64 p.2])) := by
 obtain ⟨n, hn⟩ := key_lits
 have w1 : (Lit.int .i64 p.1).wf = true := by simp [Lit.wf, IntKind.min, IntKind.max, IntKind.signed, IntKind.bits]; exact h.1
 have w2 : (Lit.int .i64 p.2).wf = true := by simp [Lit.wf, IntKind.min, IntKind.max, IntKind.signed, IntKind.bits]; exact h.2
 have hf : (encK p).formed Tryz.prog 63 = true := by simp [Value.formed, encK, Tryz.underlying63, key_cells]
 unfold keyOf
 simp only [Tryz.underlying63]
 rw [key_type, hf, hn]
 simp only [Bool.and_self, if_true]
 have hc : (encK p).cells.toList = [.int .i64 p.1, .int .i64 p.2] := rfl
 rw [hc, lits_key, lits_int, lits_int]
 simp [w1, w2]
set_option maxRecDepth 100000 in
theorem key_inv {key : Value} {kl : Lit} (h : keyOf Tryz.prog 63 key = some kl) : ∃ p, key = encK p := by
 obtain ⟨n, hn⟩ := key_lits
 unfold keyOf at h
 simp only [Tryz.underlying63] at h
 rw [key_type, hn] at h
 cases hf : key.formed Tryz.prog 63 with
 | false => rw [hf] at h; simp at h
 | true =>
  rw [hf] at h
  simp only [Bool.and_self, if_true] at h
  unfold Value.formed at hf
  cases key with
  | agg cs =>
   simp only [Tryz.underlying63, key_cells, beq_iff_eq] at hf
   obtain ⟨l⟩ := cs
   match l, hf with
   | [a, b], _ =>
    have hc : (Value.agg #[a, b]).cells.toList = [a, b] := rfl
    rw [hc, lits_key, lits_int, lits_int] at h
    cases a with
    | int q1 m1 =>
     cases b with
     | int q2 m2 =>
      simp only at h
      by_cases h1 : q1 = .i64 ∧ (Lit.int .i64 m1).wf = true
      ·by_cases h2 : q2 = .i64 ∧ (Lit.int .i64 m2).wf = true
       ·exact ⟨(m1, m2), by rw [h1.1, h2.1]; rfl⟩
       ·rw [if_neg h2] at h; simp at h
      ·rw [if_neg h1] at h; simp at h
     | _ => simp at h
    | _ => simp at h
  | _ => simp [Tryz.underlying63] at hf
theorem key_of_inj {p q : Int × Int} (hp : okK p) (hq : okK q) (h : keyOf Tryz.prog 63 (encK p) = keyOf Tryz.prog 63 (encK q)) : p = q := by
 have h1 := key_of hp
 exact encK_inj (key_keyed.inj h1 (by rw [← h]; exact h1))
def litK (p : Int × Int) : Lit := .string (keyBytes [.int .i64 p.1, .int .i64 p.2])
theorem litK_inj {p q : Int × Int} (hp : okK p) (hq : okK q) (h : litK p = litK q) : p = q := key_of_inj hp hq (by rw [key_of hp, key_of hq]; exact congrArg some h)
theorem litK_same {p q : Int × Int} (hp : okK p) (hq : okK q) : (litK p).sameKey (litK q) = decide (p = q) := by
 by_cases h : p = q
 ·subst h; simp [litK, Lit.sameKey]
 ·rw [decide_eq_false h]
  cases hs : (litK p).sameKey (litK q) with
  | false => rfl
  | true => exact absurd (litK_inj hp hq (by simp [litK, Lit.sameKey] at hs; unfold litK; rw [hs])) h
/-- what is known of the map -/
structure KMap (ks : List (Int × Int)) (b : Nat) (es : Array MapEntry) (clock : Nat) (w : World) : Prop where
 nd : ks.Nodup
 ok : ∀ p ∈ ks, okK p
 hb : w.heap[b]? = some (.map es clock)
 st : Go.MapKept.Stamped es clock
 hk : es.toList.map (·.key) = ks.map encK
 len : ks.length ≤ 1000000000
section
variable {ks : List (Int × Int)} {b : Nat} {es : Array MapEntry} {clock : Nat} {w : World} (hm : KMap ks b es clock w)
include hm
theorem KMap.key {x : MapEntry} (hx : x ∈ es.toList) : ∃ p ∈ ks, x.key = encK p := by
 have : x.key ∈ ks.map encK := by rw [← hm.hk]; exact List.mem_map.2 ⟨x, hx, rfl⟩
 obtain ⟨k, h1, h2⟩ := List.mem_map.1 this
 exact ⟨k, h1, h2.symm⟩
theorem KMap.ent {p : Int × Int} (hp : p ∈ ks) : ∃ x ∈ es.toList, x.key = encK p := by
 have : encK p ∈ es.toList.map (·.key) := by rw [hm.hk]; exact List.mem_map.2 ⟨p, hp, rfl⟩
 obtain ⟨x, h1, h2⟩ := List.mem_map.1 this
 exact ⟨x, h1, h2⟩
theorem KMap.rd {x : MapEntry} {p : Int × Int} (hp : p ∈ ks) (e : x.key = encK p) : Go.WideElems.rd Tryz.prog 63 Rnil x = some (litK p, .nil) := by
 unfold Go.WideElems.rd
 rw [e, key_of (hm.ok p hp)]
 rfl
theorem KMap.owns : ∃ D : DataW Unit, w.ownsMap Tryz.prog 63 Rnil b ks.length D ∧ (∀ p ∈ ks, Maps.has D (litK p) = true) ∧ ∀ kl, Maps.has D kl = true → ∃ p ∈ ks, (litK p).sameKey kl = true := by
 have hsize : es.size = ks.length := by have := congrArg List.length hm.hk; simpa using this
 refine ⟨_, ⟨es, clock, hm.hb, ⟨by rw [hsize]; have := hm.len; unfold maxLen; omega, hm.st, fun x hx => ?_⟩, by omega, rfl⟩, fun p hp => ?_, fun kl h => ?_⟩
 ·obtain ⟨p, h1, h2⟩ := hm.key hx
  exact ⟨_, hm.rd h1 h2⟩
 ·obtain ⟨x, h1, h2⟩ := hm.ent hp
  rw [Maps.has_eq, List.any_eq_true]
  refine ⟨Go.WideElems.rg Tryz.prog 63 Rnil x, (Go.WideShapes.sorted_perm _).mem_iff.2 (List.mem_map.2 ⟨x, h1, rfl⟩), ?_⟩
  unfold Go.WideElems.rg
  rw [hm.rd hp h2]
  simp [litK, Lit.sameKey]
 ·rw [Maps.has_eq, List.any_eq_true] at h
  obtain ⟨y, h1, h2⟩ := h
  obtain ⟨x, h3, rfl⟩ := List.mem_map.1 ((Go.WideShapes.sorted_perm _).mem_iff.1 h1)
  obtain ⟨p, h4, h5⟩ := hm.key h3
  refine ⟨p, h4, ?_⟩
  unfold Go.WideElems.rg at h2
  rw [hm.rd h4 h5] at h2
  exact h2
end
theorem left_has {H : Type} {P : Program} {k : TypeId} {R : Value → Option (DataW H × List MemPlace)} {w : World} {b r n : Nat} {D : DataW H} {left : Lit → Bool} {cnt : Nat} (h : w.ranges P k R b r n D left cnt) {s : List UInt8} (hl : left (.string s) = true) : Maps.has D (.string s) = true := by
 obtain ⟨es, clock, since, seen, c0, hb, F, hs, hD, hr, h1, h2, h3, h4, h5⟩ := h
 obtain ⟨x, hx, hk⟩ := h4 _ hl
 subst hD
 rw [Maps.has_eq, List.any_eq_true]
 refine ⟨Go.WideElems.rg P k R x, (Go.WideShapes.sorted_perm _).mem_iff.2 (List.mem_map.2 ⟨x, hx, rfl⟩), ?_⟩
 rw [hk]
 simp [Lit.sameKey]
theorem key_str {key : Value} {kl : Lit} (h : keyOf Tryz.prog 63 key = some kl) : ∃ s, kl = .string s := key_keyed.key h |> fun hk => by
 unfold keyOf at h
 simp only [Tryz.underlying63] at h
 split at h
 ·obtain ⟨ls, _, e⟩ := Option.map_eq_some_iff.1 h
  exact ⟨_, e.symm⟩
 ·cases h
set_option maxRecDepth 100000 in
set_option maxHeartbeats 4000000 in
theorem keys_walk {ks : List (Int × Int)} {b B o : Nat} {es : Array MapEntry} {clock : Nat} (l0 : Nat) (J : List (Int × Int) → World → Prop) (Jx : World → Prop) (W : World) (hm : KMap ks b es clock W)
  (hc : ∀ pre W1, J pre W1 → W1.cell? ⟨B, o, none⟩ = some (.map (some b)))
  (hJ : ∀ pre W1 W2 row, J pre W1 → W1.grownBy W2 row → (∀ r, row = some r → W.heap.size ≤ r ∧ (∃ o : Obj, W1.heap[r]? = some o ∧ o.isWalk = true) ∧ ∃ o : Obj, W2.heap[r]? = some o ∧ o.isWalk = true) → J pre W2)
  (hY : ∀ pre x W1, x ∈ ks → ¬ x ∈ pre → J pre W1 → YieldAt Fence.wide 7 Tryz.prog l0 #[encK x] W1 fun e W' => KeepsWalks W1 W' ∧ ((e = .returned (.bool true) ∧ J (pre ++ [x]) W') ∨ (e = .returned (.bool false) ∧ Jx W'))) (h0 : J [] W) :
  CallsIn Fence.wide 8 Tryz.prog 95 #[.func (.yield l0) #[] #[], .pointer (some ⟨B, o, none⟩)] W fun e W' => (∃ v, e = .returned v) ∧ ((∃ pre, pre.Perm ks ∧ J pre W') ∨ Jx W') := by
 obtain ⟨D0, hown, hhas, hof⟩ := hm.owns
 have hcb := hc [] W h0
 refine callsIn_of_wp Tryz.func95 rfl trivial ?_ rfl
 simp only [Tryz.ntmps95, List.size_toArray, List.length_cons, List.length_nil, Nat.reduceAdd, Nat.reduceSub, Array.replicate_succ, Array.replicate_zero, List.push_toArray, List.append_toArray, List.nil_append, List.cons_append]
 gi_wp2_with (first
  | (gi_at_range; refine wpListIn_range_own _ rfl _ 58 rfl 63 3 key_keyed (Tryz.underlying58) _ b ks.length _ rfl hown ?_; intro w0 hrg0 hg0 hs0)
  | gi_in)
 go_frame
 gi_loopw [3] (fun _ wr => ∃ (left : Lit → Bool) (cnt : Nat) (pre : List (Int × Int)), wr.ranges Tryz.prog 63 Rnil b W.heap.size ks.length D0 left cnt ∧ (∀ x ∈ ks, left (litK x) = !decide (x ∈ pre)) ∧ pre.Nodup ∧ (∀ x ∈ pre, x ∈ ks) ∧ J pre wr)
  (fun _ wr => wr.rangeLeft b W.heap.size)
 case atStart =>
  exact ⟨_, _, [], hrg0, fun x hx => by rw [hhas x hx]; simp, List.nodup_nil, (fun x hx => nomatch hx), hJ [] W w0 none h0 hg0 (fun r e => by cases e)⟩
 case round =>
  obtain ⟨left, cnt, pre, hrg, hlf, hpn, hpk, hJs⟩ := hrel
  gi_wp2_with (first
   | (gi_at_next; refine wpListIn_next_ranges _ rfl _ rfl 63 key_keyed Rnil encK id (fun key kl hk => key_inv hk) (fun v _ _ => ⟨v, rfl⟩) b W.heap.size ks.length _ _ _ rfl hrg ?_ ?_)
   | gi_in)
  ·intro hc0 hl0
   gi_wp2
   go_end0
   refine ⟨⟨_, rfl⟩, .inl ⟨pre, ?_, hJs⟩⟩
   refine (List.perm_ext_iff_of_nodup hpn hm.nd).2 fun x => ⟨hpk x, fun hx => ?_⟩
   have := hlf x hx
   rw [hl0] at this
   simpa using this
  ·intro x1 x2 c kl yd yp w2 cnt2 hkey hlk hv hat hrg2 hlt hg2 hs2 hen
   obtain ⟨x, hx12⟩ : ∃ x : Int × Int, x = (x1, x2) := ⟨_, rfl⟩
   rw [← hx12] at hkey hen ⊢
   obtain ⟨s, rfl⟩ := key_str hkey
   obtain ⟨p, hp, hps⟩ := hof _ (left_has hrg hlk)
   have hpe : litK p = .string s := by simp [litK, Lit.sameKey] at hps; unfold litK; rw [hps]
   obtain rfl : p = x := (encK_inj (key_keyed.inj hkey (by rw [key_of (hm.ok p hp)]; exact congrArg some hpe))).symm
   have hxp : ¬ p ∈ pre := fun h => by
    have := hlf p hp
    rw [hpe, hlk] at this
    simp [h] at this
   have hJ2 : J pre w2 := hJ pre wr w2 (some W.heap.size) hJs hg2 (fun r e => by cases e; exact ⟨Nat.le_refl _, hrg.iter_walk, hrg2.iter_walk⟩)
   clear hs2
   subst hx12
   have hJ3 : J pre (w2.alloc (.cells #[.int .i64 x1, .int .i64 x2] 63)) := hJ pre w2 _ none hJ2 (World.grownBy_alloc _ _ none) (fun r e => by cases e)
   have hrg3 := hrg2.alloc (.cells #[.int .i64 x1, .int .i64 x2] 63)
   obtain ⟨fn, tmps, assign, body, hy, hR⟩ := hY pre (x1, x2) _ hp hxp hJ3
   unfold encK at hen hy ⊢
   simp only at hen hy ⊢
   gi_wp2
   refine hR.mono ?_
   rintro e W4 ⟨hk4, (⟨rfl, hJ4⟩ | ⟨rfl, hJx4⟩)⟩
   ·have hrg4 := hrg3.of_walks hk4
    gi_wp2
    go_roundw
    case rel =>
     refine ⟨_, cnt2, pre ++ [(x1, x2)], hrg4, fun y hy => ?_, ?_, fun y hy => ?_, hJ4⟩
     ·rw [hlf y hy, ← hpe, litK_same (hm.ok y hy) (hm.ok _ hp)]
      by_cases e1 : y ∈ pre <;> by_cases e2 : y = (x1, x2) <;> simp [e1, e2]
     ·rw [List.nodup_append]
      refine ⟨hpn, by simp, ?_⟩
      intro a ha c hc e
      simp only [List.mem_singleton] at hc
      subst hc e
      exact hxp ha
     ·rcases List.mem_append.1 hy with h | h
      ·exact hpk y h
      ·simp only [List.mem_singleton] at h; subst h; exact hp
    case measure => rw [hrg4.left_eq, hrg.left_eq]; exact hlt
   ·gi_wp2
    refine bodyPost_ret (results_none rfl _ _ _) rfl ?_
    exact ⟨⟨_, rfl⟩, .inr hJx4⟩
end Av
end Go.Proofs.YtdekcppfpgeneaaGreatDoor
set_option linter.unusedVariables false
set_option linter.unusedSimpArgs false
namespace Go.Proofs.YtdekcppfpgeneaaGreatDoor
open Go Go.RowKit
namespace Rg
/-- the names that a holding brings, in order -/
def namesO (h : Hd) : List ByteArray := (h.nominee :: h.pledged :: h.joint).filter fun s => !decide (s = ⟨#[]⟩)
theorem namesH_eq (h : Hd) : namesH h = [h.company, h.holder] ++ namesO h := rfl
theorem kfold_app {κ : Type} [DecidableEq κ] (a b : List κ) : kfold (a ++ b) = b.foldl insK (kfold a) := by simp [kfold]
theorem flat_snoc (l : List Hd) {k : Nat} (hk : k < l.length) : (l.take (k + 1)).flatMap namesH = (l.take k).flatMap namesH ++ namesH l[k] := by
 rw [List.take_add_one, List.getElem?_eq_getElem hk, List.flatMap_append]; simp [List.flatMap]
theorem filt_snoc {p : ByteArray → Bool} (l : List ByteArray) {k : Nat} (hk : k < l.length) : (l.take (k + 1)).filter p = (l.take k).filter p ++ if p l[k] = true then [l[k]] else [] := by
 rw [List.take_add_one, List.getElem?_eq_getElem hk, List.filter_append]
 congr 1
 simp only [Option.toList_some, List.filter_cons, List.filter_nil]
theorem filt_len (p : ByteArray → Bool) (l : List ByteArray) : (l.filter p).length ≤ l.length := List.length_filter_le _ _
theorem kfold_len {κ : Type} [DecidableEq κ] (xs : List κ) : (kfold xs).length ≤ xs.length := by
 have : ∀ (xs ks : List κ), (xs.foldl insK ks).length ≤ ks.length + xs.length := by
  intro xs
  induction xs with
  | nil => intro ks; simp
  | cons x r ih =>
   intro ks
   have := ih (insK ks x)
   have h2 : (insK ks x).length ≤ ks.length + 1 := by unfold insK; split <;> simp
   simp only [List.foldl_cons, List.length_cons]; omega
 have := this xs []
 simpa [kfold] using this
end Rg
namespace Av
attribute [local irreducible] AW AOps AHOps
open Nt Rg

/-! register.parties. -/
theorem dI_strs (l : List ByteArray) : dI (l.map fun s => [PD.v (.string s)]) = l.map fun s => [AV.d (.v (.string s))] := by simp [dI, dL]
theorem bel_setE {n kt et : Nat} {ks : KS} (l : List ByteArray) : (AObj.mp kt et ks (setE l)).bel n := by
 show belM n (setE l)
 induction l with
 | nil => exact trivial
 | cons a r ih => exact ⟨trivial, ih⟩
set_option maxRecDepth 100000 in
set_option maxHeartbeats 16000000 in
theorem parties_a {base : World} (l : List Hd) (hs : ∀ h ∈ l, Small h) (hj : ∀ h ∈ l, h.joint.length ≤ 1000) (hl : l.length ≤ 900) : PureA Tryz.prog base 33 [.d (hdsP l)] (.d (strsP (partiesS l))) := by
 refine pure_enter ttOk Tryz.call33 Tryz.func33 rfl fun H hB hb hF => ?_
 rw [Tryz.results33, Tryz.ntmps33]
 simp only [arr_list, List.length_cons, List.length_nil, List.replicate, List.cons_append, List.nil_append, Nat.reduceAdd, Nat.reduceSub]
 clear hF hb
 have hln := hds_len l
 have ksh : ∀ x, keyShape (.one .str) (.string x) = true := fun _ => rfl
 have ms0 : setE [] = [] := rfl
 simp only [iA, hdsP]
 repeat' (first | (refine aops_cons ?_; first | (refine zg rfl ?_; first | refine grd_on ?_ | refine zo ?_ | (refine zs ?_ ?_ <;> intro hb <;> ((try simp only [bn] at hb); first | subst hb | simp only [hb]))) | (apply aops_o; rfl; simp only [estep, avs, tts, seval, hln] <;> exact rr)) | refine aops_nil ?_ | (refine ahops_cons ?_; first | (refine yg rfl ?_; first | refine hgrd_on ?_ | refine yo ?_ | (refine ys ?_ ?_ <;> intro hb <;> ((try simp only [bn] at hb); first | subst hb | simp only [hb]))) | (apply ahops_o; rfl; simp only [hstep, avs, tts, seval, hln] <;> exact rr; first | trivial | omega)) | refine ahops_nil ?_ | refine aw_seq ?_ | refine zr ttOk ?_ | refine zR 0 ttOk mixed ?_ | refine zR 1 ttOk mixed ?_ | refine zR 2 ttOk mixed ?_ | refine zR 3 ttOk mixed ?_ | refine zf rfl rfl ?_ | refine zt rfl rfl ?_ | (refine aw_cond rfl rfl ?_ ?_ <;> intro hb <;> ((try simp only [bn] at hb); first | subst hb | simp only [hb])) | refine aw_skip ?_ | refine aw_exit ?_ | refine aw_block ?_)
 refine aw_loop (H0 := H ++ [.mp 9 4 (.one .str) (setE [])]) (fun n env H' => ∃ k, n = l.length - k ∧ k ≤ l.length ∧ H' = H ++ [.mp 9 4 (.one .str) (setE (kfold ((l.take k).flatMap namesH)))] ∧ env = (.d (.sl 10 (l.map hdC)) :: .undef :: .undef :: .mp H.length :: .undef :: .undef :: .undef :: .undef :: .undef :: .d (.sl 10 (l.map hdC)) :: .d (.v (.int .i64 (l.length : Int))) :: .d (.v (.int .i64 (k : Int))) :: List.replicate 30 .undef)) ?_ ⟨0, rfl, Nat.zero_le _, rfl, rfl⟩ ?_
 ·exact ⟨by simp [EnvLe, List.replicate], .inl rfl⟩
 rintro n env H' ⟨k, rfl, hk, rfl, rfl⟩ hN
 simp only [rp]
 obtain ⟨c0, g0⟩ : ∃ c0, decide ((k : Int) < (l.length : Int)) = c0 := ⟨_, rfl⟩
 repeat refine aw_seq ?_
 refine zr ttOk ?_
 repeat (refine aops_cons ?_; first | (apply aops_o; rfl; simp only [estep, avs, tts, seval, g0] <;> exact rr) | (refine zg rfl ?_; first | refine grd_on ?_ | refine zo ?_))
 refine aops_nil ?_
 cases c0 with
 | true =>
  have hlt : k < l.length := by simpa using g0
  have hix : (0 : Int) ≤ (k : Int) := by omega
  have hgd := hds_get hlt
  have hfl := flat_snoc l hlt
  have hjl := hj _ (List.getElem_mem hlt)
  obtain ⟨ks, hks⟩ : ∃ ks, kfold ((l.take k).flatMap namesH) = ks := ⟨_, rfl⟩
  have hnd : ks.Nodup := hks ▸ kfold_nodup _
  have hnx : kfold ((l.take (k + 1)).flatMap namesH) = (namesO l[k]).foldl insK (insK (insK ks l[k].company) l[k].holder) := by rw [hfl, namesH_eq, ← List.append_assoc, kfold_app, kfold_app, hks]; rfl
  rw [hks]
  have w1 : IntKind.i64.wrap ((k : Int) + 1) = ((k + 1 : Nat) : Int) := wrap_succ hlt (by omega)
  obtain ⟨h, hh⟩ : ∃ h, l[k] = h := ⟨_, rfl⟩
  rw [hh] at hgd hnx hjl
  obtain ⟨id, company, holder, nominee, pledged, joint, capital, votes, fr, til⟩ := h
  simp only [hdC, strsP] at hgd
  simp only [namesO] at hnx
  simp only at hjl
  have m1 := setE_set hnd company
  have hnd1 := insK_nodup hnd company
  have m2 := setE_set hnd1 holder
  have hnd2 := insK_nodup hnd1 holder
  have djl : (joint.map fun s => [PD.v (.string s)]).length = joint.length := by simp
  have dj := dI_strs joint
  repeat refine aw_seq ?_
  refine aw_cond rfl rfl (fun hb => ?_) fun hb => ?_
  ·refine aw_skip ?_
   repeat refine aw_seq ?_
   refine aw_block ?_
   repeat refine aw_seq ?_
   repeat refine aw_seq ?_
   refine zr ttOk ?_
   repeat (refine aops_cons ?_; first | (apply aops_o; rfl; simp only [estep, avs, tts, seval, hix, hlt, hgd, hln] <;> exact rr) | (refine zg rfl ?_; first | refine grd_on ?_ | refine zo ?_))
   refine aops_nil ?_
   repeat refine aw_seq ?_
   refine aw_orders ttOk mixed (by kernel_rfl) (by kernel_rfl) (fun β env K => (β 7 = true → β 6 = true) ∧ K = H ++ [.mp 9 4 (.one .str) (setE (if β 7 = true then insK (insK ks company) holder else if β 6 = true then insK ks company else ks)), .box 36 [.d (.v (.string id)), .d (.v (.string company)), .d (.v (.string holder)), .d (.v (.string nominee)), .d (.v (.string pledged)), .d (.sl 1 (joint.map fun s => [PD.v (.string s)])), .d (.v (.int .i64 capital)), .d (.v (.int .i64 votes)), .d (.v (.int .i64 fr)), .d (.v (.int .i64 til))]] ∧ env = (.d (.sl 10 (l.map hdC)) :: .undef :: .undef :: .mp H.length :: .undef :: .ptr (H.length + 1) 0 :: .undef :: .undef :: .undef :: .d (.sl 10 (l.map hdC)) :: .d (.v (.int .i64 (l.length : Int))) :: .d (.v (.int .i64 (k : Int))) :: .undef :: .undef :: .undef :: (if β 0 = true then .mp H.length else .undef) :: (if β 1 = true then .ptr (H.length + 1) 1 else .undef) :: (if β 2 = true then .d (.v (.string company)) else .undef) :: (if β 3 = true then .mp H.length else .undef) :: (if β 4 = true then .ptr (H.length + 1) 2 else .undef) :: (if β 5 = true then .d (.v (.string holder)) else .undef) :: List.replicate 21 .undef)) (H0 := H ++ [.mp 9 4 (.one .str) (setE ks), .box 36 [.d (.v (.string id)), .d (.v (.string company)), .d (.v (.string holder)), .d (.v (.string nominee)), .d (.v (.string pledged)), .d (.sl 1 (joint.map fun s => [PD.v (.string s)])), .d (.v (.int .i64 capital)), .d (.v (.int .i64 votes)), .d (.v (.int .i64 fr)), .d (.v (.int .i64 til))]]) (env0 := (.d (.sl 10 (l.map hdC)) :: .undef :: .undef :: .mp H.length :: .undef :: .ptr (H.length + 1) 0 :: .undef :: .undef :: .undef :: .d (.sl 10 (l.map hdC)) :: .d (.v (.int .i64 (l.length : Int))) :: .d (.v (.int .i64 (k : Int))) :: List.replicate 30 .undef)) ⟨by simp [EnvLe, List.replicate], .inl rfl⟩ ⟨by simp, by simp, by simp⟩ ?_ ?_
   ·rintro β env K ⟨h76, rfl, rfl⟩ hN2 i o hget hβ hr
    simp only [rp]
    simp only [arr_list] at hget
    rcases i with _ | _ | _ | _ | _ | _ | _ | _ | i
    all_goals (try simp only [l_get0, l_getS, Option.some.injEq, List.getElem?_nil, reduceCtorEq] at hget)
    all_goals (try subst hget)
    all_goals (simp [ready1, Region.binds] at hr)
    iterate 6
     ·simp only [AGuard, AStep, ite_tt, avs, tts, Nat.reduceAdd, Nat.reduceSub, reduceCtorEq, hr]
      refine ⟨by simpa using h76, by simp, by simp⟩
    ·have h7 : β 7 = false := by cases h : β 7 with
      | false => rfl
      | true => have := h76 h; simp only [Nat.zero_add, Nat.reduceAdd] at hβ; rw [hβ] at this; cases this
     simp only [Nat.zero_add, Nat.reduceAdd] at hβ
     simp only [AGuard, AStep, ite_tt, avs, tts, Nat.reduceAdd, Nat.reduceSub, reduceCtorEq, hr, hβ, h7, ksh, m1]
     refine ⟨by simp, by simp [h7], by simp⟩
    ·simp only [Nat.zero_add, Nat.reduceAdd] at hβ
     simp only [AGuard, AStep, ite_tt, avs, tts, Nat.reduceAdd, Nat.reduceSub, reduceCtorEq, hr, hβ, ksh, m2]
     refine ⟨by simp [hr], by simp [hr], by simp⟩
   ·rintro β env K ⟨h76, rfl, rfl⟩ hall
    have a6 := hall 6 (by decide)
    have a7 := hall 7 (by decide)
    simp only [List.replicate, List.cons_append, List.nil_append, hall 0 (by decide), hall 1 (by decide), hall 2 (by decide), hall 3 (by decide), hall 4 (by decide), hall 5 (by decide), a6, a7, ite_tt]
    clear hall h76 m1 m2
    generalize insK (insK ks company) holder = ks2 at hnd2 hnx
    show AW _ _ _ _ _
    have b1 : 2 + joint.length ≤ 9223372036854775807 := by omega
    have b2 : (2 + joint.length) * 16 ≤ 140737488355328 := by omega
    have e2 : (2 + joint.length = joint.length + 1 + 1) = True := eq_true (by omega)
    have dj2 : List.map (fun it => List.map AV.d it) (List.map (fun s => [PD.v (.string s)]) joint) = joint.map fun s => [AV.d (.v (.string s))] := by simp
    repeat' (first | (refine aops_cons ?_; first | (refine zg rfl ?_; first | refine grd_on ?_ | refine zo ?_ | (refine zs ?_ ?_ <;> intro hb <;> ((try simp only [bn] at hb); first | subst hb | simp only [hb]))) | (apply aops_o; rfl; simp only [estep, avs, tts, seval, djl, dj, dj2, b1, b2, e2] <;> exact rr)) | refine aops_nil ?_ | (refine ahops_cons ?_; first | (refine yg rfl ?_; first | refine hgrd_on ?_ | refine yo ?_ | (refine ys ?_ ?_ <;> intro hb <;> ((try simp only [bn] at hb); first | subst hb | simp only [hb]))) | (apply ahops_o; rfl; simp only [hstep, avs, tts, seval, djl, dj, dj2, b1, b2, e2] <;> exact rr; first | trivial | omega)) | refine ahops_nil ?_ | refine aw_seq ?_ | refine zr ttOk ?_ | refine zR 0 ttOk mixed ?_ | refine zR 1 ttOk mixed ?_ | refine zR 2 ttOk mixed ?_ | refine zR 3 ttOk mixed ?_ | refine zf rfl rfl ?_ | refine zt rfl rfl ?_ | (refine aw_cond rfl rfl ?_ ?_ <;> intro hb <;> ((try simp only [bn] at hb); first | subst hb | simp only [hb])) | refine aw_skip ?_ | refine aw_exit ?_ | refine aw_block ?_)
    obtain ⟨nl, hnl⟩ : ∃ nl, nl = nominee :: pledged :: joint := ⟨_, rfl⟩
    have hrow : ([AV.d (.v (.string nominee))] :: [AV.d (.v (.string pledged))] :: joint.map fun s => [AV.d (.v (.string s))]) = nl.map fun s => [AV.d (.v (.string s))] := by rw [hnl]; rfl
    obtain ⟨m, hm⟩ : ∃ m, m = 2 + joint.length := ⟨_, rfl⟩
    have hml : nl.length = m := by rw [hnl, hm]; simp; omega
    rw [hrow, ← hm]
    rw [← hnl] at hnx
    clear hrow b1 b2 e2 dj2 djl dj
    refine aw_loop (H0 := H ++ [.mp 9 4 (.one .str) (setE (ks2)), .box 36 [.d (.v (.string id)), .d (.v (.string company)), .d (.v (.string holder)), .d (.v (.string nominee)), .d (.v (.string pledged)), .d (.sl 1 (joint.map fun s => [PD.v (.string s)])), .d (.v (.int .i64 capital)), .d (.v (.int .i64 votes)), .d (.v (.int .i64 fr)), .d (.v (.int .i64 til))], .row 9 1 0 (nl.map fun s => [AV.d (.v (.string s))])]) (fun n env K => ∃ i, n = m - i ∧ i ≤ m ∧ K = H ++ [.mp 9 4 (.one .str) (setE (((nl.take i).filter fun s => !decide (s = ⟨#[]⟩)).foldl insK ks2)), .box 36 [.d (.v (.string id)), .d (.v (.string company)), .d (.v (.string holder)), .d (.v (.string nominee)), .d (.v (.string pledged)), .d (.sl 1 (joint.map fun s => [PD.v (.string s)])), .d (.v (.int .i64 capital)), .d (.v (.int .i64 votes)), .d (.v (.int .i64 fr)), .d (.v (.int .i64 til))], .row 9 1 0 (nl.map fun s => [AV.d (.v (.string s))])] ∧ env = (.d (.sl 10 (l.map hdC)) :: .undef :: .undef :: .mp H.length :: .undef :: .ptr (H.length + 1) 0 :: .undef :: .undef :: .undef :: .d (.sl 10 (l.map hdC)) :: .d (.v (.int .i64 (l.length : Int))) :: .d (.v (.int .i64 (k : Int))) :: List.replicate 16 .undef ++ .ms (H.length + 2) 0 m :: .d (.v (.int .i64 (m : Int))) :: .d (.v (.int .i64 (i : Int))) :: List.replicate 11 .undef)) ?_ ⟨0, rfl, Nat.zero_le _, rfl, rfl⟩ ?_
    ·exact ⟨by simp [EnvLe, List.replicate], .inl rfl⟩
    rintro n env K ⟨i, rfl, hi, rfl, rfl⟩ hN3
    simp only [rp]
    have hnd3 : (((nl.take i).filter fun s => !decide (s = ⟨#[]⟩)).foldl insK ks2).Nodup := foldl_insK_nodup _ _ hnd2
    obtain ⟨c1, g1⟩ : ∃ c1, decide ((i : Int) < (m : Int)) = c1 := ⟨_, rfl⟩
    repeat refine aw_seq ?_
    refine zr ttOk ?_
    repeat (refine aops_cons ?_; first | (apply aops_o; rfl; simp only [estep, avs, tts, seval, g1] <;> exact rr) | (refine zg rfl ?_; first | refine grd_on ?_ | refine zo ?_))
    refine aops_nil ?_
    cases c1 with
    | true =>
     have hlt2 : i < m := by simpa using g1
     have hlt3 : i < nl.length := by omega
     have hix2 : (0 : Int) ≤ (i : Int) := by omega
     have hgd2 : (nl.map fun s => [AV.d (.v (.string s))]).getD i [] = [AV.d (.v (.string nl[i]))] := by simp [hlt3]
     have hgd3 : (nl.map fun s => [AV.d (.v (.string s))])[i]? = some [AV.d (.v (.string nl[i]))] := by simp [hlt3]
     have hlen2 : (nl.map fun s => [AV.d (.v (.string s))]).length = m := by simp [hml]
     have hfs := filt_snoc (p := fun s => !decide (s = ⟨#[]⟩)) nl hlt3
     have w2 : IntKind.i64.wrap ((i : Int) + 1) = ((i + 1 : Nat) : Int) := wrap_succ hlt2 (by omega)
     have m3 := setE_set hnd3 nl[i]
     obtain ⟨c2, z2⟩ : ∃ b, decide (nl[i] = ⟨#[]⟩) = b := ⟨_, rfl⟩
     simp only [z2] at hfs
     repeat' (first | (refine aops_cons ?_; first | (refine zg rfl ?_; first | refine grd_on ?_ | refine zo ?_ | (refine zs ?_ ?_ <;> intro hb <;> ((try simp only [bn] at hb); first | subst hb | simp only [hb]))) | (apply aops_o; rfl; simp only [estep, avs, tts, seval, hix2, hlt2, hlt3, hgd2, hgd3, hlen2, ksh, m3, w2, z2, hml] <;> exact rr)) | refine aops_nil ?_ | (refine ahops_cons ?_; first | (refine yg rfl ?_; first | refine hgrd_on ?_ | refine yo ?_ | (refine ys ?_ ?_ <;> intro hb <;> ((try simp only [bn] at hb); first | subst hb | simp only [hb]))) | (apply ahops_o; rfl; simp only [hstep, avs, tts, seval, hix2, hlt2, hlt3, hgd2, hgd3, hlen2, ksh, m3, w2, z2, hml] <;> exact rr; first | trivial | omega)) | refine ahops_nil ?_ | refine aw_seq ?_ | refine zr ttOk ?_ | refine zR 0 ttOk mixed ?_ | refine zR 1 ttOk mixed ?_ | refine zR 2 ttOk mixed ?_ | refine zR 3 ttOk mixed ?_ | refine zf rfl rfl ?_ | refine zt rfl rfl ?_ | (refine aw_cond rfl rfl ?_ ?_ <;> intro hb <;> ((try simp only [bn] at hb); first | subst hb | simp only [hb])) | refine aw_skip ?_ | refine aw_exit ?_ | refine aw_block ?_)
     ·refine ⟨m - (i + 1), _, _, by omega, ⟨?_, .inl rfl⟩, i + 1, rfl, hlt2, ?_, rfl⟩
      ·simp [EnvLe, List.replicate]
      ·rw [hfs]; simp
     ·refine ⟨m - (i + 1), _, _, by omega, ⟨?_, .inl rfl⟩, i + 1, rfl, hlt2, ?_, rfl⟩
      ·simp [EnvLe, List.replicate]
      ·rw [hfs]; simp [List.foldl_append]
    | false =>
     have him : i = m := by
                 have : ¬ i < m := by simpa using g1
                 omega
     have htk : nl.take i = nl := by rw [him, ← hml, List.take_length]
     rw [htk, ← hnx]
     repeat' (first | (refine aops_cons ?_; first | (refine zg rfl ?_; first | refine grd_on ?_ | refine zo ?_ | (refine zs ?_ ?_ <;> intro hb <;> ((try simp only [bn] at hb); first | subst hb | simp only [hb]))) | (apply aops_o; rfl; simp only [estep, avs, tts, seval, w1] <;> exact rr)) | refine aops_nil ?_ | (refine ahops_cons ?_; first | (refine yg rfl ?_; first | refine hgrd_on ?_ | refine yo ?_ | (refine ys ?_ ?_ <;> intro hb <;> ((try simp only [bn] at hb); first | subst hb | simp only [hb]))) | (apply ahops_o; rfl; simp only [hstep, avs, tts, seval, w1] <;> exact rr; first | trivial | omega)) | refine ahops_nil ?_ | refine aw_seq ?_ | refine zr ttOk ?_ | refine zR 0 ttOk mixed ?_ | refine zR 1 ttOk mixed ?_ | refine zR 2 ttOk mixed ?_ | refine zR 3 ttOk mixed ?_ | refine zf rfl rfl ?_ | refine zt rfl rfl ?_ | (refine aw_cond rfl rfl ?_ ?_ <;> intro hb <;> ((try simp only [bn] at hb); first | subst hb | simp only [hb])) | refine aw_skip ?_ | refine aw_exit ?_ | refine aw_block ?_)
     refine ⟨l.length - (k + 1), _, _, by omega, ⟨?_, .inr ⟨by simp, ?_, .more hB (.cons (bel_setE _) .nil), [.box 36 [.d (.v (.string id)), .d (.v (.string company)), .d (.v (.string holder)), .d (.v (.string nominee)), .d (.v (.string pledged)), .d (.sl 1 (joint.map fun s => [PD.v (.string s)])), .d (.v (.int .i64 capital)), .d (.v (.int .i64 votes)), .d (.v (.int .i64 fr)), .d (.v (.int .i64 til))], .row 9 1 0 (nl.map fun s => [AV.d (.v (.string s))])], by simp⟩⟩, k + 1, rfl, hlt, rfl, rfl⟩
     ·simp [EnvLe, List.replicate]
     ·simp [belL, AV.bel, List.replicate]
  ·cases hb
 | false =>
  have hkl : k = l.length := by
                 have : ¬ k < l.length := by simpa using g0
                 omega
  subst hkl
  rw [List.take_length]
  have hsz : ∀ s ∈ kfold (l.flatMap namesH), s.size ≤ 9223372036854775807 := fun s hs2 => by
   rw [mem_kfold, List.mem_flatMap] at hs2
   obtain ⟨h, hh, hn⟩ := hs2
   have := hs h hh
   simp only [namesH, List.mem_cons, List.mem_filter] at hn
   rcases hn with rfl | rfl | ⟨rfl | rfl | hn, _⟩
   ·exact this.company
   ·exact this.holder
   ·exact this.nominee
   ·exact this.pledged
   ·exact this.joint _ hn
  have hlen : (kfold (l.flatMap namesH)).length ≤ 1000000 := by
   refine Nat.le_trans (kfold_len _) ?_
   rw [List.length_flatMap]
   have : ∀ (l : List Hd), (∀ h ∈ l, h.joint.length ≤ 1000) → (l.map fun h => (namesH h).length).sum ≤ l.length * 1004 := by
    intro l
    induction l with
    | nil => intro _; simp
    | cons a r ih =>
     intro h
     have h1 := ih fun x hx => h x (List.mem_cons_of_mem _ hx)
     have h2 := h a (List.mem_cons_self ..)
     have h3 : (namesH a).length ≤ 1004 := by
      simp only [namesH, List.length_cons]
      have := filt_len (fun s => !decide (s = ⟨#[]⟩)) (a.nominee :: a.pledged :: a.joint)
      simp only [List.length_cons] at this
      omega
     simp only [List.map_cons, List.sum_cons, List.length_cons]
     omega
   have := this l hj
   omega
  have cs := fun (H : AHeap) (h : H[H.length - 1]? = some (.mp 9 4 (.one .str) (setE (kfold (l.flatMap namesH))))) => sorted_a (base := base) (H := H) (kfold (l.flatMap namesH)) h hsz hlen
  have cs := cs (H ++ [.mp 9 4 (.one .str) (setE (kfold (l.flatMap namesH)))]) (by simp)
  have el : (H ++ [AObj.mp 9 4 (.one .str) (setE (kfold (l.flatMap namesH)))]).length - 1 = H.length := by simp
  rw [el] at cs
  repeat' (first | (refine aops_cons ?_; first | (refine zg rfl ?_; first | refine grd_on ?_ | refine zo ?_ | (refine zs ?_ ?_ <;> intro hb <;> ((try simp only [bn] at hb); first | subst hb | simp only [hb]))) | (apply aops_o; rfl; simp only [estep, avs, tts, seval] <;> exact rr) | (refine za rfl ?_; refine zd (cs) ?_)) | refine aops_nil ?_ | (refine ahops_cons ?_; first | (refine yg rfl ?_; first | refine hgrd_on ?_ | refine yo ?_ | (refine ys ?_ ?_ <;> intro hb <;> ((try simp only [bn] at hb); first | subst hb | simp only [hb]))) | (apply ahops_o; rfl; simp only [hstep, avs, tts, seval] <;> exact rr; first | trivial | omega) | (refine ya rfl ?_; refine yd (cs) ?_)) | refine ahops_nil ?_ | refine aw_seq ?_ | refine zr ttOk ?_ | refine zR 0 ttOk mixed ?_ | refine zR 1 ttOk mixed ?_ | refine zR 2 ttOk mixed ?_ | refine zR 3 ttOk mixed ?_ | refine zf rfl rfl ?_ | refine zt rfl rfl ?_ | (refine aw_cond rfl rfl ?_ ?_ <;> intro hb <;> ((try simp only [bn] at hb); first | subst hb | simp only [hb])) | refine aw_skip ?_ | refine aw_exit ?_ | refine aw_block ?_)
  exact aw_ret ⟨_, rfl, _, rfl, rfl⟩
end Av
end Go.Proofs.YtdekcppfpgeneaaGreatDoor
set_option linter.unusedVariables false
set_option linter.unusedSimpArgs false
namespace Go.Proofs.YtdekcppfpgeneaaGreatDoor
open Go Go.RowKit
namespace Rg
open Av Nt
structure Pct (h : Hd) : Prop where
 c0 : 0 ≤ h.capital
 c1 : h.capital ≤ 100
 v0 : 0 ≤ h.votes
 v1 : h.votes ≤ 100
theorem pct_of {h : Hd} (hp : properB h = true) : Pct h := by
 unfold properB pr3 pctB at hp
 simp only [Bool.and_eq_true, decide_eq_true_eq] at hp
 obtain ⟨_, _, ⟨_, _, ⟨a, b⟩, c, d⟩, _⟩ := hp
 exact ⟨a, b, c, d⟩
def sumA (l : List Hd) (day : Int) (c : ByteArray) : AV := .agg [.d (.v (.int .i64 (capS l day c))), .d (.v (.int .i64 (votS l day c)))]
theorem cap_take_no {l : List Hd} {day : Int} {k : Nat} (hk : k < l.length) {c : ByteArray} (h : inB day c l[k] = false) : capS (l.take (k + 1)) day c = capS (l.take k) day c := by
 unfold capS; rw [sumF_take_succ _ _ _ hk, h]; simp
theorem vot_take_no {l : List Hd} {day : Int} {k : Nat} (hk : k < l.length) {c : ByteArray} (h : inB day c l[k] = false) : votS (l.take (k + 1)) day c = votS (l.take k) day c := by
 unfold votS; rw [sumF_take_succ _ _ _ hk, h]; simp
theorem cap_take_yes {l : List Hd} {day : Int} {k : Nat} (hk : k < l.length) {c : ByteArray} (h : inB day c l[k] = true) : capS (l.take (k + 1)) day c = capS (l.take k) day c + l[k].capital := by
 unfold capS; rw [sumF_take_succ _ _ _ hk, h]; simp
theorem vot_take_yes {l : List Hd} {day : Int} {k : Nat} (hk : k < l.length) {c : ByteArray} (h : inB day c l[k] = true) : votS (l.take (k + 1)) day c = votS (l.take k) day c + l[k].votes := by
 unfold votS; rw [sumF_take_succ _ _ _ hk, h]; simp
theorem cap_nonneg {l : List Hd} (hp : ∀ h ∈ l, Pct h) (day : Int) (c : ByteArray) (k : Nat) : 0 ≤ capS (l.take k) day c := sumF_nonneg fun h hh _ => (hp h (List.mem_of_mem_take hh)).c0
theorem vot_nonneg {l : List Hd} (hp : ∀ h ∈ l, Pct h) (day : Int) (c : ByteArray) (k : Nat) : 0 ≤ votS (l.take k) day c := sumF_nonneg fun h hh _ => (hp h (List.mem_of_mem_take hh)).v0
theorem cap_le {l : List Hd} (hp : ∀ h ∈ l, Pct h) (day : Int) (c : ByteArray) (k : Nat) : capS (l.take k) day c ≤ capS l day c := sumF_take_le (fun h hh _ => (hp h hh).c0) k
theorem vot_le {l : List Hd} (hp : ∀ h ∈ l, Pct h) (day : Int) (c : ByteArray) (k : Nat) : votS (l.take k) day c ≤ votS l day c := sumF_take_le (fun h hh _ => (hp h hh).v0) k
theorem onB_no {l : List Hd} {day : Int} {k : Nat} (hk : k < l.length) (hr : runsB l[k] day = true) (h : okC l day l[k].company = false) : onB l day = false := by
 unfold onB
 rw [List.all_eq_false]
 exact ⟨_, List.getElem_mem hk, by rw [hr, h]; simp⟩
theorem bearB_any (l : List Hd) : bearB l = !(l.any fun h => !onB l h.fr) := by
 unfold bearB
 rw [Bool.eq_iff_iff]
 simp [List.all_eq_true, List.any_eq_false]
end Rg
namespace Av
attribute [local irreducible] AW AOps AHOps
open Nt Rg

/-! register.bearable. -/
theorem bel_mpE {n kt et : Nat} {ks : KS} {κ : Type} [DecidableEq κ] (enc : κ → Value) (l : List κ) (f : κ → AV) (hf : ∀ k, (f k).bel n) : (AObj.mp kt et ks (mpE enc l f)).bel n := by
 show belM n (mpE enc l f)
 induction l with
 | nil => exact trivial
 | cons a r ih => exact ⟨hf a, ih⟩
theorem bel_sums {n kt et : Nat} {ks : KS} {l : List Hd} {day : Int} {xs : List ByteArray} : (AObj.mp kt et ks (mpE Rg.encS xs (sumA l day))).bel n := bel_mpE _ _ _ fun c => by simp [sumA, AV.bel, belL]
section
variable {base : World}
set_option maxRecDepth 100000 in
set_option maxHeartbeats 16000000 in
theorem on_a {H : AHeap} (l : List Hd) (day : Int) {lb : Nat} (hbx : H[lb]? = some (.box 26 [.d (hdsP l)])) (hp : ∀ h ∈ l, Pct h) (hl : l.length ≤ 900) : ReadA Tryz.prog base 76 [iA day, .ptr lb 0] H (boA (onB l day)) := by
 refine read_enter ttOk Tryz.call76 Tryz.func76 rfl fun hB hb hF => ?_
 rw [Tryz.results76, Tryz.ntmps76]
 simp only [arr_list, List.length_cons, List.length_nil, List.replicate, List.cons_append, List.nil_append, Nat.reduceAdd, Nat.reduceSub]
 clear hF hb
 have hln := hds_len l
 have hbx2 := fun G => got hbx G
 have ksh : ∀ x, keyShape (.one .str) (.string x) = true := fun _ => rfl
 have ms0 : (mpE Rg.encS [] (sumA (l.take 0) day)) = [] := rfl
 simp only [iA, hdsP] at hbx hbx2 ⊢
 obtain ⟨P, hP⟩ : ∃ P, onB l day = P := ⟨_, rfl⟩
 rw [hP]
 repeat' (first | (refine aops_cons ?_; first | (refine zg rfl ?_; first | refine grd_on ?_ | refine zo ?_ | (refine zs ?_ ?_ <;> intro hb <;> ((try simp only [bn] at hb); first | subst hb | simp only [hb]))) | (apply aops_o; rfl; simp only [estep, avs, tts, seval, hbx, hbx2, hln] <;> exact rr)) | refine aops_nil ?_ | (refine ahops_cons ?_; first | (refine yg rfl ?_; first | refine hgrd_on ?_ | refine yo ?_ | (refine ys ?_ ?_ <;> intro hb <;> ((try simp only [bn] at hb); first | subst hb | simp only [hb]))) | (apply ahops_o; rfl; simp only [hstep, avs, tts, seval, hbx, hbx2, hln] <;> exact rr; first | trivial | omega)) | refine ahops_nil ?_ | refine aw_seq ?_ | refine zr ttOk ?_ | refine zR 0 ttOk mixed ?_ | refine zR 1 ttOk mixed ?_ | refine zR 2 ttOk mixed ?_ | refine zR 3 ttOk mixed ?_ | refine zf rfl rfl ?_ | refine zt rfl rfl ?_ | (refine aw_cond rfl rfl ?_ ?_ <;> intro hb <;> ((try simp only [bn] at hb); first | subst hb | simp only [hb])) | refine aw_skip ?_ | refine aw_exit ?_ | refine aw_block ?_)
 refine aw_loop (H0 := H ++ [.mp 9 103 (.one .str) (mpE Rg.encS [] (sumA (l.take 0) day))]) (fun n env K => ∃ k ks, n = l.length - k ∧ k ≤ l.length ∧ ks.Nodup ∧ (∀ c, ¬ c ∈ ks → sumA (l.take k) day c = .agg [.d (.v (.int .i64 0)), .d (.v (.int .i64 0))]) ∧ (∀ c, capS (l.take k) day c ≤ 100 ∧ votS (l.take k) day c ≤ 100) ∧ K = H ++ [.mp 9 103 (.one .str) (mpE Rg.encS ks (sumA (l.take k) day))] ∧ env = (.d (.v (.int .i64 day)) :: .ptr lb 0 :: .undef :: .d (.v (.bool false)) :: .mp H.length :: .undef :: .undef :: .undef :: .undef :: .d (.sl 10 (l.map hdC)) :: .d (.v (.int .i64 (l.length : Int))) :: .d (.v (.int .i64 (k : Int))) :: List.replicate 35 .undef)) ?_ ⟨0, [], rfl, Nat.zero_le _, List.nodup_nil, fun c _ => rfl, fun c => ⟨by simp [capS, sumF], by simp [votS, sumF]⟩, rfl, rfl⟩ ?_
 ·exact ⟨by simp [EnvLe, List.replicate], .inl rfl⟩
 rintro n env K ⟨k, ks, rfl, hk, hnd, hout, hle, rfl, rfl⟩ hN
 simp only [rp]
 obtain ⟨c0, g0⟩ : ∃ c0, decide ((k : Int) < (l.length : Int)) = c0 := ⟨_, rfl⟩
 repeat refine aw_seq ?_
 refine zr ttOk ?_
 repeat (refine aops_cons ?_; first | (apply aops_o; rfl; simp only [estep, avs, tts, seval, g0] <;> exact rr) | (refine zg rfl ?_; first | refine grd_on ?_ | refine zo ?_))
 refine aops_nil ?_
 cases c0 with
 | false =>
  have hkl : k = l.length := by
                 have : ¬ k < l.length := by simpa using g0
                 omega
  subst hkl
  rw [List.take_length] at hle
  have hon : onB l day = true := by
   unfold onB
   rw [List.all_eq_true]
   intro h hh
   have := hle h.company
   simp [okC, this.1, this.2]
  rw [hP] at hon
  subst hon
  repeat' (first | (refine aops_cons ?_; first | (refine zg rfl ?_; first | refine grd_on ?_ | refine zo ?_ | (refine zs ?_ ?_ <;> intro hb <;> ((try simp only [bn] at hb); first | subst hb | simp only [hb]))) | (apply aops_o; rfl; simp only [estep, avs, tts, seval] <;> exact rr)) | refine aops_nil ?_ | (refine ahops_cons ?_; first | (refine yg rfl ?_; first | refine hgrd_on ?_ | refine yo ?_ | (refine ys ?_ ?_ <;> intro hb <;> ((try simp only [bn] at hb); first | subst hb | simp only [hb]))) | (apply ahops_o; rfl; simp only [hstep, avs, tts, seval] <;> exact rr; first | trivial | omega)) | refine ahops_nil ?_ | refine aw_seq ?_ | refine zr ttOk ?_ | refine zR 0 ttOk mixed ?_ | refine zR 1 ttOk mixed ?_ | refine zR 2 ttOk mixed ?_ | refine zR 3 ttOk mixed ?_ | refine zf rfl rfl ?_ | refine zt rfl rfl ?_ | (refine aw_cond rfl rfl ?_ ?_ <;> intro hb <;> ((try simp only [bn] at hb); first | subst hb | simp only [hb])) | refine aw_skip ?_ | refine aw_exit ?_ | refine aw_block ?_)
  exact aw_ret ⟨_, rfl, _, rfl, rfl⟩
 | true =>
  have hlt : k < l.length := by simpa using g0
  have hix : (0 : Int) ≤ (k : Int) := by omega
  have hgd := hds_get hlt
  have hpk := hp _ (List.getElem_mem hlt)
  have w1 : IntKind.i64.wrap ((k : Int) + 1) = ((k + 1 : Nat) : Int) := wrap_succ hlt (by omega)
  have cr := runs_a base l[k] day
  have tno1 := fun c => cap_take_no (l := l) (day := day) hlt (c := c)
  have tno2 := fun c => vot_take_no (l := l) (day := day) hlt (c := c)
  have tye1 := cap_take_yes (l := l) (day := day) hlt (c := l[k].company)
  have tye2 := vot_take_yes (l := l) (day := day) hlt (c := l[k].company)
  have hc0 := cap_nonneg hp day l[k].company k
  have hv0 := vot_nonneg hp day l[k].company k
  have hc1 := (hle l[k].company).1
  have hv1 := (hle l[k].company).2
  have hcl := cap_le hp day l[k].company (k + 1)
  have hvl := vot_le hp day l[k].company (k + 1)
  have hno := onB_no (l := l) (day := day) hlt
  have hmg := mgetD_eq keq_S (f := sumA (l.take k) day) (k := l[k].company) (ks := ks) (z := .agg [.d (.v (.int .i64 0)), .d (.v (.int .i64 0))]) (hout _)
  have hms := fun v => mset_mpE keq_S hnd (sumA (l.take k) day) l[k].company v
  have hinB : ∀ c, inB day c l[k] = (runsB l[k] day && decide (l[k].company = c)) := fun c => rfl
  obtain ⟨b1, hb1⟩ : ∃ b1, runsB l[k] day = b1 := ⟨_, rfl⟩
  rw [hb1] at cr hno hinB
  generalize l[k] = h at *
  obtain ⟨id, company, holder, nominee, pledged, joint, capital, votes, fr, til⟩ := h
  simp only [hdC] at hgd
  simp only [hdA, hdL, tA, iA] at cr
  simp only at tye1 tye2 hc0 hv0 hc1 hv1 hcl hvl hno hmg hms hinB
  obtain ⟨p1, p2, p3, p4⟩ := hpk
  simp only at p1 p2 p3 p4
  simp only [show ∀ s, Rg.encS s = Value.string s from fun _ => rfl] at hmg hms
  have hlb := lt_of_get hbx
  cases b1 with
  | false =>
   have hfun : sumA (l.take (k + 1)) day = sumA (l.take k) day := by
    funext c
    unfold sumA
    rw [tno1 c (by rw [hinB c]; rfl), tno2 c (by rw [hinB c]; rfl)]
   repeat' (first | (refine aops_cons ?_; first | (refine zg rfl ?_; first | refine grd_on ?_ | refine zo ?_ | (refine zs ?_ ?_ <;> intro hb <;> ((try simp only [bn] at hb); first | subst hb | simp only [hb]))) | (apply aops_o; rfl; simp only [estep, avs, tts, seval, hix, hlt, hgd, hln, w1] <;> exact rr) | (refine za rfl ?_; refine zp (cr) ?_)) | refine aops_nil ?_ | (refine ahops_cons ?_; first | (refine yg rfl ?_; first | refine hgrd_on ?_ | refine yo ?_ | (refine ys ?_ ?_ <;> intro hb <;> ((try simp only [bn] at hb); first | subst hb | simp only [hb]))) | (apply ahops_o; rfl; simp only [hstep, avs, tts, seval, hix, hlt, hgd, hln, w1] <;> exact rr; first | trivial | omega) | (refine ya rfl ?_; refine yp (cr) ?_)) | refine ahops_nil ?_ | refine aw_seq ?_ | refine zr ttOk ?_ | refine zR 0 ttOk mixed ?_ | refine zR 1 ttOk mixed ?_ | refine zR 2 ttOk mixed ?_ | refine zR 3 ttOk mixed ?_ | refine zf rfl rfl ?_ | refine zt rfl rfl ?_ | (refine aw_cond rfl rfl ?_ ?_ <;> intro hb <;> ((try simp only [bn] at hb); first | subst hb | simp only [hb])) | refine aw_skip ?_ | refine aw_exit ?_ | refine aw_block ?_)
   refine ⟨l.length - (k + 1), _, H ++ [.mp 9 103 (.one .str) (mpE Rg.encS ks (sumA (l.take k) day))], by omega, ⟨?_, .inr ⟨by simp, ?_, .more hB (.cons (bel_sums) .nil), [.box 36 [.d (.v (.string id)), .d (.v (.string company)), .d (.v (.string holder)), .d (.v (.string nominee)), .d (.v (.string pledged)), .d (strsP joint), .d (.v (.int .i64 capital)), .d (.v (.int .i64 votes)), .d (.v (.int .i64 fr)), .d (.v (.int .i64 til))]], by simp⟩⟩, k + 1, ks, rfl, hlt, hnd, fun c hc => by rw [hfun]; exact hout c hc, fun c => by rw [tno1 c (by rw [hinB c]; rfl), tno2 c (by rw [hinB c]; rfl)]; exact hle c, by rw [hfun], rfl⟩
   ·simp [EnvLe, List.replicate]
   ·simp [belL, AV.bel, List.replicate]; omega
  | true =>
   have tc := tye1 (by rw [hinB]; simp)
   have tv := tye2 (by rw [hinB]; simp)
   have hfun : updF (sumA (l.take k) day) company (.agg [.d (.v (.int .i64 (capS (l.take k) day company + capital))), .d (.v (.int .i64 (votS (l.take k) day company + votes)))]) = sumA (l.take (k + 1)) day := by
    funext c
    unfold updF
    by_cases e : c = company
    ·subst e; rw [if_pos rfl]; unfold sumA; rw [tc, tv]
    ·rw [if_neg e]
     unfold sumA
     have hf : (true && decide (company = c)) = false := by simp; exact fun h => e h.symm
     rw [tno1 c (by rw [hinB c]; exact hf), tno2 c (by rw [hinB c]; exact hf)]
   have hms1 := hms (.agg [.d (.v (.int .i64 (capS (l.take k) day company + capital))), .d (.v (.int .i64 (votS (l.take k) day company + votes)))])
   rw [hfun] at hms1
   have hsA : sumA (l.take k) day company = .agg [.d (.v (.int .i64 (capS (l.take k) day company))), .d (.v (.int .i64 (votS (l.take k) day company)))] := rfl
   rw [hsA] at hmg
   have w2 : IntKind.i64.wrap (capS (l.take k) day company + capital) = capS (l.take k) day company + capital := by rw [IntKind.wrap_i64]; omega
   have w3 : IntKind.i64.wrap (votS (l.take k) day company + votes) = votS (l.take k) day company + votes := by rw [IntKind.wrap_i64]; omega
   obtain ⟨b2, hb2⟩ : ∃ b2, decide (capS (l.take k) day company + capital > 100) = b2 := ⟨_, rfl⟩
   obtain ⟨b3, hb3⟩ : ∃ b3, decide (votS (l.take k) day company + votes > 100) = b3 := ⟨_, rfl⟩
   repeat' (first | (refine aops_cons ?_; first | (refine zg rfl ?_; first | refine grd_on ?_ | refine zo ?_ | (refine zs ?_ ?_ <;> intro hb <;> ((try simp only [bn] at hb); first | subst hb | simp only [hb]))) | (apply aops_o; rfl; simp only [estep, avs, tts, seval, hix, hlt, hgd, hln, w1, w2, w3, ksh, hmg, hms1, hb2, hb3] <;> exact rr) | (refine za rfl ?_; refine zp (cr) ?_)) | refine aops_nil ?_ | (refine ahops_cons ?_; first | (refine yg rfl ?_; first | refine hgrd_on ?_ | refine yo ?_ | (refine ys ?_ ?_ <;> intro hb <;> ((try simp only [bn] at hb); first | subst hb | simp only [hb]))) | (apply ahops_o; rfl; simp only [hstep, avs, tts, seval, hix, hlt, hgd, hln, w1, w2, w3, ksh, hmg, hms1, hb2, hb3] <;> exact rr; first | trivial | omega) | (refine ya rfl ?_; refine yp (cr) ?_)) | refine ahops_nil ?_ | refine aw_seq ?_ | refine zr ttOk ?_ | refine zR 0 ttOk mixed ?_ | refine zR 1 ttOk mixed ?_ | refine zR 2 ttOk mixed ?_ | refine zR 3 ttOk mixed ?_ | refine zf rfl rfl ?_ | refine zt rfl rfl ?_ | (refine aw_cond rfl rfl ?_ ?_ <;> intro hb <;> ((try simp only [bn] at hb); first | subst hb | simp only [hb])) | refine aw_skip ?_ | refine aw_exit ?_ | refine aw_block ?_)
   ·have hg := of_decide_eq_true hb3
    have hf : onB l day = false := hno rfl (by unfold okC; rw [decide_eq_false (p := votS l day company ≤ 100) (by omega), Bool.and_false])
    rw [← hP, hf]
    exact aw_ret ⟨_, rfl, _, rfl, rfl⟩
   ·have g2 := of_decide_eq_false hb2
    have g3 := of_decide_eq_false hb3
    refine ⟨l.length - (k + 1), _, H ++ [.mp 9 103 (.one .str) (mpE Rg.encS (insK ks company) (sumA (l.take (k + 1)) day))], by omega, ⟨?_, .inr ⟨by simp, ?_, .more hB (.cons (bel_sums) .nil), [.box 36 [.d (.v (.string id)), .d (.v (.string company)), .d (.v (.string holder)), .d (.v (.string nominee)), .d (.v (.string pledged)), .d (strsP joint), .d (.v (.int .i64 capital)), .d (.v (.int .i64 votes)), .d (.v (.int .i64 fr)), .d (.v (.int .i64 til))], .box 103 [.d (.v (.int .i64 (capS (l.take k) day company + capital))), .d (.v (.int .i64 (votS (l.take k) day company + votes)))]], by simp⟩⟩, k + 1, insK ks company, rfl, hlt, insK_nodup hnd _, fun c hc => ?_, fun c => ?_, rfl, rfl⟩
    ·simp [EnvLe, List.replicate]
    ·simp [belL, AV.bel, List.replicate]; omega
    ·rw [← hfun]
     unfold updF
     rw [if_neg (fun e => hc (mem_insK.2 (.inr e)))]
     exact hout c (fun h => hc (mem_insK.2 (.inl h)))
    ·by_cases e : c = company
     ·subst e; rw [tc, tv]; omega
     ·have hf : (true && decide (company = c)) = false := by simp; exact fun h => e h.symm
      rw [tno1 c (by rw [hinB c]; exact hf), tno2 c (by rw [hinB c]; exact hf)]
      exact hle c
   ·have hg := of_decide_eq_true hb2
    have hf : onB l day = false := hno rfl (by unfold okC; rw [decide_eq_false (by omega)]; rfl)
    rw [← hP, hf]
    exact aw_ret ⟨_, rfl, _, rfl, rfl⟩
end
end Av
end Go.Proofs.YtdekcppfpgeneaaGreatDoor
set_option linter.unusedVariables false
set_option linter.unusedSimpArgs false
namespace Go.Proofs.YtdekcppfpgeneaaGreatDoor
open Go Go.RowKit
namespace Rg
open Av Nt
theorem ids_step {l : List Hd} {k : Nat} (hk : k < l.length) : (l.take (k + 1)).map Hd.id = (l.take k).map Hd.id ++ [l[k].id] := by
 rw [List.take_add_one, List.getElem?_eq_getElem hk, List.map_append]; rfl
theorem ids_nodup {l : List Hd} {k : Nat} (hk : k < l.length) (hn : ((l.take k).map Hd.id).Nodup) (h : ¬ l[k].id ∈ (l.take k).map Hd.id) : ((l.take (k + 1)).map Hd.id).Nodup := by
 rw [ids_step hk, List.nodup_append]
 refine ⟨hn, by simp, ?_⟩
 intro x hx y hy e
 simp only [List.mem_singleton] at hy
 subst hy e
 exact h hx
theorem ids_no {l : List Hd} {k : Nat} (hk : k < l.length) (h : l[k].id ∈ (l.take k).map Hd.id) : ¬ (l.map Hd.id).Nodup := by
 intro hn
 have e : l.map Hd.id = (l.take k).map Hd.id ++ (l[k].id :: (l.drop (k + 1)).map Hd.id) := by
  rw [← List.map_cons (f := Hd.id), ← List.drop_eq_getElem_cons hk, ← List.map_append, List.take_append_drop]
 rw [e, List.nodup_append] at hn
 exact hn.2.2 _ h _ (List.mem_cons_self ..) rfl
theorem valid_no1 {l : List Hd} {k : Nat} (hk : k < l.length) (h : properB l[k] = false) : validB l = false := by
 unfold validB
 have : l.all properB = false := by rw [List.all_eq_false]; exact ⟨_, List.getElem_mem hk, by simp [h]⟩
 rw [this]; rfl
theorem valid_no2 {l : List Hd} (h : ¬ (l.map Hd.id).Nodup) : validB l = false := by
 unfold validB
 rw [decide_eq_false h]; simp
end Rg
namespace Av
attribute [local irreducible] AW AOps AHOps
open Nt Rg

/-! register.Valid. -/
section
variable {base : World}
set_option maxRecDepth 100000 in
theorem bear2_a {H : AHeap} (l : List Hd) (h : Hd) {lb lc : Nat} (hbx : H[lb]? = some (.box 26 [.d (hdsP l)])) (hcx : H[lc]? = some (.box 56 [.fn (.func 76) [] [.ptr lb 0]])) (hp : ∀ h ∈ l, Pct h) (hl : l.length ≤ 900) : ReadA Tryz.prog base 78 ([hdA h] ++ [.ptr lc 0]) H (boA (!onB l h.fr)) := by
 obtain ⟨id, company, holder, nominee, pledged, joint, capital, votes, fr, til⟩ := h
 have con := fun G => on_a (base := base) (H := H ++ G) l fr (got hbx G) hp hl
 have hcx2 := fun G => got hcx G
 simp only [hdA, hdL, tA, iA, List.cons_append, List.nil_append] at con ⊢
 refine read_enter ttOk Tryz.call78 Tryz.func78 rfl fun hB hb hF => ?_
 rw [Tryz.results78, Tryz.ntmps78]
 simp only [arr_list, List.length_cons, List.length_nil, List.replicate, List.cons_append, List.nil_append, Nat.reduceAdd, Nat.reduceSub]
 clear hF hb
 repeat' (first | (refine aops_cons ?_; first | (refine zg rfl ?_; first | refine grd_on ?_ | refine zo ?_ | (refine zs ?_ ?_ <;> intro hb <;> ((try simp only [bn] at hb); first | subst hb | simp only [hb]))) | (apply aops_o; rfl; simp only [estep, avs, tts, seval, hcx, hcx2] <;> exact rr) | (refine za rfl ?_; refine zd (con _) ?_)) | refine aops_nil ?_ | (refine ahops_cons ?_; first | (refine yg rfl ?_; first | refine hgrd_on ?_ | refine yo ?_ | (refine ys ?_ ?_ <;> intro hb <;> ((try simp only [bn] at hb); first | subst hb | simp only [hb]))) | (apply ahops_o; rfl; simp only [hstep, avs, tts, seval, hcx, hcx2] <;> exact rr; first | trivial | omega) | (refine ya rfl ?_; refine yd (con _) ?_)) | refine ahops_nil ?_ | refine aw_seq ?_ | refine zr ttOk ?_ | refine zR 0 ttOk mixed ?_ | refine zR 1 ttOk mixed ?_ | refine zR 2 ttOk mixed ?_ | refine zR 3 ttOk mixed ?_ | refine zf rfl rfl ?_ | refine zt rfl rfl ?_ | (refine aw_cond rfl rfl ?_ ?_ <;> intro hb <;> ((try simp only [bn] at hb); first | subst hb | simp only [hb])) | refine aw_skip ?_ | refine aw_exit ?_ | refine aw_block ?_)
 exact aw_ret ⟨_, rfl, _, rfl, rfl⟩
set_option maxRecDepth 100000 in
theorem bearable_a (l : List Hd) (hp : ∀ h ∈ l, Pct h) (hl : l.length ≤ 900) : PureA Tryz.prog base 47 [.d (hdsP l)] (boA (bearB l)) := by
 refine pure_enter ttOk Tryz.call47 Tryz.func47 rfl fun H hB hb hF => ?_
 rw [Tryz.results47, Tryz.ntmps47]
 simp only [arr_list, List.length_cons, List.length_nil, List.replicate, List.cons_append, List.nil_append, Nat.reduceAdd, Nat.reduceSub]
 clear hF hb
 have c := containsf_h (base := base) (H := H ++ [.box 26 [.d (hdsP l)], .box 56 [.fn (.func 76) [] [.ptr H.length 0]]]) l (fun h => !onB l h.fr) 78 [.ptr (H.length + 1) 0] (fun h _ => bear2_a l h (lb := H.length) (by simp) (by simp) hp hl)
 rw [bearB_any]
 generalize (l.any fun h => !onB l h.fr) = b at c ⊢
 repeat' (first | (refine aops_cons ?_; first | (refine zg rfl ?_; first | refine grd_on ?_ | refine zo ?_ | (refine zs ?_ ?_ <;> intro hb <;> ((try simp only [bn] at hb); first | subst hb | simp only [hb]))) | (apply aops_o; rfl; simp only [estep, avs, tts, seval] <;> exact rr) | (refine za rfl ?_; refine zd (c) ?_)) | refine aops_nil ?_ | (refine ahops_cons ?_; first | (refine yg rfl ?_; first | refine hgrd_on ?_ | refine yo ?_ | (refine ys ?_ ?_ <;> intro hb <;> ((try simp only [bn] at hb); first | subst hb | simp only [hb]))) | (apply ahops_o; rfl; simp only [hstep, avs, tts, seval] <;> exact rr; first | trivial | omega) | (refine ya rfl ?_; refine yd (c) ?_)) | refine ahops_nil ?_ | refine aw_seq ?_ | refine zr ttOk ?_ | refine zR 0 ttOk mixed ?_ | refine zR 1 ttOk mixed ?_ | refine zR 2 ttOk mixed ?_ | refine zR 3 ttOk mixed ?_ | refine zf rfl rfl ?_ | refine zt rfl rfl ?_ | (refine aw_cond rfl rfl ?_ ?_ <;> intro hb <;> ((try simp only [bn] at hb); first | subst hb | simp only [hb])) | refine aw_skip ?_ | refine aw_exit ?_ | refine aw_block ?_)
 exact aw_ret ⟨_, rfl, _, rfl, rfl⟩
set_option maxRecDepth 100000 in
set_option maxHeartbeats 16000000 in
theorem rvalid_a (l : List Hd) (hs : ∀ h ∈ l, Small h) (hj : ∀ h ∈ l, h.joint.length ≤ 1000) (hl : l.length ≤ 900) : PureA Tryz.prog base 22 [.d (hdsP l)] (boA (validB l)) := by
 refine pure_enter ttOk Tryz.call22 Tryz.func22 rfl fun H hB hb hF => ?_
 rw [Tryz.results22, Tryz.ntmps22]
 simp only [arr_list, List.length_cons, List.length_nil, List.replicate, List.cons_append, List.nil_append, Nat.reduceAdd, Nat.reduceSub]
 clear hF hb
 have hln := hds_len l
 have ksh : ∀ x, keyShape (.one .str) (.string x) = true := fun _ => rfl
 have ms0 : setE ((l.take 0).map Hd.id) = [] := rfl
 have cpar := parties_a (base := base) l hs hj hl
 simp only [iA, hdsP] at cpar ⊢
 obtain ⟨P, hP⟩ : ∃ P, validB l = P := ⟨_, rfl⟩
 rw [hP]
 repeat' (first | (refine aops_cons ?_; first | (refine zg rfl ?_; first | refine grd_on ?_ | refine zo ?_ | (refine zs ?_ ?_ <;> intro hb <;> ((try simp only [bn] at hb); first | subst hb | simp only [hb]))) | (apply aops_o; rfl; simp only [estep, avs, tts, seval, hln] <;> exact rr)) | refine aops_nil ?_ | (refine ahops_cons ?_; first | (refine yg rfl ?_; first | refine hgrd_on ?_ | refine yo ?_ | (refine ys ?_ ?_ <;> intro hb <;> ((try simp only [bn] at hb); first | subst hb | simp only [hb]))) | (apply ahops_o; rfl; simp only [hstep, avs, tts, seval, hln] <;> exact rr; first | trivial | omega)) | refine ahops_nil ?_ | refine aw_seq ?_ | refine zr ttOk ?_ | refine zR 0 ttOk mixed ?_ | refine zR 1 ttOk mixed ?_ | refine zR 2 ttOk mixed ?_ | refine zR 3 ttOk mixed ?_ | refine zf rfl rfl ?_ | refine zt rfl rfl ?_ | (refine aw_cond rfl rfl ?_ ?_ <;> intro hb <;> ((try simp only [bn] at hb); first | subst hb | simp only [hb])) | refine aw_skip ?_ | refine aw_exit ?_ | refine aw_block ?_)
 refine aw_loop (H0 := H ++ [.mp 9 4 (.one .str) (setE ((l.take 0).map Hd.id))]) (fun n env K => ∃ k, n = l.length - k ∧ k ≤ l.length ∧ (∀ i (hi : i < l.length), i < k → properB l[i] = true) ∧ ((l.take k).map Hd.id).Nodup ∧ K = H ++ [.mp 9 4 (.one .str) (setE ((l.take k).map Hd.id))] ∧ env = (.d (.sl 10 (l.map hdC)) :: .undef :: .d (.v (.bool false)) :: .mp H.length :: .undef :: .undef :: .undef :: .d (.sl 10 (l.map hdC)) :: .d (.v (.int .i64 (l.length : Int))) :: .d (.v (.int .i64 (k : Int))) :: List.replicate 29 .undef)) ?_ ⟨0, rfl, Nat.zero_le _, fun i hi h0 => by omega, List.nodup_nil, rfl, rfl⟩ ?_
 ·exact ⟨by simp [EnvLe, List.replicate], .inl rfl⟩
 rintro n env K ⟨k, rfl, hk, hok, hnd, rfl, rfl⟩ hN
 simp only [rp]
 obtain ⟨c0, g0⟩ : ∃ c0, decide ((k : Int) < (l.length : Int)) = c0 := ⟨_, rfl⟩
 repeat refine aw_seq ?_
 refine zr ttOk ?_
 repeat (refine aops_cons ?_; first | (apply aops_o; rfl; simp only [estep, avs, tts, seval, g0] <;> exact rr) | (refine zg rfl ?_; first | refine grd_on ?_ | refine zo ?_))
 refine aops_nil ?_
 cases c0 with
 | false =>
  have hkl : k = l.length := by
                 have : ¬ k < l.length := by simpa using g0
                 omega
  subst hkl
  have hall : ∀ h ∈ l, properB h = true := fun h hh => by
   obtain ⟨i, hi, rfl⟩ := List.getElem_of_mem hh
   exact hok i hi hi
  have cb := bearable_a (base := base) l (fun h hh => pct_of (hall h hh)) hl
  have hal : l.all properB = true := List.all_eq_true.2 hall
  rw [List.take_length] at hnd ⊢
  unfold validB at hP
  rw [hal, decide_eq_true hnd] at hP
  have z1 : decide ((l.length : Int) ≤ 400) = decide (l.length ≤ 400) := decide_eq_decide.2 (by omega)
  have z2 : decide (((partiesS l).length : Int) ≤ 60) = decide ((partiesS l).length ≤ 60) := decide_eq_decide.2 (by omega)
  have z3 : ((partiesS l).map fun s => [PD.v (.string s)]).length = (partiesS l).length := by simp
  simp only [hdsP, strsP] at cb cpar
  generalize bearB l = b3 at cb hP
  obtain ⟨b1, hb1⟩ : ∃ b1, decide (l.length ≤ 400) = b1 := ⟨_, rfl⟩
  obtain ⟨b2, hb2⟩ : ∃ b2, decide ((partiesS l).length ≤ 60) = b2 := ⟨_, rfl⟩
  rw [hb1, hb2] at hP
  rw [hb1] at z1
  rw [hb2] at z2
  clear hb1 hb2
  repeat' (first | (refine aops_cons ?_; first | (refine zg rfl ?_; first | refine grd_on ?_ | refine zo ?_ | (refine zs ?_ ?_ <;> intro hb <;> ((try simp only [bn] at hb); first | subst hb | simp only [hb]))) | (apply aops_o; rfl; simp only [estep, avs, tts, seval, hln, z1, z2, z3] <;> exact rr) | (refine za rfl ?_; first | refine zp (cpar) ?_ | refine zp (cb) ?_)) | refine aops_nil ?_ | (refine ahops_cons ?_; first | (refine yg rfl ?_; first | refine hgrd_on ?_ | refine yo ?_ | (refine ys ?_ ?_ <;> intro hb <;> ((try simp only [bn] at hb); first | subst hb | simp only [hb]))) | (apply ahops_o; rfl; simp only [hstep, avs, tts, seval, hln, z1, z2, z3] <;> exact rr; first | trivial | omega) | (refine ya rfl ?_; first | refine yp (cpar) ?_ | refine yp (cb) ?_)) | refine ahops_nil ?_ | refine aw_seq ?_ | refine zr ttOk ?_ | refine zR 0 ttOk mixed ?_ | refine zR 1 ttOk mixed ?_ | refine zR 2 ttOk mixed ?_ | refine zR 3 ttOk mixed ?_ | refine zf rfl rfl ?_ | refine zt rfl rfl ?_ | (refine aw_cond rfl rfl ?_ ?_ <;> intro hb <;> ((try simp only [bn] at hb); first | subst hb | simp only [hb])) | refine aw_skip ?_ | refine aw_exit ?_ | refine aw_block ?_)
  all_goals (rw [← hP]; exact aw_ret ⟨_, rfl, _, rfl, rfl⟩)
 | true =>
  have hlt : k < l.length := by simpa using g0
  have hix : (0 : Int) ≤ (k : Int) := by omega
  have hgd := hds_get hlt
  have w1 : IntKind.i64.wrap ((k : Int) + 1) = ((k + 1 : Nat) : Int) := wrap_succ hlt (by omega)
  have cp := proper_a base l[k] (hs _ (List.getElem_mem hlt))
  have no1 := valid_no1 hlt
  have no2 := ids_no hlt
  have st := ids_step hlt
  have nst := ids_nodup hlt hnd
  have okn : properB l[k] = true → ∀ i (hi : i < l.length), i < k + 1 → properB l[i] = true := fun h i hi h2 => by
   rcases Nat.lt_succ_iff_lt_or_eq.1 h2 with h3 | h3
   ·exact hok i hi h3
   ·subst h3; exact h
  obtain ⟨b1, hb1⟩ : ∃ b1, properB l[k] = b1 := ⟨_, rfl⟩
  rw [hb1] at cp no1 okn
  generalize l[k] = h at *
  obtain ⟨id, company, holder, nominee, pledged, joint, capital, votes, fr, til⟩ := h
  simp only [hdC] at hgd
  simp only [hdA, hdL, tA, iA] at cp
  simp only at no2 st nst
  have hbel : ∀ (n : Nat) (xs : List ByteArray), (AObj.mp 9 4 (.one .str) (setE xs)).bel n := fun n xs => bel_setE xs
  cases b1 with
  | false =>
   rw [no1 rfl] at hP
   subst hP
   repeat' (first | (refine aops_cons ?_; first | (refine zg rfl ?_; first | refine grd_on ?_ | refine zo ?_ | (refine zs ?_ ?_ <;> intro hb <;> ((try simp only [bn] at hb); first | subst hb | simp only [hb]))) | (apply aops_o; rfl; simp only [estep, avs, tts, seval, hix, hlt, hgd, hln, w1] <;> exact rr) | (refine za rfl ?_; refine zp (cp) ?_)) | refine aops_nil ?_ | (refine ahops_cons ?_; first | (refine yg rfl ?_; first | refine hgrd_on ?_ | refine yo ?_ | (refine ys ?_ ?_ <;> intro hb <;> ((try simp only [bn] at hb); first | subst hb | simp only [hb]))) | (apply ahops_o; rfl; simp only [hstep, avs, tts, seval, hix, hlt, hgd, hln, w1] <;> exact rr; first | trivial | omega) | (refine ya rfl ?_; refine yp (cp) ?_)) | refine ahops_nil ?_ | refine aw_seq ?_ | refine zr ttOk ?_ | refine zR 0 ttOk mixed ?_ | refine zR 1 ttOk mixed ?_ | refine zR 2 ttOk mixed ?_ | refine zR 3 ttOk mixed ?_ | refine zf rfl rfl ?_ | refine zt rfl rfl ?_ | (refine aw_cond rfl rfl ?_ ?_ <;> intro hb <;> ((try simp only [bn] at hb); first | subst hb | simp only [hb])) | refine aw_skip ?_ | refine aw_exit ?_ | refine aw_block ?_)
   exact aw_ret ⟨_, rfl, _, rfl, rfl⟩
  | true =>
   by_cases hin : id ∈ (l.take k).map Hd.id
   ·have hmg := setE_in hin
    rw [valid_no2 (no2 hin)] at hP
    subst hP
    repeat' (first | (refine aops_cons ?_; first | (refine zg rfl ?_; first | refine grd_on ?_ | refine zo ?_ | (refine zs ?_ ?_ <;> intro hb <;> ((try simp only [bn] at hb); first | subst hb | simp only [hb]))) | (apply aops_o; rfl; simp only [estep, avs, tts, seval, hix, hlt, hgd, hln, w1, ksh, hmg, o_gdS, o_gdN] <;> exact rr) | (refine za rfl ?_; refine zp (cp) ?_)) | refine aops_nil ?_ | (refine ahops_cons ?_; first | (refine yg rfl ?_; first | refine hgrd_on ?_ | refine yo ?_ | (refine ys ?_ ?_ <;> intro hb <;> ((try simp only [bn] at hb); first | subst hb | simp only [hb]))) | (apply ahops_o; rfl; simp only [hstep, avs, tts, seval, hix, hlt, hgd, hln, w1, ksh, hmg, o_gdS, o_gdN] <;> exact rr; first | trivial | omega) | (refine ya rfl ?_; refine yp (cp) ?_)) | refine ahops_nil ?_ | refine aw_seq ?_ | refine zr ttOk ?_ | refine zR 0 ttOk mixed ?_ | refine zR 1 ttOk mixed ?_ | refine zR 2 ttOk mixed ?_ | refine zR 3 ttOk mixed ?_ | refine zf rfl rfl ?_ | refine zt rfl rfl ?_ | (refine aw_cond rfl rfl ?_ ?_ <;> intro hb <;> ((try simp only [bn] at hb); first | subst hb | simp only [hb])) | refine aw_skip ?_ | refine aw_exit ?_ | refine aw_block ?_)
    exact aw_ret ⟨_, rfl, _, rfl, rfl⟩
   ·have hmg := setE_out hin
    have hms := setE_set hnd id
    rw [insK, if_neg hin, ← st] at hms
    repeat' (first | (refine aops_cons ?_; first | (refine zg rfl ?_; first | refine grd_on ?_ | refine zo ?_ | (refine zs ?_ ?_ <;> intro hb <;> ((try simp only [bn] at hb); first | subst hb | simp only [hb]))) | (apply aops_o; rfl; simp only [estep, avs, tts, seval, hix, hlt, hgd, hln, w1, ksh, hmg, hms, o_gdS, o_gdN] <;> exact rr) | (refine za rfl ?_; refine zp (cp) ?_)) | refine aops_nil ?_ | (refine ahops_cons ?_; first | (refine yg rfl ?_; first | refine hgrd_on ?_ | refine yo ?_ | (refine ys ?_ ?_ <;> intro hb <;> ((try simp only [bn] at hb); first | subst hb | simp only [hb]))) | (apply ahops_o; rfl; simp only [hstep, avs, tts, seval, hix, hlt, hgd, hln, w1, ksh, hmg, hms, o_gdS, o_gdN] <;> exact rr; first | trivial | omega) | (refine ya rfl ?_; refine yp (cp) ?_)) | refine ahops_nil ?_ | refine aw_seq ?_ | refine zr ttOk ?_ | refine zR 0 ttOk mixed ?_ | refine zR 1 ttOk mixed ?_ | refine zR 2 ttOk mixed ?_ | refine zR 3 ttOk mixed ?_ | refine zf rfl rfl ?_ | refine zt rfl rfl ?_ | (refine aw_cond rfl rfl ?_ ?_ <;> intro hb <;> ((try simp only [bn] at hb); first | subst hb | simp only [hb])) | refine aw_skip ?_ | refine aw_exit ?_ | refine aw_block ?_)
    refine ⟨l.length - (k + 1), _, _, by omega, ⟨?_, .inr ⟨by simp, ?_, .more hB (.cons (bel_setE _) .nil), [.box 36 [.d (.v (.string id)), .d (.v (.string company)), .d (.v (.string holder)), .d (.v (.string nominee)), .d (.v (.string pledged)), .d (strsP joint), .d (.v (.int .i64 capital)), .d (.v (.int .i64 votes)), .d (.v (.int .i64 fr)), .d (.v (.int .i64 til))]], by simp⟩⟩, k + 1, rfl, hlt, okn rfl, nst hin, rfl, rfl⟩
    ·simp [EnvLe, List.replicate]
    ·simp [belL, AV.bel, List.replicate]
end
end Av
end Go.Proofs.YtdekcppfpgeneaaGreatDoor
set_option linter.unusedVariables false
set_option linter.unusedSimpArgs false
namespace Go.Proofs.YtdekcppfpgeneaaGreatDoor
open Go Go.RowKit
namespace Av
attribute [local irreducible] AW AOps AHOps
open Nt Rg

/-! slices.BinarySearch at texts. -/
theorem toL_data (a : ByteArray) : a.toList = a.data.toList := Lib.toList_data a
theorem less_eq (a b : ByteArray) : Op.bytesLess a.toList b.toList = ltT a b := by
 rw [bytesLess_eq, toL_data, toL_data]; rfl
section
variable (base : World)
theorem nan_s (s : ByteArray) : PureA Tryz.prog base 92 [tA s] (boA false) := by
 refine pure_enter ttOk Tryz.call92 Tryz.func92 rfl fun H hB hb hF => ?_
 rw [Tryz.results92, Tryz.ntmps92]
 simp only [arr_list, List.length_cons, List.length_nil, List.replicate, List.cons_append, List.nil_append, Nat.reduceAdd, Nat.reduceSub]
 clear hF hb
 simp only [tA]
 repeat' (first | (refine aops_cons ?_; first | (refine zg rfl ?_; first | refine grd_on ?_ | refine zo ?_ | (refine zs ?_ ?_ <;> intro hb <;> ((try simp only [bn] at hb); first | subst hb | simp only [hb]))) | (apply aops_o; rfl; simp only [estep, avs, tts, seval, Bool.not_true, decide_true] <;> exact rr)) | refine aops_nil ?_ | (refine ahops_cons ?_; first | (refine yg rfl ?_; first | refine hgrd_on ?_ | refine yo ?_ | (refine ys ?_ ?_ <;> intro hb <;> ((try simp only [bn] at hb); first | subst hb | simp only [hb]))) | (apply ahops_o; rfl; simp only [hstep, avs, tts, seval, Bool.not_true, decide_true] <;> exact rr; first | trivial | omega)) | refine ahops_nil ?_ | refine aw_seq ?_ | refine zr ttOk ?_ | refine zR 0 ttOk mixed ?_ | refine zR 1 ttOk mixed ?_ | refine zR 2 ttOk mixed ?_ | refine zR 3 ttOk mixed ?_ | refine zf rfl rfl ?_ | refine zt rfl rfl ?_ | (refine aw_cond rfl rfl ?_ ?_ <;> intro hb <;> ((try simp only [bn] at hb); first | subst hb | simp only [hb])) | refine aw_skip ?_ | refine aw_exit ?_ | refine aw_block ?_)
 exact aw_ret ⟨_, rfl, [], by simp, by simp [sealA]⟩
theorem nan_s2 (s : ByteArray) : PureA Tryz.prog base 63 [tA s] (boA false) := by
 refine pure_enter ttOk Tryz.call63 Tryz.func63 rfl fun H hB hb hF => ?_
 rw [Tryz.results63, Tryz.ntmps63]
 simp only [arr_list, List.length_cons, List.length_nil, List.replicate, List.cons_append, List.nil_append, Nat.reduceAdd, Nat.reduceSub]
 clear hF hb
 simp only [tA]
 repeat' (first | (refine aops_cons ?_; first | (refine zg rfl ?_; first | refine grd_on ?_ | refine zo ?_ | (refine zs ?_ ?_ <;> intro hb <;> ((try simp only [bn] at hb); first | subst hb | simp only [hb]))) | (apply aops_o; rfl; simp only [estep, avs, tts, seval, Bool.not_true, decide_true] <;> exact rr)) | refine aops_nil ?_ | (refine ahops_cons ?_; first | (refine yg rfl ?_; first | refine hgrd_on ?_ | refine yo ?_ | (refine ys ?_ ?_ <;> intro hb <;> ((try simp only [bn] at hb); first | subst hb | simp only [hb]))) | (apply ahops_o; rfl; simp only [hstep, avs, tts, seval, Bool.not_true, decide_true] <;> exact rr; first | trivial | omega)) | refine ahops_nil ?_ | refine aw_seq ?_ | refine zr ttOk ?_ | refine zR 0 ttOk mixed ?_ | refine zR 1 ttOk mixed ?_ | refine zR 2 ttOk mixed ?_ | refine zR 3 ttOk mixed ?_ | refine zf rfl rfl ?_ | refine zt rfl rfl ?_ | (refine aw_cond rfl rfl ?_ ?_ <;> intro hb <;> ((try simp only [bn] at hb); first | subst hb | simp only [hb])) | refine aw_skip ?_ | refine aw_exit ?_ | refine aw_block ?_)
 exact aw_ret ⟨_, rfl, [], by simp, by simp [sealA]⟩
theorem less_a (a b : ByteArray) : PureA Tryz.prog base 62 [tA a, tA b] (boA (ltT a b)) := by
 have n1 := nan_s base a
 have n2 := nan_s base b
 have hl := less_eq a b
 refine pure_enter ttOk Tryz.call62 Tryz.func62 rfl fun H hB hb hF => ?_
 rw [Tryz.results62, Tryz.ntmps62]
 simp only [arr_list, List.length_cons, List.length_nil, List.replicate, List.cons_append, List.nil_append, Nat.reduceAdd, Nat.reduceSub]
 clear hF hb
 simp only [tA] at n1 n2 ⊢
 generalize ltT a b = c at hl ⊢
 repeat' (first | (refine aops_cons ?_; first | (refine zg rfl ?_; first | refine grd_on ?_ | refine zo ?_ | (refine zs ?_ ?_ <;> intro hb <;> ((try simp only [bn] at hb); first | subst hb | simp only [hb]))) | (apply aops_o; rfl; simp only [estep, avs, tts, seval, hl] <;> exact rr) | (refine za rfl ?_; first | refine zp (n1) ?_ | refine zp (n2) ?_)) | refine aops_nil ?_ | (refine ahops_cons ?_; first | (refine yg rfl ?_; first | refine hgrd_on ?_ | refine yo ?_ | (refine ys ?_ ?_ <;> intro hb <;> ((try simp only [bn] at hb); first | subst hb | simp only [hb]))) | (apply ahops_o; rfl; simp only [hstep, avs, tts, seval, hl] <;> exact rr; first | trivial | omega) | (refine ya rfl ?_; first | refine yp (n1) ?_ | refine yp (n2) ?_)) | refine ahops_nil ?_ | refine aw_seq ?_ | refine zr ttOk ?_ | refine zR 0 ttOk mixed ?_ | refine zR 1 ttOk mixed ?_ | refine zR 2 ttOk mixed ?_ | refine zR 3 ttOk mixed ?_ | refine zf rfl rfl ?_ | refine zt rfl rfl ?_ | (refine aw_cond rfl rfl ?_ ?_ <;> intro hb <;> ((try simp only [bn] at hb); first | subst hb | simp only [hb])) | refine aw_skip ?_ | refine aw_exit ?_ | refine aw_block ?_)
 all_goals exact aw_ret ⟨_, rfl, [], by simp, rfl⟩
set_option maxRecDepth 100000 in
set_option maxHeartbeats 4000000 in
theorem bsearch_a (l : List ByteArray) (x : ByteArray) (hl : l.length ≤ 1000000) (i : Nat) (hi : i < l.length) (hx : l[i] = x) (h0 : ∀ j (hj : j < l.length), j < i → ltT l[j] x = true) (h1 : ∀ j (hj : j < l.length), i ≤ j → ltT l[j] x = false) : PureA Tryz.prog base 35 [.d (strsP l), tA x] (.tup [iA i, boA true]) := by
 refine pure_enter ttOk Tryz.call35 Tryz.func35 rfl fun H hB hb hF => ?_
 rw [Tryz.results35, Tryz.ntmps35]
 simp only [arr_list, List.length_cons, List.length_nil, List.replicate, List.cons_append, List.nil_append, Nat.reduceAdd, Nat.reduceSub]
 clear hF hb
 have hln : (l.map fun s => [PD.v (.string s)]).length = l.length := by simp
 have hgx := strsP_get hi
 rw [hx] at hgx
 have hlI : ((i : Int) < (l.length : Int)) := by omega
 have dI1 : decide ((i : Int) < (l.length : Int)) = true := decide_eq_true hlI
 have i0 : (0 : Int) ≤ (i : Int) := by omega
 simp only [tA, iA, strsP]
 repeat' (first | (refine aops_cons ?_; first | (refine zg rfl ?_; first | refine grd_on ?_ | refine zo ?_ | (refine zs ?_ ?_ <;> intro hb <;> ((try simp only [bn] at hb); first | subst hb | simp only [hb]))) | (apply aops_o; rfl; simp only [estep, avs, tts, seval, hln] <;> exact rr)) | refine aops_nil ?_ | (refine ahops_cons ?_; first | (refine yg rfl ?_; first | refine hgrd_on ?_ | refine yo ?_ | (refine ys ?_ ?_ <;> intro hb <;> ((try simp only [bn] at hb); first | subst hb | simp only [hb]))) | (apply ahops_o; rfl; simp only [hstep, avs, tts, seval, hln] <;> exact rr; first | trivial | omega)) | refine ahops_nil ?_ | refine aw_seq ?_ | refine zr ttOk ?_ | refine zR 0 ttOk mixed ?_ | refine zR 1 ttOk mixed ?_ | refine zR 2 ttOk mixed ?_ | refine zR 3 ttOk mixed ?_ | refine zf rfl rfl ?_ | refine zt rfl rfl ?_ | (refine aw_cond rfl rfl ?_ ?_ <;> intro hb <;> ((try simp only [bn] at hb); first | subst hb | simp only [hb])) | refine aw_skip ?_ | refine aw_exit ?_ | refine aw_block ?_)
 refine aw_loop (H0 := H) (fun r env K' => ∃ a b : Nat, r = b - a ∧ a ≤ i ∧ i ≤ b ∧ b ≤ l.length ∧ K' = H ∧ env = (.d (.sl 1 (l.map fun s => [PD.v (.string s)])) :: .d (.v (.string x)) :: .undef :: .undef :: .d (.v (.int .i64 0)) :: .d (.v (.bool false)) :: .d (.v (.int .i64 (l.length : Int))) :: .d (.v (.int .i64 (a : Int))) :: .d (.v (.int .i64 (b : Int))) :: List.replicate 45 .undef)) ?_ ⟨0, l.length, rfl, Nat.zero_le _, Nat.le_of_lt hi, Nat.le_refl _, rfl, rfl⟩ ?_
 ·exact ⟨by simp [EnvLe, List.replicate], .inl rfl⟩
 rintro r env K' ⟨a, b, rfl, ha, hbi, hbn, rfl, rfl⟩ hN
 simp only [rp]
 obtain ⟨c0, g0⟩ : ∃ c0, decide ((a : Int) < (b : Int)) = c0 := ⟨_, rfl⟩
 repeat refine aw_seq ?_
 refine zr ttOk ?_
 repeat (refine aops_cons ?_; first | (apply aops_o; rfl; simp only [estep, avs, tts, seval, g0] <;> exact rr) | (refine zg rfl ?_; first | refine grd_on ?_ | refine zo ?_))
 refine aops_nil ?_
 cases c0 with
 | false =>
  have hab : ¬ a < b := by simpa using g0
  have e1 : a = i := by omega
  have e2 : b = i := by omega
  subst e1
  repeat' (first | (refine aops_cons ?_; first | (refine zg rfl ?_; first | refine grd_on ?_ | refine zo ?_ | (refine zs ?_ ?_ <;> intro hb <;> ((try simp only [bn] at hb); first | subst hb | simp only [hb]))) | (apply aops_o; rfl; simp only [estep, avs, tts, seval, hln, i0, hi, hgx, dI1, decide_true] <;> exact rr) | (refine za rfl ?_; refine zp (nan_s2 base _) ?_)) | refine aops_nil ?_ | (refine ahops_cons ?_; first | (refine yg rfl ?_; first | refine hgrd_on ?_ | refine yo ?_ | (refine ys ?_ ?_ <;> intro hb <;> ((try simp only [bn] at hb); first | subst hb | simp only [hb]))) | (apply ahops_o; rfl; simp only [hstep, avs, tts, seval, hln, i0, hi, hgx, dI1, decide_true] <;> exact rr; first | trivial | omega) | (refine ya rfl ?_; refine yp (nan_s2 base _) ?_)) | refine ahops_nil ?_ | refine aw_seq ?_ | refine zr ttOk ?_ | refine zR 0 ttOk mixed ?_ | refine zR 1 ttOk mixed ?_ | refine zR 2 ttOk mixed ?_ | refine zR 3 ttOk mixed ?_ | refine zf rfl rfl ?_ | refine zt rfl rfl ?_ | (refine aw_cond rfl rfl ?_ ?_ <;> intro hb <;> ((try simp only [bn] at hb); first | subst hb | simp only [hb])) | refine aw_skip ?_ | refine aw_exit ?_ | refine aw_block ?_)
  refine aw_ret ⟨_, (by simp only [aResult, aResL, aRes, avs, tts] <;> rfl), [], by simp, ?_⟩
  simp [sealA]
  rfl
 | true =>
  have hab : a < b := by simpa using g0
  obtain ⟨m, hm⟩ : ∃ m, m = (a + b) / 2 := ⟨_, rfl⟩
  have hmn : m < l.length := by omega
  have w1 := wrap_add (a := a) (b := b) (by omega)
  have w2 : IntKind.u64.wrap ((a + b : Nat) : Int) = ((a + b : Nat) : Int) := by rw [IntKind.wrap_u64]; omega
  have w3 : ((a + b : Nat) : Int).fdiv (2 ^ Nat.min 1 IntKind.u64.bits) = (m : Int) := by
   have e : (2 ^ Nat.min 1 IntKind.u64.bits : Int) = 2 := by decide
   rw [e, Int.fdiv_eq_ediv_of_nonneg _ (by omega)]
   omega
  have w4 : IntKind.i64.wrap (m : Int) = (m : Int) := wrap_in (by omega) (by omega)
  have w5 := wrap_succ hmn (by omega)
  have hgm := strsP_get hmn
  have m0 : (0 : Int) ≤ (m : Int) := by omega
  have cl := less_a base l[m] x
  have hlm : ltT l[m] x = decide (m < i) := by
   by_cases h : m < i
   ·rw [h0 m hmn h, decide_eq_true h]
   ·rw [h1 m hmn (by omega), decide_eq_false h]
  rw [hlm] at cl
  obtain ⟨c1, h1c⟩ : ∃ c1, decide (m < i) = c1 := ⟨_, rfl⟩
  rw [h1c] at cl
  simp only [tA] at cl
  generalize l[m] = y at hgm cl
  cases c1 with
  | true =>
   have hmi := of_decide_eq_true h1c
   repeat' (first | (refine aops_cons ?_; first | (refine zg rfl ?_; first | refine grd_on ?_ | refine zo ?_ | (refine zs ?_ ?_ <;> intro hb <;> ((try simp only [bn] at hb); first | subst hb | simp only [hb]))) | (apply aops_o; rfl; simp only [estep, avs, tts, seval, w1, w2, w3, w4, w5, Int.one_nonneg, hln, hgm, m0, hmn] <;> exact rr) | (refine za rfl ?_; refine zp (cl) ?_)) | refine aops_nil ?_ | (refine ahops_cons ?_; first | (refine yg rfl ?_; first | refine hgrd_on ?_ | refine yo ?_ | (refine ys ?_ ?_ <;> intro hb <;> ((try simp only [bn] at hb); first | subst hb | simp only [hb]))) | (apply ahops_o; rfl; simp only [hstep, avs, tts, seval, w1, w2, w3, w4, w5, Int.one_nonneg, hln, hgm, m0, hmn] <;> exact rr; first | trivial | omega) | (refine ya rfl ?_; refine yp (cl) ?_)) | refine ahops_nil ?_ | refine aw_seq ?_ | refine zr ttOk ?_ | refine zR 0 ttOk mixed ?_ | refine zR 1 ttOk mixed ?_ | refine zR 2 ttOk mixed ?_ | refine zR 3 ttOk mixed ?_ | refine zf rfl rfl ?_ | refine zt rfl rfl ?_ | (refine aw_cond rfl rfl ?_ ?_ <;> intro hb <;> ((try simp only [bn] at hb); first | subst hb | simp only [hb])) | refine aw_skip ?_ | refine aw_exit ?_ | refine aw_block ?_)
   refine ⟨b - (m + 1), _, _, by omega, ⟨?_, .inl rfl⟩, m + 1, b, rfl, by omega, hbi, hbn, rfl, rfl⟩
   simp [EnvLe, List.replicate]
  | false =>
   have hmi := of_decide_eq_false h1c
   repeat' (first | (refine aops_cons ?_; first | (refine zg rfl ?_; first | refine grd_on ?_ | refine zo ?_ | (refine zs ?_ ?_ <;> intro hb <;> ((try simp only [bn] at hb); first | subst hb | simp only [hb]))) | (apply aops_o; rfl; simp only [estep, avs, tts, seval, w1, w2, w3, w4, w5, Int.one_nonneg, hln, hgm, m0, hmn] <;> exact rr) | (refine za rfl ?_; refine zp (cl) ?_)) | refine aops_nil ?_ | (refine ahops_cons ?_; first | (refine yg rfl ?_; first | refine hgrd_on ?_ | refine yo ?_ | (refine ys ?_ ?_ <;> intro hb <;> ((try simp only [bn] at hb); first | subst hb | simp only [hb]))) | (apply ahops_o; rfl; simp only [hstep, avs, tts, seval, w1, w2, w3, w4, w5, Int.one_nonneg, hln, hgm, m0, hmn] <;> exact rr; first | trivial | omega) | (refine ya rfl ?_; refine yp (cl) ?_)) | refine ahops_nil ?_ | refine aw_seq ?_ | refine zr ttOk ?_ | refine zR 0 ttOk mixed ?_ | refine zR 1 ttOk mixed ?_ | refine zR 2 ttOk mixed ?_ | refine zR 3 ttOk mixed ?_ | refine zf rfl rfl ?_ | refine zt rfl rfl ?_ | (refine aw_cond rfl rfl ?_ ?_ <;> intro hb <;> ((try simp only [bn] at hb); first | subst hb | simp only [hb])) | refine aw_skip ?_ | refine aw_exit ?_ | refine aw_block ?_)
   refine ⟨m - a, _, _, by omega, ⟨?_, .inl rfl⟩, a, m, rfl, ha, by omega, by omega, rfl, rfl⟩
   simp [EnvLe, List.replicate]
/-- At's place -/
theorem place_a {H : AHeap} (l : List ByteArray) (x : ByteArray) {lb : Nat} {c v : AV} (hbx : H[lb]? = some (.box 25 [.d (strsP l), c, v])) (hl : l.length ≤ 1000000) (i : Nat) (hi : i < l.length) (hx : l[i] = x) (h0 : ∀ j (hj : j < l.length), j < i → ltT l[j] x = true) (h1 : ∀ j (hj : j < l.length), i ≤ j → ltT l[j] x = false) : ReadA Tryz.prog base 34 [tA x, .ptr lb 0] H (iA i) := by
 have cb := bsearch_a base l x hl i hi hx h0 h1
 have hbx2 := fun G => got hbx G
 refine read_enter ttOk Tryz.call34 Tryz.func34 rfl fun hB hb hF => ?_
 rw [Tryz.results34, Tryz.ntmps34]
 simp only [arr_list, List.length_cons, List.length_nil, List.replicate, List.cons_append, List.nil_append, Nat.reduceAdd, Nat.reduceSub]
 clear hF hb
 simp only [tA, iA, boA] at cb ⊢
 repeat' (first | (refine aops_cons ?_; first | (refine zg rfl ?_; first | refine grd_on ?_ | refine zo ?_ | (refine zs ?_ ?_ <;> intro hb <;> ((try simp only [bn] at hb); first | subst hb | simp only [hb]))) | (apply aops_o; rfl; simp only [estep, avs, tts, seval, hbx, hbx2] <;> exact rr) | (refine za rfl ?_; refine zp (cb) ?_)) | refine aops_nil ?_ | (refine ahops_cons ?_; first | (refine yg rfl ?_; first | refine hgrd_on ?_ | refine yo ?_ | (refine ys ?_ ?_ <;> intro hb <;> ((try simp only [bn] at hb); first | subst hb | simp only [hb]))) | (apply ahops_o; rfl; simp only [hstep, avs, tts, seval, hbx, hbx2] <;> exact rr; first | trivial | omega) | (refine ya rfl ?_; refine yp (cb) ?_)) | refine ahops_nil ?_ | refine aw_seq ?_ | refine zr ttOk ?_ | refine zR 0 ttOk mixed ?_ | refine zR 1 ttOk mixed ?_ | refine zR 2 ttOk mixed ?_ | refine zR 3 ttOk mixed ?_ | refine zf rfl rfl ?_ | refine zt rfl rfl ?_ | (refine aw_cond rfl rfl ?_ ?_ <;> intro hb <;> ((try simp only [bn] at hb); first | subst hb | simp only [hb])) | refine aw_skip ?_ | refine aw_exit ?_ | refine aw_block ?_)
 exact aw_ret ⟨_, rfl, [], by simp, rfl⟩
end
end Av
end Go.Proofs.YtdekcppfpgeneaaGreatDoor
set_option linter.unusedVariables false
set_option linter.unusedSimpArgs false
namespace Go.Proofs.YtdekcppfpgeneaaGreatDoor
open Go Go.RowKit
namespace Av
attribute [local irreducible] AW AOps AHOps
open Nt Rg

/-! The keys of a map of pairs, collected. -/
def itK (p : Int × Int) : List AV := [.d (.v (.int .i64 p.1)), .d (.v (.int .i64 p.2))]
def isK (ps : List (Int × Int)) : List (List AV) := ps.map itK
theorem isK_app (ps : List (Int × Int)) (x : Int × Int) : isK (ps ++ [x]) = isK ps ++ [itK x] := by simp [isK]
theorem isK_len (ps : List (Int × Int)) : (isK ps).length = ps.length := by simp [isK]
theorem nodup_len {α : Type} [DecidableEq α] : ∀ {l m : List α}, l.Nodup → (∀ x ∈ l, x ∈ m) → l.length ≤ m.length
 | [], m, _, _ => by simp
 | a :: l, m, hn, h => by
  have ha := h a (List.mem_cons_self ..)
  rw [List.nodup_cons] at hn
  have h1 := nodup_len (l := l) (m := m.erase a) hn.2 (fun x hx => (List.mem_erase_of_ne (fun e => by subst e; exact hn.1 hx)).2 (h x (List.mem_cons_of_mem _ hx)))
  rw [List.length_erase_of_mem ha] at h1
  have h2 := List.length_pos_of_mem ha
  simp only [List.length_cons]; omega
/-- maps.Keys' iterator over a map that lies there from of old -/
theorem keys_seqP {base : World} {ks : List (Int × Int)} {b : Nat} {es : Array MapEntry} {clock : Nat} (hm : KMap ks b es clock base) {H : AHeap} (μ : Nat → Option Nat) (w : World) (lb : Array Value) (hs : Sim base ⟨μ, H, w⟩) (hr : RepL ⟨μ, H, w⟩ [.rp [PD.v (.map (some b))]] lb.toList) :
  ∃ enc : (Int × Int) → Array Value, SeqP Tryz.prog 95 lb enc ks ⟨μ, H, w⟩ ∧ ∀ x, x ∈ ks → (enc x).size = 1 ∧ RepL ⟨μ, H, w⟩ [.agg (itK x)] (enc x).toList := by
 simp only [RepL] at hr
 obtain ⟨v, r, e1, hv, rfl⟩ := hr
 simp only [Rep] at hv
 obtain ⟨B, o, rfl, him, hc⟩ := hv
 simp only [PCells, PRep] at hc
 obtain ⟨⟨_, c, h1, h2, _⟩, _⟩ := hc
 subst h2
 obtain rfl : lb = #[.pointer (some ⟨B, o, none⟩)] := Array.toList_inj.1 (by simpa using e1)
 have hbb : b < base.heap.size := (Array.getElem?_eq_some_iff.1 hm.hb).1
 have himb : St.imm ⟨μ, H, w⟩ b := ⟨Nat.lt_of_lt_of_le hbb hs.below.size, fun hl => by have := (hs.live_ge hl).1; omega⟩
 have hwb : w.heap[b]? = some (.map es clock) := (hs.below.block b hbb).trans hm.hb
 refine ⟨fun x => #[encK x], ?_, fun x hx => ⟨rfl, ?_⟩⟩
 ·intro l0 J Jx W hsz himm hJ hY h0
  have hW : KMap ks b es clock W := ⟨hm.nd, hm.ok, (himm [] W h0 b himb).trans hwb, hm.st, hm.hk, hm.len⟩
  refine keys_walk l0 J Jx W hW (fun pre W1 hJ1 => ?_) (fun pre W1 W2 row h1 h2 h3 => hJ pre W1 W2 row h1 h2 fun r e => ⟨Nat.le_trans hsz (h3 r e).1, (h3 r e).2⟩) hY h0
  rw [cell_eq (himm pre W1 hJ1 B him)]
  exact h1
 ·have hok := hm.ok x hx
  simp only [RepL, itK, encK]
  refine ⟨_, _, rfl, ?_, rfl⟩
  simp only [Rep]
  refine ⟨_, rfl, ?_⟩
  have m1 : IntKind.i64.min = -9223372036854775808 := by decide
  have m2 : IntKind.i64.max = 9223372036854775807 := by decide
  simp only [RepL, Rep, PRep, small, m1, m2, true_and]
  exact ⟨_, _, rfl, ⟨rfl, hok.1⟩, _, _, rfl, ⟨rfl, hok.2⟩, rfl⟩
section
variable {base : World}
set_option maxRecDepth 100000 in
set_option maxHeartbeats 4000000 in
theorem append_seq {ks : List (Int × Int)} {b : Nat} {es : Array MapEntry} {clock : Nat} (hm : KMap ks b es clock base) (hl : ks.length ≤ 1000000) {H : AHeap} (hH : ∀ o ∈ H, isMpO o = false) :
  CallsA Tryz.prog base 121 [.d (.v (.slice none 0 0)), .fn (.func 95) [] [.rp [PD.v (.map (some b))]]] H fun r H' => ∃ pre G, pre.Perm ks ∧ r = .ms H.length 0 pre.length ∧ H' = H ++ .row 63 2 0 (isK pre) :: G := by
 refine callsA_enter ttOk Tryz.call121 Tryz.func121 rfl fun hB hb hF => ?_
 rw [Tryz.results121, Tryz.ntmps121]
 simp only [arr_list, List.length_cons, List.length_nil, List.replicate, List.cons_append, List.nil_append, Nat.reduceAdd, Nat.reduceSub]
 clear hF hb
 refine aw_nilrow 0 63 2 rfl (by simp only [l_set0, l_setS] <;> rfl) ?_
 repeat' (first | (refine aops_cons ?_; first | (refine zg rfl ?_; first | refine grd_on ?_ | refine zo ?_ | (refine zs ?_ ?_ <;> intro hb <;> ((try simp only [bn] at hb); first | subst hb | simp only [hb]))) | (apply aops_o; rfl; simp only [estep, avs, tts, seval] <;> exact rr)) | refine aops_nil ?_ | (refine ahops_cons ?_; first | (refine yg rfl ?_; first | refine hgrd_on ?_ | refine yo ?_ | (refine ys ?_ ?_ <;> intro hb <;> ((try simp only [bn] at hb); first | subst hb | simp only [hb]))) | (apply ahops_o; rfl; simp only [hstep, avs, tts, seval] <;> exact rr; first | trivial | omega)) | refine ahops_nil ?_ | refine aw_seq ?_ | refine zr ttOk ?_ | refine zR 0 ttOk mixed ?_ | refine zR 1 ttOk mixed ?_ | refine zR 2 ttOk mixed ?_ | refine zR 3 ttOk mixed ?_ | refine zf rfl rfl ?_ | refine zt rfl rfl ?_ | (refine aw_cond rfl rfl ?_ ?_ <;> intro hb <;> ((try simp only [bn] at hb); first | subst hb | simp only [hb])) | refine aw_skip ?_ | refine aw_exit ?_ | refine aw_block ?_)
 refine aw_rangeP (gf := 95) (caps := [.rp [PD.v (.map (some b))]]) ks (fun x => [.agg (itK x)]) rfl rfl Tryz.call95 (fun μ w lb hs hr => keys_seqP hm μ w lb hs hr)
  (fun pre K => pre.Nodup ∧ (∀ x ∈ pre, x ∈ ks) ∧ ∃ G, (∀ o ∈ G, isMpO o = false) ∧ K = H ++ .row 63 2 0 (isK pre) :: .box 86 [.ms H.length 0 pre.length] :: G)
  (fun c K => False) ?_ ?_ ?_ ?_ ?_
 ·rintro pre K ⟨_, _, G, hG, rfl⟩ l o h
  have hm := List.mem_of_getElem? h
  simp only [List.mem_append, List.mem_cons] at hm
  rcases hm with h1 | rfl | rfl | h1
  ·exact hH o h1
  ·rfl
  ·rfl
  ·exact hG o h1
 ·exact ⟨List.nodup_nil, (fun x hx => nomatch hx), [], (fun o ho => nomatch ho), rfl⟩
 ·rintro l pre x K hx hxp ⟨hnd, hpk, G, hG, rfl⟩ hN
  have hnd2 : (pre ++ [x]).Nodup := by
   rw [List.nodup_append]
   refine ⟨hnd, by simp, ?_⟩
   intro a ha c hc e
   simp only [List.mem_singleton] at hc
   subst hc e
   exact hxp ha
  have hpk2 : ∀ y ∈ pre ++ [x], y ∈ ks := fun y hy => by
   rcases List.mem_append.1 hy with h | h
   ·exact hpk y h
   ·simp only [List.mem_singleton] at h; subst h; exact hx
  have hln := nodup_len hnd2 hpk2
  simp only [List.length_append, List.length_cons, List.length_nil] at hln
  have hil := isK_len pre
  have d1 : pre.length + 1 ≤ 9223372036854775807 := by omega
  have d2 : (pre.length + 1) * 16 ≤ 140737488355328 := by omega
  have hap : isK pre ++ [[AV.d (.v (.int .i64 x.1)), .d (.v (.int .i64 x.2))]] = isK (pre ++ [x]) := (isK_app pre x).symm
  simp only [setPs, arr_list, List.zip_cons_cons, List.zip_nil_left, List.foldl_cons, List.foldl_nil, List.set_cons_succ, List.set_cons_zero, itK]
  clear hN hm
  repeat refine aw_seq ?_
  refine zr ttOk ?_
  repeat (refine aops_cons ?_; first | (apply aops_o; rfl; simp only [estep, avs, tts, seval] <;> exact rr) | (refine zg rfl ?_; first | refine grd_on ?_ | refine zo ?_))
  refine aops_nil ?_
  refine ⟨rfl, ?_⟩
  repeat' (first | (refine aops_cons ?_; first | (refine zg rfl ?_; first | refine grd_on ?_ | refine zo ?_ | (refine zs ?_ ?_ <;> intro hb <;> ((try simp only [bn] at hb); first | subst hb | simp only [hb]))) | (apply aops_o; rfl; simp only [estep, avs, tts, seval, hil, d1, d2, hap] <;> exact rr)) | refine aops_nil ?_ | (refine ahops_cons ?_; first | (refine yg rfl ?_; first | refine hgrd_on ?_ | refine yo ?_ | (refine ys ?_ ?_ <;> intro hb <;> ((try simp only [bn] at hb); first | subst hb | simp only [hb]))) | (apply ahops_o; rfl; simp only [hstep, avs, tts, seval, hil, d1, d2, hap] <;> exact rr; first | trivial | omega)) | refine ahops_nil ?_ | refine aw_seq ?_ | refine zr ttOk ?_ | refine zR 0 ttOk mixed ?_ | refine zR 1 ttOk mixed ?_ | refine zR 2 ttOk mixed ?_ | refine zR 3 ttOk mixed ?_ | refine zf rfl rfl ?_ | refine zt rfl rfl ?_ | (refine aw_cond rfl rfl ?_ ?_ <;> intro hb <;> ((try simp only [bn] at hb); first | subst hb | simp only [hb])) | refine aw_skip ?_ | refine aw_exit ?_ | refine aw_block ?_)
  refine ⟨hnd2, hpk2, G ++ [.box 63 [.d (.v (.int .i64 x.1)), .d (.v (.int .i64 x.2))], .row 63 2 0 [[.d (.v (.int .i64 x.1)), .d (.v (.int .i64 x.2))]]], fun o ho => ?_, by simp⟩
  rcases List.mem_append.1 ho with h | h
  ·exact hG o h
  ·simp only [List.mem_cons, List.mem_nil_iff, or_false] at h; rcases h with rfl | rfl <;> rfl
 ·rintro pre K hpm ⟨_, _, G, hG, rfl⟩ hN
  show AW _ _ _ _ _
  repeat' (first | (refine aops_cons ?_; first | (refine zg rfl ?_; first | refine grd_on ?_ | refine zo ?_ | (refine zs ?_ ?_ <;> intro hb <;> ((try simp only [bn] at hb); first | subst hb | simp only [hb]))) | (apply aops_o; rfl; simp only [estep, avs, tts, seval] <;> exact rr)) | refine aops_nil ?_ | (refine ahops_cons ?_; first | (refine yg rfl ?_; first | refine hgrd_on ?_ | refine yo ?_ | (refine ys ?_ ?_ <;> intro hb <;> ((try simp only [bn] at hb); first | subst hb | simp only [hb]))) | (apply ahops_o; rfl; simp only [hstep, avs, tts, seval] <;> exact rr; first | trivial | omega)) | refine ahops_nil ?_ | refine aw_seq ?_ | refine zr ttOk ?_ | refine zR 0 ttOk mixed ?_ | refine zR 1 ttOk mixed ?_ | refine zR 2 ttOk mixed ?_ | refine zR 3 ttOk mixed ?_ | refine zf rfl rfl ?_ | refine zt rfl rfl ?_ | (refine aw_cond rfl rfl ?_ ?_ <;> intro hb <;> ((try simp only [bn] at hb); first | subst hb | simp only [hb])) | refine aw_skip ?_ | refine aw_exit ?_ | refine aw_block ?_)
  exact aw_ret ⟨_, (by simp only [aResult, aResL, aRes, avs, tts] <;> rfl), pre, _, hpm, rfl, rfl⟩
 ·intro c K h
  exact h.elim
end
end Av
end Go.Proofs.YtdekcppfpgeneaaGreatDoor
set_option linter.unusedVariables false
set_option linter.unusedSimpArgs false
namespace Go.Proofs.YtdekcppfpgeneaaGreatDoor
open Go Go.RowKit Go.Sort Go.Shelf Go.Lib
namespace Av
open Nt Rg

/-! The order of pairs. -/
def cmpI2 (a b : Int) : Int := if a < b then -1 else if b < a then 1 else 0
def cmpK (p q : Int × Int) : Int := if cmpI2 p.1 q.1 ≠ 0 then cmpI2 p.1 q.1 else cmpI2 p.2 q.2
theorem nani_calls (a : Int) (W : World) : Calls Tryz.prog 96 #[.int .i64 a] W fun e w' => e = .returned (.bool false) ∧ w' = W := by
 go_enter Tryz.func96, Tryz.ntmps96
 go_wp2_with fail
 go_ret
 exact ⟨by simp, rfl⟩
theorem cmpi_calls (a b : Int) (W : World) : Calls Tryz.prog 68 #[.int .i64 a, .int .i64 b] W fun e w' => e = .returned (.int .i64 (cmpI2 a b)) ∧ w' = W := by
 have n1 := nani_calls a
 have n2 := nani_calls b
 go_enter Tryz.func68, Tryz.ntmps68
 go_wp2_with fail
 refine (n1 _).mono ?_
 rintro e w' ⟨rfl, rfl⟩
 go_wp2_with fail
 refine (n2 _).mono ?_
 rintro e w' ⟨rfl, rfl⟩
 by_cases h1 : a < b
 ·go_wp2
  go_ret
  exact ⟨by simp [cmpI2, h1], rfl⟩
 ·by_cases h2 : b < a
  ·go_wp2
   go_ret
   exact ⟨by simp [cmpI2, h1, h2], rfl⟩
  ·go_wp2
   go_ret
   have e1 : ¬ a < b := by omega
   have e2 : ¬ b < a := by omega
   exact ⟨by simp [cmpI2, e1, e2], rfl⟩
theorem or_calls (a b : Int) (g cap : Nat) (W : World) (h0 : W.cell? ⟨g, 0, none⟩ = some (.int .i64 a)) (h1 : W.cell? ⟨g, 1, none⟩ = some (.int .i64 b)) : Calls Tryz.prog 67 #[.slice (some ⟨g, 0, none⟩) 2 cap] W fun e w' => e = .returned (.int .i64 (if a ≠ 0 then a else b)) ∧ w' = W := by
 refine (callsIn_wide (n := 6)).1 ?_
 refine callsIn_of_wp Tryz.func67 rfl trivial ?_ rfl
 simp only [Tryz.ntmps67, List.size_toArray, List.length_cons, List.length_nil, Nat.reduceAdd, Nat.reduceSub, Array.replicate_succ, Array.replicate_zero, List.push_toArray, List.append_toArray, List.nil_append, List.cons_append]
 gi_wp2
 gi_loopw [8] (fun i wr => ∃ k : Nat, i = .int .i64 k ∧ wr = W ∧ k ≤ 2 ∧ (1 ≤ k → a = 0) ∧ (2 ≤ k → b = 0)) (fun i _ => (2 - intOf i).toNat)
 case atStart => exact ⟨0, rfl, rfl, by omega, fun h => by omega, fun h => by omega⟩
 case round =>
  obtain ⟨k, rfl, rfl, hk, ha, hb⟩ := hrel
  by_cases a0 : a = 0
  ·subst a0
   by_cases b0 : b = 0
   ·subst b0
    match k, hk with
    | 0, _ =>
     gi_wp2
     go_roundw
     case rel => refine ⟨1, rfl, ?_⟩; simp
     case measure => simp [intOf]
    | 1, _ =>
     gi_wp2
     go_roundw
     case rel => refine ⟨2, rfl, ?_⟩; simp
     case measure => simp [intOf]
    | 2, _ =>
     gi_wp2
     go_ret
     exact ⟨by simp, rfl⟩
   ·match k, hk with
    | 0, _ =>
     gi_wp2
     go_roundw
     case rel => refine ⟨1, rfl, ?_⟩; simp
     case measure => simp [intOf]
    | 1, _ =>
     gi_wp2
     go_ret
     exact ⟨by simp, rfl⟩
    | 2, _ => exact absurd (hb (by omega)) b0
  ·match k, hk with
   | 0, _ =>
    gi_wp2
    go_ret
    exact ⟨by simp [a0], rfl⟩
   | 1, _ => exact absurd (ha (by omega)) a0
   | 2, _ => exact absurd (ha (by omega)) a0
set_option maxRecDepth 100000 in
set_option maxHeartbeats 16000000 in
theorem cmpk_calls (x y : Int × Int) (W : World) : Calls Tryz.prog 66 #[.agg #[.int .i64 x.1, .int .i64 x.2], .agg #[.int .i64 y.1, .int .i64 y.2]] W fun e w' => e = .returned (.int .i64 (cmpK x y)) ∧ ∃ q os', w' = grow (W.drewN q) os' := by
 have c1 := cmpi_calls x.1 y.1
 have c2 := cmpi_calls x.2 y.2
 unfold cmpK
 generalize cmpI2 x.1 y.1 = r1 at c1 ⊢
 generalize cmpI2 x.2 y.2 = r2 at c2 ⊢
 obtain ⟨x1, x2⟩ := x
 obtain ⟨y1, y2⟩ := y
 simp only at c1 c2 ⊢
 go_enter Tryz.func66, Tryz.ntmps66
 go_wp2_with fail
 refine wp_region_still_tail 10 mixed (by kernel_rfl) ?_
 simp only [List.take_succ_cons, List.take_zero, List.drop_succ_cons, List.drop_zero]
 show wpStill _ _ (World.drew ((W.alloc (.cells #[.int .i64 x1, .int .i64 x2] 63)).alloc (.cells #[.int .i64 y1, .int .i64 y2] 63))) (fun a' => wpList _ _ _ _ a' (World.drew ((W.alloc (.cells #[.int .i64 x1, .int .i64 x2] 63)).alloc (.cells #[.int .i64 y1, .int .i64 y2] 63)))) _ _
 have hg : ∃ os, World.drew ((W.alloc (.cells #[.int .i64 x1, .int .i64 x2] 63)).alloc (.cells #[.int .i64 y1, .int .i64 y2] 63)) = grow (W.drewN 1) os := ⟨_, by rw [alloc_eq_grow, alloc_eq_grow, grow_grow]; rfl⟩
 have hh1 : (World.drew ((W.alloc (.cells #[.int .i64 x1, .int .i64 x2] 63)).alloc (.cells #[.int .i64 y1, .int .i64 y2] 63))).heap[W.heap.size]? = some (.cells #[.int .i64 x1, .int .i64 x2] 63) := (Below.heap_alloc _ _ _ (by simp)).trans (World.alloc_heap_new W _)
 have hh2 : (World.drew ((W.alloc (.cells #[.int .i64 x1, .int .i64 x2] 63)).alloc (.cells #[.int .i64 y1, .int .i64 y2] 63))).heap[W.heap.size + 1]? = some (.cells #[.int .i64 y1, .int .i64 y2] 63) := by
  have := World.alloc_heap_new (W.alloc (.cells #[.int .i64 x1, .int .i64 x2] 63)) (.cells #[.int .i64 y1, .int .i64 y2] 63)
  rwa [World.size_alloc] at this
 generalize World.drew ((W.alloc (.cells #[.int .i64 x1, .int .i64 x2] 63)).alloc (.cells #[.int .i64 y1, .int .i64 y2] 63)) = W2 at *
 have k1 : W2.cell? ⟨W.heap.size, 0, none⟩ = some (.int .i64 x1) := by unfold World.cell?; rw [hh1]; rfl
 have k2 : W2.cell? ⟨W.heap.size, 1, none⟩ = some (.int .i64 x2) := by unfold World.cell?; rw [hh1]; rfl
 have k3 : W2.cell? ⟨W.heap.size + 1, 0, none⟩ = some (.int .i64 y1) := by unfold World.cell?; rw [hh2]; rfl
 have k4 : W2.cell? ⟨W.heap.size + 1, 1, none⟩ = some (.int .i64 y2) := by unfold World.cell?; rw [hh2]; rfl
 repeat still_step
 still_call (c1 _)
 repeat still_step
 still_call (c2 _)
 refine wpStill_nil ?_
 obtain ⟨os, hg⟩ := hg
 go_wp2_with fail
 have hsz : W.heap.size + os.size = (grow (W.drewN 1) os).heap.size := by simp [grow, World.drewN]
 have hnew := World.alloc_heap_new (grow (W.drewN 1) os) (.cells #[.int .i64 r1, .int .i64 r2] 3)
 rw [← hsz] at hnew
 refine (or_calls r1 r2 _ _ _ (by unfold World.cell?; rw [hnew]; rfl) (by unfold World.cell?; rw [hnew]; rfl)).mono ?_
 rintro e w' ⟨rfl, rfl⟩
 have hfin : ∃ os', (grow (W.drewN 1) os).alloc (.cells #[.int .i64 r1, .int .i64 r2] 3) = grow (W.drewN 1) os' := ⟨_, by rw [alloc_eq_grow, grow_grow]⟩
 generalize (grow (W.drewN 1) os).alloc (.cells #[.int .i64 r1, .int .i64 r2] 3) = W3 at *
 obtain ⟨os', hfin⟩ := hfin
 clear hnew hsz hh1 hh2 k1 k2 k3 k4 c1 c2
 go_wp2
 all_goals go_ret
 all_goals exact ⟨rfl, 1, os', rfl⟩
end Av
end Go.Proofs.YtdekcppfpgeneaaGreatDoor
set_option linter.unusedVariables false
namespace Go.Proofs
open Go.Shelf
def Tryz.sort94_ren : Go.Shelf.Ren := ⟨fun | 6 => 94 | 15 => 123 | 14 => 122 | 28 => 160 | 29 => 161 | 20 => 152 | 21 => 153 | 22 => 154 | 23 => 155 | 24 => 156 | 25 => 157 | 26 => 158 | 27 => 159 | 46 => 202 | 47 => 203 | 48 => 204 | 49 => 205 | 50 => 206 | 57 => 227 | n => n, fun | 22 => 86 | 24 => 63 | 25 => 93 | 3 => 3 | 39 => 84 | 0 => 0 | 53 => 165 | 55 => 167 | 4 => 4 | 46 => 159 | 45 => 158 | 50 => 59 | 5 => 5 | 9 => 9 | 66 => 206 | 70 => 210 | 76 => 232 | 77 => 233 | n => n, fun | n => n⟩
theorem Tryz.sort94 : Go.Proofs.SlLaysF0.n6 Tryz.prog Tryz.sort94_ren := {
 mixed := by kernel_rfl
 f6 := ⟨Tryz.f94.name, by decide, Tryz.func94.trans (congrArg some (by kernel_rfl))⟩
 f14 := ⟨Tryz.f122.name, by decide, Tryz.func122.trans (congrArg some (by kernel_rfl))⟩
 f15 := Tryz.func123.trans (congrArg some (by kernel_rfl))
 f20 := ⟨Tryz.f152.name, by decide, Tryz.func152.trans (congrArg some (by kernel_rfl))⟩
 f21 := ⟨Tryz.f153.name, by decide, Tryz.func153.trans (congrArg some (by kernel_rfl))⟩
 f22 := ⟨Tryz.f154.name, by decide, Tryz.func154.trans (congrArg some (by kernel_rfl))⟩
 f23 := ⟨Tryz.f155.name, by decide, Tryz.func155.trans (congrArg some (by kernel_rfl))⟩
 f24 := ⟨Tryz.f156.name, by decide, Tryz.func156.trans (congrArg some (by kernel_rfl))⟩
 f25 := ⟨Tryz.f157.name, by decide, Tryz.func157.trans (congrArg some (by kernel_rfl))⟩
 f26 := ⟨Tryz.f158.name, by decide, Tryz.func158.trans (congrArg some (by kernel_rfl))⟩
 f27 := ⟨Tryz.f159.name, by decide, Tryz.func159.trans (congrArg some (by kernel_rfl))⟩
 f28 := Tryz.func160.trans (congrArg some (by kernel_rfl))
 f29 := Tryz.func161.trans (congrArg some (by kernel_rfl))
 f46 := ⟨Tryz.f202.name, by decide, Tryz.func202.trans (congrArg some (by kernel_rfl))⟩
 f47 := Tryz.func203.trans (congrArg some (by kernel_rfl))
 f48 := Tryz.func204.trans (congrArg some (by kernel_rfl))
 f49 := ⟨Tryz.f205.name, by decide, Tryz.func205.trans (congrArg some (by kernel_rfl))⟩
 f50 := ⟨Tryz.f206.name, by decide, Tryz.func206.trans (congrArg some (by kernel_rfl))⟩
 f57 := ⟨Tryz.f227.name, by decide, Tryz.func227.trans (congrArg some (by kernel_rfl))⟩
 t0 := Tryz.underlying0
 a0 := Tryz.isAgg0
 z0 := Tryz.sizeOf0
 v0 := Tryz.zeroValue0
 t3 := Tryz.underlying3
 a3 := Tryz.isAgg3
 z3 := Tryz.sizeOf3
 v3 := Tryz.zeroValue3
 t4 := Tryz.underlying4
 a4 := Tryz.isAgg4
 z4 := Tryz.sizeOf4
 v4 := Tryz.zeroValue4
 t5 := Tryz.underlying5
 a5 := Tryz.isAgg5
 z5 := Tryz.sizeOf5
 v5 := Tryz.zeroValue5
 t9 := Tryz.underlying9
 a9 := Tryz.isAgg9
 z9 := Tryz.sizeOf9
 v9 := Tryz.zeroValue9
 t22 := Tryz.underlying86
 a22 := Tryz.isAgg86
 z22 := Tryz.sizeOf86
 v22 := Tryz.zeroValue86
 t25 := Tryz.underlying93
 a25 := Tryz.isAgg93
 z25 := Tryz.sizeOf93
 v25 := Tryz.zeroValue93
 t39 := Tryz.underlying84
 a39 := Tryz.isAgg84
 z39 := Tryz.sizeOf84
 v39 := Tryz.zeroValue84
 t45 := Tryz.underlying158
 a45 := Tryz.isAgg158
 z45 := Tryz.sizeOf158
 v45 := Tryz.zeroValue158
 t46 := Tryz.underlying159
 a46 := Tryz.isAgg159
 z46 := Tryz.sizeOf159
 v46 := Tryz.zeroValue159
 t50 := Tryz.underlying59
 a50 := Tryz.isAgg59
 z50 := Tryz.sizeOf59
 v50 := Tryz.zeroValue59
 t53 := Tryz.underlying165
 a53 := Tryz.isAgg165
 z53 := Tryz.sizeOf165
 v53 := Tryz.zeroValue165
 t55 := Tryz.underlying167
 a55 := Tryz.isAgg167
 z55 := Tryz.sizeOf167
 v55 := Tryz.zeroValue167
 t66 := Tryz.underlying206
 a66 := Tryz.isAgg206
 z66 := Tryz.sizeOf206
 v66 := Tryz.zeroValue206
 t70 := Tryz.underlying210
 a70 := Tryz.isAgg210
 z70 := Tryz.sizeOf210
 v70 := Tryz.zeroValue210
 t76 := Tryz.underlying232
 a76 := Tryz.isAgg232
 z76 := Tryz.sizeOf232
 v76 := Tryz.zeroValue232
 t77 := Tryz.underlying233
 a77 := Tryz.isAgg233
 z77 := Tryz.sizeOf233
 v77 := Tryz.zeroValue233 }
end Go.Proofs
set_option linter.unusedVariables false
set_option linter.unusedSimpArgs false
namespace Go.Proofs.YtdekcppfpgeneaaGreatDoor
open Go Go.RowKit Go.Sort Go.Shelf Go.Lib
namespace Av
open Nt Rg

/-! slices.SortFunc at pairs, az a contract of the engine. -/
theorem cmpI2_neg {a b : Int} : cmpI2 a b < 0 ↔ a < b := by
 unfold cmpI2
 by_cases h1 : a < b
 ·simp [h1]
 ·by_cases h2 : b < a <;> simp [h1, h2]
theorem cmpI2_zero {a b : Int} : cmpI2 a b = 0 ↔ a = b := by
 unfold cmpI2
 by_cases h1 : a < b
 ·rw [if_pos h1]; constructor <;> intro h <;> omega
 ·by_cases h2 : b < a
  ·rw [if_neg h1, if_pos h2]; constructor <;> intro h <;> omega
  ·rw [if_neg h1, if_neg h2]; constructor <;> intro h <;> omega
theorem ltK (x y : Int × Int) : ltOf cmpK x y = true ↔ x.1 < y.1 ∨ (x.1 = y.1 ∧ x.2 < y.2) := by
 unfold ltOf cmpK
 rw [decide_eq_true_iff]
 by_cases h : cmpI2 x.1 y.1 = 0
 ·have h' := cmpI2_zero.1 h
  simp only [h, ne_eq, not_true_eq_false, if_false, cmpI2_neg]; omega
 ·have h' : x.1 ≠ y.1 := fun e => h (cmpI2_zero.2 e)
  simp only [h, ne_eq, not_false_eq_true, if_true, cmpI2_neg]; omega
theorem ltK_false (x y : Int × Int) : ltOf cmpK x y = false ↔ ¬ (x.1 < y.1 ∨ (x.1 = y.1 ∧ x.2 < y.2)) := by
 rw [← ltK]; simp
theorem swoK : SWO (ltOf cmpK) where
 irrefl x := by rw [ltK_false]; omega
 trans x y z h1 h2 := by rw [ltK] at *; omega
 ntrans x y z h1 h2 := by rw [ltK_false] at *; omega
def sortK (l : List (Int × Int)) : List (Int × Int) := l.mergeSort fun x y => !ltOf cmpK y x
def encK (p : Int × Int) : List Value := [.int .i64 p.1, .int .i64 p.2]
def flatE (l : List (Int × Int)) : List Value := l.flatMap encK
theorem flatE_len (l : List (Int × Int)) : (flatE l).length = l.length * 2 := by
 induction l with
 | nil => rfl
 | cons x r ih => simp only [flatE, List.flatMap_cons, List.length_append, List.length_cons] at ih ⊢; rw [ih]; simp [encK]; omega
theorem flatE_get : ∀ (l : List (Int × Int)) (i c : Nat), c < 2 → (flatE l)[i * 2 + c]? = l[i]?.bind fun p => (encK p)[c]?
 | [], i, c, h => by simp [flatE]
 | x :: r, 0, c, h => by
  simp only [flatE, List.flatMap_cons, Nat.zero_mul, Nat.zero_add, List.getElem?_cons_zero, Option.bind_some]
  rw [List.getElem?_append_left (by simpa [encK] using h)]
 | x :: r, i + 1, c, h => by
  have := flatE_get r i c h
  simp only [flatE, List.flatMap_cons, List.getElem?_cons_succ] at this ⊢
  rw [List.getElem?_append_right (by simp [encK]; omega), ← this]
  congr 1
  simp [encK]; omega
theorem flatK_list (d : Array (Int × Int)) : (flatK encK 2 d).toList = flatE d.toList := by
 refine List.ext_getElem (by rw [flatE_len]; simp) fun t h1 h2 => ?_
 have ht : t < d.size * 2 := by simpa using h1
 have e := flatE_get d.toList (t / 2) (t % 2) (Nat.mod_lt _ (by omega))
 have ed : t / 2 * 2 + t % 2 = t := by omega
 rw [ed, List.getElem?_eq_getElem h2] at e
 have hi : t / 2 < d.size := by omega
 have hg := get_flatK encK 2 d t ht
 rw [getElem!_pos (flatK encK 2 d) t (by simpa using ht)] at hg
 rw [Array.getElem_toList, hg, getElem!_pos d (t / 2) hi]
 have e3 : d.toList[t / 2]? = some d[t / 2] := by rw [List.getElem?_eq_getElem (by simpa using hi), Array.getElem_toList]
 rw [e3, Option.bind_some] at e
 have hc : t % 2 < (encK d[t / 2]).length := by simp [encK]; omega
 rw [List.getElem?_eq_getElem hc] at e
 rw [getElem!_pos (encK d[t / 2]) (t % 2) hc]
 exact (Option.some.inj e).symm
theorem repL_isK {s : St} : ∀ {l : List (Int × Int)} {fr : List Value}, RepL s (isK l).flatten fr ↔ fr = flatE l ∧ ∀ p ∈ l, small (.int .i64 p.1) ∧ small (.int .i64 p.2)
 | [], fr => by simp [isK, flatE, RepL]
 | x :: r, fr => by
  have ih := fun fr => repL_isK (s := s) (l := r) (fr := fr)
  constructor
  ·intro h
   simp only [isK, itK, List.map_cons, List.flatten_cons, List.cons_append, List.nil_append, RepL, Rep, PRep] at h
   obtain ⟨a, t, rfl, ⟨rfl, h1⟩, b, t2, rfl, ⟨rfl, h2⟩, h3⟩ := h
   obtain ⟨rfl, h4⟩ := (ih t2).1 h3
   exact ⟨rfl, fun p hp => by rcases List.mem_cons.1 hp with rfl | hp; exact ⟨h1, h2⟩; exact h4 p hp⟩
  ·rintro ⟨rfl, h⟩
   simp only [isK, itK, List.map_cons, List.flatten_cons, List.cons_append, List.nil_append, RepL, Rep, PRep]
   exact ⟨_, _, rfl, ⟨rfl, (h x (by simp)).1⟩, _, _, rfl, ⟨rfl, (h x (by simp)).2⟩, (ih _).2 ⟨rfl, fun p hp => h p (by simp [hp])⟩⟩
theorem putCells_list {F arr : Array Value} {fr rest : List Value} (h : arr.toList = fr ++ rest) (hs : F.size = fr.length) : (putCells id 0 F arr).toList = F.toList ++ rest := by
 have hsz : arr.size = fr.length + rest.length := by have := congrArg List.length h; simpa using this
 refine List.ext_getElem (by simp [putCells, hsz, hs]) fun t h1 h2 => ?_
 have ht : t < arr.size := by simpa [putCells] using h1
 simp only [putCells, Array.getElem_toList, Array.getElem_mapIdx, Nat.zero_le, true_and, Nat.zero_add, Nat.sub_zero, id]
 by_cases hc : t < F.size
 ·rw [if_pos hc, List.getElem_append_left (by simpa using hc), getElem!_pos F t hc, Array.getElem_toList]
 ·rw [if_neg hc, List.getElem_append_right (by simpa using hc)]
  have : arr.toList[t]'(by simpa using ht) = (fr ++ rest)[t]'(by simp; omega) := by simp only [h]
  rw [Array.getElem_toList] at this
  rw [this, List.getElem_append_right (by omega)]
  simp [hs]
theorem permK {d d' : Array (Int × Int)} (h : PermIn 0 d.size d d') : d'.size = d.size ∧ d'.toList.Perm d.toList := by
 obtain ⟨h1, h2, h3⟩ := h
 refine ⟨h1, ?_⟩
 have e1 : d.extract 0 d.size = d := by simp
 have e2 : d'.extract 0 d.size = d' := by rw [← h1]; simp
 rwa [e1, e2] at h3
theorem cmplaysK (blk off size : Nat) (w : World) : CmpLays Tryz.prog 66 #[] encK 2 cmpK blk off size w := fun m os dk hdk x y => by
 have := cmpk_calls x y (sortWorldK encK 2 w blk off m dk os)
 simpa [encK] using this
theorem sortfn_run {base : World} {s : St} {l ty ver : Nat} {ps : List (Int × Int)} (hs : Sim base s) (hl : s.H[l]? = some (.row ty 2 ver (isK ps))) (hlen : ps.length ≤ 1000000) {b cap : Nat} (hb : s.μ l = some b) :
  Calls Tryz.prog 94 #[.slice (some ⟨b, 0, none⟩) ps.length cap, .func (.func 66) #[] #[]] s.w fun e w' => e = .returned (.tuple #[]) ∧ Sim base ⟨upd s.μ l (some b), s.H.set l (.row ty 2 ver (isK (sortK ps))), w'⟩ ∧ Evo s.H.length s ⟨upd s.μ l (some b), s.H.set l (.row ty 2 ver (isK (sortK ps))), w'⟩ := by
 have ho := hs.obj l _ hl
 obtain ⟨h0, h9, h⟩ := ho
 rcases h with ⟨h1, _⟩ | ⟨b', arr, fr, rest, h1, h2, h3, h4, h5⟩
 ·rw [hb] at h1; cases h1
 rw [hb] at h1
 obtain rfl : b' = b := (Option.some.inj h1).symm
 obtain ⟨rfl, hsm⟩ := repL_isK.1 h5
 have hblk : b' < s.w.heap.size := (Array.getElem?_eq_some_iff.1 h3).1
 have hsz : (flatK encK 2 ps.toArray).size = (flatE ps).length := by rw [flatE_len]; simp
 have hH : HoldsK encK 2 s.w b' 0 ps.toArray := fun j hj => by
  have hj' : j < (flatE ps).length := by rw [← hsz]; exact hj
  have hja : j < arr.size := by have := congrArg List.length h4; simp at this; omega
  refine ⟨?_, by simp [World.frozen?, h3]⟩
  unfold World.cell?
  simp only [h3, Nat.zero_add, id]
  rw [getElem!_pos _ j hj]
  have e1 : arr.toList[j]? = (flatE ps)[j]? := by rw [h4, List.getElem?_append_left hj']
  have e2 : (flatK encK 2 ps.toArray).toList[j]? = (flatE ps)[j]? := by rw [flatK_list]
  rw [← e2, List.getElem?_eq_getElem (by simpa using hja), List.getElem?_eq_getElem (by simpa using hj)] at e1
  simp only [Array.getElem_toList, Option.some.injEq] at e1
  rw [← e1]
  simp [hja]
 have hcon := AnyQ.slices_SortFunc Tryz.sort94 2 Tryz.isAgg63 Tryz.sizeOf63 encK (fun _ => rfl) (fun x v hv => by simp [encK] at hv; rcases hv with rfl | rfl <;> rfl) cmpK swoK 66 #[] b' 0 cap ps.toArray s.w (enters_of Tryz.func66 (by kernel_rfl) rfl) (cmplaysK b' 0 _ s.w) hH hblk (by simp; omega)
 refine Calls.mono hcon ?_
 rintro e w' ⟨rfl, d', n, os, hp, hso, rfl⟩
 have hp' : d'.size = ps.length ∧ d'.toList.Perm ps := permK (d := ps.toArray) hp
 have hd : d'.toList = sortK ps := by
  have := sorted_unique_holds swoK (fun x y h1 h2 => by rw [ltK_false] at h1 h2; exact Prod.ext (by omega) (by omega)) ps.toArray d' hp hso
  simpa [sortK] using this
 refine ⟨rfl, ?_⟩
 have hb2 : (sortWorldK encK 2 s.w b' 0 n d' os).heap[b']? = some (.cells (putCells id 0 (flatK encK 2 d') arr) ty (0, 0)) := by
  unfold sortWorldK
  rw [Go.Sort.heap_grow_old _ _ (by rw [size_putRowK]; exact hblk)]
  unfold putRowK putRow mapBlock
  simp only [Array.getElem?_modify, if_true]
  show Option.map _ (s.w.heap[b']?) = _
  rw [h3]
  rfl
 have hl2 := putCells_list (F := flatK encK 2 d') h4 (by simp [flatE_len, hp'.1])
 rw [flatK_list, hd] at hl2
 have hlen2 : (sortK ps).length = ps.length := by rw [← hd]; simpa using hp'.1
 refine hs.upd hl rfl rfl rfl ?_ (fun c hc hlt => ?_) (.inr ⟨rfl, hb⟩) ?_ ?_
 ·exact size_sortWorldK_c encK 2 s.w b' 0 n d' os
 ·unfold sortWorldK
  rw [Go.Sort.heap_grow_old _ _ (by rw [size_putRowK]; exact hlt)]
  unfold putRowK putRow mapBlock
  simp only [Array.getElem?_modify, if_neg (Ne.symm hc)]
  rfl
 ·refine ⟨fun it hit => ?_, fun it hit => ?_, _, _, rest, hb2, hl2, repL_isK.2 ⟨rfl, fun p hp => hsm p ?_⟩⟩
  ·obtain ⟨p, _, rfl⟩ := List.mem_map.1 hit; rfl
  ·obtain ⟨p, _, rfl⟩ := List.mem_map.1 hit; rfl
  ·exact (List.mergeSort_perm _ _).mem_iff.1 hp
 ·unfold RefEvo
  rw [hl]
  refine .inr ⟨ver, _, get_set_same (lt_of_get hl), ?_, fun _ _ => ⟨(upd_same _ _ _).trans hb.symm, fun b2 hb3 => ?_⟩⟩
  ·rw [isK_len, isK_len, hlen2]; exact lexle.refl _ _
  ·rw [hb] at hb3
   obtain rfl : b2 = b' := (Option.some.inj hb3).symm
   unfold bsize
   simp only [hb2, h3]
   simp [putCells]
end Av
end Go.Proofs.YtdekcppfpgeneaaGreatDoor
set_option linter.unusedVariables false
set_option linter.unusedSimpArgs false
namespace Go.Proofs.YtdekcppfpgeneaaGreatDoor
open Go Go.RowKit
namespace Av
attribute [local irreducible] AW AOps AHOps
open Nt Rg

/-! slices.SortedFunc over the keys of a map of pairs. -/
theorem sortfn_a {base : World} {H : AHeap} {l ty ver n : Nat} {ps : List (Int × Int)} (hl : H[l]? = some (.row ty 2 ver (isK ps))) (hn : n = ps.length) (hlen : ps.length ≤ 1000000) :
  CallsA Tryz.prog base 94 [.ms l ver n, .fn (.func 66) [] []] H fun r H' => r = .tup [] ∧ H' = H.set l (.row ty 2 ver (isK (sortK ps))) := by
 subst hn
 refine ⟨Tryz.call94, fun μ w vs hs ha => ?_⟩
 simp only [RepL, Rep] at ha
 obtain ⟨x, t, h1, ⟨⟨a, c, rfl⟩, hm⟩, y, t2, rfl, ⟨a2, c2, rfl, h3, h4⟩, rfl⟩ := ha
 have e2 : a2 = #[] := Array.toList_eq_nil_iff.1 h3
 have e3 : c2 = #[] := Array.toList_eq_nil_iff.1 h4
 subst e2 e3
 have hvs : vs = #[.slice a ps.length c, .func (.func 66) #[] #[]] := Array.ext' h1
 subst hvs
 unfold MsRep at hm
 simp only [hl] at hm
 rcases hm.2 trivial (isK_len ps).symm with ⟨m1, m2, m3⟩ | ⟨b, cap, m1, m2, m3, m4, m5⟩
 ·obtain rfl : ps = [] := List.eq_nil_of_length_eq_zero m3
  have hset : H.set l (.row ty 2 ver (isK (sortK []))) = H := by
   have : isK (sortK []) = isK [] := by simp [sortK]
   rw [this]
   exact (List.ext_getElem? fun i => by
    by_cases e : i = l
    ·subst e; rw [List.getElem?_set_self (lt_of_get hl), hl]
    ·rw [List.getElem?_set_ne (Ne.symm e)])
  refine (AnyF.slices_SortFunc_none Tryz.sort94 a c _ w).mono ?_
  rintro e w' ⟨rfl, rfl⟩
  exact ⟨_, _, H, μ, rfl, ⟨rfl, hset.symm⟩, Nat.le_refl _, hs, by simp only [Rep, RepL]; exact ⟨#[], rfl, rfl⟩, .refl _ _⟩
 ·cases m2
  refine (sortfn_run hs hl hlen m1).mono ?_
  rintro e w' ⟨rfl, hs', he⟩
  exact ⟨_, _, _, _, rfl, ⟨rfl, rfl⟩, by simp, hs', by simp only [Rep, RepL]; exact ⟨#[], rfl, rfl⟩, he⟩
theorem sortK_perm {l m : List (Int × Int)} (h : l.Perm m) : sortK l = sortK m := by
 have tr : ∀ a b c : Int × Int, (!Go.Proofs.ltOf cmpK b a) = true → (!Go.Proofs.ltOf cmpK c b) = true → (!Go.Proofs.ltOf cmpK c a) = true := fun a b c h1 h2 => by
  simp only [Bool.not_eq_true', ltK_false] at *; omega
 have tot : ∀ a b : Int × Int, ((!Go.Proofs.ltOf cmpK b a) || !Go.Proofs.ltOf cmpK a b) = true := fun a b => by
  simp only [Bool.or_eq_true, Bool.not_eq_true', ltK_false]; omega
 refine List.Perm.eq_of_pairwise (le := fun x y => (!Go.Proofs.ltOf cmpK y x) = true) ?_ (List.pairwise_mergeSort tr tot l) (List.pairwise_mergeSort tr tot m) ((List.mergeSort_perm l _).trans (h.trans (List.mergeSort_perm m _).symm))
 intro a b _ _ h1 h2
 simp only [Bool.not_eq_true', ltK_false] at h1 h2
 exact Prod.ext (by omega) (by omega)
section
variable {base : World}
set_option maxHeartbeats 2000000
theorem collect_k {ks : List (Int × Int)} {b : Nat} {es : Array MapEntry} {clock : Nat} (hm : KMap ks b es clock base) (hlen : ks.length ≤ 1000000) {H : AHeap} (hH : ∀ o ∈ H, isMpO o = false) :
  CallsA Tryz.prog base 93 [.fn (.func 95) [] [.rp [PD.v (.map (some b))]]] H fun r H' => ∃ pre G, pre.Perm ks ∧ r = .ms H.length 0 pre.length ∧ H' = H ++ .row 63 2 0 (isK pre) :: G := by
 refine callsA_enter ttOk Tryz.call93 Tryz.func93 rfl fun hB hb hF => ?_
 rw [Tryz.results93, Tryz.ntmps93]
 simp only [arr_list, List.length_cons, List.length_nil, List.replicate, List.cons_append, List.nil_append, Nat.reduceAdd, Nat.reduceSub]
 repeat refine aw_seq ?_
 refine aw_region ttOk (by kernel_rfl) ?_
 repeat (first | refine aops_one rfl rfl (by simp only [avs, tts, seval] <;> (first | with_reducible rfl | rfl)) (by simp only [aput.eq_def, l_set0, l_setS] <;> with_reducible rfl) ?_ | refine aops_yes rfl rfl (by simp only [avs, tts, seval] <;> (first | with_reducible rfl | rfl)) rfl (by simp only [avs, tts, seval] <;> (first | with_reducible rfl | rfl)) (by simp only [aput.eq_def, l_set0, l_setS] <;> with_reducible rfl) ?_ | refine aops_no rfl (by simp only [avs, tts, seval] <;> (first | with_reducible rfl | rfl)) rfl (by simp only [aput.eq_def, l_set0, l_setS] <;> with_reducible rfl) ?_)
 refine aops_nil ?_
 repeat refine aw_seq ?_
 refine aw_region ttOk (by kernel_rfl) ?_
 repeat (first | refine aops_one rfl rfl (by simp only [avs, tts, seval] <;> (first | with_reducible rfl | rfl)) (by simp only [aput.eq_def, l_set0, l_setS] <;> with_reducible rfl) ?_ | refine aops_yes rfl rfl (by simp only [avs, tts, seval] <;> (first | with_reducible rfl | rfl)) rfl (by simp only [avs, tts, seval] <;> (first | with_reducible rfl | rfl)) (by simp only [aput.eq_def, l_set0, l_setS] <;> with_reducible rfl) ?_ | refine aops_no rfl (by simp only [avs, tts, seval] <;> (first | with_reducible rfl | rfl)) rfl (by simp only [aput.eq_def, l_set0, l_setS] <;> with_reducible rfl) ?_)
 refine aops_call rfl (by simp only [avs] <;> rfl) (⟨_, append_seq hm hlen hH, ?_⟩)
 rintro r H' ⟨pre, G, hp, rfl, rfl⟩ hle
 repeat (first | refine aops_one rfl rfl (by simp only [avs, tts, seval] <;> (first | with_reducible rfl | rfl)) (by simp only [aput.eq_def, l_set0, l_setS] <;> with_reducible rfl) ?_ | refine aops_yes rfl rfl (by simp only [avs, tts, seval] <;> (first | with_reducible rfl | rfl)) rfl (by simp only [avs, tts, seval] <;> (first | with_reducible rfl | rfl)) (by simp only [aput.eq_def, l_set0, l_setS] <;> with_reducible rfl) ?_ | refine aops_no rfl (by simp only [avs, tts, seval] <;> (first | with_reducible rfl | rfl)) rfl (by simp only [aput.eq_def, l_set0, l_setS] <;> with_reducible rfl) ?_)
 refine aops_nil ?_
 repeat' (first | (refine aops_cons ?_; first | (refine aops_grd rfl (by simp only [avs] <;> rfl) (by rfl) ?_; first | refine grd_on ?_ | refine grd_off (by simp only [avs] <;> rfl) ?_ | (refine grd_split (by simp only [avs] <;> rfl) ?_ ?_ <;> intro hb <;> ((try simp only [Bool.not_eq_true', Bool.not_eq_false', Bool.not_eq_true, Bool.not_eq_false, Bool.not_not, Bool.not_true, Bool.not_false] at hb); first | subst hb | simp only [hb]))) | (apply aops_o; rfl; simp only [estep, avs, tts, seval] <;> (first | with_reducible rfl | rfl))) | refine aops_nil ?_ | (refine ahops_cons ?_; first | (refine ahops_grd rfl (by simp only [avs] <;> rfl) (by rfl) ?_; first | refine hgrd_on ?_ | refine hgrd_off (by simp only [avs] <;> rfl) ?_ | (refine hgrd_split (by simp only [avs] <;> rfl) ?_ ?_ <;> intro hb <;> ((try simp only [Bool.not_eq_true', Bool.not_eq_false', Bool.not_eq_true, Bool.not_eq_false, Bool.not_not, Bool.not_true, Bool.not_false] at hb); first | subst hb | simp only [hb]))) | (apply ahops_o; rfl; simp only [hstep, avs, tts, seval] <;> (first | with_reducible rfl | rfl); first | trivial | omega)) | refine ahops_nil ?_ | refine aw_seq ?_ | refine aw_region ttOk (by kernel_rfl) ?_  | refine aw_drawR 0 ttOk mixed (by kernel_rfl) (by kernel_rfl) (by kernel_rfl) (by rfl) ?_ | refine aw_drawR 1 ttOk mixed (by kernel_rfl) (by kernel_rfl) (by kernel_rfl) (by rfl) ?_ | refine aw_drawR 2 ttOk mixed (by kernel_rfl) (by kernel_rfl) (by kernel_rfl) (by rfl) ?_ | refine aw_drawR 3 ttOk mixed (by kernel_rfl) (by kernel_rfl) (by kernel_rfl) (by rfl) ?_ | refine aw_cond rfl rfl (fun hb => absurd hb (by decide)) fun _ => ?_ | refine aw_cond rfl rfl (fun _ => ?_) fun hb => absurd hb (by decide) | (refine aw_cond rfl rfl ?_ ?_ <;> intro hb <;> ((try simp only [Bool.not_eq_true', Bool.not_eq_false', Bool.not_eq_true, Bool.not_eq_false, Bool.not_not, Bool.not_true, Bool.not_false] at hb); first | subst hb | simp only [hb])) | refine aw_skip ?_ | refine aw_exit ?_ | refine aw_block ?_)
 exact aw_ret ⟨_, rfl, pre, G, hp, rfl, rfl⟩
theorem sorted_k {ks : List (Int × Int)} {b : Nat} {es : Array MapEntry} {clock : Nat} (hm : KMap ks b es clock base) (hlen : ks.length ≤ 1000000) {H : AHeap} (hH : ∀ o ∈ H, isMpO o = false) :
  CallsA Tryz.prog base 64 [.fn (.func 95) [] [.rp [PD.v (.map (some b))]], .fn (.func 66) [] []] H fun r H' => ∃ G, r = .ms H.length 0 ks.length ∧ H' = H ++ .row 63 2 0 (isK (sortK ks)) :: G := by
 refine callsA_enter ttOk Tryz.call64 Tryz.func64 rfl fun hB hb hF => ?_
 rw [Tryz.results64, Tryz.ntmps64]
 simp only [arr_list, List.length_cons, List.length_nil, List.replicate, List.cons_append, List.nil_append, Nat.reduceAdd, Nat.reduceSub]
 repeat refine aw_seq ?_
 refine aw_region ttOk (by kernel_rfl) ?_
 repeat (first | refine aops_one rfl rfl (by simp only [avs, tts, seval] <;> (first | with_reducible rfl | rfl)) (by simp only [aput.eq_def, l_set0, l_setS] <;> with_reducible rfl) ?_ | refine aops_yes rfl rfl (by simp only [avs, tts, seval] <;> (first | with_reducible rfl | rfl)) rfl (by simp only [avs, tts, seval] <;> (first | with_reducible rfl | rfl)) (by simp only [aput.eq_def, l_set0, l_setS] <;> with_reducible rfl) ?_ | refine aops_no rfl (by simp only [avs, tts, seval] <;> (first | with_reducible rfl | rfl)) rfl (by simp only [aput.eq_def, l_set0, l_setS] <;> with_reducible rfl) ?_)
 refine aops_nil ?_
 repeat refine aw_seq ?_
 refine aw_region ttOk (by kernel_rfl) ?_
 repeat (first | refine aops_one rfl rfl (by simp only [avs, tts, seval] <;> (first | with_reducible rfl | rfl)) (by simp only [aput.eq_def, l_set0, l_setS] <;> with_reducible rfl) ?_ | refine aops_yes rfl rfl (by simp only [avs, tts, seval] <;> (first | with_reducible rfl | rfl)) rfl (by simp only [avs, tts, seval] <;> (first | with_reducible rfl | rfl)) (by simp only [aput.eq_def, l_set0, l_setS] <;> with_reducible rfl) ?_ | refine aops_no rfl (by simp only [avs, tts, seval] <;> (first | with_reducible rfl | rfl)) rfl (by simp only [aput.eq_def, l_set0, l_setS] <;> with_reducible rfl) ?_)
 refine aops_call rfl (by simp only [avs] <;> rfl) (⟨_, collect_k hm hlen hH, ?_⟩)
 rintro r H' ⟨pre, G, hp, rfl, rfl⟩ hle
 have hpl := hp.length_eq
 repeat (first | refine aops_one rfl rfl (by simp only [avs, tts, seval] <;> (first | with_reducible rfl | rfl)) (by simp only [aput.eq_def, l_set0, l_setS] <;> with_reducible rfl) ?_ | refine aops_yes rfl rfl (by simp only [avs, tts, seval] <;> (first | with_reducible rfl | rfl)) rfl (by simp only [avs, tts, seval] <;> (first | with_reducible rfl | rfl)) (by simp only [aput.eq_def, l_set0, l_setS] <;> with_reducible rfl) ?_ | refine aops_no rfl (by simp only [avs, tts, seval] <;> (first | with_reducible rfl | rfl)) rfl (by simp only [aput.eq_def, l_set0, l_setS] <;> with_reducible rfl) ?_)
 refine aops_nil ?_
 repeat refine aw_seq ?_
 refine aw_region ttOk (by kernel_rfl) ?_
 repeat (first | refine aops_one rfl rfl (by simp only [avs, tts, seval] <;> (first | with_reducible rfl | rfl)) (by simp only [aput.eq_def, l_set0, l_setS] <;> with_reducible rfl) ?_ | refine aops_yes rfl rfl (by simp only [avs, tts, seval] <;> (first | with_reducible rfl | rfl)) rfl (by simp only [avs, tts, seval] <;> (first | with_reducible rfl | rfl)) (by simp only [aput.eq_def, l_set0, l_setS] <;> with_reducible rfl) ?_ | refine aops_no rfl (by simp only [avs, tts, seval] <;> (first | with_reducible rfl | rfl)) rfl (by simp only [aput.eq_def, l_set0, l_setS] <;> with_reducible rfl) ?_)
 refine aops_call rfl (by simp only [avs] <;> rfl) (⟨_, sortfn_a (ty := 63) (ver := 0) (ps := pre) (by simp) rfl (by omega), ?_⟩)
 rintro r H' ⟨rfl, hH'⟩ hle2
 have hset : H' = H ++ .row 63 2 0 (isK (sortK pre)) :: G := by rw [hH']; simp
 subst hset
 clear hH'
 have hsk : sortK pre = sortK ks := sortK_perm hp
 rw [hsk, hpl]
 repeat (first | refine aops_one rfl rfl (by simp only [avs, tts, seval] <;> (first | with_reducible rfl | rfl)) (by simp only [aput.eq_def, l_set0, l_setS] <;> with_reducible rfl) ?_ | refine aops_yes rfl rfl (by simp only [avs, tts, seval] <;> (first | with_reducible rfl | rfl)) rfl (by simp only [avs, tts, seval] <;> (first | with_reducible rfl | rfl)) (by simp only [aput.eq_def, l_set0, l_setS] <;> with_reducible rfl) ?_ | refine aops_no rfl (by simp only [avs, tts, seval] <;> (first | with_reducible rfl | rfl)) rfl (by simp only [aput.eq_def, l_set0, l_setS] <;> with_reducible rfl) ?_)
 refine aops_nil ?_
 repeat refine aw_seq ?_
 refine aw_region ttOk (by kernel_rfl) ?_
 repeat (first | refine aops_one rfl rfl (by simp only [avs, tts, seval] <;> (first | with_reducible rfl | rfl)) (by simp only [aput.eq_def, l_set0, l_setS] <;> with_reducible rfl) ?_ | refine aops_yes rfl rfl (by simp only [avs, tts, seval] <;> (first | with_reducible rfl | rfl)) rfl (by simp only [avs, tts, seval] <;> (first | with_reducible rfl | rfl)) (by simp only [aput.eq_def, l_set0, l_setS] <;> with_reducible rfl) ?_ | refine aops_no rfl (by simp only [avs, tts, seval] <;> (first | with_reducible rfl | rfl)) rfl (by simp only [aput.eq_def, l_set0, l_setS] <;> with_reducible rfl) ?_)
 refine aops_nil ?_
 exact aw_ret ⟨_, rfl, G, rfl, rfl⟩
end
end Av
end Go.Proofs.YtdekcppfpgeneaaGreatDoor
set_option linter.unusedVariables false
set_option linter.unusedSimpArgs false
namespace Go.Proofs.YtdekcppfpgeneaaGreatDoor
open Go Go.RowKit
namespace Rg
open Av Nt
section
variable {κ : Type} [DecidableEq κ] {enc : κ → Value}
theorem mpE_modify {ks : List κ} (hn : ks.Nodup) (f : κ → AV) {k : κ} {i : Nat} (h2 : ks[i]? = some k) (v : AV) : (mpE enc ks f).modify i (fun p => (p.1, v)) = mpE enc ks (updF f k v) := by
 unfold mpE
 apply List.ext_getElem?
 intro j
 rw [List.getElem?_modify, List.getElem?_map, List.getElem?_map]
 cases hj : ks[j]? with
 | none => by_cases e : i = j <;> simp [e]
 | some x =>
  by_cases e : i = j
  ·subst e
   rw [h2] at hj
   cases hj
   simp [updF]
  ·have hx : x ≠ k := fun ex => by
    subst ex
    obtain ⟨l1, g1⟩ := List.getElem?_eq_some_iff.1 h2
    obtain ⟨l2, g2⟩ := List.getElem?_eq_some_iff.1 hj
    have hp := List.pairwise_iff_getElem.1 hn
    rcases Nat.lt_or_gt_of_ne e with h | h
    ·exact hp i j l1 l2 h (g1.trans g2.symm)
    ·exact hp j i l2 l1 h (g2.trans g1.symm)
   simp [e, updF, hx]
theorem entry_mpE (hk : ∀ a b, keyEq (enc a) (enc b) = decide (a = b)) {ks : List κ} (hn : ks.Nodup) (f : κ → AV) (k : κ) {z : AV} (hz : ¬ k ∈ ks → f k = z) :
  ∃ j, eidx (mpE enc ks f) (enc k) = j ∧ ment (mpE enc ks f) (enc k) z = mpE enc (insK ks k) f ∧ j < (insK ks k).length ∧ j ≤ ks.length ∧ ∀ v, (mpE enc (insK ks k) f).modify j (fun p => (p.1, v)) = mpE enc (insK ks k) (updF f k v) := by
 by_cases h : k ∈ ks
 ·obtain ⟨i, h1, h2⟩ := mfind_in hk (f := f) h
  have hi := (List.getElem?_eq_some_iff.1 h2).1
  refine ⟨i, by rw [eidx, h1]; rfl, by rw [ment, h1, insK, if_pos h], by rw [insK, if_pos h]; exact hi, by omega, fun v => ?_⟩
  rw [insK, if_pos h]
  exact mpE_modify hn f h2 v
 ·have h1 := mfind_out hk (f := f) h
  refine ⟨ks.length, by rw [eidx, h1]; simp [mpE], ?_, by rw [insK, if_neg h]; simp, Nat.le_refl _, fun v => ?_⟩
  ·rw [ment, h1, insK, if_neg h]
   simp [mpE, hz h]
  ·refine mpE_modify (insK_nodup hn k) f ?_ v
   rw [insK, if_neg h]; simp
end
/-- the units of pairs of places -/
abbrev KSt := List (Int × Int) × ((Int × Int) → Int)
def addK (s : KSt) (k : Int × Int) (v : Int) : KSt := (insK s.1 k, fun x => if x = k then s.2 k + v else s.2 x)
structure KOk (s : KSt) (M : Int) : Prop where
 nd : s.1.Nodup
 out : ∀ k, ¬ k ∈ s.1 → s.2 k = 0
 lo : ∀ k, 0 ≤ s.2 k
 hi : ∀ k, s.2 k ≤ M
def kV (s : KSt) (k : Int × Int) : AV := .d (.v (.int .i64 (s.2 k)))
def kE (s : KSt) : List (Value × AV) := mpE Rg.encK s.1 (kV s)
theorem addK_ok {s : KSt} {M : Int} (h : KOk s M) (k : Int × Int) {v d : Int} (h0 : 0 ≤ v) (h1 : v ≤ d) : KOk (addK s k v) (M + d) := by
 refine ⟨insK_nodup h.nd k, fun x hx => ?_, fun x => ?_, fun x => ?_⟩
 ·have h1 : x ≠ k := fun e => hx (mem_insK.2 (.inr e))
  have h2 : ¬ x ∈ s.1 := fun e => hx (mem_insK.2 (.inl e))
  simp [addK, h1, h.out x h2]
 ·have a := h.lo x; have b := h.lo k
  simp only [addK]; split <;> omega
 ·have a := h.hi x; have b := h.hi k
  simp only [addK]; split <;> omega
theorem addK_len (s : KSt) (k : Int × Int) (v : Int) : (addK s k v).1.length ≤ s.1.length + 1 := by
 simp only [addK, insK]; split <;> simp
theorem addK_kE (s : KSt) (k : Int × Int) (v : Int) : mpE Rg.encK (insK s.1 k) (updF (kV s) k (.d (.v (.int .i64 (s.2 k + v))))) = kE (addK s k v) := by
 unfold kE
 congr 1
 funext x
 simp only [updF, kV, addK]
 split <;> rfl
end Rg
namespace Av
attribute [local irreducible] AW AOps AHOps
open Nt Rg

/-! At's share. -/
def stepK (ix : ByteArray → Int) (company : ByteArray) (pc : Int) (n : Nat) (s : KSt) (x : ByteArray) : KSt := if pc > 0 ∧ x ≠ company then addK s (ix company, ix x) ((pc * 60).tdiv n) else s
def shareK (ix : ByteArray → Int) (company : ByteArray) (pc : Int) (who : List ByteArray) (s : KSt) : KSt := who.foldl (stepK ix company pc who.length) s
theorem q_bd {pc : Int} (h0 : 0 ≤ pc) (h1 : pc ≤ 100) {n : Nat} (hn : 0 < n) : 0 ≤ (pc * 60).tdiv n ∧ (pc * 60).tdiv n ≤ 6000 := by
 have e : (pc * 60).tdiv (n : Int) = (pc * 60) / (n : Int) := Int.tdiv_eq_ediv_of_nonneg (by omega)
 rw [e]
 refine ⟨Int.ediv_nonneg (by omega) (by omega), ?_⟩
 have h := Int.ediv_le_self (a := pc * 60) (n : Int) (by omega)
 omega
theorem stepK_ok {ix : ByteArray → Int} {company x : ByteArray} {pc : Int} (h0 : 0 ≤ pc) (h1 : pc ≤ 100) {n : Nat} (hn : 0 < n) {s : KSt} {M : Int} (h : KOk s M) : KOk (stepK ix company pc n s x) (M + 6000) := by
 unfold stepK
 split
 ·exact addK_ok h _ (q_bd h0 h1 hn).1 (q_bd h0 h1 hn).2
 ·exact ⟨h.nd, h.out, h.lo, fun k => by have := h.hi k; omega⟩
theorem stepK_len (ix : ByteArray → Int) (company x : ByteArray) (pc : Int) (n : Nat) (s : KSt) : (stepK ix company pc n s x).1.length ≤ s.1.length + 1 := by
 unfold stepK
 split
 ·exact addK_len ..
 ·omega
section
variable {base : World}
set_option maxRecDepth 100000 in
set_option maxHeartbeats 16000000 in
theorem share_a {H : AHeap} {lm lc ls : Nat} (ix : ByteArray → Int) (company : ByteArray) (pc : Int) (who : List ByteArray) (s : KSt) (M : Int)
  (hlm : H[lm]? = some (.mp 63 3 (.flat [.int .i64, .int .i64]) (kE s))) (hlc : H[lc]? = some (.box 61 [.fn (.func 34) [] [.ptr ls 0]])) (hne : lc ≠ lm) (hne2 : ls ≠ lm) (hok : KOk s M) (hM : M + 6000 * who.length ≤ 1000000000000000) (hks : s.1.length + who.length ≤ 1000000000)
  (hlsl : ls < H.length) (hpl : ∀ x, (x = company ∨ x ∈ who) → ∀ K : AHeap, K[ls]? = H[ls]? → ReadA Tryz.prog base 34 [tA x, .ptr ls 0] K (iA (ix x)))
  (hpc0 : 0 ≤ pc) (hpc1 : pc ≤ 100) (hm1 : who.length ≤ 1000000) :
  CallsA Tryz.prog base 36 [.mp lm, tA company, iA pc, .d (strsP who), .ptr lc 0] H fun r H' => H' = H.set lm (.mp 63 3 (.flat [.int .i64, .int .i64]) (kE (shareK ix company pc who s))) := by
 refine callsA_enter ttOk Tryz.call36 Tryz.func36 rfl fun hB hb hF => ?_
 rw [Tryz.results36, Tryz.ntmps36]
 simp only [arr_list, List.length_cons, List.length_nil, List.replicate, List.cons_append, List.nil_append, Nat.reduceAdd, Nat.reduceSub]
 clear hF hb
 have hll := lt_of_get hlm
 have hln : (who.map fun s => [PD.v (.string s)]).length = who.length := by simp
 simp only [tA, iA, strsP]
 repeat' (first | (refine aops_cons ?_; first | (refine zg rfl ?_; first | refine grd_on ?_ | refine zo ?_ | (refine zs ?_ ?_ <;> intro hb <;> ((try simp only [bn] at hb); first | subst hb | simp only [hb]))) | (apply aops_o; rfl; simp only [estep, avs, tts, seval, hln] <;> exact rr)) | refine aops_nil ?_ | (refine ahops_cons ?_; first | (refine yg rfl ?_; first | refine hgrd_on ?_ | refine yo ?_ | (refine ys ?_ ?_ <;> intro hb <;> ((try simp only [bn] at hb); first | subst hb | simp only [hb]))) | (apply ahops_o; rfl; simp only [hstep, avs, tts, seval, hln] <;> exact rr; first | trivial | omega)) | refine ahops_nil ?_ | refine aw_seq ?_ | refine zr ttOk ?_ | refine zR 0 ttOk mixed ?_ | refine zR 1 ttOk mixed ?_ | refine zR 2 ttOk mixed ?_ | refine zR 3 ttOk mixed ?_ | refine zf rfl rfl ?_ | refine zt rfl rfl ?_ | (refine aw_cond rfl rfl ?_ ?_ <;> intro hb <;> ((try simp only [bn] at hb); first | subst hb | simp only [hb])) | refine aw_skip ?_ | refine aw_exit ?_ | refine aw_block ?_)
 refine aw_loop (H0 := H.set lm (.mp 63 3 (.flat [.int .i64, .int .i64]) (kE s))) (fun n env K => ∃ k st, n = who.length - k ∧ k ≤ who.length ∧ st = (who.take k).foldl (stepK ix company pc who.length) s ∧ KOk st (M + 6000 * k) ∧ st.1.length ≤ s.1.length + k ∧ K = H.set lm (.mp 63 3 (.flat [.int .i64, .int .i64]) (kE st)) ∧ env = (.mp lm :: .d (.v (.string company)) :: .d (.v (.int .i64 pc)) :: .d (.sl 1 (who.map fun s => [PD.v (.string s)])) :: .ptr lc 0 :: .undef :: .undef :: .undef :: .undef :: .undef :: .undef :: .d (.sl 1 (who.map fun s => [PD.v (.string s)])) :: .d (.v (.int .i64 (who.length : Int))) :: .d (.v (.int .i64 (k : Int))) :: List.replicate 28 .undef)) ?_ ⟨0, s, rfl, Nat.zero_le _, rfl, ⟨hok.nd, hok.out, hok.lo, fun k => by have := hok.hi k; omega⟩, by omega, rfl, rfl⟩ ?_
 ·refine ⟨by simp [EnvLe, List.replicate], .inl ?_⟩
  exact (set_self hlm).symm
 rintro n env K ⟨k, st, rfl, hk, hst, hkok, hlen, rfl, rfl⟩ hN
 simp only [rp]
 obtain ⟨c0, g0⟩ : ∃ c0, decide ((k : Int) < (who.length : Int)) = c0 := ⟨_, rfl⟩
 repeat refine aw_seq ?_
 refine zr ttOk ?_
 repeat (refine aops_cons ?_; first | (apply aops_o; rfl; simp only [estep, avs, tts, seval, g0] <;> exact rr) | (refine zg rfl ?_; first | refine grd_on ?_ | refine zo ?_))
 refine aops_nil ?_
 cases c0 with
 | false =>
  have hkl : k = who.length := by
                  have : ¬ k < who.length := by simpa using g0
                  omega
  rw [hkl, List.take_length] at hst
  repeat' (first | (refine aops_cons ?_; first | (refine zg rfl ?_; first | refine grd_on ?_ | refine zo ?_ | (refine zs ?_ ?_ <;> intro hb <;> ((try simp only [bn] at hb); first | subst hb | simp only [hb]))) | (apply aops_o; rfl; simp only [estep, avs, tts, seval] <;> exact rr)) | refine aops_nil ?_ | (refine ahops_cons ?_; first | (refine yg rfl ?_; first | refine hgrd_on ?_ | refine yo ?_ | (refine ys ?_ ?_ <;> intro hb <;> ((try simp only [bn] at hb); first | subst hb | simp only [hb]))) | (apply ahops_o; rfl; simp only [hstep, avs, tts, seval] <;> exact rr; first | trivial | omega)) | refine ahops_nil ?_ | refine aw_seq ?_ | refine zr ttOk ?_ | refine zR 0 ttOk mixed ?_ | refine zR 1 ttOk mixed ?_ | refine zR 2 ttOk mixed ?_ | refine zR 3 ttOk mixed ?_ | refine zf rfl rfl ?_ | refine zt rfl rfl ?_ | (refine aw_cond rfl rfl ?_ ?_ <;> intro hb <;> ((try simp only [bn] at hb); first | subst hb | simp only [hb])) | refine aw_skip ?_ | refine aw_exit ?_ | refine aw_block ?_)
  refine ⟨_, (by simp only [aResult, aResL, aRes, avs, tts] <;> rfl), ?_⟩
  rw [hst]; rfl
 | true =>
  have hlt : k < who.length := by simpa using g0
  have hix : (0 : Int) ≤ (k : Int) := by omega
  have hgd := strsP_get hlt
  have w1 : IntKind.i64.wrap ((k : Int) + 1) = ((k + 1 : Nat) : Int) := wrap_succ hlt (by omega)
  have hpn := hpl who[k] (.inr (List.getElem_mem hlt))
  have hpc := hpl company (.inl rfl)
  have hnext : (who.take (k + 1)).foldl (stepK ix company pc who.length) s = stepK ix company pc who.length st who[k] := by
   rw [List.take_add_one, List.getElem?_eq_getElem hlt, List.foldl_append, ← hst]; rfl
  have hok2 := stepK_ok (ix := ix) (company := company) (x := who[k]) hpc0 hpc1 (n := who.length) (by omega) hkok
  have hlen2 := stepK_len ix company who[k] pc who.length st
  generalize who[k] = x at hgd hpn hnext hok2 hlen2
  obtain ⟨K, hK⟩ : ∃ K, K = H.set lm (.mp 63 3 (.flat [.int .i64, .int .i64]) (kE st)) := ⟨_, rfl⟩
  have hKm : K[lm]? = some (.mp 63 3 (.flat [.int .i64, .int .i64]) (kE st)) := by rw [hK]; exact get_set_same hll
  have hKc : K[lc]? = some (.box 61 [.fn (.func 34) [] [.ptr ls 0]]) := by rw [hK, get_set_ne hne]; exact hlc
  have hKs : K[ls]? = H[ls]? := by rw [hK, get_set_ne hne2]
  have hKset : ∀ o, K.set lm o = H.set lm o := fun o => by rw [hK, List.set_set]
  rw [← hK]
  have hKl : K.length = H.length := by rw [hK]; simp
  obtain ⟨b1, hb1⟩ : ∃ b, decide (pc > 0) = b := ⟨_, rfl⟩
  obtain ⟨b2, hb2⟩ : ∃ b, decide (x = company) = b := ⟨_, rfl⟩
  cases b1 with
  | false =>
   have hstep : stepK ix company pc who.length st x = st := by
    unfold stepK
    rw [if_neg fun h => absurd h.1 (of_decide_eq_false hb1)]
   rw [hstep] at hnext
   repeat' (first | (refine aops_cons ?_; first | (refine zg rfl ?_; first | refine grd_on ?_ | refine zo ?_ | (refine zs ?_ ?_ <;> intro hb <;> ((try simp only [bn] at hb); first | subst hb | simp only [hb]))) | (apply aops_o; rfl; simp only [estep, avs, tts, seval, hix, hlt, hgd, hln, hb1, hb2, w1] <;> exact rr)) | refine aops_nil ?_ | (refine ahops_cons ?_; first | (refine yg rfl ?_; first | refine hgrd_on ?_ | refine yo ?_ | (refine ys ?_ ?_ <;> intro hb <;> ((try simp only [bn] at hb); first | subst hb | simp only [hb]))) | (apply ahops_o; rfl; simp only [hstep, avs, tts, seval, hix, hlt, hgd, hln, hb1, hb2, w1] <;> exact rr; first | trivial | omega)) | refine ahops_nil ?_ | refine aw_seq ?_ | refine zr ttOk ?_ | refine zR 0 ttOk mixed ?_ | refine zR 1 ttOk mixed ?_ | refine zR 2 ttOk mixed ?_ | refine zR 3 ttOk mixed ?_ | refine zf rfl rfl ?_ | refine zt rfl rfl ?_ | (refine aw_cond rfl rfl ?_ ?_ <;> intro hb <;> ((try simp only [bn] at hb); first | subst hb | simp only [hb])) | refine aw_skip ?_ | refine aw_exit ?_ | refine aw_block ?_)
   refine ⟨who.length - (k + 1), _, _, by omega, ⟨?_, .inl rfl⟩, k + 1, _, rfl, hlt, rfl, ?_, ?_, ?_, rfl⟩
   ·simp [EnvLe, List.replicate]
   ·rw [hnext]
    refine ⟨hkok.nd, hkok.out, hkok.lo, fun y => ?_⟩
    have := hkok.hi y
    omega
   ·rw [hnext]; omega
   ·rw [hnext, hK]
  | true =>
   cases b2 with
   | true =>
    have hstep : stepK ix company pc who.length st x = st := by
     unfold stepK
     rw [if_neg fun h => h.2 (of_decide_eq_true hb2)]
    rw [hstep] at hnext
    repeat' (first | (refine aops_cons ?_; first | (refine zg rfl ?_; first | refine grd_on ?_ | refine zo ?_ | (refine zs ?_ ?_ <;> intro hb <;> ((try simp only [bn] at hb); first | subst hb | simp only [hb]))) | (apply aops_o; rfl; simp only [estep, avs, tts, seval, hix, hlt, hgd, hln, hb1, hb2, w1, Bool.not_true] <;> exact rr)) | refine aops_nil ?_ | (refine ahops_cons ?_; first | (refine yg rfl ?_; first | refine hgrd_on ?_ | refine yo ?_ | (refine ys ?_ ?_ <;> intro hb <;> ((try simp only [bn] at hb); first | subst hb | simp only [hb]))) | (apply ahops_o; rfl; simp only [hstep, avs, tts, seval, hix, hlt, hgd, hln, hb1, hb2, w1, Bool.not_true] <;> exact rr; first | trivial | omega)) | refine ahops_nil ?_ | refine aw_seq ?_ | refine zr ttOk ?_ | refine zR 0 ttOk mixed ?_ | refine zR 1 ttOk mixed ?_ | refine zR 2 ttOk mixed ?_ | refine zR 3 ttOk mixed ?_ | refine zf rfl rfl ?_ | refine zt rfl rfl ?_ | (refine aw_cond rfl rfl ?_ ?_ <;> intro hb <;> ((try simp only [bn] at hb); first | subst hb | simp only [hb])) | refine aw_skip ?_ | refine aw_exit ?_ | refine aw_block ?_)
    refine ⟨who.length - (k + 1), _, _, by omega, ⟨?_, .inl rfl⟩, k + 1, _, rfl, hlt, rfl, ?_, ?_, ?_, rfl⟩
    ·simp [EnvLe, List.replicate]
    ·rw [hnext]
     refine ⟨hkok.nd, hkok.out, hkok.lo, fun y => ?_⟩
     have := hkok.hi y
     omega
    ·rw [hnext]; omega
    ·rw [hnext, hK]
   | false =>
    repeat refine aw_seq ?_
    refine aw_cond rfl rfl (fun hb => ?_) fun hb => ?_
    rotate_left
    ·cases hb
    refine aw_skip ?_
    repeat refine aw_seq ?_
    refine aw_block ?_
    repeat refine aw_seq ?_
    refine zr ttOk ?_
    repeat (refine aops_cons ?_; first | (apply aops_o; rfl; simp only [estep, avs, tts, seval, hix, hlt, hgd, hln] <;> exact rr) | (refine zg rfl ?_; first | refine grd_on ?_ | refine zo ?_))
    refine aops_nil ?_
    repeat refine aw_seq ?_
    refine zr ttOk ?_
    repeat (refine aops_cons ?_; first | (apply aops_o; rfl; simp only [estep, avs, tts, seval, hb1, hb2, Bool.not_false, Bool.not_true] <;> exact rr) | (refine zg rfl ?_; first | refine grd_on ?_ | refine zo ?_))
    refine aops_nil ?_
    repeat refine aw_seq ?_
    refine aw_cond rfl rfl (fun hb => ?_) fun hb => ?_
    rotate_left
    ·cases hb
    obtain ⟨ci, hci⟩ : ∃ ci, ci = ix company := ⟨_, rfl⟩
    obtain ⟨ni, hni⟩ : ∃ ni, ni = ix x := ⟨_, rfl⟩
    obtain ⟨u, hu⟩ : ∃ u, u = st.2 (ci, ni) := ⟨_, rfl⟩
    obtain ⟨q, hq⟩ : ∃ q, q = (pc * 60).tdiv who.length := ⟨_, rfl⟩
    obtain ⟨j, hj1, hj2, hj3, hj4, hj5⟩ := entry_mpE keq_K hkok.nd (kV st) (ci, ni) (z := .d (.v (.int .i64 0))) (fun h => by simp [kV, hkok.out _ h])
    rw [← hci] at hpc
    rw [← hni] at hpn
    simp only [tA, iA] at hpc hpn
    obtain ⟨K1, hK1⟩ : ∃ K1, K1 = K.set lm (.mp 63 3 (.flat [.int .i64, .int .i64]) (mpE Rg.encK (insK st.1 (ci, ni)) (kV st))) := ⟨_, rfl⟩
    obtain ⟨K2, hK2⟩ : ∃ K2, K2 = K.set lm (.mp 63 3 (.flat [.int .i64, .int .i64]) (kE (addK st (ci, ni) q))) := ⟨_, rfl⟩
    have hKll : lm < K.length := lt_of_get hKm
    have q1 : eidx (kE st) (.agg #[.int .i64 ci, .int .i64 ni]) = j := hj1
    have q2 : ment (kE st) (.agg #[.int .i64 ci, .int .i64 ni]) (.d (.v (.int .i64 0))) = mpE Rg.encK (insK st.1 (ci, ni)) (kV st) := hj2
    have q3 : (mget (kE st) (.agg #[.int .i64 ci, .int .i64 ni])).getD (.d (.v (.int .i64 0))) = .d (.v (.int .i64 u)) := by
     have huv : kV st (ci, ni) = .d (.v (.int .i64 u)) := by rw [hu]; rfl
     rw [← huv]; exact mgetD_eq keq_K (k := (ci, ni)) fun h => by rw [huv, hu, hkok.out _ h]
    have q4 : ((kE st).length ≤ 9223372036854775807) = True := eq_true (by unfold kE; rw [mpE_len]; omega)
    have hK1m : K1[lm]? = some (.mp 63 3 (.flat [.int .i64, .int .i64]) (mpE Rg.encK (insK st.1 (ci, ni)) (kV st))) := by rw [hK1]; exact get_set_same hKll
    have q5 : ((0 : Int) ≤ (j : Int)) = True := eq_true (by omega)
    have q6 : (j < (mpE Rg.encK (insK st.1 (ci, ni)) (kV st)).length) = True := eq_true (by rw [mpE_len]; exact hj3)
    have q7 : K1.set lm (.mp 63 3 (.flat [.int .i64, .int .i64]) ((mpE Rg.encK (insK st.1 (ci, ni)) (kV st)).modify j fun p => (p.1, .d (.v (.int .i64 (u + q)))))) = K2 := by
     rw [hj5, hu, addK_kE, hK1, List.set_set, hK2]
    have ksh : keyShape (.flat [.int .i64, .int .i64]) (.agg #[.int .i64 ci, .int .i64 ni]) = true := rfl
    have hwpos : 0 < who.length := by omega
    have hqb := q_bd hpc0 hpc1 hwpos
    have hub := hkok.hi (ci, ni)
    have hul := hkok.lo (ci, ni)
    rw [← hu] at hub hul
    rw [← hq] at hqb
    have wm : IntKind.i64.wrap (pc * 60) = pc * 60 := by rw [IntKind.wrap_i64]; omega
    have wu : IntKind.i64.wrap (u + q) = u + q := by rw [IntKind.wrap_i64]; omega
    have hwl : ((who.length : Int) = 0) = False := eq_false (by omega)
    have wq : IntKind.i64.wrap ((pc * 60).tdiv (who.length : Int)) = q := by rw [← hq, IntKind.wrap_i64]; omega
    refine aw_orders ttOk mixed (by kernel_rfl) (by kernel_rfl) (fun β env KK => (β 17 = true → β 15 = true) ∧ (β 17 = true → β 8 = true) ∧ KK = (if β 17 = true then K2 else if β 15 = true then K1 else K) ∧ env = (.mp lm :: .d (.v (.string company)) :: .d (.v (.int .i64 pc)) :: .d (.sl 1 (who.map fun s => [PD.v (.string s)])) :: .ptr lc 0 :: .undef :: .undef :: .undef :: .undef :: .undef :: .d (.v (.string x)) :: .d (.sl 1 (who.map fun s => [PD.v (.string s)])) :: .d (.v (.int .i64 (who.length : Int))) :: .d (.v (.int .i64 (k : Int))) :: List.replicate 10 .undef ++ (if β 0 = true then .mp lm else .undef) :: (if β 1 = true then .fn (.func 34) [] [.ptr ls 0] else .undef) :: (if β 2 = true then .d (.v (.string company)) else .undef) :: (if β 3 = true then .d (.v (.int .i64 ci)) else .undef) :: (if β 4 = true then .fn (.func 34) [] [.ptr ls 0] else .undef) :: (if β 5 = true then .d (.v (.string x)) else .undef) :: (if β 6 = true then .d (.v (.int .i64 ni)) else .undef) :: (if β 7 = true then .agg [.d (.v (.int .i64 ci)), .d (.v (.int .i64 ni))] else .undef) :: (if β 8 = true then .d (.v (.int .i64 u)) else .undef) :: (if β 9 = true then .d (.v (.int .i64 pc)) else .undef) :: (if β 10 = true then .d (.v (.int .i64 (pc * 60))) else .undef) :: (if β 11 = true then .d (.sl 1 (who.map fun s => [PD.v (.string s)])) else .undef) :: (if β 12 = true then .d (.v (.int .i64 (who.length : Int))) else .undef) :: (if β 13 = true then .d (.v (.int .i64 q)) else .undef) :: (if β 14 = true then .d (.v (.int .i64 (u + q))) else .undef) :: (if β 15 = true then .tup [.d (.v (.int .i64 u)), .d (.v (.int .i64 (j : Int)))] else .undef) :: (if β 16 = true then .d (.v (.int .i64 (j : Int))) else .undef) :: .undef :: [])) (H0 := K) (env0 := (.mp lm :: .d (.v (.string company)) :: .d (.v (.int .i64 pc)) :: .d (.sl 1 (who.map fun s => [PD.v (.string s)])) :: .ptr lc 0 :: .undef :: .undef :: .undef :: .undef :: .undef :: .d (.v (.string x)) :: .d (.sl 1 (who.map fun s => [PD.v (.string s)])) :: .d (.v (.int .i64 (who.length : Int))) :: .d (.v (.int .i64 (k : Int))) :: List.replicate 28 .undef)) ⟨by simp [EnvLe, List.replicate], .inl rfl⟩ ⟨by simp, by simp, by simp, by simp⟩ ?_ ?_
    ·rintro β env KK ⟨h1715, h178, hKK, rfl⟩ hN2 i o hget hβ hr
     simp only [rp]
     simp only [arr_list] at hget
     have hKKc : KK[lc]? = some (.box 61 [.fn (.func 34) [] [.ptr ls 0]]) := by
      rw [hKK]; split
      ·rw [hK2, get_set_ne hne]; exact hKc
      ·split
       ·rw [hK1, get_set_ne hne]; exact hKc
       ·exact hKc
     have hKKs : KK[ls]? = H[ls]? := by
      rw [hKK]; split
      ·rw [hK2, get_set_ne hne2]; exact hKs
      ·split
       ·rw [hK1, get_set_ne hne2]; exact hKs
       ·exact hKs
     have hKKm : β 17 = false → ∃ es, KK[lm]? = some (.mp 63 3 (.flat [.int .i64, .int .i64]) es) ∧ (mget es (.agg #[.int .i64 ci, .int .i64 ni])).getD (.d (.v (.int .i64 0))) = .d (.v (.int .i64 u)) := fun h17 => by
      have huv : kV st (ci, ni) = .d (.v (.int .i64 u)) := by rw [hu]; rfl
      rw [hKK, h17]
      cases h15 : β 15 with
      | true => exact ⟨_, by simp only [hK1, Bool.false_eq_true, if_false, if_true]; exact get_set_same hKll, by rw [← huv]; exact mgetD_eq keq_K (k := (ci, ni)) fun h => absurd (mem_insK.2 (.inr rfl)) h⟩
      | false => exact ⟨_, by simp only [Bool.false_eq_true, if_false]; exact hKm, by rw [← huv]; exact mgetD_eq keq_K (k := (ci, ni)) fun h => by rw [huv, hu, hkok.out _ h]⟩
     rcases i with _ | _ | _ | _ | _ | _ | _ | _ | _ | _ | _ | _ | _ | _ | _ | _ | _ | _ | i
     all_goals (try simp only [l_get0, l_getS, Option.some.injEq, List.getElem?_nil, reduceCtorEq] at hget)
     all_goals (try subst hget)
     all_goals (simp [ready1, Region.binds] at hr)
     all_goals try (simp only [Nat.zero_add, Nat.reduceAdd] at hβ)
     ·simp only [AGuard, AStep, ite_tt, avs, tts, Nat.reduceAdd, Nat.reduceSub, reduceCtorEq, hr, hKKc]
      exact ⟨by simpa using h1715, by simpa using h178, by simpa using hKK, by simp⟩
     ·simp only [AGuard, AStep, ite_tt, avs, tts, Nat.reduceAdd, Nat.reduceSub, reduceCtorEq, hr, hKKc]
      exact ⟨by simpa using h1715, by simpa using h178, by simpa using hKK, by simp⟩
     ·simp only [AGuard, AStep, ite_tt, avs, tts, Nat.reduceAdd, Nat.reduceSub, reduceCtorEq, hr, hKKc]
      exact ⟨by simpa using h1715, by simpa using h178, by simpa using hKK, by simp⟩
     ·simp only [AGuard, AStep, ite_tt, avs, tts, Nat.reduceAdd, Nat.reduceSub, reduceCtorEq, hr, hKKc]
      refine ⟨_, hpc KK hKKs, ?_⟩
      rintro r H' ⟨rfl, rfl⟩ _
      exact ⟨by simpa using h1715, by simpa using h178, by simpa using hKK, by simp⟩
     ·simp only [AGuard, AStep, ite_tt, avs, tts, Nat.reduceAdd, Nat.reduceSub, reduceCtorEq, hr, hKKc]
      exact ⟨by simpa using h1715, by simpa using h178, by simpa using hKK, by simp⟩
     ·simp only [AGuard, AStep, ite_tt, avs, tts, Nat.reduceAdd, Nat.reduceSub, reduceCtorEq, hr, hKKc]
      exact ⟨by simpa using h1715, by simpa using h178, by simpa using hKK, by simp⟩
     ·simp only [AGuard, AStep, ite_tt, avs, tts, Nat.reduceAdd, Nat.reduceSub, reduceCtorEq, hr, hKKc]
      refine ⟨_, hpn KK hKKs, ?_⟩
      rintro r H' ⟨rfl, rfl⟩ _
      exact ⟨by simpa using h1715, by simpa using h178, by simpa using hKK, by simp⟩
     ·simp only [AGuard, AStep, ite_tt, avs, tts, Nat.reduceAdd, Nat.reduceSub, reduceCtorEq, hr, hKKc]
      exact ⟨by simpa using h1715, by simpa using h178, by simpa using hKK, by simp⟩
     ·have h17 : β 17 = false := by cases h : β 17 with
       | false => rfl
       | true => rw [h178 h] at hβ; cases hβ
      obtain ⟨es, he1, he2⟩ := hKKm h17
      simp only [AGuard, AStep, ite_tt, avs, tts, Nat.reduceAdd, Nat.reduceSub, reduceCtorEq, hr, hKKc, he1, he2, ksh]
      exact ⟨by simpa using h1715, by simp, by simpa using hKK, by simp⟩
     ·simp only [AGuard, AStep, ite_tt, avs, tts, Nat.reduceAdd, Nat.reduceSub, reduceCtorEq, hr, hKKc]
      exact ⟨by simpa using h1715, by simpa using h178, by simpa using hKK, by simp⟩
     ·simp only [AGuard, AStep, ite_tt, avs, tts, Nat.reduceAdd, Nat.reduceSub, reduceCtorEq, hr, hKKc, wm]
      exact ⟨by simpa using h1715, by simpa using h178, by simpa using hKK, by simp⟩
     ·simp only [AGuard, AStep, ite_tt, avs, tts, Nat.reduceAdd, Nat.reduceSub, reduceCtorEq, hr, hKKc]
      exact ⟨by simpa using h1715, by simpa using h178, by simpa using hKK, by simp⟩
     ·simp only [AGuard, AStep, ite_tt, avs, tts, Nat.reduceAdd, Nat.reduceSub, reduceCtorEq, hr, hKKc, hln]
      exact ⟨by simpa using h1715, by simpa using h178, by simpa using hKK, by simp⟩
     ·simp only [AGuard, AStep, ite_tt, avs, tts, Nat.reduceAdd, Nat.reduceSub, reduceCtorEq, hr, hKKc, hwl, wq]
      exact ⟨by simpa using h1715, by simpa using h178, by simpa using hKK, by simp⟩
     ·simp only [AGuard, AStep, ite_tt, avs, tts, Nat.reduceAdd, Nat.reduceSub, reduceCtorEq, hr, hKKc, wu]
      exact ⟨by simpa using h1715, by simp, by simpa using hKK, by simp⟩
     ·have h17 : β 17 = false := by cases h : β 17 with
       | false => rfl
       | true => rw [h1715 h] at hβ; cases hβ
      have hKe : KK = K := by rw [hKK, h17, hβ]; simp
      subst hKe
      simp only [AGuard, AStep, ite_tt, avs, tts, Nat.reduceAdd, Nat.reduceSub, reduceCtorEq, hr, hKm, ksh, q1, q2, q3, q4, hK1.symm]
      exact ⟨by simp, by simp [h17], by simp [h17], by simp⟩
     ·simp only [AGuard, AStep, ite_tt, avs, tts, Nat.reduceAdd, Nat.reduceSub, reduceCtorEq, hr, hKKc]
      exact ⟨by simp, by simpa using h178, by simpa [hr] using hKK, by simp⟩
     ·have hKe : KK = K1 := by rw [hKK, hβ]; simp [hr]
      subst hKe
      simp only [AGuard, AStep, ite_tt, avs, tts, Nat.reduceAdd, Nat.reduceSub, reduceCtorEq, hr, hK1m, q5, q6, q7, Int.toNat_natCast, and_self, if_true]
      exact ⟨by simp, by simp, by simp, by simp⟩
    ·rintro β env KK ⟨h1715, h178, hKK, rfl⟩ hall
     have a15 := hall 15 (by decide)
     have a17 := hall 17 (by decide)
     rw [a17] at hKK
     simp only [if_true] at hKK
     subst hKK
     simp only [List.replicate, List.cons_append, List.nil_append, hall 0 (by decide), hall 1 (by decide), hall 2 (by decide), hall 3 (by decide), hall 4 (by decide), hall 5 (by decide), hall 6 (by decide), hall 7 (by decide), hall 8 (by decide), hall 9 (by decide), hall 10 (by decide), hall 11 (by decide), hall 12 (by decide), hall 13 (by decide), hall 14 (by decide), a15, hall 16 (by decide), a17, ite_tt]
     clear hall h1715 h178
     have hstep : stepK ix company pc who.length st x = addK st (ci, ni) q := by
      unfold stepK
      rw [if_pos ⟨of_decide_eq_true hb1, of_decide_eq_false hb2⟩, ← hci, ← hni, ← hq]
     rw [hstep] at hnext hok2 hlen2
     show AW _ _ _ _ _
     repeat' (first | (refine aops_cons ?_; first | (refine zg rfl ?_; first | refine grd_on ?_ | refine zo ?_ | (refine zs ?_ ?_ <;> intro hb <;> ((try simp only [bn] at hb); first | subst hb | simp only [hb]))) | (apply aops_o; rfl; simp only [estep, avs, tts, seval, w1] <;> exact rr)) | refine aops_nil ?_ | (refine ahops_cons ?_; first | (refine yg rfl ?_; first | refine hgrd_on ?_ | refine yo ?_ | (refine ys ?_ ?_ <;> intro hb <;> ((try simp only [bn] at hb); first | subst hb | simp only [hb]))) | (apply ahops_o; rfl; simp only [hstep, avs, tts, seval, w1] <;> exact rr; first | trivial | omega)) | refine ahops_nil ?_ | refine aw_seq ?_ | refine zr ttOk ?_ | refine zR 0 ttOk mixed ?_ | refine zR 1 ttOk mixed ?_ | refine zR 2 ttOk mixed ?_ | refine zR 3 ttOk mixed ?_ | refine zf rfl rfl ?_ | refine zt rfl rfl ?_ | (refine aw_cond rfl rfl ?_ ?_ <;> intro hb <;> ((try simp only [bn] at hb); first | subst hb | simp only [hb])) | refine aw_skip ?_ | refine aw_exit ?_ | refine aw_block ?_)
     refine ⟨who.length - (k + 1), _, _, by omega, ⟨?_, .inl rfl⟩, k + 1, _, rfl, hlt, rfl, ?_, ?_, ?_, rfl⟩
     ·simp [EnvLe, List.replicate]
     ·rw [hnext]
      refine ⟨hok2.nd, hok2.out, hok2.lo, fun y => ?_⟩
      have := hok2.hi y
      omega
     ·rw [hnext]; omega
     ·rw [hnext, hK2, hKset]
end
end Av
end Go.Proofs.YtdekcppfpgeneaaGreatDoor
set_option linter.unusedVariables false
set_option linter.unusedSimpArgs false
namespace Go.Proofs.YtdekcppfpgeneaaGreatDoor
open Go Go.RowKit
namespace Av
attribute [local irreducible] AW AOps AHOps
open Nt Rg

/-! slices.SortedFunc over the keys of a map of pairs, from outside: the row is pure data. -/
def prP (p : Int × Int) : List PD := [.v (.int .i64 p.1), .v (.int .i64 p.2)]
def prsP (ps : List (Int × Int)) : PD := .sl 2 (ps.map prP)
theorem sim_none (w : World) : Sim w ⟨fun _ => none, [], w⟩ := ⟨Below.refl _ w, fun l o h => by simp at h, fun l l' o o' b h => by simp at h⟩
theorem sortedf_a {base : World} {H : AHeap} {l lb tb kt et : Nat} {ks0 : KS} (s0 : KSt) (hl : H[l]? = some (.mp kt et ks0 (kE s0))) (hlb : H[lb]? = some (.box tb [.mp l])) (hnd : s0.1.Nodup) (hok : ∀ p ∈ s0.1, okK p) (hlen : s0.1.length ≤ 1000000) :
  ReadA Tryz.prog base 64 [.fn (.func 95) [] [.ptr lb 0], .fn (.func 66) [] []] H (.d (prsP (sortK s0.1))) :=
 read_of_rep Tryz.call64 fun s vs hH hs ha => by
  subst hH
  simp only [RepL, Rep, PtrRep, hlb] at ha
  obtain ⟨v, t, e1, ⟨a, c, rfl, ha1, pv, pt, hc1, ⟨_, bb, hμb, rfl⟩, rfl⟩, v2, t2, rfl, ⟨a2, c2, rfl, ha2, hc2⟩, rfl⟩ := ha
  have ea : a = #[] := Array.toList_eq_nil_iff.1 ha1
  have ea2 : a2 = #[] := Array.toList_eq_nil_iff.1 ha2
  have ec2 : c2 = #[] := Array.toList_eq_nil_iff.1 hc2
  have ec : c = #[.pointer (some ⟨bb, 0, none⟩)] := Array.ext' hc1
  subst ea ea2 ec2 ec
  obtain ⟨b', arr, h1, h2, h3, h4⟩ := hs.obj lb _ hlb
  rw [hμb] at h1; cases h1
  simp only [RepL, Rep, MpRep, hl] at h4
  obtain ⟨mv, mt, e4, ⟨_, b, hμ, rfl⟩, rfl⟩ := h4
  obtain ⟨_, b', ents, clock, m1, m2, m3, m4, m5⟩ := hs.obj l _ hl
  rw [hμ] at m1; cases m1
  have hk := maprep_keys m4
  have hk2 : (kE s0).map (·.1) = s0.1.map Rg.encK := by unfold kE mpE; rw [List.map_map]; rfl
  have hm : KMap s0.1 b ents clock s.w := ⟨hnd, hok, m3, m5.st, hk.trans hk2, by omega⟩
  have hbb : bb < s.w.heap.size := (Array.getElem?_eq_some_iff.1 h3).1
  have hin := (sorted_k hm hlen (H := []) (fun o ho => nomatch ho)).run (fun _ => none) s.w vs (sim_none s.w) (by
   rw [e1]
   simp only [RepL, Rep, PCells, PRep, small, and_true]
   refine ⟨_, _, rfl, ⟨_, _, rfl, rfl, _, _, rfl, ⟨bb, 0, rfl, ⟨hbb, ?_⟩, rfl, .map (some b), ?_, rfl⟩, rfl⟩, _, _, rfl, ⟨_, _, rfl, rfl, rfl⟩, rfl⟩
   ·rintro ⟨l', o', q, _⟩; simp at q
   ·unfold World.cell?
    simp only [h3]
    have := congrArg (fun z => z[0]?) e4
    simpa using this)
  refine hin.mono ?_
  rintro e w' ⟨v, r, H', μ', rfl, ⟨G, rfl, rfl⟩, _, hs', hr, _⟩
  refine ⟨v, rfl, hs'.below, fun s' hw hi => ?_⟩
  have hg : (([] : AHeap) ++ .row 63 2 0 (isK (sortK s0.1)) :: G)[0]? = some (.row 63 2 0 (isK (sortK s0.1))) := rfl
  have hsl : (sortK s0.1).length = s0.1.length := List.length_mergeSort _
  simp only [Rep, MsRep, List.length_nil, hg] at hr
  rcases hr.2.2 trivial (by rw [isK_len, hsl]) with ⟨q1, rfl, q3⟩ | ⟨b2, cap, q1, rfl, q3, q4, q5⟩
  ·have e0 : sortK s0.1 = [] := List.eq_nil_of_length_eq_zero (by omega)
   simp only [Rep, prsP, PRep, e0, List.map_nil, List.length_nil]
   exact ⟨none, 0, rfl, Nat.le_refl _, by unfold maxLen; omega, .inl trivial⟩
  ·obtain ⟨_, _, hh⟩ := hs'.obj 0 _ hg
   rcases hh with ⟨z1, _⟩ | ⟨b3, arr3, fr, rest, z1, z2, z3, z4, z5⟩
   ·simp only at z1 q1; rw [q1] at z1; cases z1
   simp only at z1 q1
   rw [q1] at z1; cases z1
   obtain ⟨rfl, hsm⟩ := repL_isK.1 z5
   simp only [Rep, prsP, PRep, List.length_map]
   refine ⟨_, cap, by rw [hsl], by rw [hsl]; exact q3, q4, .inr ⟨b2, 0, rfl, hi b2 (Array.getElem?_eq_some_iff.1 z3).1 z2, ?_⟩⟩
   refine rows_pc fun i hi' => ?_
   have hi2 : i < (sortK s0.1).length := by simpa using hi'
   have e5 : ((sortK s0.1).map prP).getD i [] = prP (sortK s0.1)[i] := by
    rw [List.getD_eq_getElem?_getD, List.getElem?_map, List.getElem?_eq_getElem hi2]; rfl
   have cell : ∀ c, c < 2 → s'.w.cell? ⟨b2, 0 + i * 2 + c, none⟩ = (encK (sortK s0.1)[i])[c]? := fun c hc => by
    rw [hw]
    unfold World.cell?
    simp only [z3, Nat.zero_add]
    have hlt : i * 2 + c < (flatE (sortK s0.1)).length := by rw [flatE_len]; omega
    rw [← Array.getElem?_toList, z4, List.getElem?_append_left hlt, flatE_get _ _ _ hc, List.getElem?_eq_getElem hi2]
    rfl
   have sm := hsm _ (List.getElem_mem hi2)
   rw [e5]
   refine ⟨rfl, ?_⟩
   simp only [prP, PCells, PRep, and_true]
   exact ⟨⟨rfl, _, cell 0 (by omega), rfl, sm.1⟩, rfl, _, cell 1 (by omega), rfl, sm.2⟩
end Av
end Go.Proofs.YtdekcppfpgeneaaGreatDoor
set_option linter.unusedVariables false
set_option linter.unusedSimpArgs false
namespace Go.Proofs.YtdekcppfpgeneaaGreatDoor
open Go Go.RowKit
namespace Av
attribute [local irreducible] AW AOps AHOps
open Nt Rg

/-! register.links. -/
theorem keysf_a {base : World} {H : AHeap} {l : Nat} : CallsA Tryz.prog base 65 [.mp l] H fun r H' => r = .fn (.func 95) [] [.ptr H.length 0] ∧ ∃ tb, H' = H ++ [.box tb [.mp l]] := by
 refine callsA_enter ttOk Tryz.call65 Tryz.func65 rfl fun hB hb hF => ?_
 rw [Tryz.results65, Tryz.ntmps65]
 simp only [arr_list, List.length_cons, List.length_nil, List.replicate, List.cons_append, List.nil_append, Nat.reduceAdd, Nat.reduceSub]
 repeat' (first | (refine aops_cons ?_; first | (refine zg rfl ?_; first | refine grd_on ?_ | refine zo ?_ | (refine zs ?_ ?_ <;> intro hb <;> ((try simp only [bn] at hb); first | subst hb | simp only [hb]))) | (apply aops_o; rfl; simp only [estep, avs, tts, seval] <;> exact rr)) | refine aops_nil ?_ | (refine ahops_cons ?_; first | (refine yg rfl ?_; first | refine hgrd_on ?_ | refine yo ?_ | (refine ys ?_ ?_ <;> intro hb <;> ((try simp only [bn] at hb); first | subst hb | simp only [hb]))) | (apply ahops_o; rfl; simp only [hstep, avs, tts, seval] <;> exact rr; first | trivial | omega)) | refine ahops_nil ?_ | refine aw_seq ?_ | refine zr ttOk ?_ | refine zR 0 ttOk mixed ?_ | refine zR 1 ttOk mixed ?_ | refine zR 2 ttOk mixed ?_ | refine zR 3 ttOk mixed ?_ | refine zf rfl rfl ?_ | refine zt rfl rfl ?_ | (refine aw_cond rfl rfl ?_ ?_ <;> intro hb <;> ((try simp only [bn] at hb); first | subst hb | simp only [hb])) | refine aw_skip ?_ | refine aw_exit ?_ | refine aw_block ?_)
 exact aw_ret ⟨_, rfl, rfl, _, rfl⟩
def lkC (s : KSt) (p : Int × Int) : List PD := [.v (.int .i64 p.1), .v (.int .i64 p.2), .v (.bool (ofR (s.2 p) 6000).neg), .v (.string (ofR (s.2 p) 6000).num), .v (.string (ofR (s.2 p) 6000).den)]
def lksP (s : KSt) (ks : List (Int × Int)) : PD := .sl 5 (ks.map (lkC s))
theorem rows_dI (s : KSt) (l : List (Int × Int)) : (l.map fun p => (lkC s p).map AV.d) = dI (l.map (lkC s)) := by rw [dI, List.map_map]; rfl
section
variable {base : World} (hT : Tabs base)
include hT
set_option maxRecDepth 100000 in
set_option maxHeartbeats 4000000 in
theorem links_a {H : AHeap} {l : Nat} (s : KSt) {M : Int} (hl : H[l]? = some (.mp 63 3 (.flat [.int .i64, .int .i64]) (kE s))) (hk : KOk s M) (hM : M ≤ 1000000000000000) (hok : ∀ p ∈ s.1, okK p) (hlen : s.1.length ≤ 1000000) :
  ReadA Tryz.prog base 38 [.mp l] H (.d (lksP s (sortK s.1))) := by
 refine read_enter ttOk Tryz.call38 Tryz.func38 rfl fun hB hb hF => ?_
 rw [Tryz.results38, Tryz.ntmps38]
 simp only [arr_list, List.length_cons, List.length_nil, List.replicate, List.cons_append, List.nil_append, Nat.reduceAdd, Nat.reduceSub]
 clear hF hb
 repeat refine aw_seq ?_
 refine zr ttOk ?_
 repeat (refine aops_cons ?_; first | (apply aops_o; rfl; simp only [estep, avs, tts, seval] <;> exact rr) | (refine zg rfl ?_; first | refine grd_on ?_ | refine zo ?_))
 refine aops_nil ?_
 repeat refine aw_seq ?_
 refine zr ttOk ?_
 repeat (refine aops_cons ?_; first | (apply aops_o; rfl; simp only [estep, avs, tts, seval] <;> exact rr) | (refine zg rfl ?_; first | refine grd_on ?_ | refine zo ?_))
 refine aops_call rfl (by simp only [avs] <;> rfl) (⟨_, keysf_a, ?_⟩)
 rintro r H' ⟨rfl, tb, rfl⟩ hle
 have cs := sortedf_a (base := base) (H := H ++ [.box tb [.mp l]]) (lb := H.length) (tb := tb) s (by rw [List.getElem?_append_left (lt_of_get hl)]; exact hl) (by simp) hk.nd hok hlen
 simp only [prsP] at cs
 repeat (refine aops_cons ?_; first | (apply aops_o; rfl; simp only [estep, avs, tts, seval] <;> exact rr) | (refine zg rfl ?_; first | refine grd_on ?_ | refine zo ?_))
 refine zD rfl (cs) ?_
 repeat (refine aops_cons ?_; first | (apply aops_o; rfl; simp only [estep, avs, tts, seval] <;> exact rr) | (refine zg rfl ?_; first | refine grd_on ?_ | refine zo ?_))
 refine aops_nil ?_
 repeat refine aw_seq ?_
 refine zr ttOk ?_
 repeat (refine aops_cons ?_; first | (apply aops_o; rfl; simp only [estep, avs, tts, seval] <;> exact rr) | (refine zg rfl ?_; first | refine grd_on ?_ | refine zo ?_))
 refine aops_nil ?_
 obtain ⟨ks, hks⟩ : ∃ ks, sortK s.1 = ks := ⟨_, rfl⟩
 have hkl : ks.length ≤ 1000000 := by rw [← hks, sortK, List.length_mergeSort]; exact hlen
 rw [hks]
 have hpl : (ks.map prP).length = ks.length := by simp
 have hperm : ∀ p ∈ ks, p ∈ s.1 := fun p hp => (List.mergeSort_perm s.1 _).mem_iff.1 (by rw [← hks] at hp; exact hp)
 clear hks cs hle
 show AW _ _ _ _ _
 refine aw_nilrow 4 42 5 rfl (by simp only [l_set0, l_setS] <;> rfl) ?_
 repeat' (first | (refine aops_cons ?_; first | (refine zg rfl ?_; first | refine grd_on ?_ | refine zo ?_ | (refine zs ?_ ?_ <;> intro hb <;> ((try simp only [bn] at hb); first | subst hb | simp only [hb]))) | (apply aops_o; rfl; simp only [estep, avs, tts, seval, hpl] <;> exact rr)) | refine aops_nil ?_ | (refine ahops_cons ?_; first | (refine yg rfl ?_; first | refine hgrd_on ?_ | refine yo ?_ | (refine ys ?_ ?_ <;> intro hb <;> ((try simp only [bn] at hb); first | subst hb | simp only [hb]))) | (apply ahops_o; rfl; simp only [hstep, avs, tts, seval, hpl] <;> exact rr; first | trivial | omega)) | refine ahops_nil ?_ | refine aw_seq ?_ | refine zr ttOk ?_ | refine zR 0 ttOk mixed ?_ | refine zR 1 ttOk mixed ?_ | refine zR 2 ttOk mixed ?_ | refine zR 3 ttOk mixed ?_ | refine zf rfl rfl ?_ | refine zt rfl rfl ?_ | (refine aw_cond rfl rfl ?_ ?_ <;> intro hb <;> ((try simp only [bn] at hb); first | subst hb | simp only [hb])) | refine aw_skip ?_ | refine aw_exit ?_ | refine aw_block ?_)
 refine aw_loop (H0 := H ++ [.box tb [.mp l], .row 42 5 0 []]) (fun n env H' => ∃ k, n = ks.length - k ∧ k ≤ ks.length ∧ H' = H ++ [.box tb [.mp l], .row 42 5 0 ((ks.take k).map fun p => (lkC s p).map AV.d)] ∧ env = (.mp l :: .undef :: .undef :: .undef :: .ms (H.length + 1) 0 k :: List.replicate 7 .undef ++ .d (.sl 2 (ks.map prP)) :: .d (.v (.int .i64 (ks.length : Int))) :: .d (.v (.int .i64 (k : Int))) :: List.replicate 21 .undef)) ?_ ⟨0, rfl, Nat.zero_le _, by simp, rfl⟩ ?_
 ·exact ⟨by simp [EnvLe, List.replicate], .inl (by simp)⟩
 rintro n env H' ⟨k, rfl, hk2, rfl, rfl⟩ hN
 simp only [rp]
 obtain ⟨c0, g0⟩ : ∃ c0, decide ((k : Int) < (ks.length : Int)) = c0 := ⟨_, rfl⟩
 repeat refine aw_seq ?_
 refine zr ttOk ?_
 repeat (refine aops_cons ?_; first | (apply aops_o; rfl; simp only [estep, avs, tts, seval, g0] <;> exact rr) | (refine zg rfl ?_; first | refine grd_on ?_ | refine zo ?_))
 refine aops_nil ?_
 cases c0 with
 | true =>
  have hlt : k < ks.length := by simpa using g0
  have hix : (0 : Int) ≤ (k : Int) := by omega
  have hgd : (ks.map prP).getD k [] = [.v (.int .i64 ks[k].1), .v (.int .i64 ks[k].2)] := by
   rw [List.getD_eq_getElem?_getD, List.getElem?_map, List.getElem?_eq_getElem hlt]; rfl
  have hin : ks[k] ∈ s.1 := hperm _ (List.getElem_mem hlt)
  have hgt : (mget (kE s) (.agg #[.int .i64 ks[k].1, .int .i64 ks[k].2])).getD (.d (.v (.int .i64 0))) = .d (.v (.int .i64 (s.2 ks[k]))) := mgetD_eq keq_K (k := ks[k]) fun h => absurd hin h
  have hlo := hk.lo ks[k]
  have hhi := hk.hi ks[k]
  have co := of_a (base := base) hT (s.2 ks[k]) 6000 (by omega) (by omega) (by omega) (by omega)
  have hsn : ((ks.take k).map fun p => (lkC s p).map AV.d) ++ [(lkC s ks[k]).map AV.d] = (ks.take (k + 1)).map fun p => (lkC s p).map AV.d := by
   rw [List.take_add_one, List.getElem?_eq_getElem hlt, List.map_append]; rfl
  have hln : ((ks.take k).map fun p => (lkC s p).map AV.d).length = k := by simp; omega
  have w1 : IntKind.i64.wrap ((k : Int) + 1) = ((k + 1 : Nat) : Int) := wrap_succ hlt (by omega)
  have d1 : k + 1 ≤ 9223372036854775807 := by omega
  have d2 : (k + 1) * 56 ≤ 140737488355328 := by omega
  have hl2 : ∀ G : AHeap, (H ++ G)[l]? = some (.mp 63 3 (.flat [.int .i64, .int .i64]) (kE s)) := fun G => by rw [List.getElem?_append_left (lt_of_get hl)]; exact hl
  have ksh : keyShape (.flat [.int .i64, .int .i64]) (.agg #[.int .i64 ks[k].1, .int .i64 ks[k].2]) = true := rfl
  obtain ⟨r, hr⟩ : ∃ r, ofR (s.2 ks[k]) 6000 = r := ⟨_, rfl⟩
  rw [hr] at co
  have hbl : ∀ n, (AObj.row 42 5 0 ((ks.take (k + 1)).map fun p => (lkC s p).map AV.d)).bel n := fun n => by rw [rows_dI]; exact bel_dI _
  generalize ((ks.take k).map fun p => (lkC s p).map AV.d) = rows at hsn hln ⊢
  obtain ⟨rows2, hr2⟩ : ∃ rows2, ((ks.take (k + 1)).map fun p => (lkC s p).map AV.d) = rows2 := ⟨_, rfl⟩
  rw [hr2] at hsn hbl
  simp only [lkC, hr, List.map_cons, List.map_nil] at hsn
  obtain ⟨x, hx⟩ : ∃ x, ks[k] = x := ⟨_, rfl⟩
  rw [hx] at hgd hgt co hsn ksh
  obtain ⟨x1, x2⟩ := x
  obtain ⟨rn, ru, rd⟩ := r
  simp only [ratA, tA, iA] at co hgd hgt hsn ksh
  repeat' (first | (refine aops_cons ?_; first | (refine zg rfl ?_; first | refine grd_on ?_ | refine zo ?_ | (refine zs ?_ ?_ <;> intro hb <;> ((try simp only [bn] at hb); first | subst hb | simp only [hb]))) | (apply aops_o; rfl; simp only [estep, avs, tts, seval, hix, hlt, hgd, hpl, hgt, hln, w1, d1, d2, ksh, got hl] <;> exact rr) | (refine za rfl ?_; refine zp (co) ?_)) | refine aops_nil ?_ | (refine ahops_cons ?_; first | (refine yg rfl ?_; first | refine hgrd_on ?_ | refine yo ?_ | (refine ys ?_ ?_ <;> intro hb <;> ((try simp only [bn] at hb); first | subst hb | simp only [hb]))) | (apply ahops_o; rfl; simp only [hstep, avs, tts, seval, hix, hlt, hgd, hpl, hgt, hln, w1, d1, d2, ksh, got hl] <;> exact rr; first | trivial | omega) | (refine ya rfl ?_; refine yp (co) ?_)) | refine ahops_nil ?_ | refine aw_seq ?_ | refine zr ttOk ?_ | refine zR 0 ttOk mixed ?_ | refine zR 1 ttOk mixed ?_ | refine zR 2 ttOk mixed ?_ | refine zR 3 ttOk mixed ?_ | refine zf rfl rfl ?_ | refine zt rfl rfl ?_ | (refine aw_cond rfl rfl ?_ ?_ <;> intro hb <;> ((try simp only [bn] at hb); first | subst hb | simp only [hb])) | refine aw_skip ?_ | refine aw_exit ?_ | refine aw_block ?_)
  rw [hsn]
  refine ⟨ks.length - (k + 1), _, H ++ [.box tb [.mp l], .row 42 5 0 rows2], by omega, ⟨?_, .inr ⟨by simp, ?_, .more hB (.cons ?_ (.cons (hbl _) .nil)), [.box 63 [.d (.v (.int .i64 x1)), .d (.v (.int .i64 x2))], .box 40 [.d (.v (.bool rn)), .d (.v (.string ru)), .d (.v (.string rd))], .row 42 5 0 [[.d (.v (.int .i64 x1)), .d (.v (.int .i64 x2)), .d (.v (.bool rn)), .d (.v (.string ru)), .d (.v (.string rd))]]], by simp⟩⟩, k + 1, rfl, hlt, by rw [hr2], rfl⟩
  ·simp [EnvLe, List.replicate]
  ·have := lt_of_get hl
   simp [belL, AV.bel, List.replicate]; omega
  ·have := lt_of_get hl
   simp [AObj.bel, belL, AV.bel]; omega
 | false =>
  have he : k = ks.length := by
                 have : ¬ k < ks.length := by simpa using g0
                 omega
  subst he
  rw [List.take_length]
  repeat' (first | (refine aops_cons ?_; first | (refine zg rfl ?_; first | refine grd_on ?_ | refine zo ?_ | (refine zs ?_ ?_ <;> intro hb <;> ((try simp only [bn] at hb); first | subst hb | simp only [hb]))) | (apply aops_o; rfl; simp only [estep, avs, tts, seval] <;> exact rr)) | refine aops_nil ?_ | (refine ahops_cons ?_; first | (refine yg rfl ?_; first | refine hgrd_on ?_ | refine yo ?_ | (refine ys ?_ ?_ <;> intro hb <;> ((try simp only [bn] at hb); first | subst hb | simp only [hb]))) | (apply ahops_o; rfl; simp only [hstep, avs, tts, seval] <;> exact rr; first | trivial | omega)) | refine ahops_nil ?_ | refine aw_seq ?_ | refine zr ttOk ?_ | refine zR 0 ttOk mixed ?_ | refine zR 1 ttOk mixed ?_ | refine zR 2 ttOk mixed ?_ | refine zR 3 ttOk mixed ?_ | refine zf rfl rfl ?_ | refine zt rfl rfl ?_ | (refine aw_cond rfl rfl ?_ ?_ <;> intro hb <;> ((try simp only [bn] at hb); first | subst hb | simp only [hb])) | refine aw_skip ?_ | refine aw_exit ?_ | refine aw_block ?_)
  refine aw_ret ⟨_, rfl, _, rfl, ?_⟩
  have hu : unI (ks.map fun p => (lkC s p).map AV.d) = some (ks.map (lkC s)) := by rw [rows_dI]; exact unI_dI _
  simp [sealA, hu, lksP]
end
end Av
end Go.Proofs.YtdekcppfpgeneaaGreatDoor
set_option linter.unusedVariables false
set_option linter.unusedSimpArgs false
namespace Go.Proofs.YtdekcppfpgeneaaGreatDoor
open Go Go.RowKit
namespace Av
open Nt Rg

/-! register.At: the plain state of its loop. -/
theorem shareK_fold_ok {ix : ByteArray → Int} {company : ByteArray} {pc : Int} (h0 : 0 ≤ pc) (h1 : pc ≤ 100) {n : Nat} : ∀ (who : List ByteArray), (0 < n ∨ who = []) → ∀ {s : KSt} {M : Int}, KOk s M → KOk (who.foldl (stepK ix company pc n) s) (M + 6000 * who.length)
 | [], _, s, M, h => by simpa using h
 | x :: r, hn, s, M, h => by
  have hn' : 0 < n := by rcases hn with h | h; exact h; cases h
  have := shareK_fold_ok (ix := ix) (company := company) h0 h1 r (.inl hn') (stepK_ok (ix := ix) (company := company) (x := x) h0 h1 hn' h)
  rw [List.foldl_cons]
  have e : M + 6000 * ((x :: r).length : Int) = M + 6000 + 6000 * (r.length : Int) := by simp; omega
  rw [e]; exact this
theorem shareK_ok {ix : ByteArray → Int} {company : ByteArray} {pc : Int} (h0 : 0 ≤ pc) (h1 : pc ≤ 100) (who : List ByteArray) {s : KSt} {M : Int} (h : KOk s M) : KOk (shareK ix company pc who s) (M + 6000 * who.length) :=
 shareK_fold_ok h0 h1 who (by cases who with | nil => exact .inr rfl | cons a r => exact .inl (by simp)) h
theorem shareK_len (ix : ByteArray → Int) (company : ByteArray) (pc : Int) (who : List ByteArray) (s : KSt) : (shareK ix company pc who s).1.length ≤ s.1.length + who.length := by
 have main : ∀ (n : Nat) (l : List ByteArray) (s : KSt), (l.foldl (stepK ix company pc n) s).1.length ≤ s.1.length + l.length := fun n l => by
  induction l with
  | nil => intro s; simp
  | cons x r ih =>
   intro s
   rw [List.foldl_cons]
   have h1 := ih (stepK ix company pc n s x)
   have h2 := stepK_len ix company x pc n s
   rw [List.length_cons]; omega
 exact main _ who s
/-- who votes where nothing is pledged, who shares the capital -/
def whoC (h : Hd) : List ByteArray := if h.nominee = emp then h.holder :: h.joint else [h.nominee]
def whoV (h : Hd) : List ByteArray := if h.pledged = emp then whoC h else [h.pledged]
def stC (ix : ByteArray → Int) (day : Int) (s : KSt) (h : Hd) : KSt := if runsB h day = true then shareK ix h.company h.capital (whoC h) s else s
def stV (ix : ByteArray → Int) (day : Int) (s : KSt) (h : Hd) : KSt := if runsB h day = true then shareK ix h.company h.votes (whoV h) s else s
def nilK : KSt := ([], fun _ => 0)
theorem nilK_ok : KOk nilK 0 := ⟨List.nodup_nil, fun _ _ => rfl, fun _ => Int.le_refl _, fun _ => Int.le_refl _⟩
def capK (ix : ByteArray → Int) (day : Int) (l : List Hd) : KSt := l.foldl (stC ix day) nilK
def votK (ix : ByteArray → Int) (day : Int) (l : List Hd) : KSt := l.foldl (stV ix day) nilK
theorem capK_snoc (ix : ByteArray → Int) (day : Int) (l : List Hd) (h : Hd) : capK ix day (l ++ [h]) = stC ix day (capK ix day l) h := by simp [capK]
theorem votK_snoc (ix : ByteArray → Int) (day : Int) (l : List Hd) (h : Hd) : votK ix day (l ++ [h]) = stV ix day (votK ix day l) h := by simp [votK]
theorem whoC_len {h : Hd} (hj : h.joint.length ≤ 1000) : (whoC h).length ≤ 1001 := by
 unfold whoC; split <;> simp; omega
theorem whoV_len {h : Hd} (hj : h.joint.length ≤ 1000) : (whoV h).length ≤ 1001 := by
 unfold whoV; split
 ·exact whoC_len hj
 ·simp
theorem kok_mono {s : KSt} {M M' : Int} (h : KOk s M) (hM : M ≤ M') : KOk s M' := ⟨h.nd, h.out, h.lo, fun k => Int.le_trans (h.hi k) hM⟩
theorem capK_ok (ix : ByteArray → Int) (day : Int) (l : List Hd) (hp : ∀ h ∈ l, 0 ≤ h.capital ∧ h.capital ≤ 100) (hj : ∀ h ∈ l, h.joint.length ≤ 1000) (n : Nat) (hn : n ≤ l.length) : KOk (capK ix day (l.take n)) (6006000 * n) ∧ (capK ix day (l.take n)).1.length ≤ 1001 * n := by
 induction n with
 | zero => exact ⟨by simpa [capK] using nilK_ok, by simp [capK, nilK]⟩
 | succ n ih =>
  obtain ⟨h1, h2⟩ := ih (by omega)
  have hm := List.getElem_mem (show n < l.length by omega)
  have hw := whoC_len (hj _ hm)
  rw [List.take_add_one, List.getElem?_eq_getElem (show n < l.length by omega), Option.toList_some, capK_snoc]
  unfold stC
  split
  ·have k1 := shareK_ok (ix := ix) (company := l[n].company) (hp _ hm).1 (hp _ hm).2 (whoC l[n]) h1
   have k2 := shareK_len ix l[n].company l[n].capital (whoC l[n]) (capK ix day (l.take n))
   exact ⟨kok_mono k1 (by omega), by omega⟩
  ·exact ⟨kok_mono h1 (by omega), by omega⟩
theorem votK_ok (ix : ByteArray → Int) (day : Int) (l : List Hd) (hp : ∀ h ∈ l, 0 ≤ h.votes ∧ h.votes ≤ 100) (hj : ∀ h ∈ l, h.joint.length ≤ 1000) (n : Nat) (hn : n ≤ l.length) : KOk (votK ix day (l.take n)) (6006000 * n) ∧ (votK ix day (l.take n)).1.length ≤ 1001 * n := by
 induction n with
 | zero => exact ⟨by simpa [votK] using nilK_ok, by simp [votK, nilK]⟩
 | succ n ih =>
  obtain ⟨h1, h2⟩ := ih (by omega)
  have hm := List.getElem_mem (show n < l.length by omega)
  have hw := whoV_len (hj _ hm)
  rw [List.take_add_one, List.getElem?_eq_getElem (show n < l.length by omega), Option.toList_some, votK_snoc]
  unfold stV
  split
  ·have k1 := shareK_ok (ix := ix) (company := l[n].company) (hp _ hm).1 (hp _ hm).2 (whoV l[n]) h1
   have k2 := shareK_len ix l[n].company l[n].votes (whoV l[n]) (votK ix day (l.take n))
   exact ⟨kok_mono k1 (by omega), by omega⟩
  ·exact ⟨kok_mono h1 (by omega), by omega⟩
/-- a name's place among the parties -/
def ixS (l : List ByteArray) (x : ByteArray) : Int := ((l.findIdx fun y => decide (y = x)) : Nat)
theorem place_ix {base : World} {H : AHeap} (ps : List ByteArray) (hp : ps.Pairwise fun a b => leT a b = true) (hnd : ps.Nodup) {x : ByteArray} (hx : x ∈ ps) {lb : Nat} {c v : AV} (hbx : H[lb]? = some (.box 25 [.d (strsP ps), c, v])) (hl : ps.length ≤ 1000000) : ReadA Tryz.prog base 34 [tA x, .ptr lb 0] H (iA (ixS ps x)) := by
 have hi0 : (ps.findIdx fun y => decide (y = x)) < ps.length := List.findIdx_lt_length_of_exists ⟨x, hx, by simp⟩
 have he0 : ps[ps.findIdx fun y => decide (y = x)] = x := by simpa using List.findIdx_getElem (w := hi0)
 unfold ixS
 generalize (ps.findIdx fun y => decide (y = x)) = ii at hi0 he0 ⊢
 have hi := hi0
 have he := he0
 refine place_a base ps x hbx hl ii hi he (fun j hj hlt => ?_) (fun j hj hle => ?_)
 ·have h1 := List.pairwise_iff_getElem.1 hp j ii hj hi hlt
  rw [he] at h1
  refine ltT_iff.2 ⟨h1, fun e => ?_⟩
  exact List.pairwise_iff_getElem.1 hnd j ii hj hi hlt (by rw [he]; exact e)
 ·cases hc : ltT ps[j] x with
  | false => rfl
  | true =>
   exfalso
   obtain ⟨h2, h3⟩ := ltT_iff.1 hc
   rcases Nat.lt_or_ge ii j with h4 | h4
   ·have h1 := List.pairwise_iff_getElem.1 hp ii j hi hj h4
    rw [he] at h1
    exact h3 (leT_antisymm h2 h1)
   ·have : j = ii := by omega
    subst this
    exact h3 he
end Av
end Go.Proofs.YtdekcppfpgeneaaGreatDoor
set_option linter.unusedVariables false
set_option linter.unusedSimpArgs false
namespace Go.Proofs.YtdekcppfpgeneaaGreatDoor
open Go Go.RowKit Go.Sort Go.Shelf Go.Lib
namespace Rg
open Av Nt

/-! What a holding gives to a pair of places; At's maps az sums. -/
def giveC (ix : ByteArray → Int) (company : ByteArray) (pc : Int) (k : Int × Int) (x : ByteArray) : Bool := decide (pc > 0 ∧ x ≠ company ∧ (ix company, ix x) = k)
def giveF (ix : ByteArray → Int) (company : ByteArray) (pc : Int) (who : List ByteArray) (k : Int × Int) : Int := sumF (giveC ix company pc k) (fun _ => (pc * 60).tdiv who.length) who
theorem foldK_val (ix : ByteArray → Int) (company : ByteArray) (pc : Int) (n : Nat) (k : Int × Int) : ∀ (who : List ByteArray) (s : KSt), (who.foldl (stepK ix company pc n) s).2 k = s.2 k + sumF (giveC ix company pc k) (fun _ => (pc * 60).tdiv n) who
 | [], s => by simp [sumF]
 | x :: r, s => by
  rw [List.foldl_cons, foldK_val ix company pc n k r]
  simp only [sumF]
  have : (stepK ix company pc n s x).2 k = s.2 k + (if giveC ix company pc k x = true then (pc * 60).tdiv n else 0) := by
   unfold stepK giveC
   by_cases h : pc > 0 ∧ x ≠ company
   ·rw [if_pos h]
    unfold addK
    by_cases e : k = (ix company, ix x)
    ·subst e
     simp [h.1, h.2]
    ·simp only [decide_eq_true_eq]
     rw [if_neg e, if_neg (fun h' => e h'.2.2.symm)]; omega
   ·rw [if_neg h]
    simp only [decide_eq_true_eq]
    rw [if_neg (fun h' => h ⟨h'.1, h'.2.1⟩)]; omega
  rw [this]; omega
theorem shareK_val (ix : ByteArray → Int) (company : ByteArray) (pc : Int) (who : List ByteArray) (s : KSt) (k : Int × Int) : (shareK ix company pc who s).2 k = s.2 k + giveF ix company pc who k := foldK_val ..
theorem foldK_mem (ix : ByteArray → Int) (company : ByteArray) (pc : Int) (n : Nat) (k : Int × Int) : ∀ (who : List ByteArray) (s : KSt), k ∈ (who.foldl (stepK ix company pc n) s).1 ↔ k ∈ s.1 ∨ ∃ x ∈ who, giveC ix company pc k x = true
 | [], s => by simp
 | x :: r, s => by
  rw [List.foldl_cons, foldK_mem ix company pc n k r]
  have : k ∈ (stepK ix company pc n s x).1 ↔ k ∈ s.1 ∨ giveC ix company pc k x = true := by
   unfold stepK giveC
   by_cases h : pc > 0 ∧ x ≠ company
   ·rw [if_pos h]
    show k ∈ insK s.1 (ix company, ix x) ↔ _
    rw [mem_insK, decide_eq_true_eq]
    constructor
    ·rintro (h1 | h1)
     ·exact .inl h1
     ·exact .inr ⟨h.1, h.2, h1.symm⟩
    ·rintro (h1 | h1)
     ·exact .inl h1
     ·exact .inr h1.2.2.symm
   ·rw [if_neg h, decide_eq_true_eq]
    constructor
    ·exact .inl
    ·rintro (h1 | h1)
     ·exact h1
     ·exact absurd ⟨h1.1, h1.2.1⟩ h
  rw [this]
  simp only [List.mem_cons, exists_eq_or_imp, or_assoc]
theorem stepK_nodup {ix : ByteArray → Int} {company : ByteArray} {pc : Int} {n : Nat} {s : KSt} {x : ByteArray} (h : s.1.Nodup) : (stepK ix company pc n s x).1.Nodup := by
 unfold stepK
 split
 ·exact insK_nodup h _
 ·exact h
theorem foldK_nodup {ix : ByteArray → Int} {company : ByteArray} {pc : Int} {n : Nat} : ∀ (who : List ByteArray) {s : KSt}, s.1.Nodup → (who.foldl (stepK ix company pc n) s).1.Nodup
 | [], s, h => h
 | x :: r, s, h => by rw [List.foldl_cons]; exact foldK_nodup r (stepK_nodup h)
/-- a fold over holdings: pc and who tell what is shared -/
def shrK (pc : Hd → Int) (who : Hd → List ByteArray) (ix : ByteArray → Int) (day : Int) (s : KSt) (h : Hd) : KSt := if runsB h day = true then shareK ix h.company (pc h) (who h) s else s
theorem stC_shr : stC = shrK Hd.capital whoC := rfl
theorem stV_shr : stV = shrK Hd.votes whoV := rfl
section
variable (pc : Hd → Int) (who : Hd → List ByteArray) (ix : ByteArray → Int) (day : Int)
theorem shr_val (k : Int × Int) : ∀ (l : List Hd) (s : KSt), (l.foldl (shrK pc who ix day) s).2 k = s.2 k + sumF (fun h => runsB h day) (fun h => giveF ix h.company (pc h) (who h) k) l
 | [], s => by simp [sumF]
 | h :: r, s => by
  rw [List.foldl_cons, shr_val k r]
  simp only [sumF]
  unfold shrK
  by_cases e : runsB h day = true
  ·rw [if_pos e, if_pos e, shareK_val]; omega
  ·rw [if_neg e, if_neg e]; omega
theorem shr_mem (k : Int × Int) : ∀ (l : List Hd) (s : KSt), k ∈ (l.foldl (shrK pc who ix day) s).1 ↔ k ∈ s.1 ∨ ∃ h ∈ l, runsB h day = true ∧ ∃ x ∈ who h, giveC ix h.company (pc h) k x = true
 | [], s => by simp
 | h :: r, s => by
  rw [List.foldl_cons, shr_mem k r]
  have : k ∈ (shrK pc who ix day s h).1 ↔ k ∈ s.1 ∨ (runsB h day = true ∧ ∃ x ∈ who h, giveC ix h.company (pc h) k x = true) := by
   unfold shrK
   by_cases e : runsB h day = true
   ·rw [if_pos e, shareK, foldK_mem]; simp [e]
   ·rw [if_neg e]; simp [e]
  rw [this]
  simp only [List.mem_cons, exists_eq_or_imp, or_assoc]
theorem shr_nodup : ∀ (l : List Hd) {s : KSt}, s.1.Nodup → (l.foldl (shrK pc who ix day) s).1.Nodup
 | [], s, h => h
 | h :: r, s, hs => by
  rw [List.foldl_cons]
  refine shr_nodup r ?_
  unfold shrK
  split
  ·exact foldK_nodup _ hs
  ·exact hs
end
theorem capK_nodup (ix : ByteArray → Int) (day : Int) (l : List Hd) : (capK ix day l).1.Nodup := shr_nodup _ _ ix day l List.nodup_nil
theorem votK_nodup (ix : ByteArray → Int) (day : Int) (l : List Hd) : (votK ix day l).1.Nodup := shr_nodup _ _ ix day l List.nodup_nil
def capV (ix : ByteArray → Int) (day : Int) (l : List Hd) (k : Int × Int) : Int := sumF (fun h => runsB h day) (fun h => giveF ix h.company h.capital (whoC h) k) l
def votV (ix : ByteArray → Int) (day : Int) (l : List Hd) (k : Int × Int) : Int := sumF (fun h => runsB h day) (fun h => giveF ix h.company h.votes (whoV h) k) l
theorem capK_val (ix : ByteArray → Int) (day : Int) (l : List Hd) (k : Int × Int) : (capK ix day l).2 k = capV ix day l k := by
 have := shr_val Hd.capital whoC ix day k l nilK
 rw [show nilK.2 k = 0 from rfl, Int.zero_add] at this
 exact this
theorem votK_val (ix : ByteArray → Int) (day : Int) (l : List Hd) (k : Int × Int) : (votK ix day l).2 k = votV ix day l k := by
 have := shr_val Hd.votes whoV ix day k l nilK
 rw [show nilK.2 k = 0 from rfl, Int.zero_add] at this
 exact this
theorem capK_mem (ix : ByteArray → Int) (day : Int) (l : List Hd) (k : Int × Int) : k ∈ (capK ix day l).1 ↔ ∃ h ∈ l, runsB h day = true ∧ ∃ x ∈ whoC h, giveC ix h.company h.capital k x = true := by
 have := shr_mem Hd.capital whoC ix day k l nilK
 rw [show (k ∈ nilK.1) = False by simp [nilK], false_or] at this
 exact this
theorem votK_mem (ix : ByteArray → Int) (day : Int) (l : List Hd) (k : Int × Int) : k ∈ (votK ix day l).1 ↔ ∃ h ∈ l, runsB h day = true ∧ ∃ x ∈ whoV h, giveC ix h.company h.votes k x = true := by
 have := shr_mem Hd.votes whoV ix day k l nilK
 rw [show (k ∈ nilK.1) = False by simp [nilK], false_or] at this
 exact this
/-! the keys in order -/
def leK (x y : Int × Int) : Prop := x.1 < y.1 ∨ (x.1 = y.1 ∧ x.2 ≤ y.2)
theorem leK_anti (a b : Int × Int) (h : leK a b) (k : leK b a) : a = b := by
 obtain ⟨a1, a2⟩ := a; obtain ⟨b1, b2⟩ := b
 simp only [leK] at h k
 have : a1 = b1 := by omega
 have : a2 = b2 := by omega
 simp [*]
theorem sortK_perm (l : List (Int × Int)) : (sortK l).Perm l := List.mergeSort_perm ..
theorem sortK_sorted (l : List (Int × Int)) : (sortK l).Pairwise leK := by
 have h := List.pairwise_mergeSort (le := fun x y => !ltOf cmpK y x) (fun a b c h1 h2 => by
  simp only [Bool.not_eq_true', ltK_false] at *; omega) (fun a b => by
  cases h : ltOf cmpK b a
  ·rfl
  ·have h' := (ltK b a).1 h
   simp only [Bool.not_true, Bool.false_or, Bool.not_eq_true', ltK_false]; omega) l
 refine h.imp fun {a b} h => ?_
 simp only [Bool.not_eq_true', ltK_false] at h
 unfold leK; omega
theorem sortK_mem {l : List (Int × Int)} {k : Int × Int} : k ∈ sortK l ↔ k ∈ l := (sortK_perm l).mem_iff
theorem sortK_nodup {l : List (Int × Int)} (h : l.Nodup) : (sortK l).Nodup := (sortK_perm l).nodup_iff.2 h
theorem sortK_eq {l m : List (Int × Int)} (hl : l.Nodup) (hm : m.Nodup) (hs : m.Pairwise leK) (h : ∀ x, x ∈ l ↔ x ∈ m) : sortK l = m :=
 sorted_unique leK_anti (sortK_sorted l) hs (sortK_nodup hl) hm fun x => sortK_mem.trans (h x)
end Rg
end Go.Proofs.YtdekcppfpgeneaaGreatDoor
set_option linter.unusedVariables false
set_option linter.unusedSimpArgs false
namespace Go.Proofs.YtdekcppfpgeneaaGreatDoor
open Go Go.RowKit
namespace Av
attribute [local irreducible] AW AOps AHOps
open Nt Rg

/-! register.At. -/
theorem bel_kE {n : Nat} {kt et : Nat} {ks : KS} (s : KSt) : (AObj.mp kt et ks (kE s)).bel n := by
 show belM n (kE s)
 unfold kE mpE
 induction s.1 with
 | nil => exact trivial
 | cons a r ih => exact ⟨trivial, ih⟩
/-- ways come together; a row of one's own is frozen first -/
theorem aw_midF {X : Ctx} {c y : Code} {Q Q2 : Exit → List AV → AHeap → Prop} {env : List AV} {H : AHeap} (Q0 : List AV → AHeap → Prop) (h : AW X c (fun ex env' H' => ex = .normal ∧ ∃ env1 H1 env0 H0, ((∃ l, frzL H'[l]? l env' = env1 ∧ H'.set l .dead = H1) ∨ (env' = env1 ∧ H' = H1)) ∧ Goes X env1 H1 env0 H0 ∧ Q0 env0 H0) env H) (k : ∀ env0 H0, Q0 env0 H0 → AW X y Q2 env0 H0) : AW X c (thenA (fun env H => AW X y Q2 env H) Q) env H :=
 h.mono fun ex env H ⟨e, env1, H1, env0, H0, f, g, q⟩ => by
  subst e
  rcases f with ⟨l, e1, e2⟩ | ⟨rfl, rfl⟩
  ·exact aw_frz l e1 e2 (aw_goes g (k _ _ q))
  ·exact aw_goes g (k _ _ q)
theorem name_ne {t : ByteArray} (h : nameB t = true) : t ≠ ⟨#[]⟩ := by
 unfold nameB at h
 simp only [Bool.and_eq_true, Bool.not_eq_true', decide_eq_false_iff_not] at h
 exact h.2.1
theorem joint_name {h : Hd} (hp : properB h = true) : ∀ x ∈ h.joint, nameB x = true := by
 unfold properB pr2 at hp
 simp only [Bool.and_eq_true] at hp
 exact fun x hx => List.all_eq_true.1 hp.2.1.1 x hx
theorem who_in {l : List Hd} {h : Hd} (hm : h ∈ l) (hp : properB h = true) {x : ByteArray} (hx : x = h.company ∨ x ∈ whoC h ∨ x ∈ whoV h) : x ∈ partiesS l := by
 rw [mem_partiesS]
 have hc : x ∈ whoC h → x ∈ namesH h := fun hx => by
  unfold whoC at hx
  split at hx
  ·rcases List.mem_cons.1 hx with rfl | hx
   ·simp [namesH]
   ·have := name_ne (joint_name hp _ hx)
    simp [namesH, hx, this]
  ·rename_i hn
   simp only [List.mem_singleton] at hx
   subst hx
   have hn' : h.nominee ≠ ⟨#[]⟩ := hn
   simp [namesH, hn']
 refine ⟨h, hm, ?_⟩
 rcases hx with rfl | hx | hx
 ·simp [namesH]
 ·exact hc hx
 ·unfold whoV at hx
  split at hx
  ·exact hc hx
  ·rename_i hn
   simp only [List.mem_singleton] at hx
   subst hx
   have hn' : h.pledged ≠ ⟨#[]⟩ := hn
   simp [namesH, hn']
theorem valid_all {l : List Hd} (h : validB l = true) : (∀ x ∈ l, properB x = true) ∧ (partiesS l).length ≤ 60 := by
 unfold validB at h
 simp only [Bool.and_eq_true, decide_eq_true_eq] at h
 exact ⟨fun x hx => List.all_eq_true.1 h.1.1 x hx, h.2.2.1⟩
theorem ixS_bd (ps : List ByteArray) (x : ByteArray) (h : ps.length ≤ 60) : 0 ≤ ixS ps x ∧ ixS ps x ≤ 60 := by
 unfold ixS
 have := List.findIdx_le_length (xs := ps) (p := fun y => decide (y = x))
 omega
def nilV : AV := .d (.v (.slice none 0 0))
def strcA (names : List ByteArray) (a b : PD) : AV := .agg [.d (strsP names), .d a, .d b]
def atA (l : List Hd) (day : Int) : AV := .tup (if validB l && dayB day then [strcA (partiesS l) (lksP (capK (ixS (partiesS l)) day l) (sortK (capK (ixS (partiesS l)) day l).1)) (lksP (votK (ixS (partiesS l)) day l) (sortK (votK (ixS (partiesS l)) day l).1)), iA 0] else [.agg [nilV, nilV, nilV], iA 1])
section
variable {base : World} (hT : Tabs base)
include hT
set_option maxRecDepth 100000 in
set_option maxHeartbeats 8000000 in
theorem at_a (l : List Hd) (day : Int) (hs : ∀ h ∈ l, Small h) (hj : ∀ h ∈ l, h.joint.length ≤ 1000) (hl : l.length ≤ 900) : PureA Tryz.prog base 13 [.d (hdsP l), iA day] (atA l day) := by
 have c1 := rvalid_a (base := base) l hs hj hl
 have c2 := day_a base day
 have c3 := parties_a (base := base) l hs hj hl
 refine pure_enter ttOk Tryz.call13 Tryz.func13 rfl fun H hB hb hF => ?_
 rw [Tryz.results13, Tryz.ntmps13]
 simp only [arr_list, List.length_cons, List.length_nil, List.replicate, List.cons_append, List.nil_append, Nat.reduceAdd, Nat.reduceSub]
 clear hF hb
 simp only [iA, boA] at c1 c2 ⊢
 unfold atA
 obtain ⟨bv, hbv⟩ : ∃ b, validB l = b := ⟨_, rfl⟩
 obtain ⟨bd, hbd⟩ : ∃ b, dayB day = b := ⟨_, rfl⟩
 rw [hbv] at c1 ⊢
 rw [hbd] at c2 ⊢
 repeat' (first | (refine aops_cons ?_; first | (refine zg rfl ?_; first | refine grd_on ?_ | refine zo ?_ | (refine zs ?_ ?_ <;> intro hb <;> ((try simp only [bn] at hb); first | subst hb | simp only [hb]))) | (apply aops_o; rfl; simp only [estep, avs, tts, seval, hds_len l] <;> exact rr) | (refine za rfl ?_; first | refine zp (c1) ?_ | refine zp (c2) ?_ | refine zp (c3) ?_)) | refine aops_nil ?_ | (refine ahops_cons ?_; first | (refine yg rfl ?_; first | refine hgrd_on ?_ | refine yo ?_ | (refine ys ?_ ?_ <;> intro hb <;> ((try simp only [bn] at hb); first | subst hb | simp only [hb]))) | (apply ahops_o; rfl; simp only [hstep, avs, tts, seval, hds_len l] <;> exact rr; first | trivial | omega) | (refine ya rfl ?_; first | refine yp (c1) ?_ | refine yp (c2) ?_ | refine yp (c3) ?_)) | refine ahops_nil ?_ | refine aw_seq ?_ | refine zr ttOk ?_ | refine zR 0 ttOk mixed ?_ | refine zR 1 ttOk mixed ?_ | refine zR 2 ttOk mixed ?_ | refine zR 3 ttOk mixed ?_ | refine zf rfl rfl ?_ | refine zt rfl rfl ?_ | (refine aw_cond rfl rfl ?_ ?_ <;> intro hb <;> ((try simp only [bn] at hb); first | subst hb | simp only [hb])) | refine aw_skip ?_ | refine aw_exit ?_ | refine aw_block ?_)
 ·show AW _ _ _ _ _
  refine aw_ret ⟨.tup [.agg [.d (.v (.slice none 0 0)), .d (.v (.slice none 0 0)), .d (.v (.slice none 0 0))], .d (.v (.int .i64 1))], ?_, _, rfl, ?_⟩
  ·simp only [aResult, aResL, aRes, avs, tts] <;> rfl
  ·simp only [Bool.and_false, Bool.false_and, Bool.false_eq_true, if_false]; rfl
 ·clear c1 c2 c3
  have hln := hds_len l
  obtain ⟨ix, hix⟩ : ∃ ix, ixS (partiesS l) = ix := ⟨_, rfl⟩
  simp only [hix]
  refine aw_loop (H0 := H ++ [.box 25 [nilV, nilV, nilV], .box 25 [.d (strsP (partiesS l)), nilV, nilV], .mp 63 3 (.flat [.int .i64, .int .i64]) (kE nilK), .mp 63 3 (.flat [.int .i64, .int .i64]) (kE nilK), .box 61 [.fn (.func 34) [] [.ptr (H.length + 1) 0]]])
   (fun n env H' => ∃ k, n = l.length - k ∧ k ≤ l.length ∧ H' = H ++ [.box 25 [nilV, nilV, nilV], .box 25 [.d (strsP (partiesS l)), nilV, nilV], .mp 63 3 (.flat [.int .i64, .int .i64]) (kE (capK ix day (l.take k))), .mp 63 3 (.flat [.int .i64, .int .i64]) (kE (votK ix day (l.take k))), .box 61 [.fn (.func 34) [] [.ptr (H.length + 1) 0]]] ∧ env = (.d (hdsP l) :: .d (.v (.int .i64 day)) :: .undef :: .undef :: .ptr H.length 0 :: .undef :: .ptr (H.length + 1) 0 :: .mp (H.length + 2) :: .mp (H.length + 3) :: .undef :: .fn (.func 36) [] [.ptr (H.length + 4) 0] :: List.replicate 19 .undef ++ .d (hdsP l) :: .d (.v (.int .i64 (l.length : Int))) :: .d (.v (.int .i64 (k : Int))) :: List.replicate 49 .undef)) ?_ ⟨0, rfl, Nat.zero_le _, rfl, rfl⟩ ?_
  ·exact ⟨by simp [EnvLe, List.replicate, hdsP, hln], .inl rfl⟩
  rintro n env H' ⟨k, rfl, hk, rfl, rfl⟩ hN
  simp only [List.replicate, List.cons_append, List.nil_append, hdsP]
  obtain ⟨c0, g0⟩ : ∃ c0, decide ((k : Int) < (l.length : Int)) = c0 := ⟨_, rfl⟩
  repeat refine aw_seq ?_
  refine zr ttOk ?_
  repeat (refine aops_cons ?_; first | (apply aops_o; rfl; simp only [estep, avs, tts, seval, g0] <;> exact rr) | (refine zg rfl ?_; first | refine grd_on ?_ | refine zo ?_))
  refine aops_nil ?_
  cases c0 with
  | true =>
   have hlt : k < l.length := by simpa using g0
   have hix2 : (0 : Int) ≤ (k : Int) := by omega
   have hgd := hds_get hlt
   have cr := runs_a base l[k] day
   obtain ⟨rb, hrb⟩ : ∃ rb, runsB l[k] day = rb := ⟨_, rfl⟩
   rw [hrb] at cr
   have w1 : IntKind.i64.wrap ((k : Int) + 1) = ((k + 1 : Nat) : Int) := wrap_succ hlt (by omega)
   have hstC : capK ix day (l.take (k + 1)) = stC ix day (capK ix day (l.take k)) l[k] := by rw [List.take_add_one, List.getElem?_eq_getElem hlt]; exact capK_snoc ..
   have hstV : votK ix day (l.take (k + 1)) = stV ix day (votK ix day (l.take k)) l[k] := by rw [List.take_add_one, List.getElem?_eq_getElem hlt]; exact votK_snoc ..
   unfold stC at hstC
   unfold stV at hstV
   rw [hrb] at hstC hstV
   obtain ⟨h, hh⟩ : ∃ h, l[k] = h := ⟨_, rfl⟩
   rw [hh] at hgd cr hstC hstV
   obtain ⟨id, company, holder, nominee, pledged, joint, capital, votes, fr, til⟩ := h
   simp only [hdC] at hgd
   simp only [hdA, hdL, tA, iA, boA] at cr
   repeat refine aw_seq ?_
   refine aw_cond rfl rfl (fun hb => ?_) fun hb => ?_
   ·refine aw_skip ?_
    cases rb with
    | false =>
     repeat' (first | (refine aops_cons ?_; first | (refine zg rfl ?_; first | refine grd_on ?_ | refine zo ?_ | (refine zs ?_ ?_ <;> intro hb <;> ((try simp only [bn] at hb); first | subst hb | simp only [hb]))) | (apply aops_o; rfl; simp only [estep, avs, tts, seval, hix2, hlt, hgd, hln, w1] <;> exact rr) | (refine za rfl ?_; refine zp (cr) ?_)) | refine aops_nil ?_ | (refine ahops_cons ?_; first | (refine yg rfl ?_; first | refine hgrd_on ?_ | refine yo ?_ | (refine ys ?_ ?_ <;> intro hb <;> ((try simp only [bn] at hb); first | subst hb | simp only [hb]))) | (apply ahops_o; rfl; simp only [hstep, avs, tts, seval, hix2, hlt, hgd, hln, w1] <;> exact rr; first | trivial | omega) | (refine ya rfl ?_; refine yp (cr) ?_)) | refine ahops_nil ?_ | refine aw_seq ?_ | refine zr ttOk ?_ | refine zR 0 ttOk mixed ?_ | refine zR 1 ttOk mixed ?_ | refine zR 2 ttOk mixed ?_ | refine zR 3 ttOk mixed ?_ | refine zf rfl rfl ?_ | refine zt rfl rfl ?_ | (refine aw_cond rfl rfl ?_ ?_ <;> intro hb <;> ((try simp only [bn] at hb); first | subst hb | simp only [hb])) | refine aw_skip ?_ | refine aw_exit ?_ | refine aw_block ?_)
     simp only [Bool.false_eq_true, if_false] at hstC hstV
     refine ⟨l.length - (k + 1), _, H ++ [.box 25 [nilV, nilV, nilV], .box 25 [.d (strsP (partiesS l)), nilV, nilV], .mp 63 3 (.flat [.int .i64, .int .i64]) (kE (capK ix day (l.take k))), .mp 63 3 (.flat [.int .i64, .int .i64]) (kE (votK ix day (l.take k))), .box 61 [.fn (.func 34) [] [.ptr (H.length + 1) 0]]], by omega, ⟨?_, .inr ⟨by simp, ?_, .more hB (.cons (by simp [AObj.bel, belL, nilV, AV.bel]) (.cons (by simp [AObj.bel, belL, nilV, AV.bel]) (.cons (bel_kE _) (.cons (bel_kE _) (.cons (by simp [AObj.bel, belL, AV.bel]) .nil))))), [.box 36 [.d (.v (.string id)), .d (.v (.string company)), .d (.v (.string holder)), .d (.v (.string nominee)), .d (.v (.string pledged)), .d (strsP joint), .d (.v (.int .i64 capital)), .d (.v (.int .i64 votes)), .d (.v (.int .i64 fr)), .d (.v (.int .i64 til))]], by simp⟩⟩, k + 1, rfl, hlt, by rw [hstC, hstV], rfl⟩
     ·simp [EnvLe, List.replicate, hdsP]
     ·simp [belL, AV.bel, List.replicate]
    | true =>
     obtain ⟨hall, hp60⟩ := valid_all hbv
     have hmem := List.getElem_mem hlt
     have hprop := hall _ hmem
     have hjl := hj _ hmem
     have hin := fun x => who_in (x := x) hmem hprop
     have hpc := pct_of hprop
     have hkc := capK_ok ix day l (fun h hh => ⟨(pct_of (hall h hh)).c0, (pct_of (hall h hh)).c1⟩) hj k (by omega)
     have hkv := votK_ok ix day l (fun h hh => ⟨(pct_of (hall h hh)).v0, (pct_of (hall h hh)).v1⟩) hj k (by omega)
     have hwl := whoC_len hjl
     have hvl := whoV_len hjl
     rw [hh] at hmem hprop hjl hin hpc hwl hvl
     simp only [if_true] at hstC hstV
     obtain ⟨hc0, hc1, hv0, hv1⟩ := hpc
     simp only at hc0 hc1 hv0 hv1 hjl
     obtain ⟨sc, hsc⟩ : ∃ sc, capK ix day (l.take k) = sc := ⟨_, rfl⟩
     obtain ⟨sv, hsv⟩ : ∃ sv, votK ix day (l.take k) = sv := ⟨_, rfl⟩
     rw [hsc] at hkc hstC ⊢
     rw [hsv] at hkv hstV ⊢
     clear hsc hsv
     have djl : (joint.map fun s => [PD.v (.string s)]).length = joint.length := by simp
     have dj := dI_strs joint
     have b1 : 1 + joint.length ≤ 9223372036854775807 := by omega
     have b2 : (1 + joint.length) * 16 ≤ 140737488355328 := by omega
     have e2 : (1 + joint.length = joint.length + 1) = True := eq_true (by omega)
     have dj2 : List.map (fun it => List.map AV.d it) (List.map (fun s => [PD.v (.string s)]) joint) = joint.map fun s => [AV.d (.v (.string s))] := by simp
     obtain ⟨c2, z2⟩ : ∃ b, decide (nominee = ⟨#[]⟩) = b := ⟨_, rfl⟩
     obtain ⟨c3, z3⟩ : ∃ b, decide (pledged = ⟨#[]⟩) = b := ⟨_, rfl⟩
     repeat refine aw_seq ?_
     refine aw_block ?_
     repeat refine aw_seq ?_
     repeat refine aw_seq ?_
     refine zr ttOk ?_
     repeat (refine aops_cons ?_; first | (apply aops_o; rfl; simp only [estep, avs, tts, seval, hix2, hlt, hgd, hln] <;> exact rr) | (refine zg rfl ?_; first | refine grd_on ?_ | refine zo ?_))
     refine aops_nil ?_
     repeat refine aw_seq ?_
     refine zr ttOk ?_
     repeat (refine aops_cons ?_; first | (apply aops_o; rfl; simp only [estep, avs, tts, seval] <;> exact rr) | (refine zg rfl ?_; first | refine grd_on ?_ | refine zo ?_))
     refine zP rfl (cr) ?_
     repeat (refine aops_cons ?_; first | (apply aops_o; rfl; simp only [estep, avs, tts, seval] <;> exact rr) | (refine zg rfl ?_; first | refine grd_on ?_ | refine zo ?_))
     refine aops_nil ?_
     repeat refine aw_seq ?_
     refine aw_cond rfl rfl (fun hb => ?_) fun hb => ?_
     ·cases hb
     refine aw_skip ?_
     simp only [strsP]
     repeat refine aw_seq ?_
     refine zr ttOk ?_
     repeat (refine aops_cons ?_; first | (apply aops_o; rfl; simp only [estep, avs, tts, seval, djl, dj, dj2, b1, b2, e2] <;> exact rr) | (refine zg rfl ?_; first | refine grd_on ?_ | refine zo ?_))
     refine aops_nil ?_
     repeat refine aw_seq ?_
     refine zr ttOk ?_
     repeat (refine aops_cons ?_; first | (apply aops_o; rfl; simp only [estep, avs, tts, seval, z2] <;> exact rr) | (refine zg rfl ?_; first | refine grd_on ?_ | refine zo ?_))
     refine aops_nil ?_
     obtain ⟨wc, hwc⟩ : ∃ w, whoC ⟨id, company, holder, nominee, pledged, joint, capital, votes, fr, til⟩ = w := ⟨_, rfl⟩
     rw [hwc] at hwl hin hstC
     refine aw_midF (Q0 := fun env K => K = H ++ [.box 25 [nilV, nilV, nilV], .box 25 [.d (strsP (partiesS l)), nilV, nilV], .mp 63 3 (.flat [.int .i64, .int .i64]) (kE (sc)), .mp 63 3 (.flat [.int .i64, .int .i64]) (kE (sv)), .box 61 [.fn (.func 34) [] [.ptr (H.length + 1) 0]], .box 36 [.d (.v (.string id)), .d (.v (.string company)), .d (.v (.string holder)), .d (.v (.string nominee)), .d (.v (.string pledged)), .d (.sl 1 (joint.map fun s => [PD.v (.string s)])), .d (.v (.int .i64 capital)), .d (.v (.int .i64 votes)), .d (.v (.int .i64 fr)), .d (.v (.int .i64 til))]] ∧ env = (.d (hdsP l) :: .d (.v (.int .i64 day)) :: .undef :: .undef :: .ptr H.length 0 :: .undef :: .ptr (H.length + 1) 0 :: .mp (H.length + 2) :: .mp (H.length + 3) :: .undef :: .fn (.func 36) [] [.ptr (H.length + 4) 0] :: .undef :: .ptr (H.length + 5) 0 :: .d (strsP (wc)) :: List.replicate 16 .undef ++ .d (hdsP l) :: .d (.v (.int .i64 (l.length : Int))) :: .d (.v (.int .i64 (k : Int))) :: List.replicate 49 .undef)) ?_ ?_
     ·cases c2 with
      | true =>
       have hw : wc = holder :: joint := by rw [← hwc]; exact if_pos (of_decide_eq_true z2)
       repeat refine aw_seq ?_
       refine aw_cond rfl rfl (fun hb => ?_) fun hb => ?_
       ·cases hb
       have hfz : unI (joint.map fun s => [AV.d (.v (.string s))]) = some (joint.map fun s => [PD.v (.string s)]) := by rw [← dI_strs]; exact unI_dI _
       refine aw_skip ?_
       rw [hw]
       exact ⟨rfl, _, _, _, _, .inl ⟨H.length + 6, (by simp only [avs, tts, Nat.reduceAdd, Nat.reduceMul, Nat.reduceSub, Nat.reduceEqDiff, Nat.reduceLT, Nat.reduceLeDiff, Int.reduceToNat, Int.reduceLE, Int.reduceLT, Int.toNat_natCast, reduceCtorEq, frzL, frzA, frzO, unI_dI, dI_len, unI, unL, Nat.add_eq_left, Nat.left_eq_add, Nat.one_ne_zero, hfz, djl, e2] <;> rfl), (by simp only [avs, tts, Nat.reduceAdd, Nat.reduceMul, Nat.reduceSub, Nat.reduceEqDiff, Nat.reduceLT, Nat.reduceLeDiff, Int.reduceToNat, Int.reduceLE, Int.reduceLT, Int.toNat_natCast, reduceCtorEq, frzL, frzA, frzO, unI_dI, dI_len, unI, unL, Nat.add_eq_left, Nat.left_eq_add, Nat.one_ne_zero] <;> rfl)⟩, ⟨by simp [EnvLe, List.replicate, strsP, hdsP], .inr ⟨by simp, by simp [belL, AV.bel, List.replicate], .more hB (.cons (by simp [AObj.bel, belL, nilV, AV.bel]) (.cons (by simp [AObj.bel, belL, nilV, AV.bel]) (.cons (bel_kE _) (.cons (bel_kE _) (.cons (by simp [AObj.bel, belL, AV.bel]) (.cons (by simp [AObj.bel, belL, AV.bel]) .nil)))))), _, by simp only [List.append_assoc, List.cons_append, List.nil_append]; rfl⟩⟩, rfl, rfl⟩
      | false =>
       have hw : wc = [nominee] := by rw [← hwc]; exact if_neg (of_decide_eq_false z2)
       repeat refine aw_seq ?_
       refine aw_cond rfl rfl (fun hb => ?_) fun hb => ?_
       ·
        repeat refine aw_seq ?_
        refine zr ttOk ?_
        repeat (refine aops_cons ?_; first | (apply aops_o; rfl; simp only [estep, avs, tts, seval] <;> exact rr) | (refine zg rfl ?_; first | refine grd_on ?_ | refine zo ?_))
        refine aops_nil ?_
        rw [hw]
        exact ⟨rfl, _, _, _, _, .inl ⟨H.length + 7, (by simp only [avs, tts, Nat.reduceAdd, Nat.reduceMul, Nat.reduceSub, Nat.reduceEqDiff, Nat.reduceLT, Nat.reduceLeDiff, Int.reduceToNat, Int.reduceLE, Int.reduceLT, Int.toNat_natCast, reduceCtorEq, frzL, frzA, frzO, unI_dI, dI_len, unI, unL, Nat.add_eq_left, Nat.left_eq_add, Nat.one_ne_zero] <;> rfl), (by simp only [avs, tts, Nat.reduceAdd, Nat.reduceMul, Nat.reduceSub, Nat.reduceEqDiff, Nat.reduceLT, Nat.reduceLeDiff, Int.reduceToNat, Int.reduceLE, Int.reduceLT, Int.toNat_natCast, reduceCtorEq, frzL, frzA, frzO, unI_dI, dI_len, unI, unL, Nat.add_eq_left, Nat.left_eq_add, Nat.one_ne_zero] <;> rfl)⟩, ⟨by simp [EnvLe, List.replicate, strsP, hdsP], .inr ⟨by simp, by simp [belL, AV.bel, List.replicate], .more hB (.cons (by simp [AObj.bel, belL, nilV, AV.bel]) (.cons (by simp [AObj.bel, belL, nilV, AV.bel]) (.cons (bel_kE _) (.cons (bel_kE _) (.cons (by simp [AObj.bel, belL, AV.bel]) (.cons (by simp [AObj.bel, belL, AV.bel]) .nil)))))), _, by simp only [List.append_assoc, List.cons_append, List.nil_append]; rfl⟩⟩, rfl, rfl⟩
       ·cases hb
     rintro env0 K0 ⟨rfl, rfl⟩
     simp only [rp]
     have lsim : ∀ (n i j : Nat), (n + i = n + j) = (i = j) := fun n i j => by simp
     have sh1 := share_a (base := base) (H := H ++ [.box 25 [nilV, nilV, nilV], .box 25 [.d (strsP (partiesS l)), nilV, nilV], .mp 63 3 (.flat [.int .i64, .int .i64]) (kE (sc)), .mp 63 3 (.flat [.int .i64, .int .i64]) (kE (sv)), .box 61 [.fn (.func 34) [] [.ptr (H.length + 1) 0]], .box 36 [.d (.v (.string id)), .d (.v (.string company)), .d (.v (.string holder)), .d (.v (.string nominee)), .d (.v (.string pledged)), .d (.sl 1 (joint.map fun s => [PD.v (.string s)])), .d (.v (.int .i64 capital)), .d (.v (.int .i64 votes)), .d (.v (.int .i64 fr)), .d (.v (.int .i64 til))]]) (lm := H.length + 2) (lc := H.length + 4) (ls := H.length + 1) ix company capital wc sc (6006000 * k) (by simp) (by simp) (by simp) (by simp) hkc.1 (by omega) (by have := hkc.2; omega) (by simp) (fun x hx K hK => by rw [← hix]; exact place_ix (base := base) (H := K) (c := nilV) (v := nilV) (partiesS l) (partiesS_sorted l) (partiesS_nodup l) (hin x (by rcases hx with h | h; exact .inl h; exact .inr (.inl h))) (by rw [hK]; simp) (by omega)) hc0 hc1 (by omega)
     simp only [tA, iA, strsP] at sh1 ⊢
     repeat refine aw_seq ?_
     refine zr ttOk ?_
     repeat (refine aops_cons ?_; first | (apply aops_o; rfl; simp only [estep, avs, tts, seval] <;> exact rr) | (refine zg rfl ?_; first | refine grd_on ?_ | refine zo ?_))
     refine aops_call rfl (by simp only [avs] <;> rfl) (⟨_, sh1, ?_⟩)
     rintro r1 K1 rfl hle1
     rw [H_set]
     simp only [l_setS, l_set0, List.set_cons_succ, List.set_cons_zero, ← hstC]
     repeat (refine aops_cons ?_; first | (apply aops_o; rfl; simp only [estep, avs, tts, seval] <;> exact rr) | (refine zg rfl ?_; first | refine grd_on ?_ | refine zo ?_))
     refine aops_nil ?_
     obtain ⟨sc2, hsc2⟩ : ∃ s, capK ix day (l.take (k + 1)) = s := ⟨_, rfl⟩
     rw [hsc2]
     clear hstC sh1
     repeat refine aw_seq ?_
     repeat refine aw_seq ?_
     refine zr ttOk ?_
     repeat (refine aops_cons ?_; first | (apply aops_o; rfl; simp only [estep, avs, tts, seval, z3] <;> exact rr) | (refine zg rfl ?_; first | refine grd_on ?_ | refine zo ?_))
     refine aops_nil ?_
     obtain ⟨wv, hwv⟩ : ∃ w, whoV ⟨id, company, holder, nominee, pledged, joint, capital, votes, fr, til⟩ = w := ⟨_, rfl⟩
     rw [hwv] at hvl hin hstV
     refine aw_midF (Q0 := fun env K => K = H ++ [.box 25 [nilV, nilV, nilV], .box 25 [.d (strsP (partiesS l)), nilV, nilV], .mp 63 3 (.flat [.int .i64, .int .i64]) (kE (sc2)), .mp 63 3 (.flat [.int .i64, .int .i64]) (kE (sv)), .box 61 [.fn (.func 34) [] [.ptr (H.length + 1) 0]], .box 36 [.d (.v (.string id)), .d (.v (.string company)), .d (.v (.string holder)), .d (.v (.string nominee)), .d (.v (.string pledged)), .d (.sl 1 (joint.map fun s => [PD.v (.string s)])), .d (.v (.int .i64 capital)), .d (.v (.int .i64 votes)), .d (.v (.int .i64 fr)), .d (.v (.int .i64 til))]] ∧ env = (.d (hdsP l) :: .d (.v (.int .i64 day)) :: .undef :: .undef :: .ptr H.length 0 :: .undef :: .ptr (H.length + 1) 0 :: .mp (H.length + 2) :: .mp (H.length + 3) :: .undef :: .fn (.func 36) [] [.ptr (H.length + 4) 0] :: .undef :: .ptr (H.length + 5) 0 :: .d (strsP (wv)) :: List.replicate 16 .undef ++ .d (hdsP l) :: .d (.v (.int .i64 (l.length : Int))) :: .d (.v (.int .i64 (k : Int))) :: List.replicate 49 .undef)) ?_ ?_
     ·cases c3 with
      | true =>
       have hw : wv = wc := by rw [← hwv, ← hwc]; exact if_pos (of_decide_eq_true z3)
       repeat refine aw_seq ?_
       refine aw_cond rfl rfl (fun hb => ?_) fun hb => ?_
       ·cases hb
       refine aw_skip ?_
       rw [hw]
       exact ⟨rfl, _, _, _, _, .inr ⟨rfl, rfl⟩, ⟨by simp [EnvLe, List.replicate, strsP, hdsP], .inl rfl⟩, rfl, rfl⟩
      | false =>
       have hw : wv = [pledged] := by rw [← hwv]; exact if_neg (of_decide_eq_false z3)
       repeat refine aw_seq ?_
       refine aw_cond rfl rfl (fun hb => ?_) fun hb => ?_
       ·
        repeat refine aw_seq ?_
        refine zr ttOk ?_
        repeat (refine aops_cons ?_; first | (apply aops_o; rfl; simp only [estep, avs, tts, seval] <;> exact rr) | (refine zg rfl ?_; first | refine grd_on ?_ | refine zo ?_))
        refine aops_nil ?_
        rw [hw]
        exact ⟨rfl, _, _, _, _, .inl ⟨H.length + 6, (by simp only [avs, tts, Nat.reduceAdd, Nat.reduceMul, Nat.reduceSub, Nat.reduceEqDiff, Nat.reduceLT, Nat.reduceLeDiff, Int.reduceToNat, Int.reduceLE, Int.reduceLT, Int.toNat_natCast, reduceCtorEq, frzL, frzA, frzO, unI_dI, dI_len, unI, unL, Nat.add_eq_left, Nat.left_eq_add, Nat.one_ne_zero] <;> rfl), (by simp only [avs, tts, Nat.reduceAdd, Nat.reduceMul, Nat.reduceSub, Nat.reduceEqDiff, Nat.reduceLT, Nat.reduceLeDiff, Int.reduceToNat, Int.reduceLE, Int.reduceLT, Int.toNat_natCast, reduceCtorEq, frzL, frzA, frzO, unI_dI, dI_len, unI, unL, Nat.add_eq_left, Nat.left_eq_add, Nat.one_ne_zero] <;> rfl)⟩, ⟨by simp [EnvLe, List.replicate, strsP, hdsP], .inr ⟨by simp, by simp [belL, AV.bel, List.replicate], .more hB (.cons (by simp [AObj.bel, belL, nilV, AV.bel]) (.cons (by simp [AObj.bel, belL, nilV, AV.bel]) (.cons (bel_kE _) (.cons (bel_kE _) (.cons (by simp [AObj.bel, belL, AV.bel]) (.cons (by simp [AObj.bel, belL, AV.bel]) .nil)))))), _, by simp only [List.append_assoc, List.cons_append, List.nil_append]; rfl⟩⟩, rfl, rfl⟩
       ·cases hb
     rintro env0 K0 ⟨rfl, rfl⟩
     simp only [rp]
     have sh2 := share_a (base := base) (H := H ++ [.box 25 [nilV, nilV, nilV], .box 25 [.d (strsP (partiesS l)), nilV, nilV], .mp 63 3 (.flat [.int .i64, .int .i64]) (kE (sc2)), .mp 63 3 (.flat [.int .i64, .int .i64]) (kE (sv)), .box 61 [.fn (.func 34) [] [.ptr (H.length + 1) 0]], .box 36 [.d (.v (.string id)), .d (.v (.string company)), .d (.v (.string holder)), .d (.v (.string nominee)), .d (.v (.string pledged)), .d (.sl 1 (joint.map fun s => [PD.v (.string s)])), .d (.v (.int .i64 capital)), .d (.v (.int .i64 votes)), .d (.v (.int .i64 fr)), .d (.v (.int .i64 til))]]) (lm := H.length + 3) (lc := H.length + 4) (ls := H.length + 1) ix company votes wv sv (6006000 * k) (by simp) (by simp) (by simp) (by simp) hkv.1 (by omega) (by have := hkv.2; omega) (by simp) (fun x hx K hK => by rw [← hix]; exact place_ix (base := base) (H := K) (c := nilV) (v := nilV) (partiesS l) (partiesS_sorted l) (partiesS_nodup l) (hin x (by rcases hx with h | h; exact .inl h; exact .inr (.inr h))) (by rw [hK]; simp) (by omega)) hv0 hv1 (by omega)
     simp only [tA, iA, strsP] at sh2 ⊢
     repeat refine aw_seq ?_
     refine zr ttOk ?_
     repeat (refine aops_cons ?_; first | (apply aops_o; rfl; simp only [estep, avs, tts, seval] <;> exact rr) | (refine zg rfl ?_; first | refine grd_on ?_ | refine zo ?_))
     refine aops_call rfl (by simp only [avs] <;> rfl) (⟨_, sh2, ?_⟩)
     rintro r2 K2 rfl hle2
     rw [H_set]
     simp only [l_setS, l_set0, List.set_cons_succ, List.set_cons_zero, ← hstV]
     repeat (refine aops_cons ?_; first | (apply aops_o; rfl; simp only [estep, avs, tts, seval] <;> exact rr) | (refine zg rfl ?_; first | refine grd_on ?_ | refine zo ?_))
     refine aops_nil ?_
     show AW _ _ _ _ _
     repeat refine aw_seq ?_
     refine zr ttOk ?_
     repeat (refine aops_cons ?_; first | (apply aops_o; rfl; simp only [estep, avs, tts, seval, w1] <;> exact rr) | (refine zg rfl ?_; first | refine grd_on ?_ | refine zo ?_))
     refine aops_nil ?_
     refine ⟨l.length - (k + 1), _, H ++ [.box 25 [nilV, nilV, nilV], .box 25 [.d (strsP (partiesS l)), nilV, nilV], .mp 63 3 (.flat [.int .i64, .int .i64]) (kE sc2), .mp 63 3 (.flat [.int .i64, .int .i64]) (kE (votK ix day (l.take (k + 1)))), .box 61 [.fn (.func 34) [] [.ptr (H.length + 1) 0]]], by omega, ⟨?_, .inr ⟨by simp, ?_, .more hB (.cons (by simp [AObj.bel, belL, nilV, AV.bel]) (.cons (by simp [AObj.bel, belL, nilV, AV.bel]) (.cons (bel_kE _) (.cons (bel_kE _) (.cons (by simp [AObj.bel, belL, AV.bel]) .nil))))), _, by simp only [List.append_assoc, List.cons_append, List.nil_append]; rfl⟩⟩, k + 1, rfl, hlt, by rw [hsc2]; rfl, rfl⟩
     ·simp [EnvLe, List.replicate, hdsP]
     ·simp [belL, AV.bel, List.replicate]
   ·cases hb
  | false =>
   have hkl : k = l.length := by
                  have : ¬ k < l.length := by simpa using g0
                  omega
   subst hkl
   rw [List.take_length]
   obtain ⟨hall, hp60⟩ := valid_all hbv
   have hkc := capK_ok ix day l (fun h hh => ⟨(pct_of (hall h hh)).c0, (pct_of (hall h hh)).c1⟩) hj l.length (Nat.le_refl _)
   have hkv := votK_ok ix day l (fun h hh => ⟨(pct_of (hall h hh)).v0, (pct_of (hall h hh)).v1⟩) hj l.length (Nat.le_refl _)
   rw [List.take_length] at hkc hkv
   have hbd : ∀ x, -9223372036854775808 ≤ ix x ∧ ix x ≤ 9223372036854775807 := fun x => by rw [← hix]; have := ixS_bd (partiesS l) x hp60; omega
   have okg : ∀ {co : ByteArray} {pc : Int} {p : Int × Int} {x : ByteArray}, giveC ix co pc p x = true → okK p := fun h => by
    have h2 := (of_decide_eq_true h).2.2
    rw [← h2]; exact ⟨hbd _, hbd _⟩
   have okc : ∀ p ∈ (capK ix day l).1, okK p := fun p hp => by
    obtain ⟨h, _, _, x, _, hg⟩ := (capK_mem ..).1 hp
    exact okg hg
   have okv : ∀ p ∈ (votK ix day l).1, okK p := fun p hp => by
    obtain ⟨h, _, _, x, _, hg⟩ := (votK_mem ..).1 hp
    exact okg hg
   generalize capK ix day l = sc at *
   generalize votK ix day l = sv at *
   have cl1 := fun G => links_a (base := base) hT (H := H ++ (.box 25 [nilV, nilV, nilV] :: .box 25 [.d (strsP (partiesS l)), nilV, nilV] :: .mp 63 3 (.flat [.int .i64, .int .i64]) (kE sc) :: G)) (l := H.length + 2) sc (by simp) hkc.1 (by omega) okc (by have := hkc.2; omega)
   have cl2 := fun G => links_a (base := base) hT (H := H ++ (.box 25 [nilV, nilV, nilV] :: .box 25 [.d (strsP (partiesS l)), nilV, nilV] :: .mp 63 3 (.flat [.int .i64, .int .i64]) (kE sc) :: .mp 63 3 (.flat [.int .i64, .int .i64]) (kE sv) :: G)) (l := H.length + 3) sv (by simp) hkv.1 (by omega) okv (by have := hkv.2; omega)
   clear hkc hkv okc okv okg
   simp only [lksP] at cl1 cl2 ⊢
   generalize List.map (lkC sc) (sortK sc.1) = pc at *
   generalize List.map (lkC sv) (sortK sv.1) = pv at *
   repeat' (first | (refine aops_cons ?_; first | (refine zg rfl ?_; first | refine grd_on ?_ | refine zo ?_ | (refine zs ?_ ?_ <;> intro hb <;> ((try simp only [bn] at hb); first | subst hb | simp only [hb]))) | (apply aops_o; rfl; simp only [estep, avs, tts, seval] <;> exact rr) | (refine za rfl ?_; first | refine zd (cl1 _) ?_ | refine zd (cl2 _) ?_)) | refine aops_nil ?_ | (refine ahops_cons ?_; first | (refine yg rfl ?_; first | refine hgrd_on ?_ | refine yo ?_ | (refine ys ?_ ?_ <;> intro hb <;> ((try simp only [bn] at hb); first | subst hb | simp only [hb]))) | (apply ahops_o; rfl; simp only [hstep, avs, tts, seval] <;> exact rr; first | trivial | omega) | (refine ya rfl ?_; first | refine yd (cl1 _) ?_ | refine yd (cl2 _) ?_)) | refine ahops_nil ?_ | refine aw_seq ?_ | refine zr ttOk ?_ | refine zR 0 ttOk mixed ?_ | refine zR 1 ttOk mixed ?_ | refine zR 2 ttOk mixed ?_ | refine zR 3 ttOk mixed ?_ | refine zf rfl rfl ?_ | refine zt rfl rfl ?_ | (refine aw_cond rfl rfl ?_ ?_ <;> intro hb <;> ((try simp only [bn] at hb); first | subst hb | simp only [hb])) | refine aw_skip ?_ | refine aw_exit ?_ | refine aw_block ?_)
   refine aw_ret ⟨.tup [.agg [.d (strsP (partiesS l)), .d (.sl 5 pc), .d (.sl 5 pv)], .d (.v (.int .i64 0))], ?_, _, rfl, ?_⟩
   ·simp only [aResult, aResL, aRes, avs, tts] <;> rfl
   ·simp only [Bool.and_true, if_true]; rfl
 ·show AW _ _ _ _ _
  refine aw_ret ⟨.tup [.agg [.d (.v (.slice none 0 0)), .d (.v (.slice none 0 0)), .d (.v (.slice none 0 0))], .d (.v (.int .i64 1))], ?_, _, rfl, ?_⟩
  ·simp only [aResult, aResL, aRes, avs, tts] <;> rfl
  ·simp only [Bool.and_false, Bool.false_and, Bool.false_eq_true, if_false]; rfl
end
end Av
end Go.Proofs.YtdekcppfpgeneaaGreatDoor
set_option linter.unusedVariables false
set_option linter.unusedSimpArgs false
namespace Go.Proofs.YtdekcppfpgeneaaGreatDoor
open Go Go.RowKit
namespace Rg
open Av Nt

/-! Structures az plain values. -/
instance : DecidableEq Rt := fun a b => decidable_of_iff (a.neg = b.neg ∧ a.num = b.num ∧ a.den = b.den) (by
 cases a; cases b; simp)
structure Lk where
 company : Int
 holder : Int
 part : Rt
instance : DecidableEq Lk := fun a b => decidable_of_iff (a.company = b.company ∧ a.holder = b.holder ∧ a.part = b.part) (by
 cases a; cases b; simp)
structure Str where
 parties : List ByteArray
 capital : List Lk
 votes : List Lk
instance : DecidableEq Str := fun a b => decidable_of_iff (a.parties = b.parties ∧ a.capital = b.capital ∧ a.votes = b.votes) (by
 cases a; cases b; simp)
instance : DecidableEq Hd := fun a b => decidable_of_iff (a.id = b.id ∧ a.company = b.company ∧ a.holder = b.holder ∧ a.nominee = b.nominee ∧ a.pledged = b.pledged ∧ a.joint = b.joint ∧ a.capital = b.capital ∧ a.votes = b.votes ∧ a.fr = b.fr ∧ a.til = b.til) (by
 cases a; cases b; simp)
def lkP (x : Lk) : List PD := [.v (.int .i64 x.company), .v (.int .i64 x.holder), .v (.bool x.part.neg), .v (.string x.part.num), .v (.string x.part.den)]
def lklP (l : List Lk) : PD := .sl 5 (l.map lkP)
def strL (s : Str) : List AV := [.d (strsP s.parties), .d (lklP s.capital), .d (lklP s.votes)]
def strA (s : Str) : AV := .agg (strL s)
def lkOf (s : KSt) (p : Int × Int) : Lk := ⟨p.1, p.2, ofR (s.2 p) 6000⟩
theorem lksP_eq (s : KSt) (ks : List (Int × Int)) : lksP s ks = lklP (ks.map (lkOf s)) := by
 unfold lksP lklP
 rw [List.map_map]; rfl
def lnkS (s : KSt) : List Lk := (sortK s.1).map (lkOf s)
def atS (l : List Hd) (day : Int) : Str := if validB l && dayB day then ⟨partiesS l, lnkS (capK (ixS (partiesS l)) day l), lnkS (votK (ixS (partiesS l)) day l)⟩ else ⟨[], [], []⟩
def atE (l : List Hd) (day : Int) : Int := if validB l && dayB day then 0 else 1
theorem eqL_lk (x y : Lk) : eqL [.int .i64 x.company, .int .i64 x.holder, .bool x.part.neg, .string x.part.num, .string x.part.den] [.int .i64 y.company, .int .i64 y.holder, .bool y.part.neg, .string y.part.num, .string y.part.den] = decide (x = y) := by
 obtain ⟨a, b, c, d, e⟩ := x
 obtain ⟨f, g, h, i, j⟩ := y
 simp only [eqL, eqV, Lk.mk.injEq, Rt.mk.injEq]
 by_cases h1 : a = f <;> by_cases h2 : b = g <;> by_cases h3 : c = h <;> by_cases h4 : d = i <;> by_cases h5 : e = j <;> simp [h1, h2, h3, h4, h5]
theorem lk_get {l : List Lk} {k : Nat} (h : k < l.length) : (l.map lkP).getD k [] = lkP l[k] := by simp [h]
/-- how sizes are bounded -/
def few1 (h : Hd) : Bool := decide (h.id.size ≤ 60) && (decide (h.company.size ≤ 60) && (decide (h.holder.size ≤ 60) && (decide (h.nominee.size ≤ 60) && (decide (h.pledged.size ≤ 60) && decide (h.joint.length ≤ 10)))))
def few2 (h : Hd) : Bool := h.joint.all fun s => decide (s.size ≤ 60)
def fewB (n : Int) (l : List Hd) : Bool := decide ((l.length : Int) ≤ n) && l.all fun h => few1 h && few2 h
theorem few_no {n : Int} {l : List Hd} {k : Nat} (hk : k < l.length) (h : (few1 l[k] && few2 l[k]) = false) : fewB n l = false := by
 unfold fewB
 have : (l.all fun h => few1 h && few2 h) = false := by
  rw [List.all_eq_false]; exact ⟨_, List.getElem_mem hk, by simp [h]⟩
 rw [this, Bool.and_false]
theorem few2_no {h : Hd} {j : Nat} (hj : j < h.joint.length) (e : ¬ h.joint[j].size ≤ 60) : few2 h = false := by
 unfold few2
 rw [List.all_eq_false]; exact ⟨_, List.getElem_mem hj, by simpa using e⟩
theorem few_small {n : Int} {l : List Hd} (h : fewB n l = true) : (l.length : Int) ≤ n ∧ ∀ x ∈ l, Small x ∧ x.joint.length ≤ 10 := by
 unfold fewB at h
 simp only [Bool.and_eq_true, decide_eq_true_eq] at h
 refine ⟨h.1, fun x hx => ?_⟩
 have := List.all_eq_true.1 h.2 x hx
 unfold few1 few2 at this
 simp only [Bool.and_eq_true, decide_eq_true_eq] at this
 obtain ⟨⟨a, b, c, d, e, f⟩, g⟩ := this
 refine ⟨⟨by omega, by omega, by omega, by omega, by omega, fun t ht => ?_, by omega⟩, f⟩
 have := List.all_eq_true.1 g t ht
 simp only [decide_eq_true_eq] at this
 omega
end Rg
end Go.Proofs.YtdekcppfpgeneaaGreatDoor
set_option linter.unusedVariables false
set_option linter.unusedSimpArgs false
namespace Go.Proofs.YtdekcppfpgeneaaGreatDoor
open Go Go.RowKit
namespace Av
attribute [local irreducible] AW AOps AHOps
open Nt Rg

/-! The comparisons of the reference: texts, links, structures, holdings. -/
theorem take_ext {α : Type} {a b : List α} {k : Nat} (h1 : k < a.length) (h2 : k < b.length) (h : a.take k = b.take k) (e : a[k] = b[k]) : a.take (k + 1) = b.take (k + 1) := by
 rw [List.take_add_one, List.take_add_one, List.getElem?_eq_getElem h1, List.getElem?_eq_getElem h2, h, e]
section
variable (base : World)
set_option maxRecDepth 100000 in
set_option maxHeartbeats 1000000 in
theorem texts_a (a b : List ByteArray) (ha : a.length ≤ 1000000) (hbl : b.length ≤ 1000000) : PureA Tryz.prog base 29 [.d (strsP a), .d (strsP b)] (boA (decide (a = b))) := by
 refine pure_enter ttOk Tryz.call29 Tryz.func29 rfl fun H hB hb hF => ?_
 rw [Tryz.results29, Tryz.ntmps29]
 simp only [arr_list, List.length_cons, List.length_nil, List.replicate, List.cons_append, List.nil_append, Nat.reduceAdd, Nat.reduceSub]
 clear hF hb
 have la : (a.map fun s => [PD.v (.string s)]).length = a.length := by simp
 have lb : (b.map fun s => [PD.v (.string s)]).length = b.length := by simp
 simp only [strsP]
 obtain ⟨c0, g0⟩ : ∃ c, decide ((a.length : Int) = (b.length : Int)) = c := ⟨_, rfl⟩
 repeat' (first | (refine aops_cons ?_; first | (refine zg rfl ?_; first | refine grd_on ?_ | refine zo ?_ | (refine zs ?_ ?_ <;> intro hb <;> ((try simp only [bn] at hb); first | subst hb | simp only [hb]))) | (apply aops_o; rfl; simp only [estep, avs, tts, seval, la, lb, g0] <;> exact rr)) | refine aops_nil ?_ | (refine ahops_cons ?_; first | (refine yg rfl ?_; first | refine hgrd_on ?_ | refine yo ?_ | (refine ys ?_ ?_ <;> intro hb <;> ((try simp only [bn] at hb); first | subst hb | simp only [hb]))) | (apply ahops_o; rfl; simp only [hstep, avs, tts, seval, la, lb, g0] <;> exact rr; first | trivial | omega)) | refine ahops_nil ?_ | refine aw_seq ?_ | refine zr ttOk ?_ | refine zR 0 ttOk mixed ?_ | refine zR 1 ttOk mixed ?_ | refine zR 2 ttOk mixed ?_ | refine zR 3 ttOk mixed ?_ | refine zf rfl rfl ?_ | refine zt rfl rfl ?_ | (refine aw_cond rfl rfl ?_ ?_ <;> intro hb <;> ((try simp only [bn] at hb); first | subst hb | simp only [hb])) | refine aw_skip ?_ | refine aw_exit ?_ | refine aw_block ?_)
 ·have hne : decide (a = b) = false := decide_eq_false fun e => by subst e; simp at g0
  rw [hne]; exact aw_ret ⟨_, rfl, [], by simp, rfl⟩
 have hl : a.length = b.length := by have := of_decide_eq_true g0; omega
 refine aw_loop (H0 := H) (fun r env K => ∃ k, r = a.length - k ∧ k ≤ a.length ∧ a.take k = b.take k ∧ K = H ∧ env = (.d (.sl 1 (a.map fun s => [PD.v (.string s)])) :: .d (.sl 1 (b.map fun s => [PD.v (.string s)])) :: .undef :: .undef :: .undef :: .d (.v (.int .i64 (k : Int))) :: List.replicate 20 .undef)) ?_ ⟨0, rfl, Nat.zero_le _, rfl, rfl, rfl⟩ ?_
 ·exact ⟨by simp [EnvLe, List.replicate], .inl rfl⟩
 rintro r env K ⟨k, rfl, hk, hok, rfl, rfl⟩ hN
 simp only [rp]
 obtain ⟨c1, g1⟩ : ∃ c1, decide ((k : Int) < (a.length : Int)) = c1 := ⟨_, rfl⟩
 cases c1 with
 | true =>
  have hlt : k < a.length := by simpa using g1
  have hlt2 : k < b.length := by omega
  have hix : (0 : Int) ≤ (k : Int) := by omega
  have ga := strsP_get hlt
  have gb := strsP_get hlt2
  have w1 : IntKind.i64.wrap ((k : Int) + 1) = ((k + 1 : Nat) : Int) := wrap_succ hlt (by omega)
  obtain ⟨c2, g2⟩ : ∃ c, decide (a[k] = b[k]) = c := ⟨_, rfl⟩
  repeat' (first | (refine aops_cons ?_; first | (refine zg rfl ?_; first | refine grd_on ?_ | refine zo ?_ | (refine zs ?_ ?_ <;> intro hb <;> ((try simp only [bn] at hb); first | subst hb | simp only [hb]))) | (apply aops_o; rfl; simp only [estep, avs, tts, seval, hix, hlt, hlt2, ga, gb, la, lb, g1, g2, w1] <;> exact rr)) | refine aops_nil ?_ | (refine ahops_cons ?_; first | (refine yg rfl ?_; first | refine hgrd_on ?_ | refine yo ?_ | (refine ys ?_ ?_ <;> intro hb <;> ((try simp only [bn] at hb); first | subst hb | simp only [hb]))) | (apply ahops_o; rfl; simp only [hstep, avs, tts, seval, hix, hlt, hlt2, ga, gb, la, lb, g1, g2, w1] <;> exact rr; first | trivial | omega)) | refine ahops_nil ?_ | refine aw_seq ?_ | refine zr ttOk ?_ | refine zR 0 ttOk mixed ?_ | refine zR 1 ttOk mixed ?_ | refine zR 2 ttOk mixed ?_ | refine zR 3 ttOk mixed ?_ | refine zf rfl rfl ?_ | refine zt rfl rfl ?_ | (refine aw_cond rfl rfl ?_ ?_ <;> intro hb <;> ((try simp only [bn] at hb); first | subst hb | simp only [hb])) | refine aw_skip ?_ | refine aw_exit ?_ | refine aw_block ?_)
  ·have hne : decide (a = b) = false := decide_eq_false fun e => by subst e; simp at g2
   rw [hne]; exact aw_ret ⟨_, rfl, [], by simp, rfl⟩
  ·refine ⟨a.length - (k + 1), _, _, by omega, ⟨?_, .inl rfl⟩, k + 1, rfl, hlt, take_ext hlt hlt2 hok (of_decide_eq_true g2), rfl, rfl⟩
   simp [EnvLe, List.replicate]
 | false =>
  have hka : k = a.length := by
                 have : ¬ k < a.length := by simpa using g1
                 omega
  have heq : a = b := by
   rw [hka, List.take_length] at hok
   rw [hok, hl, List.take_length]
  repeat' (first | (refine aops_cons ?_; first | (refine zg rfl ?_; first | refine grd_on ?_ | refine zo ?_ | (refine zs ?_ ?_ <;> intro hb <;> ((try simp only [bn] at hb); first | subst hb | simp only [hb]))) | (apply aops_o; rfl; simp only [estep, avs, tts, seval, la, lb, g1] <;> exact rr)) | refine aops_nil ?_ | (refine ahops_cons ?_; first | (refine yg rfl ?_; first | refine hgrd_on ?_ | refine yo ?_ | (refine ys ?_ ?_ <;> intro hb <;> ((try simp only [bn] at hb); first | subst hb | simp only [hb]))) | (apply ahops_o; rfl; simp only [hstep, avs, tts, seval, la, lb, g1] <;> exact rr; first | trivial | omega)) | refine ahops_nil ?_ | refine aw_seq ?_ | refine zr ttOk ?_ | refine zR 0 ttOk mixed ?_ | refine zR 1 ttOk mixed ?_ | refine zR 2 ttOk mixed ?_ | refine zR 3 ttOk mixed ?_ | refine zf rfl rfl ?_ | refine zt rfl rfl ?_ | (refine aw_cond rfl rfl ?_ ?_ <;> intro hb <;> ((try simp only [bn] at hb); first | subst hb | simp only [hb])) | refine aw_skip ?_ | refine aw_exit ?_ | refine aw_block ?_)
  rw [decide_eq_true heq]
  exact aw_ret ⟨_, rfl, [], by simp, rfl⟩
set_option maxRecDepth 100000 in
set_option maxHeartbeats 1000000 in
theorem slinks_a (a b : List Lk) (ha : a.length ≤ 1000000) (hbl : b.length ≤ 1000000) : PureA Tryz.prog base 28 [.d (lklP a), .d (lklP b)] (boA (decide (a = b))) := by
 refine pure_enter ttOk Tryz.call28 Tryz.func28 rfl fun H hB hb hF => ?_
 rw [Tryz.results28, Tryz.ntmps28]
 simp only [arr_list, List.length_cons, List.length_nil, List.replicate, List.cons_append, List.nil_append, Nat.reduceAdd, Nat.reduceSub]
 clear hF hb
 have la : (a.map lkP).length = a.length := by simp
 have lb : (b.map lkP).length = b.length := by simp
 simp only [lklP]
 obtain ⟨c0, g0⟩ : ∃ c, decide ((a.length : Int) = (b.length : Int)) = c := ⟨_, rfl⟩
 repeat' (first | (refine aops_cons ?_; first | (refine zg rfl ?_; first | refine grd_on ?_ | refine zo ?_ | (refine zs ?_ ?_ <;> intro hb <;> ((try simp only [bn] at hb); first | subst hb | simp only [hb]))) | (apply aops_o; rfl; simp only [estep, avs, tts, seval, la, lb, g0] <;> exact rr)) | refine aops_nil ?_ | (refine ahops_cons ?_; first | (refine yg rfl ?_; first | refine hgrd_on ?_ | refine yo ?_ | (refine ys ?_ ?_ <;> intro hb <;> ((try simp only [bn] at hb); first | subst hb | simp only [hb]))) | (apply ahops_o; rfl; simp only [hstep, avs, tts, seval, la, lb, g0] <;> exact rr; first | trivial | omega)) | refine ahops_nil ?_ | refine aw_seq ?_ | refine zr ttOk ?_ | refine zR 0 ttOk mixed ?_ | refine zR 1 ttOk mixed ?_ | refine zR 2 ttOk mixed ?_ | refine zR 3 ttOk mixed ?_ | refine zf rfl rfl ?_ | refine zt rfl rfl ?_ | (refine aw_cond rfl rfl ?_ ?_ <;> intro hb <;> ((try simp only [bn] at hb); first | subst hb | simp only [hb])) | refine aw_skip ?_ | refine aw_exit ?_ | refine aw_block ?_)
 ·have hne : decide (a = b) = false := decide_eq_false fun e => by subst e; simp at g0
  rw [hne]; exact aw_ret ⟨_, rfl, [], by simp, rfl⟩
 have hl : a.length = b.length := by have := of_decide_eq_true g0; omega
 refine aw_loop (H0 := H) (fun r env K => ∃ k, r = a.length - k ∧ k ≤ a.length ∧ a.take k = b.take k ∧ K = H ∧ env = (.d (.sl 5 (a.map lkP)) :: .d (.sl 5 (b.map lkP)) :: .undef :: .undef :: .undef :: .d (.v (.int .i64 (k : Int))) :: List.replicate 20 .undef)) ?_ ⟨0, rfl, Nat.zero_le _, rfl, rfl, rfl⟩ ?_
 ·exact ⟨by simp [EnvLe, List.replicate], .inl rfl⟩
 rintro r env K ⟨k, rfl, hk, hok, rfl, rfl⟩ hN
 simp only [rp]
 obtain ⟨c1, g1⟩ : ∃ c1, decide ((k : Int) < (a.length : Int)) = c1 := ⟨_, rfl⟩
 cases c1 with
 | true =>
  have hlt : k < a.length := by simpa using g1
  have hlt2 : k < b.length := by omega
  have hix : (0 : Int) ≤ (k : Int) := by omega
  have ga := lk_get hlt
  have gb := lk_get hlt2
  have w1 : IntKind.i64.wrap ((k : Int) + 1) = ((k + 1 : Nat) : Int) := wrap_succ hlt (by omega)
  have g2' := eqL_lk a[k] b[k]
  obtain ⟨c2, g2⟩ : ∃ c, decide (a[k] = b[k]) = c := ⟨_, rfl⟩
  rw [g2] at g2'
  simp only [lkP] at ga gb
  repeat' (first | (refine aops_cons ?_; first | (refine zg rfl ?_; first | refine grd_on ?_ | refine zo ?_ | (refine zs ?_ ?_ <;> intro hb <;> ((try simp only [bn] at hb); first | subst hb | simp only [hb]))) | (apply aops_o; rfl; simp only [estep, avs, tts, seval, hix, hlt, hlt2, ga, gb, la, lb, g1, g2', w1] <;> exact rr)) | refine aops_nil ?_ | (refine ahops_cons ?_; first | (refine yg rfl ?_; first | refine hgrd_on ?_ | refine yo ?_ | (refine ys ?_ ?_ <;> intro hb <;> ((try simp only [bn] at hb); first | subst hb | simp only [hb]))) | (apply ahops_o; rfl; simp only [hstep, avs, tts, seval, hix, hlt, hlt2, ga, gb, la, lb, g1, g2', w1] <;> exact rr; first | trivial | omega)) | refine ahops_nil ?_ | refine aw_seq ?_ | refine zr ttOk ?_ | refine zR 0 ttOk mixed ?_ | refine zR 1 ttOk mixed ?_ | refine zR 2 ttOk mixed ?_ | refine zR 3 ttOk mixed ?_ | refine zf rfl rfl ?_ | refine zt rfl rfl ?_ | (refine aw_cond rfl rfl ?_ ?_ <;> intro hb <;> ((try simp only [bn] at hb); first | subst hb | simp only [hb])) | refine aw_skip ?_ | refine aw_exit ?_ | refine aw_block ?_)
  ·have hne : decide (a = b) = false := decide_eq_false fun e => by subst e; simp at g2
   rw [hne]; exact aw_ret ⟨_, rfl, [], by simp, rfl⟩
  ·refine ⟨a.length - (k + 1), _, _, by omega, ⟨?_, .inl rfl⟩, k + 1, rfl, hlt, take_ext hlt hlt2 hok (of_decide_eq_true g2), rfl, rfl⟩
   simp [EnvLe, List.replicate]
 | false =>
  have hka : k = a.length := by
                 have : ¬ k < a.length := by simpa using g1
                 omega
  have heq : a = b := by
   rw [hka, List.take_length] at hok
   rw [hok, hl, List.take_length]
  repeat' (first | (refine aops_cons ?_; first | (refine zg rfl ?_; first | refine grd_on ?_ | refine zo ?_ | (refine zs ?_ ?_ <;> intro hb <;> ((try simp only [bn] at hb); first | subst hb | simp only [hb]))) | (apply aops_o; rfl; simp only [estep, avs, tts, seval, la, lb, g1] <;> exact rr)) | refine aops_nil ?_ | (refine ahops_cons ?_; first | (refine yg rfl ?_; first | refine hgrd_on ?_ | refine yo ?_ | (refine ys ?_ ?_ <;> intro hb <;> ((try simp only [bn] at hb); first | subst hb | simp only [hb]))) | (apply ahops_o; rfl; simp only [hstep, avs, tts, seval, la, lb, g1] <;> exact rr; first | trivial | omega)) | refine ahops_nil ?_ | refine aw_seq ?_ | refine zr ttOk ?_ | refine zR 0 ttOk mixed ?_ | refine zR 1 ttOk mixed ?_ | refine zR 2 ttOk mixed ?_ | refine zR 3 ttOk mixed ?_ | refine zf rfl rfl ?_ | refine zt rfl rfl ?_ | (refine aw_cond rfl rfl ?_ ?_ <;> intro hb <;> ((try simp only [bn] at hb); first | subst hb | simp only [hb])) | refine aw_skip ?_ | refine aw_exit ?_ | refine aw_block ?_)
  rw [decide_eq_true heq]
  exact aw_ret ⟨_, rfl, [], by simp, rfl⟩
theorem and_dec {p q : Prop} [Decidable p] [Decidable q] [Decidable (p ∧ q)] : decide (p ∧ q) = (decide p && decide q) := by
 by_cases h1 : p <;> by_cases h2 : q <;> simp [h1, h2]
theorem str_dec (a b : Str) : decide (a = b) = (decide (a.parties = b.parties) && (decide (a.capital = b.capital) && decide (a.votes = b.votes))) := by
 cases a; cases b
 simp only [Str.mk.injEq]
 rw [← and_dec, ← and_dec]
set_option maxRecDepth 100000 in
set_option maxHeartbeats 1000000 in
theorem same_a (a b : Str) (h1 : a.parties.length ≤ 1000000) (h2 : b.parties.length ≤ 1000000) (h3 : a.capital.length ≤ 1000000) (h4 : b.capital.length ≤ 1000000) (h5 : a.votes.length ≤ 1000000) (h6 : b.votes.length ≤ 1000000) : PureA Tryz.prog base 16 [strA a, strA b] (boA (decide (a = b))) := by
 have c1 := texts_a base a.parties b.parties h1 h2
 have c2 := slinks_a base a.capital b.capital h3 h4
 have c3 := slinks_a base a.votes b.votes h5 h6
 refine pure_enter ttOk Tryz.call16 Tryz.func16 rfl fun H hB hb hF => ?_
 rw [Tryz.results16, Tryz.ntmps16]
 simp only [arr_list, List.length_cons, List.length_nil, List.replicate, List.cons_append, List.nil_append, Nat.reduceAdd, Nat.reduceSub]
 clear hF hb
 rw [str_dec]
 simp only [strA, strL]
 generalize decide (a.parties = b.parties) = b1 at *
 generalize decide (a.capital = b.capital) = b2 at *
 generalize decide (a.votes = b.votes) = b3 at *
 repeat' (first | (refine aops_cons ?_; first | (refine zg rfl ?_; first | refine grd_on ?_ | refine zo ?_ | (refine zs ?_ ?_ <;> intro hb <;> ((try simp only [bn] at hb); first | subst hb | simp only [hb]))) | (apply aops_o; rfl; simp only [estep, avs, tts, seval] <;> exact rr) | (refine za rfl ?_; first | refine zp (c1) ?_ | refine zp (c2) ?_ | refine zp (c3) ?_)) | refine aops_nil ?_ | (refine ahops_cons ?_; first | (refine yg rfl ?_; first | refine hgrd_on ?_ | refine yo ?_ | (refine ys ?_ ?_ <;> intro hb <;> ((try simp only [bn] at hb); first | subst hb | simp only [hb]))) | (apply ahops_o; rfl; simp only [hstep, avs, tts, seval] <;> exact rr; first | trivial | omega) | (refine ya rfl ?_; first | refine yp (c1) ?_ | refine yp (c2) ?_ | refine yp (c3) ?_)) | refine ahops_nil ?_ | refine aw_seq ?_ | refine zr ttOk ?_ | refine zR 0 ttOk mixed ?_ | refine zR 1 ttOk mixed ?_ | refine zR 2 ttOk mixed ?_ | refine zR 3 ttOk mixed ?_ | refine zf rfl rfl ?_ | refine zt rfl rfl ?_ | (refine aw_cond rfl rfl ?_ ?_ <;> intro hb <;> ((try simp only [bn] at hb); first | subst hb | simp only [hb])) | refine aw_skip ?_ | refine aw_exit ?_ | refine aw_block ?_)
 all_goals exact aw_ret ⟨_, rfl, _, rfl, rfl⟩
end
end Av
end Go.Proofs.YtdekcppfpgeneaaGreatDoor
