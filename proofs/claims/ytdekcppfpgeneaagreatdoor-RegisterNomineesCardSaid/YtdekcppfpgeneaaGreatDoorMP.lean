import Derived.Test.YtdekcppfpgeneaaGreatDoorM5
import Derived.Test.YtdekcppfpgeneaaGreatDoorM2
import Derived.Test.YtdekcppfpgeneaaGreatDoorM3
set_option linter.unusedVariables false
set_option linter.unusedSimpArgs false
namespace Go.Proofs.YtdekcppfpgeneaaGreatDoor
open Go Go.RowKit
namespace Av
attribute [local irreducible] AW AOps AHOps
open Nt Rg

/-! RegisterNominees. -/
section
variable {base : World} (hT : Tabs base)
include hT
set_option maxRecDepth 100000 in
set_option maxHeartbeats 16000000 in
theorem nominees_a (l : List Hd) (day raw : Int) (hr0 : 0 ≤ raw) (hr1 : raw ≤ 255) : PureA Tryz.prog base 5 [.d (hdsP l), iA day, .d (.v (.int .u8 raw))] (boA true) := by
 have hd := head_a hT
 have cf := lfew_a (base := base) l
 obtain ⟨bf, hbf⟩ : ∃ b, fewB 20 l = b := ⟨_, rfl⟩
 rw [hbf] at cf
 obtain ⟨c0, g0⟩ : ∃ c, decide ((l.length : Int) = 0) = c := ⟨_, rfl⟩
 by_cases hgo : (bf && !c0) = true
 ·simp only [Bool.and_eq_true, Bool.not_eq_true'] at hgo
  obtain ⟨rfl, rfl⟩ := hgo
  obtain ⟨h20, hsm⟩ := few_small hbf
  have hs := fun h hh => (hsm h hh).1
  have hj : ∀ h ∈ l, h.joint.length ≤ 1000 := fun h hh => by have := (hsm h hh).2; omega
  have hl0 : 0 < l.length := by have := of_decide_eq_false g0; omega
  obtain ⟨k, hk⟩ : ∃ k : Nat, raw.tmod l.length = k := ⟨(raw.tmod l.length).toNat, by have := Int.tmod_nonneg (l.length : Int) hr0; omega⟩
  have hkl : k < l.length := by have := Int.tmod_lt_of_pos raw (by omega : (0 : Int) < l.length); omega
  have hsx := hs _ (List.getElem_mem hkl)
  have hsn : Small (nomH l[k]) := by
   unfold nomH
   have he : emp.size ≤ 9223372036854775807 := by decide
   refine ⟨hsx.id, hsx.company, ?_, he, he, hsx.joint, hsx.jlen⟩
   simp only; split
   ·exact hsx.holder
   ·exact hsx.nominee
  have a1 := at_b (base := base) hT l day hs hj (by omega)
  have a2 := at_b (base := base) hT (l.set k (nomH l[k])) day (fun h hh => by
   rcases List.mem_or_eq_of_mem_set hh with h1 | h1
   ·exact hs h h1
   ·rw [h1]; exact hsn) (fun h hh => by
   rcases List.mem_or_eq_of_mem_set hh with h1 | h1
   ·exact hj h h1
   ·rw [h1]; exact (hj l[k] (List.getElem_mem hkl) : _)) (by rw [List.length_set]; omega)
  have law : atE l day = 0 → atE (l.set k (nomH l[k])) day = 0 ∧ (atS l day).capital.length = (atS (l.set k (nomH l[k])) day).capital.length ∧ ∀ (i : Nat) (h1 : i < (atS l day).capital.length) (h2 : i < (atS (l.set k (nomH l[k])) day).capital.length), SameL (atS l day).parties (atS (l.set k (nomH l[k])) day).parties (atS l day).capital[i] (atS (l.set k (nomH l[k])) day).capital[i] := fun e => by
   obtain ⟨h1, h2⟩ := atE_ok e
   obtain ⟨h3, h4, h5⟩ := nom_at h1 hkl h2
   exact ⟨by unfold atE; rw [h3, h2]; rfl, h4, h5⟩
  have sh1 := atS_short (l := l) day hj (by omega)
  refine pure_enter ttOk Tryz.call5 Tryz.func5 rfl fun H hB hb hF => ?_
  rw [Tryz.results5, Tryz.ntmps5]
  simp only [arr_list, List.length_cons, List.length_nil, List.replicate, List.cons_append, List.nil_append, Nat.reduceAdd, Nat.reduceSub]
  clear hF hb
  have la := hds_len l
  have lI := hdI_len l
  have wr : IntKind.i64.wrap raw = raw := by rw [IntKind.wrap_i64]; omega
  have hne : ¬ (l.length : Int) = 0 := by omega
  have hix : (0 : Int) ≤ (k : Int) := by omega
  have hap : List.map (fun it => List.map AV.d it) (l.map hdC) = l.map hdI := by rw [List.map_map]; rfl
  have b1 : l.length ≤ 9223372036854775807 := by omega
  have b2 : l.length * 136 ≤ 140737488355328 := by omega
  have hgI : (l.map hdI).getD k [] = hdI l[k] := by rw [List.getD_eq_getElem?_getD, List.getElem?_map, List.getElem?_eq_getElem hkl]; rfl
  have hgs : ∀ x : List AV, ((l.map hdI).set k x).getD k [] = x := fun x => by simp [hkl]
  have hls : ∀ x : List AV, ((l.map hdI).set k x).length = l.length := fun x => by simp
  have hss : ∀ x y : List AV, ((l.map hdI).set k x).set k y = (l.map hdI).set k y := fun x y => List.set_set ..
  have hun : unI ((l.map hdI).set k (hdI (nomH l[k]))) = some ((l.set k (nomH l[k])).map hdC) := by
   rw [← List.map_set]; exact unI_hd _
  generalize (l.set k (nomH l[k])) = M at *
  generalize atS l day = S1 at *
  generalize atE l day = E1 at *
  generalize atS M day = S2 at *
  generalize atE M day = E2 at *
  clear hsx hsn hsm hs hj
  obtain ⟨x, hx⟩ : ∃ x, l[k] = x := ⟨_, rfl⟩
  rw [hx] at hgI hun
  clear hx
  obtain ⟨xid, xco, xho, xno, xpl, xjo, xca, xvo, xfr, xti⟩ := x
  obtain ⟨P1, C1, V1⟩ := S1
  obtain ⟨P2, C2, V2⟩ := S2
  obtain ⟨c1, g1⟩ : ∃ c, decide (xno = ⟨#[]⟩) = c := ⟨_, rfl⟩
  unfold nomH at hun
  have en : (xno = emp) = (c1 = true) := by rw [← g1]; simp [emp]
  simp only [en] at hun
  simp only [hdI, hdC, List.map_cons, List.map_nil] at hgI hun
  change List.getD (List.map hdI l) k [] = _ at hgI
  change unI (List.set (List.map hdI l) k _) = some (List.map hdC M) at hun
  simp only at law
  simp only [hdsP, iA, boA, tA, strA, strL] at cf hd a1 a2 ⊢
  obtain ⟨k1, z1⟩ : ∃ c, decide (E1 = 0) = c := ⟨_, rfl⟩
  have hself : (l.map hdI).set k ((l.map hdI).getD k []) = l.map hdI := by
   rw [List.getD_eq_getElem?_getD, List.getElem?_eq_getElem (by simpa using hkl)]
   exact List.set_getElem_self ..
  rw [hgI] at hself
  repeat' (first | (refine aops_cons ?_; first | (refine zg rfl ?_; first | refine grd_on ?_ | refine zo ?_ | (refine zs ?_ ?_ <;> intro hb <;> ((try simp only [bn] at hb); first | subst hb | simp only [hb]))) | (apply aops_o; rfl; simp only [estep, avs, tts, seval, g0, la, Bool.not_true] <;> exact rr) | (refine za rfl ?_; first | refine zp (hd) ?_ | refine zp (cf) ?_)) | refine aops_nil ?_ | (refine ahops_cons ?_; first | (refine yg rfl ?_; first | refine hgrd_on ?_ | refine yo ?_ | (refine ys ?_ ?_ <;> intro hb <;> ((try simp only [bn] at hb); first | subst hb | simp only [hb]))) | (apply ahops_o; rfl; simp only [hstep, avs, tts, seval, g0, la, Bool.not_true] <;> exact rr; first | trivial | omega) | (refine ya rfl ?_; first | refine yp (hd) ?_ | refine yp (cf) ?_)) | refine ahops_nil ?_ | refine aw_seq ?_ | refine zr ttOk ?_ | refine zR 0 ttOk mixed ?_ | refine zR 1 ttOk mixed ?_ | refine zR 2 ttOk mixed ?_ | refine zR 3 ttOk mixed ?_ | refine zf rfl rfl ?_ | refine zt rfl rfl ?_ | (refine aw_cond rfl rfl ?_ ?_ <;> intro hb <;> ((try simp only [bn] at hb); first | subst hb | simp only [hb])) | refine aw_skip ?_ | refine aw_exit ?_ | refine aw_block ?_)
  repeat (refine aops_cons ?_; first | (apply aops_o; rfl; simp only [estep, avs, tts, seval, wr, hne, hk, if_false] <;> exact rr) | (refine zg rfl ?_; first | refine grd_on ?_ | refine zo ?_))
  refine aops_nil ?_
  repeat refine aw_seq ?_
  refine zr ttOk ?_
  repeat (refine aops_cons ?_; first | (apply aops_o; rfl; simp only [estep, avs, tts, seval, hap, la, lI, b1, b2] <;> exact rr) | (refine zg rfl ?_; first | refine grd_on ?_ | refine zo ?_))
  refine aops_nil ?_
  repeat refine aw_seq ?_
  refine zr ttOk ?_
  repeat (refine aops_cons ?_; first | (apply aops_o; rfl; simp only [estep, avs, tts, seval, hix, hkl, lI, hgI, g1] <;> exact rr) | (refine zg rfl ?_; first | refine grd_on ?_ | refine zo ?_))
  refine aops_nil ?_
  repeat refine aw_seq ?_
  refine aw_mid2 (Q0 := fun env K => K = H ++ [.row 36 10 0 ((l.map hdI).set k [.d (.v (.string xid)), .d (.v (.string xco)), .d (.v (.string (if c1 = true then xho else xno))), .d (.v (.string ⟨#[]⟩)), .d (.v (.string xpl)), .d (strsP xjo), .d (.v (.int .i64 xca)), .d (.v (.int .i64 xvo)), .d (.v (.int .i64 xfr)), .d (.v (.int .i64 xti))])] ∧ env = (.d (.sl 10 (l.map hdC)) :: .d (.v (.int .i64 day)) :: .undef :: .undef :: .undef :: .undef :: .undef :: .d (.v (.bool true)) :: .d (.v (.int .i64 (k : Int))) :: .ms H.length 0 l.length :: List.replicate 177 .undef)) ?_ ?_
  ·cases c1 with
   | true =>
    have e0 := of_decide_eq_true g1
    subst e0
    repeat' (first | (refine aops_cons ?_; first | (refine zg rfl ?_; first | refine grd_on ?_ | refine zo ?_ | (refine zs ?_ ?_ <;> intro hb <;> ((try simp only [bn] at hb); first | subst hb | simp only [hb]))) | (apply aops_o; rfl; simp only [estep, avs, tts, seval] <;> exact rr)) | refine aops_nil ?_ | (refine ahops_cons ?_; first | (refine yg rfl ?_; first | refine hgrd_on ?_ | refine yo ?_ | (refine ys ?_ ?_ <;> intro hb <;> ((try simp only [bn] at hb); first | subst hb | simp only [hb]))) | (apply ahops_o; rfl; simp only [hstep, avs, tts, seval] <;> exact rr; first | trivial | omega)) | refine ahops_nil ?_ | refine aw_seq ?_ | refine zr ttOk ?_ | refine zR 0 ttOk mixed ?_ | refine zR 1 ttOk mixed ?_ | refine zR 2 ttOk mixed ?_ | refine zR 3 ttOk mixed ?_ | refine zf rfl rfl ?_ | refine zt rfl rfl ?_ | (refine aw_cond rfl rfl ?_ ?_ <;> intro hb <;> ((try simp only [bn] at hb); first | subst hb | simp only [hb])) | refine aw_skip ?_ | refine aw_exit ?_ | refine aw_block ?_)
    refine ⟨rfl, (.d (.sl 10 (l.map hdC)) :: .d (.v (.int .i64 day)) :: .undef :: .undef :: .undef :: .undef :: .undef :: .d (.v (.bool true)) :: .d (.v (.int .i64 (k : Int))) :: .ms H.length 0 l.length :: List.replicate 177 .undef), _, ⟨by (try simp only [rp]); (repeat (first | exact trivial | refine ⟨.inr rfl, ?_⟩ | refine ⟨.inl rfl, ?_⟩)), .inl rfl⟩, ?_, rfl⟩
    simp only [if_true, hself]
   | false =>
    repeat' (first | (refine aops_cons ?_; first | (refine zg rfl ?_; first | refine grd_on ?_ | refine zo ?_ | (refine zs ?_ ?_ <;> intro hb <;> ((try simp only [bn] at hb); first | subst hb | simp only [hb]))) | (apply aops_o; rfl; simp only [estep, avs, tts, seval, hix, hkl, lI, hgI, hgs, hls, hss] <;> exact rr)) | refine aops_nil ?_ | (refine ahops_cons ?_; first | (refine yg rfl ?_; first | refine hgrd_on ?_ | refine yo ?_ | (refine ys ?_ ?_ <;> intro hb <;> ((try simp only [bn] at hb); first | subst hb | simp only [hb]))) | (apply ahops_o; rfl; simp only [hstep, avs, tts, seval, hix, hkl, lI, hgI, hgs, hls, hss] <;> exact rr; first | trivial | omega)) | refine ahops_nil ?_ | refine aw_seq ?_ | refine zr ttOk ?_ | refine zR 0 ttOk mixed ?_ | refine zR 1 ttOk mixed ?_ | refine zR 2 ttOk mixed ?_ | refine zR 3 ttOk mixed ?_ | refine zf rfl rfl ?_ | refine zt rfl rfl ?_ | (refine aw_cond rfl rfl ?_ ?_ <;> intro hb <;> ((try simp only [bn] at hb); first | subst hb | simp only [hb])) | refine aw_skip ?_ | refine aw_exit ?_ | refine aw_block ?_)
    refine ⟨rfl, (.d (.sl 10 (l.map hdC)) :: .d (.v (.int .i64 day)) :: .undef :: .undef :: .undef :: .undef :: .undef :: .d (.v (.bool true)) :: .d (.v (.int .i64 (k : Int))) :: .ms H.length 0 l.length :: List.replicate 177 .undef), _, ⟨by (try simp only [rp]); (repeat (first | exact trivial | refine ⟨.inr rfl, ?_⟩ | refine ⟨.inl rfl, ?_⟩)), .inl rfl⟩, ?_, rfl⟩
    simp only [Bool.false_eq_true, if_false]
  rintro env0 K0 ⟨rfl, rfl⟩
  simp only [rp]
  repeat refine aw_seq ?_
  refine zr ttOk ?_
  repeat (refine aops_cons ?_; first | (apply aops_o; rfl; simp only [estep, avs, tts, seval, hix, hkl, hls, hgs, hss] <;> exact rr) | (refine zg rfl ?_; first | refine grd_on ?_ | refine zo ?_))
  refine aops_nil ?_
  change unI (List.set (List.map hdI l) k [.d (.v (.string xid)), .d (.v (.string xco)), .d (.v (.string (if c1 = true then xho else xno))), .d (.v (.string ⟨#[]⟩)), .d (.v (.string ⟨#[]⟩)), .d (strsP xjo), .d (.v (.int .i64 xca)), .d (.v (.int .i64 xvo)), .d (.v (.int .i64 xfr)), .d (.v (.int .i64 xti))]) = some (List.map hdC M) at hun
  show AW _ _ _ _ _
  refine aw_frz (H.length) (by simp only [avs, tts, seval, frzL, frzA, frzO, unI_dI, dI_len, unI, unL, Nat.add_eq_left, Nat.left_eq_add, Nat.one_ne_zero, hun, hls] <;> rfl) (by simp only [avs, tts, seval, frzL, frzA, frzO, unI_dI, dI_len, unI, unL, Nat.add_eq_left, Nat.left_eq_add, Nat.one_ne_zero, hun, hls] <;> rfl) ?_
  clear hun hgs hls hss hgI hself en g1
  simp only [strsP, lklP] at a1 a2
  cases k1 with
  | false =>
   repeat' (first | (refine aops_cons ?_; first | (refine zg rfl ?_; first | refine grd_on ?_ | refine zo ?_ | (refine zs ?_ ?_ <;> intro hb <;> ((try simp only [bn] at hb); first | subst hb | simp only [hb]))) | (apply aops_o; rfl; simp only [estep, avs, tts, seval, z1, Bool.not_true, Bool.not_false] <;> exact rr) | (refine za rfl ?_; first | refine zp (a1) ?_ | refine zp (a2) ?_)) | refine aops_nil ?_ | (refine ahops_cons ?_; first | (refine yg rfl ?_; first | refine hgrd_on ?_ | refine yo ?_ | (refine ys ?_ ?_ <;> intro hb <;> ((try simp only [bn] at hb); first | subst hb | simp only [hb]))) | (apply ahops_o; rfl; simp only [hstep, avs, tts, seval, z1, Bool.not_true, Bool.not_false] <;> exact rr; first | trivial | omega) | (refine ya rfl ?_; first | refine yp (a1) ?_ | refine yp (a2) ?_)) | refine ahops_nil ?_ | refine aw_seq ?_ | refine zr ttOk ?_ | refine zR 0 ttOk mixed ?_ | refine zR 1 ttOk mixed ?_ | refine zR 2 ttOk mixed ?_ | refine zR 3 ttOk mixed ?_ | refine zf rfl rfl ?_ | refine zt rfl rfl ?_ | (refine aw_cond rfl rfl ?_ ?_ <;> intro hb <;> ((try simp only [bn] at hb); first | subst hb | simp only [hb])) | refine aw_skip ?_ | refine aw_exit ?_ | refine aw_block ?_)
   show AW _ _ _ _ _
   exact aw_ret ⟨_, rfl, _, rfl, rfl⟩
  | true =>
  have e1 := of_decide_eq_true z1
  obtain ⟨e2, hlen, hsame⟩ := law e1
  subst e1 e2
  clear law z1
  have la1 : (C1.map lkP).length = C1.length := by simp
  have la2 : (C2.map lkP).length = C1.length := by rw [List.length_map, hlen]
  have lp1 : (P1.map fun s => [PD.v (.string s)]).length = P1.length := by simp
  have lp2 : (P2.map fun s => [PD.v (.string s)]).length = P2.length := by simp
  repeat' (first | (refine aops_cons ?_; first | (refine zg rfl ?_; first | refine grd_on ?_ | refine zo ?_ | (refine zs ?_ ?_ <;> intro hb <;> ((try simp only [bn] at hb); first | subst hb | simp only [hb]))) | (apply aops_o; rfl; simp only [estep, avs, tts, seval, la1, la2, decide_true, Bool.not_true, Bool.not_false] <;> exact rr) | (refine za rfl ?_; first | refine zp (a1) ?_ | refine zp (a2) ?_)) | refine aops_nil ?_ | (refine ahops_cons ?_; first | (refine yg rfl ?_; first | refine hgrd_on ?_ | refine yo ?_ | (refine ys ?_ ?_ <;> intro hb <;> ((try simp only [bn] at hb); first | subst hb | simp only [hb]))) | (apply ahops_o; rfl; simp only [hstep, avs, tts, seval, la1, la2, decide_true, Bool.not_true, Bool.not_false] <;> exact rr; first | trivial | omega) | (refine ya rfl ?_; first | refine yp (a1) ?_ | refine yp (a2) ?_)) | refine ahops_nil ?_ | refine aw_seq ?_ | refine zr ttOk ?_ | refine zR 0 ttOk mixed ?_ | refine zR 1 ttOk mixed ?_ | refine zR 2 ttOk mixed ?_ | refine zR 3 ttOk mixed ?_ | refine zf rfl rfl ?_ | refine zt rfl rfl ?_ | (refine aw_cond rfl rfl ?_ ?_ <;> intro hb <;> ((try simp only [bn] at hb); first | subst hb | simp only [hb])) | refine aw_skip ?_ | refine aw_exit ?_ | refine aw_block ?_)
  clear a1 a2 hd cf
  refine aw_loop (H0 := H ++ [.dead, .box 25 [.d (.sl 1 (P1.map fun s => [PD.v (.string s)])), .d (.sl 5 (C1.map lkP)), .d (lklP V1)], .box 25 [.d (.sl 1 (P2.map fun s => [PD.v (.string s)])), .d (.sl 5 (C2.map lkP)), .d (lklP V2)]]) (fun r env K => ∃ i, r = C1.length - i ∧ i ≤ C1.length ∧ K = H ++ [.dead, .box 25 [.d (.sl 1 (P1.map fun s => [PD.v (.string s)])), .d (.sl 5 (C1.map lkP)), .d (lklP V1)], .box 25 [.d (.sl 1 (P2.map fun s => [PD.v (.string s)])), .d (.sl 5 (C2.map lkP)), .d (lklP V2)]] ∧ env = (List.replicate 7 .undef ++ .d (.v (.bool true)) :: .undef :: .undef :: .ptr (H.length + 1) 0 :: .undef :: .ptr (H.length + 2) 0 :: .undef :: .d (.v (.int .i64 (i : Int))) :: List.replicate 172 .undef)) ?_ ⟨0, rfl, Nat.zero_le _, rfl, rfl⟩ ?_
  ·exact ⟨by (try simp only [rp]); (repeat (first | exact trivial | refine ⟨.inr rfl, ?_⟩ | refine ⟨.inl rfl, ?_⟩)), .inl rfl⟩
  rintro r env K ⟨i, rfl, hi, rfl, rfl⟩ hN
  simp only [rp]
  obtain ⟨d0, f0⟩ : ∃ c, decide ((i : Int) < (C1.length : Int)) = c := ⟨_, rfl⟩
  cases d0 with
  | false =>
   repeat' (first | (refine aops_cons ?_; first | (refine zg rfl ?_; first | refine grd_on ?_ | refine zo ?_ | (refine zs ?_ ?_ <;> intro hb <;> ((try simp only [bn] at hb); first | subst hb | simp only [hb]))) | (apply aops_o; rfl; simp only [estep, avs, tts, seval, f0, la1] <;> exact rr)) | refine aops_nil ?_ | (refine ahops_cons ?_; first | (refine yg rfl ?_; first | refine hgrd_on ?_ | refine yo ?_ | (refine ys ?_ ?_ <;> intro hb <;> ((try simp only [bn] at hb); first | subst hb | simp only [hb]))) | (apply ahops_o; rfl; simp only [hstep, avs, tts, seval, f0, la1] <;> exact rr; first | trivial | omega)) | refine ahops_nil ?_ | refine aw_seq ?_ | refine zr ttOk ?_ | refine zR 0 ttOk mixed ?_ | refine zR 1 ttOk mixed ?_ | refine zR 2 ttOk mixed ?_ | refine zR 3 ttOk mixed ?_ | refine zf rfl rfl ?_ | refine zt rfl rfl ?_ | (refine aw_cond rfl rfl ?_ ?_ <;> intro hb <;> ((try simp only [bn] at hb); first | subst hb | simp only [hb])) | refine aw_skip ?_ | refine aw_exit ?_ | refine aw_block ?_)
   show AW _ _ _ _ _
   exact aw_ret ⟨_, rfl, _, rfl, rfl⟩
  | true =>
   have hlt : i < C1.length := by simpa using f0
   have hlt2 : i < C2.length := by omega
   have hii : (0 : Int) ≤ (i : Int) := by omega
   have ga := lk_get hlt
   have gb := lk_get hlt2
   have w1 : IntKind.i64.wrap ((i : Int) + 1) = ((i + 1 : Nat) : Int) := wrap_succ hlt (by have := sh1.c; simp only at this; omega)
   have hsm := hsame i hlt hlt2
   generalize C1[i] = x at ga hsm
   generalize C2[i] = y at gb hsm
   obtain ⟨xc, xh, xp⟩ := x
   obtain ⟨yc, yh, yp⟩ := y
   obtain ⟨hpart, ⟨i1, j1, e1, e2, hi1, hj1, en1⟩, ⟨i2, j2, e3, e4, hi2, hj2, en2⟩⟩ := hsm
   simp only at hpart e1 e2 e3 e4
   subst hpart e1 e2 e3 e4
   have n1 := strsP_get hi1
   have n2 := strsP_get hi2
   have n3 := strsP_get hj1
   have n4 := strsP_get hj2
   rw [en1] at n1
   rw [en2] at n2
   generalize P2[j1] = s1 at n1 n3
   generalize P2[j2] = s2 at n2 n4
   obtain ⟨xn, xm, xd⟩ := xp
   simp only [lkP] at ga gb
   have u1 : decide ((i1 : Int) < 0) = false := decide_eq_false (by omega)
   have u2 : decide ((i2 : Int) < 0) = false := decide_eq_false (by omega)
   have u3 : decide ((j1 : Int) < 0) = false := decide_eq_false (by omega)
   have u4 : decide ((j2 : Int) < 0) = false := decide_eq_false (by omega)
   have v1 : decide ((i1 : Int) ≥ (P1.length : Int)) = false := decide_eq_false (by omega)
   have v2 : decide ((i2 : Int) ≥ (P1.length : Int)) = false := decide_eq_false (by omega)
   have v3 : decide ((j1 : Int) ≥ (P2.length : Int)) = false := decide_eq_false (by omega)
   have v4 : decide ((j2 : Int) ≥ (P2.length : Int)) = false := decide_eq_false (by omega)
   have x1 : (0 : Int) ≤ (i1 : Int) := by omega
   have x2 : (0 : Int) ≤ (i2 : Int) := by omega
   have x3 : (0 : Int) ≤ (j1 : Int) := by omega
   have x4 : (0 : Int) ≤ (j2 : Int) := by omega
   have hq : eqL [.bool xn, .string xm, .string xd] [.bool xn, .string xm, .string xd] = true := by simp [eqL, eqV]
   clear en1 en2 hsame sh1
   have hlt2' : i < C1.length := hlt
   repeat refine aw_seq ?_
   refine zr ttOk ?_
   repeat (refine aops_cons ?_; first | (apply aops_o; rfl; simp only [estep, avs, tts, seval, f0, la1] <;> exact rr) | (refine zg rfl ?_; first | refine grd_on ?_ | refine zo ?_))
   refine aops_nil ?_
   repeat refine aw_seq ?_
   refine zt rfl rfl ?_
   refine aw_skip ?_
   repeat refine aw_seq ?_
   refine aw_block ?_
   repeat refine aw_seq ?_
   refine aw_mid2 (Q0 := fun env K => ∃ (lx ly : Nat) (G : AHeap), K = H ++ .dead :: .box 25 [.d (.sl 1 (P1.map fun s => [PD.v (.string s)])), .d (.sl 5 (C1.map lkP)), .d (lklP V1)] :: .box 25 [.d (.sl 1 (P2.map fun s => [PD.v (.string s)])), .d (.sl 5 (C2.map lkP)), .d (lklP V2)] :: G ∧ K[lx]? = some (.box 42 [.d (.v (.int .i64 (i1 : Int))), .d (.v (.int .i64 (i2 : Int))), .d (.v (.bool xn)), .d (.v (.string xm)), .d (.v (.string xd))]) ∧ K[ly]? = some (.box 42 [.d (.v (.int .i64 (j1 : Int))), .d (.v (.int .i64 (j2 : Int))), .d (.v (.bool xn)), .d (.v (.string xm)), .d (.v (.string xd))]) ∧ env = (List.replicate 7 .undef ++ .d (.v (.bool true)) :: .undef :: .undef :: .ptr (H.length + 1) 0 :: .undef :: .ptr (H.length + 2) 0 :: .undef :: .d (.v (.int .i64 (i : Int))) :: .ptr lx 0 :: .ptr ly 0 :: List.replicate 170 .undef)) ?_ ?_
   ·refine aw_orders ttOk mixed (by kernel_rfl) (by kernel_rfl) (fun β env K => ∃ o : Bool, (β 10 = true → β 11 = false → o = true) ∧ (β 11 = true → β 10 = false → o = false) ∧ (β 12 = true → β 10 = true) ∧ (β 13 = true → β 11 = true) ∧ K = H ++ .dead :: .box 25 [.d (.sl 1 (P1.map fun s => [PD.v (.string s)])), .d (.sl 5 (C1.map lkP)), .d (lklP V1)] :: .box 25 [.d (.sl 1 (P2.map fun s => [PD.v (.string s)])), .d (.sl 5 (C2.map lkP)), .d (lklP V2)] :: two o (β 10) (β 11) (.box 42 (if β 12 = true then [.d (.v (.int .i64 (i1 : Int))), .d (.v (.int .i64 (i2 : Int))), .d (.v (.bool xn)), .d (.v (.string xm)), .d (.v (.string xd))] else [.d (.v (.int .i64 0)), .d (.v (.int .i64 0)), .d (.v (.bool false)), .d (.v (.string ⟨#[]⟩)), .d (.v (.string ⟨#[]⟩))])) (.box 42 (if β 13 = true then [.d (.v (.int .i64 (j1 : Int))), .d (.v (.int .i64 (j2 : Int))), .d (.v (.bool xn)), .d (.v (.string xm)), .d (.v (.string xd))] else [.d (.v (.int .i64 0)), .d (.v (.int .i64 0)), .d (.v (.bool false)), .d (.v (.string ⟨#[]⟩)), .d (.v (.string ⟨#[]⟩))])) ∧ env = (List.replicate 7 .undef ++ .d (.v (.bool true)) :: .undef :: .undef :: .ptr (H.length + 1) 0 :: .undef :: .ptr (H.length + 2) 0 :: .undef :: .d (.v (.int .i64 (i : Int))) :: (if β 10 = true then .ptr (H.length + if o = true then 3 else 4) 0 else .undef) :: (if β 11 = true then .ptr (H.length + if o = true then 4 else 3) 0 else .undef) :: List.replicate 74 .undef ++ (if β 0 = true then .ptr (H.length + 1) 1 else .undef) :: (if β 1 = true then .d (.sl 5 (C1.map lkP)) else .undef) :: (if β 2 = true then .d (.v (.int .i64 (i : Int))) else .undef) :: (if β 3 = true then .rp [PD.v (.int .i64 (i1 : Int)), .v (.int .i64 (i2 : Int)), .v (.bool xn), .v (.string xm), .v (.string xd)] else .undef) :: (if β 4 = true then .agg [.d (.v (.int .i64 (i1 : Int))), .d (.v (.int .i64 (i2 : Int))), .d (.v (.bool xn)), .d (.v (.string xm)), .d (.v (.string xd))] else .undef) :: (if β 5 = true then .ptr (H.length + 2) 1 else .undef) :: (if β 6 = true then .d (.sl 5 (C2.map lkP)) else .undef) :: (if β 7 = true then .d (.v (.int .i64 (i : Int))) else .undef) :: (if β 8 = true then .rp [PD.v (.int .i64 (j1 : Int)), .v (.int .i64 (j2 : Int)), .v (.bool xn), .v (.string xm), .v (.string xd)] else .undef) :: (if β 9 = true then .agg [.d (.v (.int .i64 (j1 : Int))), .d (.v (.int .i64 (j2 : Int))), .d (.v (.bool xn)), .d (.v (.string xm)), .d (.v (.string xd))] else .undef) :: List.replicate 86 .undef)) (H0 := H ++ [.dead, .box 25 [.d (.sl 1 (P1.map fun s => [PD.v (.string s)])), .d (.sl 5 (C1.map lkP)), .d (lklP V1)], .box 25 [.d (.sl 1 (P2.map fun s => [PD.v (.string s)])), .d (.sl 5 (C2.map lkP)), .d (lklP V2)]]) (env0 := (List.replicate 7 .undef ++ .d (.v (.bool true)) :: .undef :: .undef :: .ptr (H.length + 1) 0 :: .undef :: .ptr (H.length + 2) 0 :: .undef :: .d (.v (.int .i64 (i : Int))) :: List.replicate 172 .undef)) ⟨by simp [EnvLe, List.replicate], .inl rfl⟩ ⟨true, by simp, by simp, by simp, by simp, by simp [two], by simp⟩ ?_ ?_
    ·rintro β env K ⟨o, h1, h2, h3, h4, rfl, rfl⟩ hN2 j op hget hβ hr
     simp only [rp]
     simp only [arr_list] at hget
     rcases j with _ | _ | _ | _ | _ | _ | _ | _ | _ | _ | _ | _ | _ | _ | j
     all_goals (try simp only [l_get0, l_getS, Option.some.injEq, List.getElem?_nil, reduceCtorEq] at hget)
     all_goals (try subst hget)
     all_goals try (simp [ready1, Region.binds] at hr)
     all_goals try (simp only [Nat.zero_add, Nat.reduceAdd] at hβ)
     ·first
       | (simp only [AGuard, AStep, ite_tt, ite_ft, avs, tts, seval, hr, la1, la2, hii, hlt, hlt2', ga, gb]; exact ⟨o, by first | (simp; done) | simpa using h1, by first | (simp; done) | simpa using h2, by first | (simp; done) | simpa using h3, by first | (simp; done) | simpa using h4, by simp, by simp [hr]⟩)
       | (simp only [AGuard, AStep, ite_tt, ite_ft, avs, tts, seval, la1, la2, hii, hlt, hlt2', ga, gb]; exact ⟨o, by first | (simp; done) | simpa using h1, by first | (simp; done) | simpa using h2, by first | (simp; done) | simpa using h3, by first | (simp; done) | simpa using h4, by simp, by simp⟩)
     ·first
       | (simp only [AGuard, AStep, ite_tt, ite_ft, avs, tts, seval, hr, la1, la2, hii, hlt, hlt2', ga, gb]; exact ⟨o, by first | (simp; done) | simpa using h1, by first | (simp; done) | simpa using h2, by first | (simp; done) | simpa using h3, by first | (simp; done) | simpa using h4, by simp, by simp [hr]⟩)
       | (simp only [AGuard, AStep, ite_tt, ite_ft, avs, tts, seval, la1, la2, hii, hlt, hlt2', ga, gb]; exact ⟨o, by first | (simp; done) | simpa using h1, by first | (simp; done) | simpa using h2, by first | (simp; done) | simpa using h3, by first | (simp; done) | simpa using h4, by simp, by simp⟩)
     ·first
       | (simp only [AGuard, AStep, ite_tt, ite_ft, avs, tts, seval, hr, la1, la2, hii, hlt, hlt2', ga, gb]; exact ⟨o, by first | (simp; done) | simpa using h1, by first | (simp; done) | simpa using h2, by first | (simp; done) | simpa using h3, by first | (simp; done) | simpa using h4, by simp, by simp [hr]⟩)
       | (simp only [AGuard, AStep, ite_tt, ite_ft, avs, tts, seval, la1, la2, hii, hlt, hlt2', ga, gb]; exact ⟨o, by first | (simp; done) | simpa using h1, by first | (simp; done) | simpa using h2, by first | (simp; done) | simpa using h3, by first | (simp; done) | simpa using h4, by simp, by simp⟩)
     ·first
       | (simp only [AGuard, AStep, ite_tt, ite_ft, avs, tts, seval, hr, la1, la2, hii, hlt, hlt2', ga, gb]; exact ⟨o, by first | (simp; done) | simpa using h1, by first | (simp; done) | simpa using h2, by first | (simp; done) | simpa using h3, by first | (simp; done) | simpa using h4, by simp, by simp [hr]⟩)
       | (simp only [AGuard, AStep, ite_tt, ite_ft, avs, tts, seval, la1, la2, hii, hlt, hlt2', ga, gb]; exact ⟨o, by first | (simp; done) | simpa using h1, by first | (simp; done) | simpa using h2, by first | (simp; done) | simpa using h3, by first | (simp; done) | simpa using h4, by simp, by simp⟩)
     ·first
       | (simp only [AGuard, AStep, ite_tt, ite_ft, avs, tts, seval, hr, la1, la2, hii, hlt, hlt2', ga, gb]; exact ⟨o, by first | (simp; done) | simpa using h1, by first | (simp; done) | simpa using h2, by first | (simp; done) | simpa using h3, by first | (simp; done) | simpa using h4, by simp, by simp [hr]⟩)
       | (simp only [AGuard, AStep, ite_tt, ite_ft, avs, tts, seval, la1, la2, hii, hlt, hlt2', ga, gb]; exact ⟨o, by first | (simp; done) | simpa using h1, by first | (simp; done) | simpa using h2, by first | (simp; done) | simpa using h3, by first | (simp; done) | simpa using h4, by simp, by simp⟩)
     ·first
       | (simp only [AGuard, AStep, ite_tt, ite_ft, avs, tts, seval, hr, la1, la2, hii, hlt, hlt2', ga, gb]; exact ⟨o, by first | (simp; done) | simpa using h1, by first | (simp; done) | simpa using h2, by first | (simp; done) | simpa using h3, by first | (simp; done) | simpa using h4, by simp, by simp [hr]⟩)
       | (simp only [AGuard, AStep, ite_tt, ite_ft, avs, tts, seval, la1, la2, hii, hlt, hlt2', ga, gb]; exact ⟨o, by first | (simp; done) | simpa using h1, by first | (simp; done) | simpa using h2, by first | (simp; done) | simpa using h3, by first | (simp; done) | simpa using h4, by simp, by simp⟩)
     ·first
       | (simp only [AGuard, AStep, ite_tt, ite_ft, avs, tts, seval, hr, la1, la2, hii, hlt, hlt2', ga, gb]; exact ⟨o, by first | (simp; done) | simpa using h1, by first | (simp; done) | simpa using h2, by first | (simp; done) | simpa using h3, by first | (simp; done) | simpa using h4, by simp, by simp [hr]⟩)
       | (simp only [AGuard, AStep, ite_tt, ite_ft, avs, tts, seval, la1, la2, hii, hlt, hlt2', ga, gb]; exact ⟨o, by first | (simp; done) | simpa using h1, by first | (simp; done) | simpa using h2, by first | (simp; done) | simpa using h3, by first | (simp; done) | simpa using h4, by simp, by simp⟩)
     ·first
       | (simp only [AGuard, AStep, ite_tt, ite_ft, avs, tts, seval, hr, la1, la2, hii, hlt, hlt2', ga, gb]; exact ⟨o, by first | (simp; done) | simpa using h1, by first | (simp; done) | simpa using h2, by first | (simp; done) | simpa using h3, by first | (simp; done) | simpa using h4, by simp, by simp [hr]⟩)
       | (simp only [AGuard, AStep, ite_tt, ite_ft, avs, tts, seval, la1, la2, hii, hlt, hlt2', ga, gb]; exact ⟨o, by first | (simp; done) | simpa using h1, by first | (simp; done) | simpa using h2, by first | (simp; done) | simpa using h3, by first | (simp; done) | simpa using h4, by simp, by simp⟩)
     ·first
       | (simp only [AGuard, AStep, ite_tt, ite_ft, avs, tts, seval, hr, la1, la2, hii, hlt, hlt2', ga, gb]; exact ⟨o, by first | (simp; done) | simpa using h1, by first | (simp; done) | simpa using h2, by first | (simp; done) | simpa using h3, by first | (simp; done) | simpa using h4, by simp, by simp [hr]⟩)
       | (simp only [AGuard, AStep, ite_tt, ite_ft, avs, tts, seval, la1, la2, hii, hlt, hlt2', ga, gb]; exact ⟨o, by first | (simp; done) | simpa using h1, by first | (simp; done) | simpa using h2, by first | (simp; done) | simpa using h3, by first | (simp; done) | simpa using h4, by simp, by simp⟩)
     ·first
       | (simp only [AGuard, AStep, ite_tt, ite_ft, avs, tts, seval, hr, la1, la2, hii, hlt, hlt2', ga, gb]; exact ⟨o, by first | (simp; done) | simpa using h1, by first | (simp; done) | simpa using h2, by first | (simp; done) | simpa using h3, by first | (simp; done) | simpa using h4, by simp, by simp [hr]⟩)
       | (simp only [AGuard, AStep, ite_tt, ite_ft, avs, tts, seval, la1, la2, hii, hlt, hlt2', ga, gb]; exact ⟨o, by first | (simp; done) | simpa using h1, by first | (simp; done) | simpa using h2, by first | (simp; done) | simpa using h3, by first | (simp; done) | simpa using h4, by simp, by simp⟩)
     ·have h12 : β 12 = false := by cases h : β 12 with
       | false => rfl
       | true => rw [h3 h] at hβ; cases hβ
      rcases (Bool.eq_false_or_eq_true (β 11)).symm with h11 | h11
      ·
       simp only [AGuard, AStep, ite_tt, ite_ft, avs, tts, seval, hβ, h11, two]
       exact ⟨true, by simp, by simp [h11], by simp, by intro e; exact absurd (h4 (by simpa using e)) (by simp [h11]), by simp [two, h11, h12], by simp [h11]⟩
      ·
       have ho := h2 h11 hβ
       subst ho
       simp only [AGuard, AStep, ite_tt, ite_ft, avs, tts, seval, hβ, h11, two]
       exact ⟨false, by simp [h11], by simp, by simp, by simp [h11], by simp [two, h11, h12], by simp [h11]⟩
     ·have h13 : β 13 = false := by cases h : β 13 with
       | false => rfl
       | true => rw [h4 h] at hβ; cases hβ
      rcases (Bool.eq_false_or_eq_true (β 10)).symm with h10 | h10
      ·
       simp only [AGuard, AStep, ite_tt, ite_ft, avs, tts, seval, hβ, h10, two]
       exact ⟨false, by simp [h10], by simp, by intro e; exact absurd (h3 (by simpa using e)) (by simp [h10]), by simp, by simp [two, h10, h13], by simp [h10]⟩
      ·
       have ho := h1 h10 hβ
       subst ho
       simp only [AGuard, AStep, ite_tt, ite_ft, avs, tts, seval, hβ, h10, two]
       exact ⟨true, by simp, by simp [h10], by simp [h10], by simp, by simp [two, h10, h13], by simp [h10]⟩
     ·cases o with
      | true =>
       simp only [AGuard, AStep, ite_tt, ite_ft, avs, tts, seval, hβ, hr, two]
       exact ⟨true, by simp, by simp [hr], by simp [hr], by simp [hr], by simp [two, hr], by simp [hr]⟩
      | false =>
       simp only [AGuard, AStep, ite_tt, ite_ft, avs, tts, seval, hβ, hr, two]
       exact ⟨false, by simp [hr], by simp, by simp [hr], by simp [hr], by simp [two, hr], by simp [hr]⟩
     ·cases o with
      | true =>
       simp only [AGuard, AStep, ite_tt, ite_ft, avs, tts, seval, hβ, hr, two]
       exact ⟨true, by simp, by simp [hr], by simp [hr], by simp [hr], by simp [two, hr], by simp [hr]⟩
      | false =>
       simp only [AGuard, AStep, ite_tt, ite_ft, avs, tts, seval, hβ, hr, two]
       exact ⟨false, by simp [hr], by simp, by simp [hr], by simp [hr], by simp [two, hr], by simp [hr]⟩
    ·rintro β env K ⟨o, h1, h2, h3, h4, rfl, rfl⟩ hall
     simp only [List.replicate, List.cons_append, List.nil_append, hall 0 (by decide), hall 1 (by decide), hall 2 (by decide), hall 3 (by decide), hall 4 (by decide), hall 5 (by decide), hall 6 (by decide), hall 7 (by decide), hall 8 (by decide), hall 9 (by decide), hall 10 (by decide), hall 11 (by decide), hall 12 (by decide), hall 13 (by decide), ite_tt, two]
     cases o with
     | true => exact ⟨by first | trivial | rfl, _, _, ⟨by simp [EnvLe, List.replicate], .inl rfl⟩, H.length + 3, H.length + 4, _, rfl, by simp, by simp, rfl⟩
     | false => exact ⟨by first | trivial | rfl, _, _, ⟨by simp [EnvLe, List.replicate], .inl rfl⟩, H.length + 4, H.length + 3, _, rfl, by simp, by simp, rfl⟩
   rintro env0 K0 ⟨lx, ly, G, hK, kx, ky, rfl⟩
   have k1 : K0[H.length + 1]? = some (.box 25 [.d (.sl 1 (P1.map fun s => [PD.v (.string s)])), .d (.sl 5 (C1.map lkP)), .d (lklP V1)]) := by rw [hK]; simp
   have k2 : K0[H.length + 2]? = some (.box 25 [.d (.sl 1 (P2.map fun s => [PD.v (.string s)])), .d (.sl 5 (C2.map lkP)), .d (lklP V2)]) := by rw [hK]; simp
   have q1 := lt_of_get kx
   have q2 := lt_of_get ky
   have q3 := lt_of_get k1
   have q4 := lt_of_get k2
   simp only [rp]
   repeat' (first | (refine aops_cons ?_; first | (refine zg rfl ?_; first | refine grd_on ?_ | refine zo ?_ | (refine zs ?_ ?_ <;> intro hb <;> ((try simp only [bn] at hb); first | subst hb | simp only [hb]))) | (apply aops_o; rfl; simp only [estep, avs, tts, seval, kx, ky, k1, k2, lp1, lp2, w1, u1, u2, u3, u4, v1, v2, v3, v4, x1, x2, x3, x4, hi1, hi2, hj1, hj2, n1, n2, n3, n4, hq, decide_true, Bool.not_true, Bool.not_false] <;> exact rr)) | refine aops_nil ?_ | (refine ahops_cons ?_; first | (refine yg rfl ?_; first | refine hgrd_on ?_ | refine yo ?_ | (refine ys ?_ ?_ <;> intro hb <;> ((try simp only [bn] at hb); first | subst hb | simp only [hb]))) | (apply ahops_o; rfl; simp only [hstep, avs, tts, seval, kx, ky, k1, k2, lp1, lp2, w1, u1, u2, u3, u4, v1, v2, v3, v4, x1, x2, x3, x4, hi1, hi2, hj1, hj2, n1, n2, n3, n4, hq, decide_true, Bool.not_true, Bool.not_false] <;> exact rr; first | trivial | omega)) | refine ahops_nil ?_ | refine aw_seq ?_ | refine zr ttOk ?_ | refine zR 0 ttOk mixed ?_ | refine zR 1 ttOk mixed ?_ | refine zR 2 ttOk mixed ?_ | refine zR 3 ttOk mixed ?_ | refine zf rfl rfl ?_ | refine zt rfl rfl ?_ | (refine aw_cond rfl rfl ?_ ?_ <;> intro hb <;> ((try simp only [bn] at hb); first | subst hb | simp only [hb])) | refine aw_skip ?_ | refine aw_exit ?_ | refine aw_block ?_)
   refine ⟨C1.length - (i + 1), _, H ++ [.dead, .box 25 [.d (.sl 1 (P1.map fun s => [PD.v (.string s)])), .d (.sl 5 (C1.map lkP)), .d (lklP V1)], .box 25 [.d (.sl 1 (P2.map fun s => [PD.v (.string s)])), .d (.sl 5 (C2.map lkP)), .d (lklP V2)]], by omega, ⟨?_, .inr ⟨by simp, ?_, .more hB (.cons (by simp [AObj.bel]) (.cons (by simp [AObj.bel, belL, AV.bel, lklP]) (.cons (by simp [AObj.bel, belL, AV.bel, lklP]) .nil))), G, by rw [hK]; simp⟩⟩, i + 1, rfl, hlt, rfl, rfl⟩
   ·(try simp only [rp]); (repeat (first | exact trivial | refine ⟨.inr rfl, ?_⟩ | refine ⟨.inl rfl, ?_⟩))
   ·simp [belL, AV.bel, List.replicate]
 ·have hgo' : (bf && !c0) = false := by simpa using hgo
  clear hgo hbf
  refine pure_enter ttOk Tryz.call5 Tryz.func5 rfl fun H hB hb hF => ?_
  rw [Tryz.results5, Tryz.ntmps5]
  simp only [arr_list, List.length_cons, List.length_nil, List.replicate, List.cons_append, List.nil_append, Nat.reduceAdd, Nat.reduceSub]
  clear hF hb
  have la := hds_len l
  simp only [hdsP, iA, tA, boA] at cf hd ⊢
  repeat' (first | (refine aops_cons ?_; first | (refine zg rfl ?_; first | refine grd_on ?_ | refine zo ?_ | (refine zs ?_ ?_ <;> intro hb <;> ((try simp only [bn] at hb); first | subst hb | simp only [hb]))) | (apply aops_o; rfl; simp only [estep, avs, tts, seval, g0, la, Bool.not_true, Bool.not_false] <;> exact rr) | (refine za rfl ?_; first | refine zp (hd) ?_ | refine zp (cf) ?_)) | refine aops_nil ?_ | (refine ahops_cons ?_; first | (refine yg rfl ?_; first | refine hgrd_on ?_ | refine yo ?_ | (refine ys ?_ ?_ <;> intro hb <;> ((try simp only [bn] at hb); first | subst hb | simp only [hb]))) | (apply ahops_o; rfl; simp only [hstep, avs, tts, seval, g0, la, Bool.not_true, Bool.not_false] <;> exact rr; first | trivial | omega) | (refine ya rfl ?_; first | refine yp (hd) ?_ | refine yp (cf) ?_)) | refine ahops_nil ?_ | refine aw_seq ?_ | refine zr ttOk ?_ | refine zR 0 ttOk mixed ?_ | refine zR 1 ttOk mixed ?_ | refine zR 2 ttOk mixed ?_ | refine zR 3 ttOk mixed ?_ | refine zf rfl rfl ?_ | refine zt rfl rfl ?_ | (refine aw_cond rfl rfl ?_ ?_ <;> intro hb <;> ((try simp only [bn] at hb); first | subst hb | simp only [hb])) | refine aw_skip ?_ | refine aw_exit ?_ | refine aw_block ?_)
  all_goals first
   | (exfalso; revert hgo'; decide)
   | (show AW _ _ _ _ _; refine aw_ret ⟨_, rfl, [], by simp, ?_⟩; rfl)
end
theorem rep_u8 (w : World) {n : Int} (h : (Lit.int .u8 n).wf = true) : Rep (rowSt w) (.d (.v (.int .u8 n))) (.int .u8 n) ∧ 0 ≤ n ∧ n ≤ 255 := by
 simp only [Lit.wf, Bool.and_eq_true, decide_eq_true_eq, IntKind.min, IntKind.max, IntKind.signed, IntKind.bits] at h
 (try simp at h)
 refine ⟨?_, by omega, by omega⟩
 simp only [Rep, PRep, true_and, small, IntKind.min, IntKind.max, IntKind.signed, IntKind.bits]
 (try simp)
 omega
end Av
theorem registerNominees.walk {w : World} (hT : Tabs w) (v0 : Value) (a0 : List Rg.Hd) (h0 : Av.HdsIn w v0 a0) (a1 : Int) (w1 : (Lit.int .i64 a1).wf = true) (a2 : Int) (w2 : (Lit.int .u8 a2).wf = true) : Calls Tryz.prog 5 #[v0, .int .i64 a1, .int .u8 a2] w fun e w' => e = .returned (.bool true) ∧ Below w.heap.size w w' :=
 Av.calls_of_a (Av.nominees_a hT a0 a1 a2 (Av.rep_u8 w w2).2.1 (Av.rep_u8 w w2).2.2 []) (.cons h0 (.cons (Av.rep_w w w1) (.one (Av.rep_u8 w w2).1))) fun r H' h => h.1
end Go.Proofs.YtdekcppfpgeneaaGreatDoor
