import Derived.Test.YtdekcppfpgeneaaGreatDoorU5
import Derived.Test.YtdekcppfpgeneaaGreatDoorU2
import Derived.Test.YtdekcppfpgeneaaGreatDoorU3
set_option linter.unusedVariables false
set_option linter.unusedSimpArgs false
namespace Go.Proofs.YtdekcppfpgeneaaGreatDoor
open Go Go.RowKit
namespace Rg
open Av Nt
theorem sumF_hi {α : Type} (p : α → Bool) {f : α → Int} : ∀ {l : List α}, (∀ h ∈ l, 0 ≤ f h ∧ f h ≤ 100) → 0 ≤ sumF p f l ∧ sumF p f l ≤ 100 * l.length
 | [], _ => by simp [sumF]
 | a :: r, h => by
  have h1 := sumF_hi p (l := r) fun x hx => h x (List.mem_cons_of_mem _ hx)
  have h2 := h a (List.mem_cons_self ..)
  simp only [sumF, List.length_cons]
  split <;> omega
end Rg
namespace Av
attribute [local irreducible] AW AOps AHOps
open Nt Rg

/-! RegisterSums. -/
section
variable {base : World} (hT : Tabs base)
include hT
set_option maxRecDepth 100000 in
set_option maxHeartbeats 8000000 in
theorem sums_a (l : List Hd) (day : Int) : PureA Tryz.prog base 9 [.d (hdsP l), iA day] (boA true) := by
 have hd := head_a hT
 have cf := lfew_a (base := base) l
 obtain ⟨bf, hbf⟩ : ∃ b, fewB 20 l = b := ⟨_, rfl⟩
 rw [hbf] at cf
 cases bf with
 | false =>
  refine pure_enter ttOk Tryz.call9 Tryz.func9 rfl fun H hB hb hF => ?_
  rw [Tryz.results9, Tryz.ntmps9]
  simp only [arr_list, List.length_cons, List.length_nil, List.replicate, List.cons_append, List.nil_append, Nat.reduceAdd, Nat.reduceSub]
  clear hF hb hbf
  simp only [hdsP, iA, boA] at cf hd ⊢
  repeat' (first | (refine aops_cons ?_; first | (refine zg rfl ?_; first | refine grd_on ?_ | refine zo ?_ | (refine zs ?_ ?_ <;> intro hb <;> ((try simp only [bn] at hb); first | subst hb | simp only [hb]))) | (apply aops_o; rfl; simp only [estep, avs, tts, seval, Bool.not_false] <;> exact rr) | (refine za rfl ?_; first | refine zp (hd) ?_ | refine zp (cf) ?_)) | refine aops_nil ?_ | (refine ahops_cons ?_; first | (refine yg rfl ?_; first | refine hgrd_on ?_ | refine yo ?_ | (refine ys ?_ ?_ <;> intro hb <;> ((try simp only [bn] at hb); first | subst hb | simp only [hb]))) | (apply ahops_o; rfl; simp only [hstep, avs, tts, seval, Bool.not_false] <;> exact rr; first | trivial | omega) | (refine ya rfl ?_; first | refine yp (hd) ?_ | refine yp (cf) ?_)) | refine ahops_nil ?_ | refine aw_seq ?_ | refine zr ttOk ?_ | refine zR 0 ttOk mixed ?_ | refine zR 1 ttOk mixed ?_ | refine zR 2 ttOk mixed ?_ | refine zR 3 ttOk mixed ?_ | refine zf rfl rfl ?_ | refine zt rfl rfl ?_ | (refine aw_cond rfl rfl ?_ ?_ <;> intro hb <;> ((try simp only [bn] at hb); first | subst hb | simp only [hb])) | refine aw_skip ?_ | refine aw_exit ?_ | refine aw_block ?_)
  exact aw_ret ⟨_, rfl, [], by simp, rfl⟩
 | true =>
 obtain ⟨h20, hsm⟩ := few_small hbf
 have hs := fun h hh => (hsm h hh).1
 have hj : ∀ h ∈ l, h.joint.length ≤ 1000 := fun h hh => by have := (hsm h hh).2; omega
 have a1 := at_b (base := base) hT l day hs hj (by omega)
 have sh := atS_short (l := l) day hj (by omega)
 obtain ⟨k1, z1⟩ : ∃ c, decide (atE l day = 0) = c := ⟨_, rfl⟩
 have law : k1 = true → validB l = true ∧ (∀ i (hi : i < (atS l day).parties.length), totU (atS l day).capital i = capS l day (atS l day).parties[i] * 60 ∧ totU (atS l day).votes i = sumF (fun h => inB day (atS l day).parties[i] h && !selfP h) Hd.votes l * 60) ∧ LGood (atS l day).capital ∧ LGood (atS l day).votes := fun e => by
  subst e
  obtain ⟨h1, h2⟩ := atE_ok (of_decide_eq_true z1)
  have hp := (valid_all h1).1
  unfold atS
  rw [h1, h2]
  simp only [Bool.and_self, if_true]
  refine ⟨trivial, fun i hi => ⟨?_, ?_⟩, lgood_lnk (cap_good h1 day), lgood_lnk (vot_good h1 day)⟩
  ·rw [totU_lnk (cap_good h1 day), cap_tot hp (fun h hh => hh) hi day]
  ·rw [totU_lnk (vot_good h1 day), vot_tot hp (fun h hh => hh) hi day]
 clear hbf hsm hs
 refine pure_enter ttOk Tryz.call9 Tryz.func9 rfl fun H hB hb hF => ?_
 rw [Tryz.results9, Tryz.ntmps9]
 simp only [arr_list, List.length_cons, List.length_nil, List.replicate, List.cons_append, List.nil_append, Nat.reduceAdd, Nat.reduceSub]
 clear hF hb
 have la := hds_len l
 generalize atS l day = S at *
 generalize atE l day = E at *
 obtain ⟨P, C, V⟩ := S
 have lp : (P.map fun s => [PD.v (.string s)]).length = P.length := by simp
 simp only at law
 simp only [hdsP, iA, boA, strA, strL, strsP] at cf hd a1 ⊢
 cases k1 with
 | false =>
  repeat' (first | (refine aops_cons ?_; first | (refine zg rfl ?_; first | refine grd_on ?_ | refine zo ?_ | (refine zs ?_ ?_ <;> intro hb <;> ((try simp only [bn] at hb); first | subst hb | simp only [hb]))) | (apply aops_o; rfl; simp only [estep, avs, tts, seval, z1, Bool.not_true, Bool.not_false] <;> exact rr) | (refine za rfl ?_; first | refine zp (hd) ?_ | refine zp (cf) ?_ | refine zp (a1) ?_)) | refine aops_nil ?_ | (refine ahops_cons ?_; first | (refine yg rfl ?_; first | refine hgrd_on ?_ | refine yo ?_ | (refine ys ?_ ?_ <;> intro hb <;> ((try simp only [bn] at hb); first | subst hb | simp only [hb]))) | (apply ahops_o; rfl; simp only [hstep, avs, tts, seval, z1, Bool.not_true, Bool.not_false] <;> exact rr; first | trivial | omega) | (refine ya rfl ?_; first | refine yp (hd) ?_ | refine yp (cf) ?_ | refine yp (a1) ?_)) | refine ahops_nil ?_ | refine aw_seq ?_ | refine zr ttOk ?_ | refine zR 0 ttOk mixed ?_ | refine zR 1 ttOk mixed ?_ | refine zR 2 ttOk mixed ?_ | refine zR 3 ttOk mixed ?_ | refine zf rfl rfl ?_ | refine zt rfl rfl ?_ | (refine aw_cond rfl rfl ?_ ?_ <;> intro hb <;> ((try simp only [bn] at hb); first | subst hb | simp only [hb])) | refine aw_skip ?_ | refine aw_exit ?_ | refine aw_block ?_)
  exact aw_ret ⟨_, rfl, _, rfl, rfl⟩
 | true =>
 have e0 := of_decide_eq_true z1
 subst e0
 obtain ⟨hv, htot, hc, hvg⟩ := law rfl
 clear law z1
 have hpct := capP (valid_all hv).1
 have sp := sh.p
 have sc := sh.c
 have sv := sh.v
 simp only at sp sc sv
 clear sh
 repeat' (first | (refine aops_cons ?_; first | (refine zg rfl ?_; first | refine grd_on ?_ | refine zo ?_ | (refine zs ?_ ?_ <;> intro hb <;> ((try simp only [bn] at hb); first | subst hb | simp only [hb]))) | (apply aops_o; rfl; simp only [estep, avs, tts, seval, decide_true, Bool.not_true, Bool.not_false] <;> exact rr) | (refine za rfl ?_; first | refine zp (hd) ?_ | refine zp (cf) ?_ | refine zp (a1) ?_)) | refine aops_nil ?_ | (refine ahops_cons ?_; first | (refine yg rfl ?_; first | refine hgrd_on ?_ | refine yo ?_ | (refine ys ?_ ?_ <;> intro hb <;> ((try simp only [bn] at hb); first | subst hb | simp only [hb]))) | (apply ahops_o; rfl; simp only [hstep, avs, tts, seval, decide_true, Bool.not_true, Bool.not_false] <;> exact rr; first | trivial | omega) | (refine ya rfl ?_; first | refine yp (hd) ?_ | refine yp (cf) ?_ | refine yp (a1) ?_)) | refine ahops_nil ?_ | refine aw_seq ?_ | refine zr ttOk ?_ | refine zR 0 ttOk mixed ?_ | refine zR 1 ttOk mixed ?_ | refine zR 2 ttOk mixed ?_ | refine zR 3 ttOk mixed ?_ | refine zf rfl rfl ?_ | refine zt rfl rfl ?_ | (refine aw_cond rfl rfl ?_ ?_ <;> intro hb <;> ((try simp only [bn] at hb); first | subst hb | simp only [hb])) | refine aw_skip ?_ | refine aw_exit ?_ | refine aw_block ?_)
 clear hd cf a1
 simp only [lklP]
 have hbB : ∀ n, (.box 25 [.d (.sl 1 (P.map fun s => [PD.v (.string s)])), .d (.sl 5 (C.map lkP)), .d (.sl 5 (V.map lkP))] : AObj).bel n := fun n => by simp [AObj.bel, belL, AV.bel]
 refine aw_loop (H0 := H ++ [.box 25 [.d (.sl 1 (P.map fun s => [PD.v (.string s)])), .d (.sl 5 (C.map lkP)), .d (.sl 5 (V.map lkP))]]) (fun r env K => ∃ c, r = P.length - c ∧ c ≤ P.length ∧ K = H ++ [.box 25 [.d (.sl 1 (P.map fun s => [PD.v (.string s)])), .d (.sl 5 (C.map lkP)), .d (.sl 5 (V.map lkP))]] ∧ env = (.d (.sl 10 (l.map hdC)) :: .d (.v (.int .i64 day)) :: .undef :: .undef :: .undef :: .d (.v (.bool true)) :: .ptr H.length 0 :: .undef :: .d (.v (.int .i64 (c : Int))) :: List.replicate 88 .undef)) ?_ ⟨0, rfl, Nat.zero_le _, rfl, rfl⟩ ?_
 ·exact ⟨by (try simp only [rp]); (repeat (first | exact trivial | refine ⟨.inr rfl, ?_⟩ | refine ⟨.inl rfl, ?_⟩)), .inl rfl⟩
 rintro r env K ⟨c, rfl, hcl, rfl, rfl⟩ hN
 simp only [rp]
 obtain ⟨d0, g0⟩ : ∃ d, decide ((c : Int) < (P.length : Int)) = d := ⟨_, rfl⟩
 cases d0 with
 | false =>
  repeat' (first | (refine aops_cons ?_; first | (refine zg rfl ?_; first | refine grd_on ?_ | refine zo ?_ | (refine zs ?_ ?_ <;> intro hb <;> ((try simp only [bn] at hb); first | subst hb | simp only [hb]))) | (apply aops_o; rfl; simp only [estep, avs, tts, seval, g0, lp] <;> exact rr)) | refine aops_nil ?_ | (refine ahops_cons ?_; first | (refine yg rfl ?_; first | refine hgrd_on ?_ | refine yo ?_ | (refine ys ?_ ?_ <;> intro hb <;> ((try simp only [bn] at hb); first | subst hb | simp only [hb]))) | (apply ahops_o; rfl; simp only [hstep, avs, tts, seval, g0, lp] <;> exact rr; first | trivial | omega)) | refine ahops_nil ?_ | refine aw_seq ?_ | refine zr ttOk ?_ | refine zR 0 ttOk mixed ?_ | refine zR 1 ttOk mixed ?_ | refine zR 2 ttOk mixed ?_ | refine zR 3 ttOk mixed ?_ | refine zf rfl rfl ?_ | refine zt rfl rfl ?_ | (refine aw_cond rfl rfl ?_ ?_ <;> intro hb <;> ((try simp only [bn] at hb); first | subst hb | simp only [hb])) | refine aw_skip ?_ | refine aw_exit ?_ | refine aw_block ?_)
  show AW _ _ _ _ _
  exact aw_ret ⟨_, rfl, _, rfl, rfl⟩
 | true =>
 have hlt : c < P.length := by simpa using g0
 have hix : (0 : Int) ≤ (c : Int) := by omega
 have gp := strsP_get hlt
 have w1 : IntKind.i64.wrap ((c : Int) + 1) = ((c + 1 : Nat) : Int) := wrap_succ hlt (by omega)
 obtain ⟨t1, t2⟩ := htot c hlt
 have hbear : bearB l = true := by
  unfold validB at hv; simp only [Bool.and_eq_true] at hv; exact hv.2.2.2
 have hh := held (valid_all hv).1 hbear day P[c]
 have m1 : sumF (fun h => inB day P[c] h && !selfP h) Hd.votes l ≤ votS l day P[c] := by
  unfold votS
  refine sumF_le fun x hx => ?_
  have h6 := (hpct x hx).2.1
  by_cases e : inB day P[c] x = true
  ·rw [if_pos e]; split <;> omega
  ·simp [e]
 have p1 : 0 ≤ capS l day P[c] := sumF_nonneg fun h hh _ => (hpct h hh).1.1
 have p2 : 0 ≤ sumF (fun h => inB day P[c] h && !selfP h) Hd.votes l := sumF_nonneg fun h hh _ => (hpct h hh).2.1
 have ca := adds_a hT C (c : Int) (capS l day P[c]) (by omega) p1 hh.1 hc t1
 have cb := adds_a hT V (c : Int) _ (by omega) p2 (by omega) hvg t2
 clear t1 t2 hh m1 p1 p2
 have sb1 := fun i => sumF_hi (inB day P[c]) (f := Hd.capital) (l := l.take i) fun h hh => (hpct h (List.mem_of_mem_take hh)).1
 have sb2 := fun i => sumF_hi (fun h => inB day P[c] h && !selfP h) (f := Hd.votes) (l := l.take i) fun h hh => (hpct h (List.mem_of_mem_take hh)).2
 have st1 := fun i (h : i < l.length) => sumF_take_succ (inB day P[c]) Hd.capital l h
 have st2 := fun i (h : i < l.length) => sumF_take_succ (fun h => inB day P[c] h && !selfP h) Hd.votes l h
 unfold capS at ca
 have inU : ∀ h, inB day P[c] h = (runsB h day && decide (h.company = P[c])) := fun h => rfl
 simp only [iA, lklP] at ca cb
 generalize P[c] = nm at *
 repeat' (first | (refine aops_cons ?_; first | (refine zg rfl ?_; first | refine grd_on ?_ | refine zo ?_ | (refine zs ?_ ?_ <;> intro hb <;> ((try simp only [bn] at hb); first | subst hb | simp only [hb]))) | (apply aops_o; rfl; simp only [estep, avs, tts, seval, g0, lp] <;> exact rr)) | refine aops_nil ?_ | (refine ahops_cons ?_; first | (refine yg rfl ?_; first | refine hgrd_on ?_ | refine yo ?_ | (refine ys ?_ ?_ <;> intro hb <;> ((try simp only [bn] at hb); first | subst hb | simp only [hb]))) | (apply ahops_o; rfl; simp only [hstep, avs, tts, seval, g0, lp] <;> exact rr; first | trivial | omega)) | refine ahops_nil ?_ | refine aw_seq ?_ | refine zr ttOk ?_ | refine zR 0 ttOk mixed ?_ | refine zR 1 ttOk mixed ?_ | refine zR 2 ttOk mixed ?_ | refine zR 3 ttOk mixed ?_ | refine zf rfl rfl ?_ | refine zt rfl rfl ?_ | (refine aw_cond rfl rfl ?_ ?_ <;> intro hb <;> ((try simp only [bn] at hb); first | subst hb | simp only [hb])) | refine aw_skip ?_ | refine aw_exit ?_ | refine aw_block ?_)
 refine aw_loop (H0 := H ++ [.box 25 [.d (.sl 1 (P.map fun s => [PD.v (.string s)])), .d (.sl 5 (C.map lkP)), .d (.sl 5 (V.map lkP))]]) (fun r env K => ∃ i, r = l.length - i ∧ i ≤ l.length ∧ K = H ++ [.box 25 [.d (.sl 1 (P.map fun s => [PD.v (.string s)])), .d (.sl 5 (C.map lkP)), .d (.sl 5 (V.map lkP))]] ∧ env = (.d (.sl 10 (l.map hdC)) :: .d (.v (.int .i64 day)) :: .undef :: .undef :: .undef :: .d (.v (.bool true)) :: .ptr H.length 0 :: .undef :: .d (.v (.int .i64 (c : Int))) :: .d (.v (.int .i64 (sumF (inB day nm) Hd.capital (l.take i)))) :: .d (.v (.int .i64 (sumF (fun h => inB day nm h && !selfP h) Hd.votes (l.take i)))) :: .d (.v (.int .i64 (i : Int))) :: List.replicate 85 .undef)) ?_ ⟨0, rfl, Nat.zero_le _, rfl, rfl⟩ ?_
 ·exact ⟨by (try simp only [rp]); (repeat (first | exact trivial | refine ⟨.inr rfl, ?_⟩ | refine ⟨.inl rfl, ?_⟩)), .inl rfl⟩
 rintro r env K ⟨i, rfl, hi, rfl, rfl⟩ hN2
 simp only [rp]
 obtain ⟨d1, g1⟩ : ∃ d, decide ((i : Int) < (l.length : Int)) = d := ⟨_, rfl⟩
 cases d1 with
 | false =>
  have hka : i = l.length := by
                 have : ¬ i < l.length := by simpa using g1
                 omega
  rw [hka, List.take_length]
  rw [hka] at g1
  clear sb1 sb2 st1 st2 htot
  repeat' (first | (refine aops_cons ?_; first | (refine zg rfl ?_; first | refine grd_on ?_ | refine zo ?_ | (refine zs ?_ ?_ <;> intro hb <;> ((try simp only [bn] at hb); first | subst hb | simp only [hb]))) | (apply aops_o; rfl; simp only [estep, avs, tts, seval, g1, la, lp, w1, Bool.not_true] <;> exact rr) | (refine za rfl ?_; first | refine zp (ca) ?_ | refine zp (cb) ?_)) | refine aops_nil ?_ | (refine ahops_cons ?_; first | (refine yg rfl ?_; first | refine hgrd_on ?_ | refine yo ?_ | (refine ys ?_ ?_ <;> intro hb <;> ((try simp only [bn] at hb); first | subst hb | simp only [hb]))) | (apply ahops_o; rfl; simp only [hstep, avs, tts, seval, g1, la, lp, w1, Bool.not_true] <;> exact rr; first | trivial | omega) | (refine ya rfl ?_; first | refine yp (ca) ?_ | refine yp (cb) ?_)) | refine ahops_nil ?_ | refine aw_seq ?_ | refine zr ttOk ?_ | refine zR 0 ttOk mixed ?_ | refine zR 1 ttOk mixed ?_ | refine zR 2 ttOk mixed ?_ | refine zR 3 ttOk mixed ?_ | refine zf rfl rfl ?_ | refine zt rfl rfl ?_ | (refine aw_cond rfl rfl ?_ ?_ <;> intro hb <;> ((try simp only [bn] at hb); first | subst hb | simp only [hb])) | refine aw_skip ?_ | refine aw_exit ?_ | refine aw_block ?_)
  exact ⟨P.length - (c + 1), _, _, by omega, ⟨by (try simp only [rp]); (repeat (first | exact trivial | refine ⟨.inr rfl, ?_⟩ | refine ⟨.inl rfl, ?_⟩)), .inl rfl⟩, c + 1, rfl, hlt, rfl, rfl⟩
 | true =>
  have hlt2 : i < l.length := by simpa using g1
  have hix2 : (0 : Int) ≤ (i : Int) := by omega
  have hgd := hds_get hlt2
  have w2 : IntKind.i64.wrap ((i : Int) + 1) = ((i + 1 : Nat) : Int) := wrap_succ hlt2 (by omega)
  have b1 := sb1 i
  have b2 := sb2 i
  have s1 := st1 i hlt2
  have s2 := st2 i hlt2
  have hpx := hpct _ (List.getElem_mem hlt2)
  rw [List.length_take] at b1 b2
  generalize sumF (inB day nm) Hd.capital (l.take i) = A1 at *
  generalize sumF (fun h => inB day nm h && !selfP h) Hd.votes (l.take i) = A2 at *
  generalize l[i] = x at hgd s1 s2 hpx
  obtain ⟨xid, xco, xho, xno, xpl, xjo, xca, xvo, xfr, xti⟩ := x
  simp only [hdC] at hgd
  have w3 : IntKind.i64.wrap (A1 + xca) = A1 + xca := by rw [IntKind.wrap_i64]; simp only at hpx; omega
  have w4 : IntKind.i64.wrap (A2 + xvo) = A2 + xvo := by rw [IntKind.wrap_i64]; simp only at hpx; omega
  obtain ⟨e1, f1⟩ : ∃ d, decide (xco = nm) = d := ⟨_, rfl⟩
  obtain ⟨e2, f2⟩ : ∃ d, decide (day < xfr) = d := ⟨_, rfl⟩
  obtain ⟨e3, f3⟩ : ∃ d, decide (xti = -1) = d := ⟨_, rfl⟩
  obtain ⟨e4, f4⟩ : ∃ d, decide (day ≥ xti) = d := ⟨_, rfl⟩
  obtain ⟨e5, f5⟩ : ∃ d, decide (xpl = xco) = d := ⟨_, rfl⟩
  have n2 : decide (xfr ≤ day) = !e2 := by rw [← f2, ← decide_not]; exact decide_eq_decide.2 (by omega)
  have n4 : decide (day < xti) = !e4 := by rw [← f4, ← decide_not]; exact decide_eq_decide.2 (by omega)
  have hin : inB day nm ⟨xid, xco, xho, xno, xpl, xjo, xca, xvo, xfr, xti⟩ = ((!e2 && (e3 || !e4)) && e1) := by
   rw [inU]; unfold runsB; simp only [n2, n4, f3, f1]
  have hse : selfP ⟨xid, xco, xho, xno, xpl, xjo, xca, xvo, xfr, xti⟩ = e5 := f5
  rw [hin] at s1
  rw [hin, hse] at s2
  simp only at s1 s2
  clear hin hse n2 n4 hpx b1 b2 sb1 sb2 st1 st2 inU ca cb htot hpct
  repeat' (first | (refine aops_cons ?_; first | (refine zg rfl ?_; first | refine grd_on ?_ | refine zo ?_ | (refine zs ?_ ?_ <;> intro hb <;> ((try simp only [bn] at hb); first | subst hb | simp only [hb]))) | (apply aops_o; rfl; simp only [estep, avs, tts, seval, g1, la, lp, hix, hlt, gp, hix2, hlt2, hgd, w2, w3, w4, f1, f2, f3, f4, f5, Bool.not_true, Bool.not_false] <;> exact rr)) | refine aops_nil ?_ | (refine ahops_cons ?_; first | (refine yg rfl ?_; first | refine hgrd_on ?_ | refine yo ?_ | (refine ys ?_ ?_ <;> intro hb <;> ((try simp only [bn] at hb); first | subst hb | simp only [hb]))) | (apply ahops_o; rfl; simp only [hstep, avs, tts, seval, g1, la, lp, hix, hlt, gp, hix2, hlt2, hgd, w2, w3, w4, f1, f2, f3, f4, f5, Bool.not_true, Bool.not_false] <;> exact rr; first | trivial | omega)) | refine ahops_nil ?_ | refine aw_seq ?_ | refine zr ttOk ?_ | refine zR 0 ttOk mixed ?_ | refine zR 1 ttOk mixed ?_ | refine zR 2 ttOk mixed ?_ | refine zR 3 ttOk mixed ?_ | refine zf rfl rfl ?_ | refine zt rfl rfl ?_ | (refine aw_cond rfl rfl ?_ ?_ <;> intro hb <;> ((try simp only [bn] at hb); first | subst hb | simp only [hb])) | refine aw_skip ?_ | refine aw_exit ?_ | refine aw_block ?_)
  all_goals
   (refine ⟨l.length - (i + 1), _, H ++ [.box 25 [.d (.sl 1 (P.map fun s => [PD.v (.string s)])), .d (.sl 5 (C.map lkP)), .d (.sl 5 (V.map lkP))]], by omega, ⟨?_, .inr ⟨by simp, ?_, .more hB (.cons (hbB _) .nil), _, by simp only [List.append_assoc, List.cons_append, List.nil_append]; rfl⟩⟩, i + 1, rfl, hlt2, rfl, rfl⟩; (simp only [s1, s2, Bool.not_true, Bool.not_false, Bool.true_and, Bool.false_and, Bool.and_true, Bool.and_false, Bool.or_true, Bool.true_or, Bool.or_false, Bool.false_or, if_true, Bool.false_eq_true, if_false, Int.add_zero]; (try simp only [rp]); (repeat (first | exact trivial | refine ⟨.inr rfl, ?_⟩ | refine ⟨.inl rfl, ?_⟩))); (simp [belL, AV.bel, List.replicate]))
end
end Av
theorem registerSums.walk {w : World} (hT : Tabs w) (v0 : Value) (a0 : List Rg.Hd) (h0 : Av.HdsIn w v0 a0) (a1 : Int) (w1 : (Lit.int .i64 a1).wf = true) : Calls Tryz.prog 9 #[v0, .int .i64 a1] w fun e w' => e = .returned (.bool true) ∧ Below w.heap.size w w' :=
 Av.calls_of_a (Av.sums_a hT a0 a1 []) (.cons h0 (.one (Av.rep_w w w1))) fun r H' h => h.1
end Go.Proofs.YtdekcppfpgeneaaGreatDoor
