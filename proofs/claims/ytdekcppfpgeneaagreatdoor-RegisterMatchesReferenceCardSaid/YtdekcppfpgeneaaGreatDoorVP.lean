import Derived.Test.YtdekcppfpgeneaaGreatDoorV5
import Derived.Test.YtdekcppfpgeneaaGreatDoorV2
import Derived.Test.YtdekcppfpgeneaaGreatDoorV3
set_option linter.unusedVariables false
set_option linter.unusedSimpArgs false
namespace Go.Proofs.YtdekcppfpgeneaaGreatDoor
open Go Go.RowKit
namespace Rg
open Av Nt
theorem vM (l:List Hd) (h:Hd):(iz l h).1=[]∨(iz l h).1=l++[h]:=by
 unfold iz
 repeat' split
 all_goals first | exact .inl rfl | exact .inr rfl
theorem wx (l:List Hd) (id:ByteArray) (d:Int):(iK l id d).1=[]∨(iK l id d).1=uK l id d:=by
 unfold iK
 repeat' split
 all_goals first | exact .inl rfl | exact .inr rfl
end Rg
namespace Av
attribute [local irreducible] AW aQ aM
open Nt Rg
section
variable (base:World)
theorem Eu (l:List Hd) (day:Int) (hs:∀h∈l,Small h) (hj:∀h∈l,h.joint.length≤1000) (hl:l.length≤900):aJ Tryz.prog base 21 [.d (bM l),iA day] (.tup [qz (atS l day),iA (atE l day)]):=by
 refine (Ev base l day hs hj hl).le ?_
 have hc:∀s:KSt,LeA (kB s) (.d (jv (cq s))):=fun s=>by
  unfold kB
  split
  ·rename_i h
   have e:cq s=[]:=List.eq_nil_of_length_eq_zero (by rw [nP,h];rfl)
   rw [e];exact .nil 5
  ·rw [mR];exact .refl _
 unfold DL atS atE
 cases br l&&eR day with
 | true =>
  simp only [if_true]
  exact LeA.tup ⟨LeA.agg ⟨.refl _,hc _,hc _,trivial⟩,.refl _,trivial⟩
 | false =>
  simp only [Bool.false_eq_true,if_false]
  exact LeA.tup ⟨LeA.agg ⟨.nil 1,.nil 5,.nil 5,trivial⟩,.refl _,trivial⟩
end
section
variable {base:World} (hT:dJ base)
include hT
set_option maxRecDepth 100000 in
set_option maxHeartbeats 16000000 in
theorem match_a (l:List Hd) (h:Hd) (id:ByteArray) (day:Int):aJ Tryz.prog base 6 [.d (bM l),hdA h,tA id,iA day] (boA true):=by
 have hd:=Du hT
 have cf:=zT (base:=base) l
 have cf2:=zT (base:=base) [h]
 obtain ⟨bf,hbf⟩:∃b,lD 20 l=b:=⟨_,rfl⟩
 obtain ⟨bg,hbg⟩:∃b,lD 20 [h]=b:=⟨_,rfl⟩
 rw [hbf] at cf
 rw [hbg] at cf2
 obtain ⟨c2,g2⟩:∃c,decide ((id.size:Int)>60)=c:=⟨_,rfl⟩
 cases bf with
 | false =>
  refine aA af Tryz.call6 Tryz.func6 rfl fun H hB hb hF => ?_
  rw [Tryz.results6,Tryz.ntmps6]
  simp only [ax,List.length_cons,List.length_nil,List.replicate,List.cons_append,List.nil_append,Nat.reduceAdd,Nat.reduceSub]
  clear hF hb
  simp only [bM,iA,tA,boA,hdA,hdL] at cf hd ⊢
  repeat' (first | (refine aa ?_;first | (refine zg rfl ?_;first | refine ah ?_ | refine zo ?_ | (refine zs ?_ ?_<;>intro hb<;>((try simp only [bn] at hb);first | subst hb | simp only [hb]))) | (apply ai;rfl;simp only [aj,avs,tts,seval,g2,Bool.not_true,Bool.not_false]<;>exact rr) | (refine za rfl ?_;first | refine zp (hd) ?_ | refine zp (cf) ?_)) | refine ae ?_ | (refine ak ?_;first | (refine yg rfl ?_;first | refine aq ?_ | refine yo ?_ | (refine ys ?_ ?_<;>intro hb<;>((try simp only [bn] at hb);first | subst hb | simp only [hb]))) | (apply ar;rfl;simp only [aB,avs,tts,seval,g2,Bool.not_true,Bool.not_false]<;>exact rr;first | trivial | omega) | (refine ya rfl ?_;first | refine yp (hd) ?_ | refine yp (cf) ?_)) | refine al ?_ | refine ag ?_ | refine zr af ?_ | refine zR 0 af mixed ?_ | refine zR 1 af mixed ?_ | refine zR 2 af mixed ?_ | refine zR 3 af mixed ?_ | refine zf rfl rfl ?_ | refine zt rfl rfl ?_ | (refine an rfl rfl ?_ ?_<;>intro hb<;>((try simp only [bn] at hb);first | subst hb | simp only [hb])) | refine ap ?_ | refine au ?_ | refine am ?_)
  refine aw ⟨_,rfl,_,rfl,?_⟩
  rfl
 | true =>
 obtain ⟨h20,hsm⟩:=lC hbf
 have hs:=fun h hh=>(hsm h hh).1
 have hj:∀h∈l,h.joint.length≤1000:=fun h hh=>by have:=(hsm h hh).2;omega
 have cv:=jY (base:=base) l hs hj (by omega)
 have cw:=ja base l hs hj (by omega)
 have sh1:=lC (n:=20) (l:=[h])
 rw [hbg] at sh1
 have hjh:bg=true→h.joint.length≤1000:=fun e=>by have:=((sh1 e).2 h (by simp)).2;omega
 have hsh:bg=true→Small h:=fun e=>((sh1 e).2 h (by simp)).1
 have cp:=fun (e:bg=true)=>CE (base:=base) l h hs (hsh e) hj (hjh e) (by omega)
 have cpr:=fun (e:bg=true)=>Bz (base:=base) l h hs (hsh e) hj (hjh e) (by omega)
 have ce:=E5 base l id day hs hj (by omega)
 have cer:=Dh base l id day hs hj (by omega)
 have ca:=Cc (base:=base) hT l day hs hj (by omega)
 have car:=Eu base l day hs hj (by omega)
 have hst:=yc (l:=l) day hj (by omega)
 have cS:=yX base (atS l day) (atS l day) hst.p hst.p hst.c hst.c hst.v hst.v
 rw [decide_eq_true rfl] at cS
 have cA:=fun (e:bg=true)=>by
  have hx:∀x∈(iz l h).1,x.joint.length≤1000000:=fun x hx=>by
   rcases vM l h with e2 | e2<;>rw [e2] at hx
   ·cases hx
   ·rcases List.mem_append.1 hx with hx | hx
    ·have:=hj x hx;omega
    ·rw [List.mem_singleton] at hx;rw [hx];have:=hjh e;omega
  have hL:(iz l h).1.length≤1000000:=by
   rcases vM l h with e2 | e2<;>rw [e2]
   ·simp
   ·simp;omega
  have:=rX base (iz l h).1 (iz l h).1 hL hL hx hx
  rw [decide_eq_true rfl] at this
  exact this
 have cB:aJ Tryz.prog base 24 [.d (bM (iK l id day).1),.d (bM (iK l id day).1)] (boA true):=by
  have hx:∀x∈(iK l id day).1,x.joint.length≤1000000:=fun x hx=>by
   rcases wx l id day with e2 | e2<;>rw [e2] at hx
   ·cases hx
   ·obtain ⟨y,hy,rfl⟩:=List.mem_map.1 hx
    rw [xu];have:=hj y hy;omega
  have hL:(iK l id day).1.length≤1000000:=by
   rcases wx l id day with e2 | e2<;>rw [e2]
   ·simp
   ·unfold uK;rw [List.length_map];omega
  have:=rX base (iK l id day).1 (iK l id day).1 hL hL hx hx
  rw [decide_eq_true rfl] at this
  exact this
 clear sh1 hbg hbf hsm hst
 refine aA af Tryz.call6 Tryz.func6 rfl fun H hB hb hF => ?_
 rw [Tryz.results6,Tryz.ntmps6]
 simp only [ax,List.length_cons,List.length_nil,List.replicate,List.cons_append,List.nil_append,Nat.reduceAdd,Nat.reduceSub]
 clear hF hb
 generalize br l=vb at *
 generalize (iz l h).1=A at *
 generalize (iz l h).2=E1 at *
 generalize (iK l id day).1=B at *
 generalize (iK l id day).2=E2 at *
 generalize atS l day=S at *
 generalize atE l day=E3 at *
 obtain ⟨sp,sc,sv⟩:=S
 obtain ⟨hid,company,holder,nominee,pledged,joint,capital,votes,fr,til⟩:=h
 simp only [bM,iA,tA,boA,hdA,hdL,hdC,List.map_cons,List.map_nil,qz,yL] at cf hd cf2 cv cw cp cpr ce cer ca car cA cB cS ⊢
 repeat' (first | (refine aa ?_;first | (refine zg rfl ?_;first | refine ah ?_ | refine zo ?_ | (refine zs ?_ ?_<;>intro hb<;>((try simp only [bn] at hb);first | subst hb | simp only [hb]))) | (apply ai;rfl;simp only [aj,avs,tts,seval]<;>exact rr) | (refine za rfl ?_;first | refine zp (hd) ?_ | refine zp (cf) ?_)) | refine ae ?_ | (refine ak ?_;first | (refine yg rfl ?_;first | refine aq ?_ | refine yo ?_ | (refine ys ?_ ?_<;>intro hb<;>((try simp only [bn] at hb);first | subst hb | simp only [hb]))) | (apply ar;rfl;simp only [aB,avs,tts,seval]<;>exact rr;first | trivial | omega) | (refine ya rfl ?_;first | refine yp (hd) ?_ | refine yp (cf) ?_)) | refine al ?_ | refine ag ?_ | refine zr af ?_ | refine zR 0 af mixed ?_ | refine zR 1 af mixed ?_ | refine zR 2 af mixed ?_ | refine zR 3 af mixed ?_ | refine zf rfl rfl ?_ | refine zt rfl rfl ?_ | (refine an rfl rfl ?_ ?_<;>intro hb<;>((try simp only [bn] at hb);first | subst hb | simp only [hb])) | refine ap ?_ | refine au ?_ | refine am ?_)
 refine aa ?_
 refine gZ rfl (by simp only [avs]<;>rfl) ?_
 refine A8 ((H.length+1)) (by simp only [avs,tts,seval,cz,cJ,di,bt,bw,unI,unL,Nat.add_eq_left,Nat.left_eq_add,Nat.one_ne_zero]<;>rfl) (by simp only [avs,tts,seval,cz,cJ,di,bt,bw,unI,unL,Nat.add_eq_left,Nat.left_eq_add,Nat.one_ne_zero]<;>rfl) (cf2) (by simp only [avs]<;>rfl) ?_
 cases bg with
 | false =>
  repeat' (first | (refine aa ?_;first | (refine zg rfl ?_;first | refine ah ?_ | refine zo ?_ | (refine zs ?_ ?_<;>intro hb<;>((try simp only [bn] at hb);first | subst hb | simp only [hb]))) | (apply ai;rfl;simp only [aj,avs,tts,seval,g2,Bool.not_true,Bool.not_false]<;>exact rr)) | refine ae ?_ | (refine ak ?_;first | (refine yg rfl ?_;first | refine aq ?_ | refine yo ?_ | (refine ys ?_ ?_<;>intro hb<;>((try simp only [bn] at hb);first | subst hb | simp only [hb]))) | (apply ar;rfl;simp only [aB,avs,tts,seval,g2,Bool.not_true,Bool.not_false]<;>exact rr;first | trivial | omega)) | refine al ?_ | refine ag ?_ | refine zr af ?_ | refine zR 0 af mixed ?_ | refine zR 1 af mixed ?_ | refine zR 2 af mixed ?_ | refine zR 3 af mixed ?_ | refine zf rfl rfl ?_ | refine zt rfl rfl ?_ | (refine an rfl rfl ?_ ?_<;>intro hb<;>((try simp only [bn] at hb);first | subst hb | simp only [hb])) | refine ap ?_ | refine au ?_ | refine am ?_)
  exact aw ⟨_,rfl,_,rfl,rfl⟩
 | true =>
 cases c2 with
 | true =>
  repeat' (first | (refine aa ?_;first | (refine zg rfl ?_;first | refine ah ?_ | refine zo ?_ | (refine zs ?_ ?_<;>intro hb<;>((try simp only [bn] at hb);first | subst hb | simp only [hb]))) | (apply ai;rfl;simp only [aj,avs,tts,seval,g2,Bool.not_true,Bool.not_false]<;>exact rr)) | refine ae ?_ | (refine ak ?_;first | (refine yg rfl ?_;first | refine aq ?_ | refine yo ?_ | (refine ys ?_ ?_<;>intro hb<;>((try simp only [bn] at hb);first | subst hb | simp only [hb]))) | (apply ar;rfl;simp only [aB,avs,tts,seval,g2,Bool.not_true,Bool.not_false]<;>exact rr;first | trivial | omega)) | refine al ?_ | refine ag ?_ | refine zr af ?_ | refine zR 0 af mixed ?_ | refine zR 1 af mixed ?_ | refine zR 2 af mixed ?_ | refine zR 3 af mixed ?_ | refine zf rfl rfl ?_ | refine zt rfl rfl ?_ | (refine an rfl rfl ?_ ?_<;>intro hb<;>((try simp only [bn] at hb);first | subst hb | simp only [hb])) | refine ap ?_ | refine au ?_ | refine am ?_)
  exact aw ⟨_,rfl,_,rfl,rfl⟩
 | false =>
 have cp:=cp rfl
 have cpr:=cpr rfl
 have cA:=cA rfl
 clear cf2 hjh hsh hs hj cf
 have ee:∀x:Int,decide (x=x)=true:=fun x=>decide_eq_true rfl
 have eb:∀x:Bool,(x == x)=true:=fun x=>by simp
 repeat' (first | (refine aa ?_;first | (refine zg rfl ?_;first | refine ah ?_ | refine zo ?_ | (refine zs ?_ ?_<;>intro hb<;>((try simp only [bn] at hb);first | subst hb | simp only [hb]))) | (apply ai;rfl;simp only [aj,avs,tts,seval,g2,ee,eb,Bool.not_true,Bool.not_false]<;>exact rr) | (refine za rfl ?_;first | refine zp (cp) ?_ | refine zp (cpr) ?_ | refine zp (ce) ?_ | refine zp (cer) ?_ | refine zp (ca) ?_ | refine zp (car) ?_ | refine zp (cv) ?_ | refine zp (cw) ?_ | refine zp (cA) ?_ | refine zp (cB) ?_ | refine zp (cS) ?_)) | refine ae ?_ | (refine ak ?_;first | (refine yg rfl ?_;first | refine aq ?_ | refine yo ?_ | (refine ys ?_ ?_<;>intro hb<;>((try simp only [bn] at hb);first | subst hb | simp only [hb]))) | (apply ar;rfl;simp only [aB,avs,tts,seval,g2,ee,eb,Bool.not_true,Bool.not_false]<;>exact rr;first | trivial | omega) | (refine ya rfl ?_;first | refine yp (cp) ?_ | refine yp (cpr) ?_ | refine yp (ce) ?_ | refine yp (cer) ?_ | refine yp (ca) ?_ | refine yp (car) ?_ | refine yp (cv) ?_ | refine yp (cw) ?_ | refine yp (cA) ?_ | refine yp (cB) ?_ | refine yp (cS) ?_)) | refine al ?_ | refine ag ?_ | refine zr af ?_ | refine zR 0 af mixed ?_ | refine zR 1 af mixed ?_ | refine zR 2 af mixed ?_ | refine zR 3 af mixed ?_ | refine zf rfl rfl ?_ | refine zt rfl rfl ?_ | (refine an rfl rfl ?_ ?_<;>intro hb<;>((try simp only [bn] at hb);first | subst hb | simp only [hb])) | refine ap ?_ | refine au ?_ | refine am ?_)
 exact aw ⟨_,rfl,_,rfl,rfl⟩
end
end Av
theorem registerMatchesReference.walk {w:World} (hT:dJ w) (v0:Value) (a0:List Rg.Hd) (h0:Av.HdsIn w v0 a0) (v1:Value) (a1:Rg.Hd) (h1:Av.HdIn w v1 a1) (a2:ByteArray) (h2:a2.size≤maxLen) (a3:Int) (w3:(Lit.int .i64 a3).wf=true):Calls Tryz.prog 6 #[v0,v1,.string a2,.int .i64 a3] w fun e w'=>e = .returned (.bool true)∧Below w.heap.size w w' :=
 Av.calls_of_a (Av.match_a hT a0 a1 a2 a3 []) (.cons h0 (.cons h1 (.cons (Av.rep_t w h2) (.one (Av.rep_w w w3))))) fun r H' h=>h.1
end Go.Proofs.YtdekcppfpgeneaaGreatDoor
