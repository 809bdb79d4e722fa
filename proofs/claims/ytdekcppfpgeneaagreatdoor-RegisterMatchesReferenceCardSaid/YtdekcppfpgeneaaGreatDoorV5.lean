import Derived.Test.YtdekcppfpgeneaaGreatDoorV4
import Derived.Test.YtdekcppfpgeneaaGreatDoorV2
import Derived.Test.YtdekcppfpgeneaaGreatDoorV3
import Derived.WideShapes
import Derived.Test.YtdekcppfpgeneaaGreatDoorRows
import Derived.Lib.LaidTab
import Derived.Lib.LaidU8
import Derived.Stop.LaidErr
set_option linter.unusedVariables false
set_option linter.unusedSimpArgs false
namespace Go.Proofs.YtdekcppfpgeneaaGreatDoor
open Go Go.RowKit
namespace Rg
open Av Nt
theorem mI {α:Type} {p:α→Bool} {f:α→Int}:∀{l:List α},(∀h∈l,p h=true→0≤f h)→∀{x:α},x∈l→p x=true→f x≤bH p f l
 | [],_,x,hx,_=>by cases hx
 | a::r,hn,x,hx,hp=>by
  have h0:=cQ (p:=p) (f:=f) (l:=r) fun y hy=>hn y (List.mem_cons_of_mem _ hy)
  have ha:=hn a (List.mem_cons_self ..)
  simp only [bH]
  rcases List.mem_cons.1 hx with rfl | hx
  ·rw [if_pos hp];omega
  ·have:=mI (fun y hy=>hn y (List.mem_cons_of_mem _ hy)) hx hp
   by_cases e:p a=true
   ·rw [if_pos e];have:=ha e;omega
   ·rw [if_neg e];omega
theorem yF {pc:Int} (h0:0<pc) {n:Nat} (h1:0<n) (h5:n≤5):0<(pc * 60).tdiv n:=by
 have:=i7 (pc:=pc) (by omega) h1 h5
 refine Classical.byContradiction fun hn => ?_
 have h2:(pc * 60).tdiv n * n≤0:=Int.mul_nonpos_of_nonpos_of_nonneg (by omega) (by omega)
 omega
theorem qw {pc:Int} (h0:0≤pc) (n:Nat):0≤(pc * 60).tdiv n:=Int.tdiv_nonneg (by omega) (Int.natCast_nonneg n)
structure tU (n:Nat) (s:KSt):Prop where
 nd:s.1.Nodup
 rng:∀k∈s.1,(0≤k.1∧k.1<n)∧(0≤k.2∧k.2<n)∧k.1≠k.2
 pos:∀k∈s.1,0<s.2 k
 tot:∀c:Int,gH c s≤6000
theorem t7 {n:Nat} {s:KSt} (h:tU n s) {k:Int × Int} (hk:k∈s.1):s.2 k≤6000:=by
 have h1:=h.tot k.1
 have h2:=mI (p:=fun j:Int × Int=>decide (j.1=k.1)) (f:=s.2) (l:=s.1) (fun j hj _=>Int.le_of_lt (h.pos j hj)) hk (decide_eq_true rfl)
 unfold gH at h1
 omega
theorem Al {ps:List ByteArray} {x:ByteArray} (hx:x∈ps):0≤ixS ps x∧ixS ps x<ps.length:=by
 obtain ⟨i,hi,e,_⟩:=wh hx
 omega
theorem tX {h:Hd} (hp:aS h=true) {x:ByteArray} (hx:x∈dV h):x∈bC h:=by
 unfold dV at hx
 by_cases e:h.pledged=emp
 ·rw [if_pos e] at hx;exact m7 hp hx
 ·rw [if_neg e,List.mem_singleton] at hx
  subst hx
  unfold bC
  simp only [List.mem_cons,List.mem_filter,Bool.not_eq_true',decide_eq_false_iff_not,true_or,or_true,true_and]
  exact .inr (.inr e)
theorem pf {h:Hd} (hp:Prp h):0<(dV h).length∧(dV h).length≤5:=by
 unfold dV
 split
 ·exact ⟨(fT hp).2.1,(fT hp).2.2⟩
 ·exact ⟨by simp,by simp⟩
theorem wU {ps:List ByteArray} {s:KSt} (hr:∀k∈s.1,0≤k.1∧k.1<ps.length) (ht:∀i,i<ps.length→gH (i:Int) s≤6000) (c:Int):gH c s≤6000:=by
 by_cases h:0≤c∧c<ps.length
 ·obtain ⟨i,rfl⟩:∃i:Nat,c=i:=⟨c.toNat,by omega⟩
  exact ht i (by omega)
 ·have:gH c s=0:=i8 fun k hk e=>by
   have:=hr k hk
   have:k.1=c:=of_decide_eq_true e
   omega
  omega
theorem sD {l:List Hd} (hv:br l=true) (day:Int) (pc:Hd→Int) (who:Hd→List ByteArray) (h0:∀h∈l,0≤pc h) (hw:∀h∈l,0<(who h).length∧(who h).length≤5) (hn:∀h∈l,∀x∈who h,x∈bC h) {s:KSt} (hnd:s.1.Nodup)
  (hm:∀k,k∈s.1↔∃h∈l,bW h day=true∧∃x∈who h,fe (ixS (ay l)) h.company (pc h) k x=true)
  (hval:∀k,s.2 k=bH (fun h=>bW h day) (fun h=>jC (ixS (ay l)) h.company (pc h) (who h) k) l)
  (ht:∀i,i<(ay l).length→gH (i:Int) s≤6000):tU (ay l).length s:=by
 have hrng:∀k∈s.1,(0≤k.1∧k.1<(ay l).length)∧(0≤k.2∧k.2<(ay l).length)∧k.1≠k.2:=fun k hk=>by
  obtain ⟨h,hh,_,x,hx,h2⟩:=(hm k).1 hk
  unfold fe at h2
  simp only [decide_eq_true_eq] at h2
  have hc:h.company∈ay l:=eA.2 ⟨h,hh,by unfold bC;exact List.mem_cons_self ..⟩
  have hxm:x∈ay l:=eA.2 ⟨h,hh,hn h hh x hx⟩
  rw [←h2.2.2]
  refine ⟨Al hc,Al hxm,fun e => ?_⟩
  exact h2.2.1 ((uy hc hxm).1 e).symm
 refine ⟨hnd,hrng,fun k hk => ?_,fun c=>wU (fun k hk=>(hrng k hk).1) ht c⟩
 obtain ⟨h,hh,h1,x,hx,h2⟩:=(hm k).1 hk
 have hpc:0<pc h:=by unfold fe at h2;simp only [decide_eq_true_eq] at h2;exact h2.1
 have h3:=yF hpc (hw h hh).1 (hw h hh).2
 have h4:(pc h * 60).tdiv (who h).length≤jC (ixS (ay l)) h.company (pc h) (who h) k:=by
  unfold jC
  exact mI (f:=fun _=>(pc h * 60).tdiv (who h).length) (fun _ _ _=>Int.le_of_lt h3) hx h2
 have h5:=mI (p:=fun h=>bW h day) (f:=fun h=>jC (ixS (ay l)) h.company (pc h) (who h) k) (l:=l) (fun y hy _=>by
  unfold jC
  exact cQ fun _ _ _=>qw (h0 y hy) _) hh h1
 rw [hval]
 omega
theorem AX {l:List Hd} (hv:br l=true) (day:Int):tU (ay l).length (cV (ixS (ay l)) day l):=by
 have hp:=(dw hv).1
 have hc:=uT hp
 have hb:fg l=true:=by
  unfold br at hv;simp only [Bool.and_eq_true] at hv;exact hv.2.2.2
 refine sD hv day Hd.capital dK (fun h hh=>(hc h hh).1.1) (fun h hh=>(fT ((cX h).1 (hp h hh))).2) (fun h hh x hx=>m7 (hp h hh) hx) (uU ..) (tH _ day l) (AY _ day l) fun i hi => ?_
 rw [B5 hp (fun h hh=>hh) hi day]
 have:=(xE hp hb day (ay l)[i]).1
 omega
theorem yn {l:List Hd} (hv:br l=true) (day:Int):tU (ay l).length (cW (ixS (ay l)) day l):=by
 have hp:=(dw hv).1
 have hc:=uT hp
 have hb:fg l=true:=by
  unfold br at hv;simp only [Bool.and_eq_true] at hv;exact hv.2.2.2
 refine sD hv day Hd.votes dV (fun h hh=>(hc h hh).2.1) (fun h hh=>pf ((cX h).1 (hp h hh))) (fun h hh x hx=>tX (hp h hh) hx) (tZ ..) (rG _ day l) (yq _ day l) fun i hi => ?_
 rw [Bk hp (fun h hh=>hh) hi day]
 have h1:=(xE hp hb day (ay l)[i]).2
 have h2:bH (fun h=>inB day (ay l)[i] h && !pp h) Hd.votes l≤votS l day (ay l)[i]:=by
  unfold votS
  refine mH fun x hx => ?_
  have h6:=(hc x hx).2.1
  by_cases e:inB day (ay l)[i] x=true
  ·rw [if_pos e];split<;>omega
  ·simp [e]
 omega
end Rg
end Go.Proofs.YtdekcppfpgeneaaGreatDoor
namespace Go.Proofs.YtdekcppfpgeneaaGreatDoor
open Go Go.RowKit
namespace Av
open Nt Rg
theorem aJ.leArg {P:Program} {base:World} {f:FuncId} {args args':List AV} {r:AV} (h:aJ P base f args' r) (k:LeL args args'):aJ P base f args r:=fun H =>
 ⟨(h H).enter,fun μ w vs hs ha=>(h H).run μ w vs hs (k.rep ha)⟩
def LeP (p q:PD):Prop:=q.one=true∧∀w imm v,aV w imm p v→aV w imm q v
theorem LeP.nil (k:Nat):LeP (.v (.slice none 0 0)) (.sl k []):=⟨rfl,fun w imm v h=>by
 simp only [aV] at h ⊢
 exact ⟨none,0,h.1,Nat.le_refl _,by unfold maxLen;omega,.inl trivial⟩⟩
def oM:List PD→List PD→Prop
 | [],[]=>True
 | a::l,b::m=>(a=b∨LeP a b)∧oM l m
 | _,_=>False
theorem oM.refl:∀l:List PD,oM l l
 | []=>trivial
 | a::l=>⟨.inl rfl,oM.refl l⟩
theorem oM.len:∀{l m:List PD},oM l m→l.length=m.length
 | [],[],_=>rfl
 | [],_::_,h=>h.elim
 | _::_,[],h=>h.elim
 | a::l,b::m,h=>by rw [List.length_cons,List.length_cons,h.2.len]
theorem oM.cells {w:World} {imm:Nat→Prop} {b:Nat}:∀{l m:List PD} {o:Nat},oM l m→aR w imm l b o→aR w imm m b o
 | [],[],_,_,h=>h
 | [],_::_,_,h,_=>h.elim
 | _::_,[],_,h,_=>h.elim
 | p::l,q::m,o,h,k=>by
  simp only [aR] at k ⊢
  refine ⟨?_,h.2.cells k.2⟩
  rcases h.1 with rfl | h1
  ·exact k.1
  ·obtain ⟨_,c,k1,k2⟩:=k.1
   exact ⟨h1.1,c,k1,h1.2 _ _ _ k2⟩
def yj:List (List PD)→List (List PD)→Prop
 | [],[]=>True
 | a::l,b::m=>oM a b∧yj l m
 | _,_=>False
theorem yj.rows {w:World} {imm:Nat→Prop} {b k:Nat}:∀{l m:List (List PD)} {o:Nat},yj l m→bq w imm l b k o→bq w imm m b k o
 | [],[],_,_,h=>h
 | [],_::_,_,h,_=>h.elim
 | _::_,[],_,h,_=>h.elim
 | p::l,q::m,o,h,k=>by
  simp only [bq] at k ⊢
  exact ⟨h.1.len.symm.trans k.1,h.1.cells k.2.1,h.2.rows k.2.2⟩
theorem yj.len:∀{l m:List (List PD)},yj l m→l.length=m.length
 | [],[],_=>rfl
 | [],_::_,h=>h.elim
 | _::_,[],h=>h.elim
 | a::l,b::m,h=>by rw [List.length_cons,List.length_cons,h.2.len]
theorem LeA.sl {k:Nat} {l m:List (List PD)} (h:yj l m):LeA (.d (.sl k l)) (.d (.sl k m)):=fun s v hv=>by
 simp only [Rep,aV] at hv ⊢
 obtain ⟨ao,cap,h1,h2,h3,h4⟩:=hv
 refine ⟨ao,cap,by rw [←h.len];exact h1,by rw [←h.len];exact h2,h3,?_⟩
 rcases h4 with rfl | ⟨b,o,h4,h5,h6⟩
 ·left
  cases m with
  | nil=>rfl
  | cons _ _=>exact h.elim
 ·exact .inr ⟨b,o,h4,h5,h.rows h6⟩
def uC (h:Hd):List PD:=[.v (.string h.id),.v (.string h.company),.v (.string h.holder),.v (.string h.nominee),.v (.string h.pledged),.v (.slice none 0 0),.v (.int .i64 h.capital),.v (.int .i64 h.votes),.v (.int .i64 h.fr),.v (.int .i64 h.til)]
theorem mT {h:Hd} (e:h.joint=[]):oM (uC h) (hdC h):=by
 unfold uC hdC
 refine ⟨.inl rfl,.inl rfl,.inl rfl,.inl rfl,.inl rfl,.inr ?_,.inl rfl,.inl rfl,.inl rfl,.inl rfl,trivial⟩
 rw [e];exact LeP.nil 1
attribute [local irreducible] AW aQ aM
section
variable {base:World} (hT:dJ base)
theorem yQ:∀h∈[hd1,hd2,hd3,hdN,mB],Small h:=fun h hh=>by
 have:(oV h&&lE h)=true:=by
  simp only [List.mem_cons,List.not_mem_nil,or_false] at hh
  rcases hh with rfl | rfl | rfl | rfl | rfl<;>kernel_rfl
 exact (lC (n:=1) (l:=[h]) (by unfold lD;simp [this])).2 h (by simp) |>.1
theorem Ak:∀h∈[hd1,hd2,hd3,hdN,mB],h.joint.length≤1000:=fun h hh=>by
 simp only [List.mem_cons,List.not_mem_nil,or_false] at hh
 rcases hh with rfl | rfl | rfl | rfl | rfl<;>decide
theorem vO {n d:Nat} (hd:0<d) (h1:n<10000) (h2:d<10000):(ofR (n:Int) (d:Int)).num.size≤9223372036854775807∧(ofR (n:Int) (d:Int)).den.size≤9223372036854775807:=by
 rw [gP n d hd]
 unfold gR
 have q1:=rc (n:=n / Nat.gcd n d) (Nat.lt_of_le_of_lt (Nat.div_le_self _ _) h1)
 have q2:=rc (n:=d / Nat.gcd n d) (Nat.lt_of_le_of_lt (Nat.div_le_self _ _) h2)
 exact ⟨by simp only;omega,by simp only;omega⟩
include hT
set_option maxRecDepth 100000 in
set_option maxHeartbeats 8000000 in
theorem Du:aJ Tryz.prog base 10 [] (boA true):=by
 have sm:=yQ
 have jm:=Ak
 have a1:=Cc (base:=base) hT [hd1,hd2] 5 (fun h hh=>sm h (by simp only [List.mem_cons,List.not_mem_nil,or_false] at hh ⊢;rcases hh with h | h<;>simp [h])) (fun h hh=>jm h (by simp only [List.mem_cons,List.not_mem_nil,or_false] at hh ⊢;rcases hh with h | h<;>simp [h])) (by simp)
 have a2:=Cc (base:=base) hT [hdN] 5 (fun h hh=>sm h (by simp at hh;simp [hh])) (fun h hh=>jm h (by simp at hh;simp [hh])) (by simp)
 have a3:=Cc (base:=base) hT [mB] 5 (fun h hh=>sm h (by simp at hh;simp [hh])) (fun h hh=>jm h (by simp at hh;simp [hh])) (by simp)
 have a4:=CE (base:=base) [hd1] hd3 (fun h hh=>sm h (by simp at hh;simp [hh])) (sm _ (by simp)) (fun h hh=>jm h (by simp at hh;simp [hh])) (jm _ (by simp)) (by simp)
 rw [Fc.1,Fc.2] at a1
 rw [Fq] at a4
 rw [atL.1,atL.2] at a3
 have o1:=CP hT 3 5 (by decide) (by decide) (by decide) (by decide)
 have o2:=CP hT 3 20 (by decide) (by decide) (by decide) (by decide)
 have z1:(ofR 3 5).num.size≤9223372036854775807∧(ofR 3 5).den.size≤9223372036854775807:=vO (n:=3) (d:=5) (by decide) (by decide) (by decide)
 have z2:(ofR 3 20).num.size≤9223372036854775807∧(ofR 3 20).den.size≤9223372036854775807:=vO (n:=3) (d:=20) (by decide) (by decide) (by decide)
 have hN:=atN
 have s0:=Bv
 generalize ofR 3 5=r1 at *
 generalize ofR 3 20=r2 at *
 have s1:=Bu hT ⟨[nmA,nmP,nmQ,nmR],[⟨0,1,r1⟩,⟨0,2,r2⟩,⟨0,3,r2⟩],[⟨0,1,r1⟩]⟩ (by simp) (fun t ht=>by simp only [List.mem_cons,List.not_mem_nil,or_false] at ht;rcases ht with rfl | rfl | rfl | rfl<;>decide) (by simp) (by simp) (fun x hx=>by simp only [List.mem_cons,List.not_mem_nil,or_false] at hx;rcases hx with rfl | rfl | rfl;exact z1;exact z2;exact z2) (fun x hx=>by simp only [List.mem_cons,List.not_mem_nil,or_false] at hx;subst hx;exact z1)
 rw [s0] at s1
 have e1:=yX base ⟨[nmA,nmP,nmQ,nmR],[⟨0,1,r1⟩,⟨0,2,r2⟩,⟨0,3,r2⟩],[⟨0,1,r1⟩]⟩ ⟨[nmA,nmP,nmQ,nmR],[⟨0,1,r1⟩,⟨0,2,r2⟩,⟨0,3,r2⟩],[⟨0,1,r1⟩]⟩ (by simp) (by simp) (by simp) (by simp) (by simp) (by simp)
 have e2:=jX base [⟨0,2,r1⟩] [⟨0,2,r1⟩] (by simp) (by simp)
 have e3:=jX base [⟨0,3,r1⟩] [⟨0,3,r1⟩] (by simp) (by simp)
 have e4:=qv base [nmA,nmP] [nmA,nmP] (by simp) (by simp)
 rw [decide_eq_true rfl] at e1 e2 e3 e4
 generalize atS [hdN] 5=S2 at a2 hN
 obtain ⟨p2,c2,v2⟩:=S2
 simp only at hN
 obtain ⟨rfl,rfl,hN⟩:=hN
 rw [hN] at a2
 clear hN sm jm z1 z2 s0
 obtain ⟨rn,ru,rd⟩:=r1
 obtain ⟨qn,qu,qd⟩:=r2
 have a1:=a1.leArg (args:=[.d (.sl 10 [uC hd1,hdC hd2]),iA 5]) ⟨LeA.sl ⟨mT rfl,oM.refl _,trivial⟩,.refl _,trivial⟩
 have a2:=a2.leArg (args:=[.d (.sl 10 [uC hdN]),iA 5]) ⟨LeA.sl ⟨mT rfl,trivial⟩,.refl _,trivial⟩
 have a3:=a3.leArg (args:=[.d (.sl 10 [uC mB]),iA 5]) ⟨LeA.sl ⟨mT rfl,trivial⟩,.refl _,trivial⟩
 have a4:=a4.leArg (args:=[.d (.sl 10 [uC hd1]),.agg [tA hd3.id,tA hd3.company,tA hd3.holder,tA hd3.nominee,tA hd3.pledged,.d (.v (.slice none 0 0)),iA hd3.capital,iA hd3.votes,iA hd3.fr,iA hd3.til]]) ⟨LeA.sl ⟨mT rfl,trivial⟩,LeA.agg ⟨.refl _,.refl _,.refl _,.refl _,.refl _,.nil 1,.refl _,.refl _,.refl _,.refl _,trivial⟩,trivial⟩
 simp only [qz,yL,aN,jv,lkP,cP,bM,List.map_cons,List.map_nil,iA,tA,boA,uC,hdC,hd1,hd2,hd3,hdN,mB,nmA,nmP,nmQ,nmR,nmZ] at a1 a2 a3 a4 o1 o2 s1 e1 e2 e3 e4 ⊢
 refine aA af Tryz.call10 Tryz.func10 rfl fun H hB hb hF => ?_
 rw [Tryz.results10,Tryz.ntmps10]
 simp only [ax,List.length_cons,List.length_nil,List.replicate,List.cons_append,List.nil_append,Nat.reduceAdd,Nat.reduceSub]
 clear hF hb
 repeat refine ag ?_
 refine zr af ?_
 repeat (refine aa ?_;first | (apply ai;rfl;simp only [aj,avs,tts,seval]<;>exact rr) | (refine zg rfl ?_;first | refine ah ?_ | refine zo ?_))
 refine ae ?_
 repeat refine ag ?_
 refine zr af ?_
 repeat (refine aa ?_;first | (apply ai;rfl;simp only [aj,avs,tts,seval]<;>exact rr) | (refine zg rfl ?_;first | refine ah ?_ | refine zo ?_))
 refine ae ?_
 repeat refine ag ?_
 refine zr af ?_
 repeat (refine aa ?_;first | (apply ai;rfl;simp only [aj,avs,tts,seval]<;>exact rr) | (refine zg rfl ?_;first | refine ah ?_ | refine zo ?_))
 refine ae ?_
 refine wC (H.length+1) (H.length+2) (by omega) (by simp only [avs]<;>rfl) (by simp only [avs,tts,Nat.reduceAdd,Nat.reduceMul,Nat.reduceSub,Nat.reduceEqDiff,Nat.reduceLT,Nat.reduceLeDiff,Int.reduceToNat,Int.reduceLE,Int.reduceLT,Int.toNat_natCast,reduceCtorEq,cz,cJ,di,bt,bw,unI,unL,Nat.add_eq_left,Nat.left_eq_add,Nat.one_ne_zero]<;>rfl) (by simp only [avs,tts,Nat.reduceAdd,Nat.reduceMul,Nat.reduceSub,Nat.reduceEqDiff,Nat.reduceLT,Nat.reduceLeDiff,Int.reduceToNat,Int.reduceLE,Int.reduceLT,Int.toNat_natCast,reduceCtorEq,cz,cJ,di,bt,bw,unI,unL,Nat.add_eq_left,Nat.left_eq_add,Nat.one_ne_zero]<;>rfl) (by simp only [avs,tts,Nat.reduceAdd,Nat.reduceMul,Nat.reduceSub,Nat.reduceEqDiff,Nat.reduceLT,Nat.reduceLeDiff,Int.reduceToNat,Int.reduceLE,Int.reduceLT,Int.toNat_natCast,reduceCtorEq,cz,cJ,di,bt,bw,unI,unL,Nat.add_eq_left,Nat.left_eq_add,Nat.one_ne_zero]<;>rfl) ?_
 repeat' (first | (refine aa ?_;first | (refine zg rfl ?_;first | refine ah ?_ | refine zo ?_ | (refine zs ?_ ?_<;>intro hb<;>((try simp only [bn] at hb);first | subst hb | simp only [hb]))) | (apply ai;rfl;simp only [aj,avs,tts,seval]<;>exact rr)) | refine ae ?_ | (refine ak ?_;first | (refine yg rfl ?_;first | refine aq ?_ | refine yo ?_ | (refine ys ?_ ?_<;>intro hb<;>((try simp only [bn] at hb);first | subst hb | simp only [hb]))) | (apply ar;rfl;simp only [aB,avs,tts,seval]<;>exact rr;first | trivial | omega)) | refine al ?_ | refine ag ?_ | refine zr af ?_ | refine zR 0 af mixed ?_ | refine zR 1 af mixed ?_ | refine zR 2 af mixed ?_ | refine zR 3 af mixed ?_ | refine zf rfl rfl ?_ | refine zt rfl rfl ?_ | (refine an rfl rfl ?_ ?_<;>intro hb<;>((try simp only [bn] at hb);first | subst hb | simp only [hb])) | refine ap ?_ | refine au ?_ | refine am ?_)
 refine aa ?_
 refine gZ rfl (by simp only [avs]<;>rfl) ?_
 refine A8 ((H.length+3)) (by simp only [avs,tts,seval,cz,cJ,di,bt,bw,unI,unL,Nat.add_eq_left,Nat.left_eq_add,Nat.one_ne_zero]<;>rfl) (by simp only [avs,tts,seval,cz,cJ,di,bt,bw,unI,unL,Nat.add_eq_left,Nat.left_eq_add,Nat.one_ne_zero]<;>rfl) (a1) (by simp only [avs]<;>rfl) ?_
 repeat' (first | (refine aa ?_;first | (refine zg rfl ?_;first | refine ah ?_ | refine zo ?_ | (refine zs ?_ ?_<;>intro hb<;>((try simp only [bn] at hb);first | subst hb | simp only [hb]))) | (apply ai;rfl;simp only [aj,avs,tts,seval]<;>exact rr) | (refine za rfl ?_;first | refine zp (o1) ?_ | refine zp (o2) ?_ | refine zp (e1) ?_)) | refine ae ?_ | (refine ak ?_;first | (refine yg rfl ?_;first | refine aq ?_ | refine yo ?_ | (refine ys ?_ ?_<;>intro hb<;>((try simp only [bn] at hb);first | subst hb | simp only [hb]))) | (apply ar;rfl;simp only [aB,avs,tts,seval]<;>exact rr;first | trivial | omega) | (refine ya rfl ?_;first | refine yp (o1) ?_ | refine yp (o2) ?_ | refine yp (e1) ?_)) | refine al ?_ | refine ag ?_ | refine zr af ?_ | refine zR 0 af mixed ?_ | refine zR 1 af mixed ?_ | refine zR 2 af mixed ?_ | refine zR 3 af mixed ?_ | refine zf rfl rfl ?_ | refine zt rfl rfl ?_ | (refine an rfl rfl ?_ ?_<;>intro hb<;>((try simp only [bn] at hb);first | subst hb | simp only [hb])) | refine ap ?_ | refine au ?_ | refine am ?_)
 refine aa ?_
 refine gZ rfl (by simp only [avs]<;>rfl) ?_
 refine A8 ((H.length+9)) (by simp only [avs,tts,seval,cz,cJ,di,bt,bw,unI,unL,Nat.add_eq_left,Nat.left_eq_add,Nat.one_ne_zero]<;>rfl) (by simp only [avs,tts,seval,cz,cJ,di,bt,bw,unI,unL,Nat.add_eq_left,Nat.left_eq_add,Nat.one_ne_zero]<;>rfl) (a2) (by simp only [avs]<;>rfl) ?_
 repeat' (first | (refine aa ?_;first | (refine zg rfl ?_;first | refine ah ?_ | refine zo ?_ | (refine zs ?_ ?_<;>intro hb<;>((try simp only [bn] at hb);first | subst hb | simp only [hb]))) | (apply ai;rfl;simp only [aj,avs,tts,seval]<;>exact rr) | (refine za rfl ?_;first | refine zp (o1) ?_ | refine zp (e2) ?_ | refine zp (e3) ?_)) | refine ae ?_ | (refine ak ?_;first | (refine yg rfl ?_;first | refine aq ?_ | refine yo ?_ | (refine ys ?_ ?_<;>intro hb<;>((try simp only [bn] at hb);first | subst hb | simp only [hb]))) | (apply ar;rfl;simp only [aB,avs,tts,seval]<;>exact rr;first | trivial | omega) | (refine ya rfl ?_;first | refine yp (o1) ?_ | refine yp (e2) ?_ | refine yp (e3) ?_)) | refine al ?_ | refine ag ?_ | refine zr af ?_ | refine zR 0 af mixed ?_ | refine zR 1 af mixed ?_ | refine zR 2 af mixed ?_ | refine zR 3 af mixed ?_ | refine zf rfl rfl ?_ | refine zt rfl rfl ?_ | (refine an rfl rfl ?_ ?_<;>intro hb<;>((try simp only [bn] at hb);first | subst hb | simp only [hb])) | refine ap ?_ | refine au ?_ | refine am ?_)
 refine aa ?_
 refine gZ rfl (by simp only [avs]<;>rfl) ?_
 refine A8 ((H.length+14)) (by simp only [avs,tts,seval,cz,cJ,di,bt,bw,unI,unL,Nat.add_eq_left,Nat.left_eq_add,Nat.one_ne_zero]<;>rfl) (by simp only [avs,tts,seval,cz,cJ,di,bt,bw,unI,unL,Nat.add_eq_left,Nat.left_eq_add,Nat.one_ne_zero]<;>rfl) (a3) (by simp only [avs]<;>rfl) ?_
 repeat' (first | (refine aa ?_;first | (refine zg rfl ?_;first | refine ah ?_ | refine zo ?_ | (refine zs ?_ ?_<;>intro hb<;>((try simp only [bn] at hb);first | subst hb | simp only [hb]))) | (apply ai;rfl;simp only [aj,avs,tts,seval]<;>exact rr)) | refine ae ?_ | (refine ak ?_;first | (refine yg rfl ?_;first | refine aq ?_ | refine yo ?_ | (refine ys ?_ ?_<;>intro hb<;>((try simp only [bn] at hb);first | subst hb | simp only [hb]))) | (apply ar;rfl;simp only [aB,avs,tts,seval]<;>exact rr;first | trivial | omega)) | refine al ?_ | refine ag ?_ | refine zr af ?_ | refine zR 0 af mixed ?_ | refine zR 1 af mixed ?_ | refine zR 2 af mixed ?_ | refine zR 3 af mixed ?_ | refine zf rfl rfl ?_ | refine zt rfl rfl ?_ | (refine an rfl rfl ?_ ?_<;>intro hb<;>((try simp only [bn] at hb);first | subst hb | simp only [hb])) | refine ap ?_ | refine au ?_ | refine am ?_)
 refine aa ?_
 refine gZ rfl (by simp only [avs]<;>rfl) ?_
 refine A8 ((H.length+16)) (by simp only [avs,tts,seval,cz,cJ,di,bt,bw,unI,unL,Nat.add_eq_left,Nat.left_eq_add,Nat.one_ne_zero]<;>rfl) (by simp only [avs,tts,seval,cz,cJ,di,bt,bw,unI,unL,Nat.add_eq_left,Nat.left_eq_add,Nat.one_ne_zero]<;>rfl) (a4) (by simp only [avs]<;>rfl) ?_
 repeat' (first | (refine aa ?_;first | (refine zg rfl ?_;first | refine ah ?_ | refine zo ?_ | (refine zs ?_ ?_<;>intro hb<;>((try simp only [bn] at hb);first | subst hb | simp only [hb]))) | (apply ai;rfl;simp only [aj,avs,tts,seval]<;>exact rr)) | refine ae ?_ | (refine ak ?_;first | (refine yg rfl ?_;first | refine aq ?_ | refine yo ?_ | (refine ys ?_ ?_<;>intro hb<;>((try simp only [bn] at hb);first | subst hb | simp only [hb]))) | (apply ar;rfl;simp only [aB,avs,tts,seval]<;>exact rr;first | trivial | omega)) | refine al ?_ | refine ag ?_ | refine zr af ?_ | refine zR 0 af mixed ?_ | refine zR 1 af mixed ?_ | refine zR 2 af mixed ?_ | refine zR 3 af mixed ?_ | refine zf rfl rfl ?_ | refine zt rfl rfl ?_ | (refine an rfl rfl ?_ ?_<;>intro hb<;>((try simp only [bn] at hb);first | subst hb | simp only [hb])) | refine ap ?_ | refine au ?_ | refine am ?_)
 refine aa ?_
 refine gZ rfl (by simp only [avs]<;>rfl) ?_
 refine FY (e4) (by simp only [avs,tts,seval,fU.eq_def,jQ.eq_def,bt,bw]<;>rfl) rfl (by simp only [avs]<;>rfl) ?_
 repeat' (first | (refine aa ?_;first | (refine zg rfl ?_;first | refine ah ?_ | refine zo ?_ | (refine zs ?_ ?_<;>intro hb<;>((try simp only [bn] at hb);first | subst hb | simp only [hb]))) | (apply ai;rfl;simp only [aj,avs,tts,seval]<;>exact rr) | (refine za rfl ?_;refine zp (s1) ?_)) | refine ae ?_ | (refine ak ?_;first | (refine yg rfl ?_;first | refine aq ?_ | refine yo ?_ | (refine ys ?_ ?_<;>intro hb<;>((try simp only [bn] at hb);first | subst hb | simp only [hb]))) | (apply ar;rfl;simp only [aB,avs,tts,seval]<;>exact rr;first | trivial | omega) | (refine ya rfl ?_;refine yp (s1) ?_)) | refine al ?_ | refine ag ?_ | refine zr af ?_ | refine zR 0 af mixed ?_ | refine zR 1 af mixed ?_ | refine zR 2 af mixed ?_ | refine zR 3 af mixed ?_ | refine zf rfl rfl ?_ | refine zt rfl rfl ?_ | (refine an rfl rfl ?_ ?_<;>intro hb<;>((try simp only [bn] at hb);first | subst hb | simp only [hb])) | refine ap ?_ | refine au ?_ | refine am ?_)
 simp only [decide_true,if_true]
 show AW _ _ _ _ _
 exact aw ⟨_,rfl,_,rfl,rfl⟩
end
end Av
end Go.Proofs.YtdekcppfpgeneaaGreatDoor
namespace Go.Proofs.YtdekcppfpgeneaaGreatDoor
open Go Go.RowKit
namespace Av
open Nt Rg
def fW (w:World):St:=⟨fun _=>none,[],w⟩
theorem pw (w:World) (b:Nat) (h:b<w.heap.size):(fW w).imm b:=⟨h,fun ⟨l,o,h1,_⟩=>by simp [fW] at h1⟩
theorem wZ (w:World):Sim w (fW w):=⟨Below.refl _ _,fun l o h=>by simp [fW] at h,fun l l' o o' b h=>by simp [fW] at h⟩
def HdsIn (w:World) (v:Value) (l:List Hd):Prop:=Rep (fW w) (.d (bM l)) v
def Dj:List PT:=[.s,.s,.s,.s,.s,.sl [.s],.i .i64,.i .i64,.i .i64,.i .i64]
theorem ww {ps:List PD} (h:cG Dj ps):∃x:Hd,ps=hdC x:=by
 obtain ⟨p1,r1,rfl,h1,k1⟩:=da h
 obtain ⟨a1,rfl⟩:=lB h1
 obtain ⟨p2,r2,rfl,h2,k2⟩:=da k1
 obtain ⟨a2,rfl⟩:=lB h2
 obtain ⟨p3,r3,rfl,h3,k3⟩:=da k2
 obtain ⟨a3,rfl⟩:=lB h3
 obtain ⟨p4,r4,rfl,h4,k4⟩:=da k3
 obtain ⟨a4,rfl⟩:=lB h4
 obtain ⟨p5,r5,rfl,h5,k5⟩:=da k4
 obtain ⟨a5,rfl⟩:=lB h5
 obtain ⟨p6,r6,rfl,h6,k6⟩:=da k5
 obtain ⟨a6,rfl⟩:=xL h6
 obtain ⟨p7,r7,rfl,h7,k7⟩:=da k6
 obtain ⟨a7,rfl⟩:=qR h7
 obtain ⟨p8,r8,rfl,h8,k8⟩:=da k7
 obtain ⟨a8,rfl⟩:=qR h8
 obtain ⟨p9,r9,rfl,h9,k9⟩:=da k8
 obtain ⟨a9,rfl⟩:=qR h9
 obtain ⟨p10,r10,rfl,h10,k10⟩:=da k9
 obtain ⟨a10,rfl⟩:=qR h10
 exact ⟨⟨a1,a2,a3,a4,a5,a6,a7,a8,a9,a10⟩,by rw [oa k10];rfl⟩
set_option maxRecDepth 100000 in
theorem open_hds {H:Type} {enc:TypeId × Value→H} {w:World} {b0:Nat} {v:Value} {d:DataW H} {p:List MemPlace} (hv:Value.okWide Tryz.prog w .any b0 26 v) (h:DataW.Trod enc Tryz.prog w 0 (fun _=>true) true 26 v d p) :
  ∃l,HdsIn w v l:=by
 obtain ⟨a,n,c,rfl⟩:=Go.WideShapes.okWide_slice Tryz.underlying26 hv
 obtain ⟨n,hn⟩:=h
 obtain ⟨ps,h1,h2⟩:=mO (s:=fW w) rfl (pw w) n 8 26 _ _ [.sl Dj] (by kernel_rfl) hn
 obtain ⟨p,r,rfl,h3,h4⟩:=da h1
 have h5:=oa h4
 subst h5
 obtain ⟨l,rfl,hl⟩:=wt h3
 obtain ⟨xs,rfl⟩:=vW (f:=hdC) (l:=l) fun it hi=>ww (hl it hi)
 refine ⟨xs,?_⟩
 simp only [dL,List.map_cons,List.map_nil,aC] at h2
 obtain ⟨x,t,e,h6,rfl⟩:=h2
 simp only [Value.cells] at e
 cases e
 exact h6
theorem calls_of_a {P:Program} {w:World} {f:FuncId} {args:List AV} {vs:Array Value} {R:AV→av→Prop} (h:bE P w f args [] R) (ha:aC (fW w) args vs.toList) (hR:∀r H',R r H'→r = .d (.v (.bool true))) :
  Calls P f vs w fun e w'=>e = .returned (.bool true)∧Below w.heap.size w w':=by
 refine (h.run (fun _=>none) w vs (wZ w) ha).mono fun e w' ⟨v,r,H',μ',h1,h2,h3,h4,h5,h6⟩ => ?_
 rw [hR r H' h2] at h5
 simp only [Rep,aV] at h5
 exact ⟨by rw [h1,h5.1],h4.below⟩
theorem Es (w:World) {n:Int} (h0 : -9223372036854775808≤n) (h1:n≤9223372036854775807):Rep (fW w) (iA n) (.int .i64 n):=by
 simp only [iA,Rep,aV,true_and,small,IntKind.min,IntKind.max,IntKind.signed,IntKind.bits]
 (try simp)
 omega
theorem rep_w (w:World) {n:Int} (h:(Lit.int .i64 n).wf=true):Rep (fW w) (iA n) (.int .i64 n):=by
 simp only [Lit.wf,Bool.and_eq_true,decide_eq_true_eq,IntKind.min,IntKind.max,IntKind.signed,IntKind.bits] at h
 (try simp at h)
 exact Es w (by omega) (by omega)
theorem rep_t (w:World) {t:ByteArray} (h:t.size≤maxLen):Rep (fW w) (tA t) (.string t):=by
 simp only [tA,Rep,aV,small];refine ⟨trivial,?_⟩;unfold maxLen at h;omega
end Av
end Go.Proofs.YtdekcppfpgeneaaGreatDoor
namespace Go.Proofs.YtdekcppfpgeneaaGreatDoor
open Go Go.RowKit
def E9:List Int:=[0,1,56,2,57,49,28,3,61,58,42,50,38,29,17,4,62,47,59,36,45,43,51,22,53,39,33,30,24,18,12,5,63,55,48,27,60,41,37,16,46,35,44,21,52,32,23,11,54,26,40,15,34,20,31,10,25,14,19,9,13,8,7,6]
theorem tabs_of {W:World} {rest:List (String × DataW Unit)} (h:laidMet Tryz.prog (("math/bits.deBruijn32tab",Rows.laid_math_bits_deBruijn32tab)::("math/bits.deBruijn64tab",Rows.laid_math_bits_deBruijn64tab)::("internal/strconv.uint64pow10",Rows.laid_internal_strconv_uint64pow10)::rest) W):dJ W:=by
 have h1:laidMet Tryz.prog (("math/bits.deBruijn64tab",Lib.tabData .u8 E9)::("internal/strconv.uint64pow10",Lib.tabData .u64 Lib.pow10Tab)::rest) W:=laidMet.tail h
 have t1:=Lib.tabIs_of_head (g:=6) (t:=250) (e:=5) (n:=64) (by kernel_rfl) (by kernel_rfl) (by kernel_rfl) (by kernel_rfl) (by kernel_rfl) (by kernel_rfl) h1
 have t2:=Lib.tabIs_of_head (g:=2) (t:=225) (e:=167) (n:=20) (by kernel_rfl) (by kernel_rfl) (by kernel_rfl) (by kernel_rfl) (by kernel_rfl) (by kernel_rfl) (laidMet.tail h1)
 have hc:=t1.cell (g:=6) (by kernel_rfl) 15 (by decide)
 refine ⟨t2,hc,?_⟩
 rcases Nat.lt_or_ge 6 W.heap.size with h' | h'
 ·exact h'
 ·rw [World.cell?,Array.getElem?_eq_none h'] at hc
  cases hc
end Go.Proofs.YtdekcppfpgeneaaGreatDoor
namespace Go.Proofs.YtdekcppfpgeneaaGreatDoor
open Go Go.RowKit
namespace Rg
open Av Nt
theorem fa (ix:ByteArray→Int) (day:Int) (pc:Hd→Int) (who:Hd→List ByteArray):∀(l:List Hd) (s:KSt),(∀h∈l,(who h).length≤1001)→(l.foldl (eI pc who ix day) s).1.length≤s.1.length+1001 * l.length
 | [],s,_=>by simp
 | h::r,s,hw=>by
  have h1:=fa ix day pc who r (eI pc who ix day s h) fun x hx=>hw x (List.mem_cons_of_mem _ hx)
  have h2:=hw h (List.mem_cons_self ..)
  have h3:(eI pc who ix day s h).1.length≤s.1.length+1001:=by
   unfold eI
   split
   ·have:=jG ix h.company (pc h) (who h) s;omega
   ·omega
  rw [List.foldl_cons,List.length_cons];omega
theorem nP (s:KSt):(cq s).length=s.1.length:=by unfold cq;rw [List.length_map];exact (sortK_perm _).length_eq
structure Ff (s:Str):Prop where
 p:s.parties.length≤1000000
 c:s.capital.length≤1000000
 v:s.votes.length≤1000000
theorem yc {l:List Hd} (day:Int) (hj:∀h∈l,h.joint.length≤1000) (hl:l.length≤900):Ff (atS l day):=by
 unfold atS
 cases hv:br l&&eR day with
 | false=>exact ⟨by simp,by simp,by simp⟩
 | true =>
  simp only [Bool.and_eq_true] at hv
  have:=(dw hv.1).2
  have hc:=fa (ixS (ay l)) day Hd.capital dK l ez fun h hh=>jO (hj h hh)
  have hvv:=fa (ixS (ay l)) day Hd.votes dV l ez fun h hh=>m6 (hj h hh)
  rw [show ez.1.length=0 from rfl] at hc hvv
  simp only [if_true]
  exact ⟨by simp only;omega,by simp only [nP];unfold cV;rw [Bt];omega,by simp only [nP];unfold cW;rw [Bs];omega⟩
end Rg
namespace Av
attribute [local irreducible] AW aQ aM
open Nt Rg
section
variable {base:World} (hT:dJ base)
include hT
end
end Av
end Go.Proofs.YtdekcppfpgeneaaGreatDoor
namespace Go.Proofs.YtdekcppfpgeneaaGreatDoor
open Go Go.RowKit
namespace Rg
open Av Nt
theorem xu (id:ByteArray) (d:Int) (h:Hd):(AE id d h).joint=h.joint:=by unfold AE;split<;>rfl
end Rg
namespace Av
attribute [local irreducible] AW aQ aM
open Nt Rg
section
variable {base:World} (hT:dJ base)
include hT
end
end Av
end Go.Proofs.YtdekcppfpgeneaaGreatDoor
namespace Go.Proofs.YtdekcppfpgeneaaGreatDoor
open Go Go.RowKit
namespace Rg
open Av Nt
theorem xO {l:List Hd} {id:ByteArray} (h:¬0≤cE l id):∀x∈l,x.id≠id:=by
 unfold cE at h
 cases hf:l.findIdx? (fun h=>decide (h.id=id)) with
 | none =>
  rw [List.findIdx?_eq_none_iff] at hf
  exact fun x hx=>by simpa using hf x hx
 | some i=>rw [hf] at h;simp at h
end Rg
namespace Av
attribute [local irreducible] AW aQ aM
open Nt Rg
section
variable {base:World} (hT:dJ base)
include hT
end
end Av
end Go.Proofs.YtdekcppfpgeneaaGreatDoor
namespace Go.Proofs.YtdekcppfpgeneaaGreatDoor
open Go Go.RowKit
namespace Rg
open Av Nt
def dg (T:Nat):Rt:=ofR (T:Int) 6000
end Rg
namespace Av
attribute [local irreducible] AW aQ aM
open Nt Rg
section
variable {base:World} (hT:dJ base)
include hT
end
end Av
end Go.Proofs.YtdekcppfpgeneaaGreatDoor
namespace Go.Proofs.YtdekcppfpgeneaaGreatDoor
open Go Go.RowKit
namespace Av
attribute [local irreducible] AW aQ aM
open Nt Rg
section
variable (base:World)
set_option maxRecDepth 100000 in
theorem vD (n:Nat) (hn:n≤9223372036854775807):aJ Tryz.prog base 82 [iA n] (tA (aI n)):=by
 have cd:=Ep base n hn
 refine aA af Tryz.call82 Tryz.func82 rfl fun H hB hb hF => ?_
 rw [Tryz.results82,Tryz.ntmps82]
 simp only [ax,List.length_cons,List.length_nil,List.replicate,List.cons_append,List.nil_append,Nat.reduceAdd,Nat.reduceSub]
 clear hF hb
 simp only [tA,iA] at cd ⊢
 have f0:decide ((n:Int)≥0)=true:=decide_eq_true (by omega)
 repeat' (first | (refine aa ?_;first | (refine zg rfl ?_;first | refine ah ?_ | refine zo ?_ | (refine zs ?_ ?_<;>intro hb<;>((try simp only [bn] at hb);first | subst hb | simp only [hb]))) | (apply ai;rfl;simp only [aj,avs,tts,seval,f0]<;>exact rr) | (refine za rfl ?_;refine zp (cd) ?_)) | refine ae ?_ | (refine ak ?_;first | (refine yg rfl ?_;first | refine aq ?_ | refine yo ?_ | (refine ys ?_ ?_<;>intro hb<;>((try simp only [bn] at hb);first | subst hb | simp only [hb]))) | (apply ar;rfl;simp only [aB,avs,tts,seval,f0]<;>exact rr;first | trivial | omega) | (refine ya rfl ?_;refine yp (cd) ?_)) | refine al ?_ | refine ag ?_ | refine zr af ?_ | refine zQ 0 af mixed ?_ | refine zQ 1 af mixed ?_ | refine zQ 2 af mixed ?_ | refine zQ 3 af mixed ?_ | refine zf rfl rfl ?_ | refine zt rfl rfl ?_ | (refine an rfl rfl ?_ ?_<;>intro hb<;>((try simp only [bn] at hb);first | subst hb | simp only [hb])) | refine ap ?_ | refine au ?_ | refine am ?_)
 exact aw ⟨_,rfl,[],by simp,rfl⟩
set_option maxRecDepth 100000 in
set_option maxHeartbeats 4000000 in
theorem pq (n d:Nat) (hn:n<10 ^ 18) (hd:d<10 ^ 18) (h0:0<d):aJ Tryz.prog base 81 [.d (.v (.bool false)),tA (aI n),tA (aI d)] (.tup [cP (gR false n d),iA 0]):=by
 have hgd:Nat.gcd n d≤d:=Nat.gcd_le_right n h0
 have hg0:=Nat.gcd_pos_of_pos_right n h0
 have cg:=zc base hn hd
 have c1:=zi base (n:=n) (m:=Nat.gcd n d) hn (by omega) (by omega)
 have c2:=zi base (n:=d) (m:=Nat.gcd n d) hd (by omega) (by omega)
 unfold gR
 generalize Nat.gcd n d=g at *
 generalize aI n=t at *
 generalize aI d=u at *
 generalize aI g=w at *
 generalize aI (n / g)=x at *
 generalize aI (d / g)=y at *
 generalize aI (n % g)=x2 at *
 generalize aI (d % g)=y2 at *
 refine aA af Tryz.call81 Tryz.func81 rfl fun H hB hb hF => ?_
 rw [Tryz.results81,Tryz.ntmps81]
 simp only [ax,List.length_cons,List.length_nil,List.replicate,List.cons_append,List.nil_append,Nat.reduceAdd,Nat.reduceSub]
 clear hF hb
 simp only [tA,iA,cP] at cg c1 c2 ⊢
 repeat' (first | (refine aa ?_;first | (refine zg rfl ?_;first | refine ah ?_ | refine zo ?_ | (refine zs ?_ ?_<;>intro hb<;>((try simp only [bn] at hb);first | subst hb | simp only [hb]))) | (apply ai;rfl;simp only [aj,avs,tts,seval]<;>exact rr) | (refine za rfl ?_;first | refine zp (cg) ?_ | refine zp (c1) ?_ | refine zp (c2) ?_)) | refine ae ?_ | (refine ak ?_;first | (refine yg rfl ?_;first | refine aq ?_ | refine yo ?_ | (refine ys ?_ ?_<;>intro hb<;>((try simp only [bn] at hb);first | subst hb | simp only [hb]))) | (apply ar;rfl;simp only [aB,avs,tts,seval]<;>exact rr;first | trivial | omega) | (refine ya rfl ?_;first | refine yp (cg) ?_ | refine yp (c1) ?_ | refine yp (c2) ?_)) | refine al ?_ | refine ag ?_ | refine zr af ?_ | refine zQ 0 af mixed ?_ | refine zQ 1 af mixed ?_ | refine zQ 2 af mixed ?_ | refine zQ 3 af mixed ?_ | refine zf rfl rfl ?_ | refine zt rfl rfl ?_ | (refine an rfl rfl ?_ ?_<;>intro hb<;>((try simp only [bn] at hb);first | subst hb | simp only [hb])) | refine ap ?_ | refine au ?_ | refine am ?_)
 all_goals (show AW _ _ _ _ _;refine aw ⟨_,(by simp only [bj,cH,dO,avs,tts]<;>rfl),_,rfl,?_⟩;simp [bL];rfl)
set_option maxRecDepth 100000 in
theorem De (n d:Nat) (hn:n<10 ^ 18) (hd:d<10 ^ 18) (h0:0<d):aJ Tryz.prog base 56 [iA n,iA d] (.tup [cP (ofR n d),iA 0]):=by
 rw [gP n d h0]
 have c1:=vD base n (by omega)
 have c2:=vD base d (by omega)
 have c3:=pq base n d hn hd h0
 generalize gR false n d=r at *
 obtain ⟨r1,r2,r3⟩:=r
 generalize aI n=t at *
 generalize aI d=u at *
 refine aA af Tryz.call56 Tryz.func56 rfl fun H hB hb hF => ?_
 rw [Tryz.results56,Tryz.ntmps56]
 simp only [ax,List.length_cons,List.length_nil,List.replicate,List.cons_append,List.nil_append,Nat.reduceAdd,Nat.reduceSub]
 clear hF hb
 simp only [tA,iA,cP] at c1 c2 c3 ⊢
 have f0:decide ((d:Int)=0)=false:=decide_eq_false (by omega)
 have f1:decide ((d:Int)<0)=false:=decide_eq_false (by omega)
 have f2:decide ((n:Int)<0)=false:=decide_eq_false (by omega)
 repeat' (first | (refine aa ?_;first | (refine zg rfl ?_;first | refine ah ?_ | refine zo ?_ | (refine zs ?_ ?_<;>intro hb<;>((try simp only [bn] at hb);first | subst hb | simp only [hb]))) | (apply ai;rfl;simp only [aj,avs,tts,seval,f0,f1,f2]<;>exact rr) | (refine za rfl ?_;first | refine zp (c1) ?_ | refine zp (c2) ?_ | refine zp (c3) ?_)) | refine ae ?_ | (refine ak ?_;first | (refine yg rfl ?_;first | refine aq ?_ | refine yo ?_ | (refine ys ?_ ?_<;>intro hb<;>((try simp only [bn] at hb);first | subst hb | simp only [hb]))) | (apply ar;rfl;simp only [aB,avs,tts,seval,f0,f1,f2]<;>exact rr;first | trivial | omega) | (refine ya rfl ?_;first | refine yp (c1) ?_ | refine yp (c2) ?_ | refine yp (c3) ?_)) | refine al ?_ | refine ag ?_ | refine zr af ?_ | refine zQ 0 af mixed ?_ | refine zQ 1 af mixed ?_ | refine zQ 2 af mixed ?_ | refine zQ 3 af mixed ?_ | refine zf rfl rfl ?_ | refine zt rfl rfl ?_ | (refine an rfl rfl ?_ ?_<;>intro hb<;>((try simp only [bn] at hb);first | subst hb | simp only [hb])) | refine ap ?_ | refine au ?_ | refine am ?_)
 all_goals (show AW _ _ _ _ _;refine aw ⟨_,(by simp only [bj,cH,dO,avs,tts]<;>rfl),_,rfl,?_⟩;simp [bL];rfl)
theorem AO (n:Nat):decide (aI n=⟨#[49]⟩)=decide (n=1):=by
 refine decide_eq_decide.2 ⟨fun h => ?_,fun h=>by rw [h];kernel_rfl⟩
 exact kz (h.trans (by kernel_rfl:(⟨#[49]⟩:ByteArray)=aI 1))
set_option maxRecDepth 100000 in
set_option maxHeartbeats 4000000 in
theorem vB (p q:Nat) (hp:p<10 ^ 9) (hq:q<10 ^ 9) (h0:0<q) (hg:Nat.gcd p q=1):aJ Tryz.prog base 101 [cP ⟨false,aI p,aI q⟩] (boA true):=by
 have c1:=fM base (n:=p) (by omega)
 have c2:=fM base (n:=q) (by omega)
 have c3:=zc base (n:=p) (m:=q) (by omega) (by omega)
 have hz:=jk q
 rw [decide_eq_false (by omega:¬q=0)] at hz
 rw [hg] at c3
 have ho:=AO 1
 rw [decide_eq_true rfl] at ho
 generalize aI p=t at *
 generalize aI q=u at *
 generalize aI 1=w at *
 refine aA af Tryz.call101 Tryz.func101 rfl fun H hB hb hF => ?_
 rw [Tryz.results101,Tryz.ntmps101]
 simp only [ax,List.length_cons,List.length_nil,List.replicate,List.cons_append,List.nil_append,Nat.reduceAdd,Nat.reduceSub]
 clear hF hb
 simp only [tA,iA,boA,cP] at c1 c2 c3 ⊢
 repeat' (first | (refine aa ?_;first | (refine zg rfl ?_;first | refine ah ?_ | refine zo ?_ | (refine zs ?_ ?_<;>intro hb<;>((try simp only [bn] at hb);first | subst hb | simp only [hb]))) | (apply ai;rfl;simp only [aj,avs,tts,seval,hz,ho,Bool.not_true]<;>exact rr) | (refine za rfl ?_;first | refine zp (c1) ?_ | refine zp (c2) ?_ | refine zp (c3) ?_)) | refine ae ?_ | (refine ak ?_;first | (refine yg rfl ?_;first | refine aq ?_ | refine yo ?_ | (refine ys ?_ ?_<;>intro hb<;>((try simp only [bn] at hb);first | subst hb | simp only [hb]))) | (apply ar;rfl;simp only [aB,avs,tts,seval,hz,ho,Bool.not_true]<;>exact rr;first | trivial | omega) | (refine ya rfl ?_;first | refine yp (c1) ?_ | refine yp (c2) ?_ | refine yp (c3) ?_)) | refine al ?_ | refine ag ?_ | refine zr af ?_ | refine zQ 0 af mixed ?_ | refine zQ 1 af mixed ?_ | refine zQ 2 af mixed ?_ | refine zQ 3 af mixed ?_ | refine zf rfl rfl ?_ | refine zt rfl rfl ?_ | (refine an rfl rfl ?_ ?_<;>intro hb<;>((try simp only [bn] at hb);first | subst hb | simp only [hb])) | refine ap ?_ | refine au ?_ | refine am ?_)
 all_goals (show AW _ _ _ _ _;exact aw ⟨_,rfl,_,rfl,rfl⟩)
set_option maxRecDepth 100000 in
theorem vJ (p q:Nat) (hp:p<10 ^ 18) (hq:q<10 ^ 18):aJ Tryz.prog base 107 [cP ⟨false,aI p,aI q⟩] (boA false):=by
 have s1:=gX hp
 have s2:=gX hq
 generalize aI p=t at *
 generalize aI q=u at *
 have f1:decide ((t.size:Int)>140)=false:=decide_eq_false (by omega)
 have f2:decide ((u.size:Int)>140)=false:=decide_eq_false (by omega)
 refine aA af Tryz.call107 Tryz.func107 rfl fun H hB hb hF => ?_
 rw [Tryz.results107,Tryz.ntmps107]
 simp only [ax,List.length_cons,List.length_nil,List.replicate,List.cons_append,List.nil_append,Nat.reduceAdd,Nat.reduceSub]
 clear hF hb
 simp only [tA,iA,boA,cP]
 repeat' (first | (refine aa ?_;first | (refine zg rfl ?_;first | refine ah ?_ | refine zo ?_ | (refine zs ?_ ?_<;>intro hb<;>((try simp only [bn] at hb);first | subst hb | simp only [hb]))) | (apply ai;rfl;simp only [aj,avs,tts,seval,f1,f2]<;>exact rr)) | refine ae ?_ | (refine ak ?_;first | (refine yg rfl ?_;first | refine aq ?_ | refine yo ?_ | (refine ys ?_ ?_<;>intro hb<;>((try simp only [bn] at hb);first | subst hb | simp only [hb]))) | (apply ar;rfl;simp only [aB,avs,tts,seval,f1,f2]<;>exact rr;first | trivial | omega)) | refine al ?_ | refine ag ?_ | refine zr af ?_ | refine zQ 0 af mixed ?_ | refine zQ 1 af mixed ?_ | refine zQ 2 af mixed ?_ | refine zQ 3 af mixed ?_ | refine zf rfl rfl ?_ | refine zt rfl rfl ?_ | (refine an rfl rfl ?_ ?_<;>intro hb<;>((try simp only [bn] at hb);first | subst hb | simp only [hb])) | refine ap ?_ | refine au ?_ | refine am ?_)
 all_goals (show AW _ _ _ _ _;exact aw ⟨_,rfl,_,rfl,rfl⟩)
set_option maxRecDepth 100000 in
set_option maxHeartbeats 4000000 in
theorem By (p1 q1 p2 q2:Nat) (h1:p1<10000) (h2:q1<10000) (h3:p2<10000) (h4:q2<10000) (k1:0<q1) (k2:0<q2) (g1:Nat.gcd p1 q1=1) (g2:Nat.gcd p2 q2=1):aJ Tryz.prog base 83 [cP ⟨false,aI p1,aI q1⟩,cP ⟨false,aI p2,aI q2⟩] (.tup [cP (gR false (p1 * q2+p2 * q1) (q1 * q2)),iA 0]):=by
 have v1:=vB base p1 q1 (by omega) (by omega) k1 g1
 have v2:=vB base p2 q2 (by omega) (by omega) k2 g2
 have l1:=vJ base p1 q1 (by omega) (by omega)
 have l2:=vJ base p2 q2 (by omega) (by omega)
 have m1:=qD base (n:=p1) (m:=q2) (by omega) (by omega)
 have m2:=qD base (n:=p2) (m:=q1) (by omega) (by omega)
 have m3:=qD base (n:=q1) (m:=q2) (by omega) (by omega)
 have b1:p1 * q2≤10000 * 10000:=Nat.mul_le_mul (by omega) (by omega)
 have b2:p2 * q1≤10000 * 10000:=Nat.mul_le_mul (by omega) (by omega)
 have b3:q1 * q2≤10000 * 10000:=Nat.mul_le_mul (by omega) (by omega)
 have ca:=BB base (n:=p1 * q2) (m:=p2 * q1) (by omega) (by omega) (by omega)
 have cr:=pq base (p1 * q2+p2 * q1) (q1 * q2) (by omega) (by omega) (Nat.mul_pos k1 k2)
 clear b1 b2 b3
 generalize gR false (p1 * q2+p2 * q1) (q1 * q2)=r at *
 obtain ⟨r1,r2,r3⟩:=r
 generalize aI (p1 * q2+p2 * q1)=x4 at *
 generalize aI (p1 * q2)=x1 at *
 generalize aI (p2 * q1)=x2 at *
 generalize aI (q1 * q2)=x3 at *
 generalize aI p1=t1 at *
 generalize aI q1=u1 at *
 generalize aI p2=t2 at *
 generalize aI q2=u2 at *
 refine aA af Tryz.call83 Tryz.func83 rfl fun H hB hb hF => ?_
 rw [Tryz.results83,Tryz.ntmps83]
 simp only [ax,List.length_cons,List.length_nil,List.replicate,List.cons_append,List.nil_append,Nat.reduceAdd,Nat.reduceSub]
 clear hF hb
 simp only [tA,iA,boA,cP] at v1 v2 l1 l2 m1 m2 m3 ca cr ⊢
 repeat' (first | (refine aa ?_;first | (refine zg rfl ?_;first | refine ah ?_ | refine zo ?_ | (refine zs ?_ ?_<;>intro hb<;>((try simp only [bn] at hb);first | subst hb | simp only [hb]))) | (apply ai;rfl;simp only [aj,avs,tts,seval,Bool.not_true]<;>exact rr) | (refine za rfl ?_;first | refine zp (v1) ?_ | refine zp (v2) ?_ | refine zp (l1) ?_ | refine zp (l2) ?_ | refine zp (m1) ?_ | refine zp (m2) ?_ | refine zp (m3) ?_ | refine zp (ca) ?_ | refine zp (cr) ?_)) | refine ae ?_ | (refine ak ?_;first | (refine yg rfl ?_;first | refine aq ?_ | refine yo ?_ | (refine ys ?_ ?_<;>intro hb<;>((try simp only [bn] at hb);first | subst hb | simp only [hb]))) | (apply ar;rfl;simp only [aB,avs,tts,seval,Bool.not_true]<;>exact rr;first | trivial | omega) | (refine ya rfl ?_;first | refine yp (v1) ?_ | refine yp (v2) ?_ | refine yp (l1) ?_ | refine yp (l2) ?_ | refine yp (m1) ?_ | refine yp (m2) ?_ | refine yp (m3) ?_ | refine yp (ca) ?_ | refine yp (cr) ?_)) | refine al ?_ | refine ag ?_ | refine zr af ?_ | refine zQ 0 af mixed ?_ | refine zQ 1 af mixed ?_ | refine zQ 2 af mixed ?_ | refine zQ 3 af mixed ?_ | refine zf rfl rfl ?_ | refine zt rfl rfl ?_ | (refine an rfl rfl ?_ ?_<;>intro hb<;>((try simp only [bn] at hb);first | subst hb | simp only [hb])) | refine ap ?_ | refine au ?_ | refine am ?_)
 all_goals (show AW _ _ _ _ _;refine aw ⟨_,(by simp only [bj,cH,dO,avs,tts]<;>rfl),_,rfl,?_⟩;simp [bL];rfl)
end
end Av
end Go.Proofs.YtdekcppfpgeneaaGreatDoor
namespace Go.Proofs.YtdekcppfpgeneaaGreatDoor
open Go Go.RowKit
namespace Rg
open Av Nt
def bT:List ByteArray→ByteArray→List ByteArray
 | [],s=>[s]
 | a::r,s=>if ltT a s=true then a::bT r s else if a=s then a::r else s::a::r
theorem nB {x s:ByteArray}:∀{l:List ByteArray},x∈bT l s↔x=s∨x∈l
 | []=>by simp [bT]
 | a::r=>by
  unfold bT
  split
  ·rw [List.mem_cons,nB,List.mem_cons]
   constructor
   ·rintro (h | h | h)
    ·exact .inr (.inl h)
    ·exact .inl h
    ·exact .inr (.inr h)
   ·rintro (h | h | h)
    ·exact .inr (.inl h)
    ·exact .inl h
    ·exact .inr (.inr h)
  ·split
   ·rename_i e
    constructor
    ·exact .inr
    ·rintro (h | h)
     ·rw [h,←e];exact List.mem_cons_self ..
     ·exact h
   ·rw [List.mem_cons]
theorem xj {a b c:ByteArray} (h:ltT a b=true) (k:ltT b c=true):ltT a c=true:=by
 rw [gQ] at *
 refine ⟨pI _ _ _ h.1 k.1,fun e => ?_⟩
 subst e
 exact h.2 (gS h.1 k.1)
theorem zK {a s:ByteArray} (h:¬ltT a s=true) (hn:a≠s):ltT s a=true:=by
 rw [gQ]
 refine ⟨?_,fun e=>hn e.symm⟩
 have:=pJ a s
 rw [Bool.or_eq_true] at this
 rcases this with h1 | h1
 ·exact absurd (gQ.2 ⟨h1,hn⟩) h
 ·exact h1
theorem rZ {s:ByteArray}:∀{l:List ByteArray},l.Pairwise (fun a b=>ltT a b=true)→(bT l s).Pairwise fun a b=>ltT a b=true
 | [],_=>by simp [bT]
 | a::r,h=>by
  rw [List.pairwise_cons] at h
  unfold bT
  split
  ·rename_i e
   rw [List.pairwise_cons]
   refine ⟨fun x hx => ?_,rZ h.2⟩
   rcases nB.1 hx with h1 | h1
   ·rw [h1];exact e
   ·exact h.1 x h1
  ·rename_i e
   split
   ·exact List.pairwise_cons.2 h
   ·rename_i e2
    have h3:=zK e e2
    rw [List.pairwise_cons,List.pairwise_cons]
    refine ⟨fun x hx => ?_,h⟩
    rcases List.mem_cons.1 hx with h1 | h1
    ·rw [h1];exact h3
    ·exact xj h3 (h.1 x h1)
theorem sb {s:ByteArray}:∀{l:List ByteArray} {k:Nat} (hk:k<l.length),(∀i (h:i<l.length),i<k→ltT l[i] s=true)→ltT l[k] s=false→l[k]=s→bT l s=l
 | [],k,hk,_,_,_=>by simp at hk
 | a::r,0,_,_,h0,h=>by
  simp only [List.getElem_cons_zero] at h h0
  unfold bT
  rw [h0,if_pos h];rfl
 | a::r,k+1,hk,hi,h0,h=>by
  unfold bT
  have h1:=hi 0 (by simp) (by omega)
  simp only [List.getElem_cons_zero,List.getElem_cons_succ] at h1 h h0
  rw [if_pos h1,sb (k:=k) (by simpa using hk) (fun i h2 h3=>by have:=hi (i+1) (by simpa using h2) (by omega);simpa using this) h0 h]
theorem sa {s:ByteArray}:∀{l:List ByteArray} {k:Nat},k≤l.length→(∀i (h:i<l.length),i<k→ltT l[i] s=true)→(∀h:k<l.length,ltT l[k] s=false∧l[k]≠s)→bT l s=l.take k++s::l.drop k
 | [],k,hk,_,_=>by simp [bT]
 | a::r,0,_,_,h=>by
  have:=h (by simp)
  simp only [List.getElem_cons_zero] at this
  unfold bT
  rw [this.1,if_neg this.2]
  simp
 | a::r,k+1,hk,hi,h=>by
  unfold bT
  have h1:=hi 0 (by simp) (by omega)
  simp only [List.getElem_cons_zero] at h1
  rw [if_pos h1,sa (k:=k) (by simpa using hk) (fun i h2 h3=>by have:=hi (i+1) (by simpa using h2) (by omega);simpa using this) (fun h2=>by have:=h (by simpa using h2);simpa using this)]
  simp
theorem j0 (l:List ByteArray) (s:ByteArray):(bT l s).length≤l.length+1:=by
 induction l with
 | nil=>simp [bT]
 | cons a r ih =>
  unfold bT
  split
  ·simp;omega
  ·split<;>simp
end Rg
end Go.Proofs.YtdekcppfpgeneaaGreatDoor
namespace Go.Proofs.YtdekcppfpgeneaaGreatDoor
open Go Go.RowKit
namespace Rg
open Av Nt
theorem C9 {l:List ByteArray} (h:l.Pairwise fun a b=>ltT a b=true):Srt l :=
 ⟨h.imp fun h=>(gQ.1 h).1,h.imp fun h=>(gQ.1 h).2⟩
def zx (s:ByteArray):List ByteArray:=if s=emp then [] else [s]
def fb (h:Hd):List ByteArray:=h.company::h.holder::(h.joint++(zx h.nominee++zx h.pledged))
def dD (l:List Hd):List ByteArray:=l.foldl (fun out h=>(fb h).foldl bT out) []
theorem pT {x:ByteArray}:∀{m out:List ByteArray},x∈m.foldl bT out↔x∈out∨x∈m
 | [],out=>by simp
 | a::r,out=>by
  rw [List.foldl_cons,pT,nB,List.mem_cons]
  constructor
  ·rintro ((h | h) | h)
   ·exact .inr (.inl h)
   ·exact .inl h
   ·exact .inr (.inr h)
  ·rintro (h | h | h)
   ·exact .inl (.inr h)
   ·exact .inl (.inl h)
   ·exact .inr h
theorem pS:∀{m out:List ByteArray},out.Pairwise (fun a b=>ltT a b=true)→(m.foldl bT out).Pairwise fun a b=>ltT a b=true
 | [],out,h=>h
 | a::r,out,h=>by rw [List.foldl_cons];exact pS (rZ h)
theorem jh:∀(m out:List ByteArray),(m.foldl bT out).length≤out.length+m.length
 | [],out=>by simp
 | a::r,out=>by
  have h1:=jh r (bT out a)
  have h2:=j0 out a
  rw [List.foldl_cons,List.length_cons];omega
theorem j6 {x:ByteArray}:∀{l:List Hd} {out:List ByteArray},x∈l.foldl (fun out h=>(fb h).foldl bT out) out↔x∈out∨∃h∈l,x∈fb h
 | [],out=>by simp
 | a::r,out=>by
  rw [List.foldl_cons,j6,pT]
  simp only [List.mem_cons,exists_eq_or_imp,or_assoc]
theorem j5:∀{l:List Hd} {out:List ByteArray},out.Pairwise (fun a b=>ltT a b=true)→(l.foldl (fun out h=>(fb h).foldl bT out) out).Pairwise fun a b=>ltT a b=true
 | [],out,h=>h
 | a::r,out,h=>by rw [List.foldl_cons];exact j5 (pS h)
theorem nH {h:Hd} (hp:aS h=true) {x:ByteArray}:x∈fb h↔x∈bC h:=by
 have hq:=(cX h).1 hp
 unfold fb bC zx
 simp only [List.mem_cons,List.mem_append,List.mem_filter,Bool.not_eq_true',decide_eq_false_iff_not]
 constructor
 ·rintro (e | e | e | e | e)
  ·exact .inl e
  ·exact .inr (.inl e)
  ·exact .inr (.inr ⟨.inr (.inr e),kd (hq.joint x e)⟩)
  ·split at e
   ·simp at e
   ·rename_i hn
    rw [List.mem_singleton] at e
    exact .inr (.inr ⟨.inl e,by rw [e];exact hn⟩)
  ·split at e
   ·simp at e
   ·rename_i hn
    rw [List.mem_singleton] at e
    exact .inr (.inr ⟨.inr (.inl e),by rw [e];exact hn⟩)
 ·rintro (e | e | ⟨e | e | e,hn⟩)
  ·exact .inl e
  ·exact .inr (.inl e)
  ·refine .inr (.inr (.inr (.inl ?_)))
   rw [if_neg (by rw [←e];exact hn)];simp [e]
  ·refine .inr (.inr (.inr (.inr ?_)))
   rw [if_neg (by rw [←e];exact hn)];simp [e]
  ·exact .inr (.inr (.inl e))
theorem iB {l:List Hd} (hp:∀h∈l,aS h=true):dD l=ay l:=by
 have hs:=C9 (j5 (l:=l) (out:=[]) List.Pairwise.nil)
 refine (rT (eX _) hs.nd hs.srt fun x => ?_).symm
 rw [gi,List.mem_flatMap,j6]
 simp only [List.not_mem_nil,false_or]
 constructor
 ·rintro ⟨h,hh,hx⟩;exact ⟨h,hh,(nH (hp h hh)).2 hx⟩
 ·rintro ⟨h,hh,hx⟩;exact ⟨h,hh,(nH (hp h hh)).1 hx⟩
def ltP (a b:Int × Int):Prop:=a.1<b.1∨(a.1=b.1∧a.2<b.2)
theorem zO {s:KSt} (hn:s.1.Nodup) {k:Int × Int} (v:Int) {i:Nat} (hi:i<(ba s.1).length) (he:(ba s.1)[i]=k):cq (dR s k v)=(cq s).set i ⟨k.1,k.2,ofR (s.2 k+v) 6000⟩:=by
 have hk:k∈s.1:=dM.1 (he ▸ List.getElem_mem hi)
 unfold cq dR cF
 simp only [if_pos hk]
 refine List.ext_getElem (by simp) fun j h1 h2 => ?_
 simp only [List.length_map] at h1
 rw [List.getElem_set,List.getElem_map,List.getElem_map]
 unfold jw
 by_cases e:i=j
 ·subst e;simp [he]
 ·rw [if_neg e]
  have hne:(ba s.1)[j]≠k:=by
   rw [←he]
   have hp:=List.pairwise_iff_getElem.1 (iu hn)
   rcases Nat.lt_or_gt_of_ne e with h | h
   ·exact fun e2=>hp i j hi h1 h e2.symm
   ·exact hp j i h1 hi h
  simp [hne]
theorem zN {s:KSt} {M:Int} (hs:KOk s M) {k:Int × Int} (v:Int) {i:Nat} (hi:i≤(ba s.1).length) (h1:∀j (h:j<(ba s.1).length),j<i→ltP (ba s.1)[j] k) (h2:∀h:i<(ba s.1).length,ltP k (ba s.1)[i]) :
  cq (dR s k v)=(cq s).take i++(⟨k.1,k.2,ofR v 6000⟩:Lk)::(cq s).drop i∧¬k∈s.1:=by
 have hge:∀j (h:j<(ba s.1).length),i≤j→ltP k (ba s.1)[j]:=fun j h hij=>by
  have h3:=h2 (by omega)
  rcases Nat.lt_or_eq_of_le hij with h4 | h4
  ·have h5:=List.pairwise_iff_getElem.1 (gK s.1) i j (by omega) h h4
   unfold ltP leK at *;omega
  ·subst h4;exact h3
 have hnk:¬k∈s.1:=fun hk=>by
  obtain ⟨j,hj,e⟩:=List.getElem_of_mem (dM.2 hk)
  rcases Nat.lt_or_ge j i with h | h
  ·have:=h1 j hj h;rw [e] at this;unfold ltP at this;omega
  ·have:=hge j hj h;rw [e] at this;unfold ltP at this;omega
 refine ⟨?_,hnk⟩
 have e:ba (cF s.1 k)=(ba s.1).take i++k::(ba s.1).drop i:=by
  unfold cF
  rw [if_neg hnk]
  have hnd:((ba s.1).take i++(ba s.1).drop i).Nodup:=by rw [List.take_append_drop];exact iu hs.nd
  have hso:((ba s.1).take i++(ba s.1).drop i).Pairwise leK:=by rw [List.take_append_drop];exact gK _
  have hm1:∀x∈(ba s.1).take i,ltP x k:=fun x hx=>by
   obtain ⟨j,hj,rfl⟩:=List.getElem_of_mem hx
   rw [List.length_take] at hj
   rw [List.getElem_take]
   exact h1 j (by omega) (by omega)
  have hm2:∀x∈(ba s.1).drop i,ltP k x:=fun x hx=>by
   obtain ⟨j,hj,rfl⟩:=List.getElem_of_mem hx
   rw [List.length_drop] at hj
   rw [List.getElem_drop]
   exact hge (i+j) (by omega) (by omega)
  rw [List.pairwise_append] at hso
  rw [List.nodup_append] at hnd
  refine rU ?_ ?_ ?_ fun x => ?_
  ·rw [List.nodup_append]
   exact ⟨hs.nd,by simp,fun a ha b hb=>by rw [List.mem_singleton] at hb;rw [hb];rintro rfl;exact hnk ha⟩
  ·rw [List.nodup_append,List.nodup_cons]
   refine ⟨hnd.1,⟨fun h=>hnk (dM.1 (List.mem_of_mem_drop h)),hnd.2.1⟩,fun a ha b hb => ?_⟩
   rcases List.mem_cons.1 hb with rfl | hb
   ·rintro rfl;exact hnk (dM.1 (List.mem_of_mem_take ha))
   ·exact hnd.2.2 a ha b hb
  ·rw [List.pairwise_append,List.pairwise_cons]
   refine ⟨hso.1,⟨fun x hx => ?_,hso.2.1⟩,fun a ha b hb => ?_⟩
   ·have:=hm2 x hx;unfold ltP leK at *;omega
   ·rcases List.mem_cons.1 hb with rfl | hb
    ·have:=hm1 a ha;unfold ltP leK at *;omega
    ·exact hso.2.2 a ha b hb
  ·rw [List.mem_append,List.mem_singleton,List.mem_append,List.mem_cons,←dM (l:=s.1)]
   have hxx:x∈ba s.1↔x∈(ba s.1).take i∨x∈(ba s.1).drop i:=by
    rw [←List.mem_append,List.take_append_drop]
   rw [hxx]
   constructor
   ·rintro ((h | h) | h)
    ·exact .inl h
    ·exact .inr (.inr h)
    ·exact .inr (.inl h)
   ·rintro (h | h | h)
    ·exact .inl (.inl h)
    ·exact .inr h
    ·exact .inl (.inr h)
 unfold cq
 rw [show (dR s k v).1=cF s.1 k from rfl,e,List.map_append,List.map_cons,List.map_take,List.map_drop]
 have hk:jw (dR s k v) k=⟨k.1,k.2,ofR v 6000⟩:=by
  unfold jw dR
  simp [hs.out k hnk]
 have hx:∀x∈ba s.1,jw (dR s k v) x=jw s x:=fun x hx=>by
  have:x≠k:=fun e=>hnk (e ▸ dM.1 hx)
  unfold jw dR
  simp [this]
 rw [hk,List.map_congr_left hx]
end Rg
end Go.Proofs.YtdekcppfpgeneaaGreatDoor
namespace Go.Proofs.YtdekcppfpgeneaaGreatDoor
open Go Go.RowKit
namespace Rg
open Av Nt
def ll (x:Lk) (c h:Int):Bool:=decide (x.company<c)||(decide (x.company=c)&&decide (x.holder<h))
def s8 (x:Lk) (c h:Int):Bool:=decide (x.company=c)&&decide (x.holder=h)
end Rg
namespace Av
attribute [local irreducible] AW aQ aM
open Nt Rg
section
variable (base:World)
set_option maxRecDepth 100000 in
set_option maxHeartbeats 8000000 in
theorem Df (L:List Lk) (c h:Int) (p:Rt) (k:Nat) (hl:L.length≤1000000) (hk:k≤L.length) (hlo:∀i (hi:i<L.length),i<k→ll L[i] c h=true) (hup:∀hi:k<L.length,ll L[k] c h=false∧s8 L[k] c h=false) (H:av):bE Tryz.prog base 57 [.d (jv L),iA c,iA h,cP p] H (fun r H'=>∃o:Bool,r = .ms (H.length+if o=true then 1 else 2) 0 (L.length+1)∧H'=H ++ .box 40 [.d (.v (.bool p.neg)),.d (.v (.string p.num)),.d (.v (.string p.den))]::(if o=true then [.row 42 5 0 ((((L.take k).map lkL)++[[.d (.v (.int .i64 c)),.d (.v (.int .i64 h)),.d (.v (.bool p.neg)),.d (.v (.string p.num)),.d (.v (.string p.den))]])++(L.drop k).map lkL),(.row 42 5 0 [[.d (.v (.int .i64 c)),.d (.v (.int .i64 h)),.d (.v (.bool p.neg)),.d (.v (.string p.num)),.d (.v (.string p.den))]])] else [(.row 42 5 0 [[.d (.v (.int .i64 c)),.d (.v (.int .i64 h)),.d (.v (.bool p.neg)),.d (.v (.string p.num)),.d (.v (.string p.den))]]),.row 42 5 0 ((((L.take k).map lkL)++[[.d (.v (.int .i64 c)),.d (.v (.int .i64 h)),.d (.v (.bool p.neg)),.d (.v (.string p.num)),.d (.v (.string p.den))]])++(L.drop k).map lkL)])):=by
 refine bV af Tryz.call57 Tryz.func57 rfl fun hB hb hF => ?_
 rw [Tryz.results57,Tryz.ntmps57]
 simp only [ax,List.length_cons,List.length_nil,List.replicate,List.cons_append,List.nil_append,Nat.reduceAdd,Nat.reduceSub]
 clear hF hb
 have la:(L.map lkP).length=L.length:=by simp
 simp only [jv,iA,cP,tA]
 repeat refine ag ?_
 refine zr af ?_
 repeat (refine aa ?_;first | (apply ai;rfl;simp only [aj,avs,tts,seval]<;>exact rr) | (refine zg rfl ?_;first | refine ah ?_ | refine zo ?_))
 refine ae ?_
 repeat refine ag ?_
 refine zr af ?_
 repeat (refine aa ?_;first | (apply ai;rfl;simp only [aj,avs,tts,seval]<;>exact rr) | (refine zg rfl ?_;first | refine ah ?_ | refine zo ?_))
 refine ae ?_
 repeat refine ag ?_
 refine cC (Q0:=fun env K=>K=H++[.box 40 [.d (.v (.bool p.neg)),.d (.v (.string p.num)),.d (.v (.string p.den))]]∧env=(.d (.sl 5 (L.map lkP)) :: .d (.v (.int .i64 c)) :: .d (.v (.int .i64 h)) :: .undef :: .undef :: .undef :: .undef :: .ptr H.length 0 :: .d (.v (.slice none 0 0)) :: .d (.v (.int .i64 (k:Int)))::List.replicate 85 .undef)) ?_ ?_
 ·refine am (bc (H0:=H++[.box 40 [.d (.v (.bool p.neg)),.d (.v (.string p.num)),.d (.v (.string p.den))]]) (fun r env K=>∃i,r=k - i∧i≤k∧K=H++[.box 40 [.d (.v (.bool p.neg)),.d (.v (.string p.num)),.d (.v (.string p.den))]]∧env=(.d (.sl 5 (L.map lkP)) :: .d (.v (.int .i64 c)) :: .d (.v (.int .i64 h)) :: .undef :: .undef :: .undef :: .undef :: .ptr H.length 0 :: .d (.v (.slice none 0 0)) :: .d (.v (.int .i64 (i:Int)))::List.replicate 85 .undef)) ?_ ⟨0,rfl,Nat.zero_le _,rfl,rfl⟩ ?_)
  ·exact ⟨by simp [aH,List.replicate],.inl rfl⟩
  rintro r env K ⟨i,rfl,hik,rfl,rfl⟩ hN
  simp only [rp]
  have hix:(0:Int)≤(i:Int):=by omega
  obtain ⟨d0,g0⟩:∃d,decide ((i:Int)<(L.length:Int))=d:=⟨_,rfl⟩
  cases d0 with
  | false =>
   have hka:i=k:=by
               have:¬i<L.length:=by simpa using g0
               omega
   subst hka
   repeat' (first | (refine aa ?_;first | (refine zg rfl ?_;first | refine ah ?_ | refine zo ?_ | (refine zs ?_ ?_<;>intro hb<;>((try simp only [bn] at hb);first | subst hb | simp only [hb]))) | (apply ai;rfl;simp only [aj,avs,tts,seval,g0,la]<;>exact rr)) | refine ae ?_ | (refine ak ?_;first | (refine yg rfl ?_;first | refine aq ?_ | refine yo ?_ | (refine ys ?_ ?_<;>intro hb<;>((try simp only [bn] at hb);first | subst hb | simp only [hb]))) | (apply ar;rfl;simp only [aB,avs,tts,seval,g0,la]<;>exact rr;first | trivial | omega)) | refine al ?_ | refine ag ?_ | refine zr af ?_ | refine zQ 0 af mixed ?_ | refine zQ 1 af mixed ?_ | refine zQ 2 af mixed ?_ | refine zQ 3 af mixed ?_ | refine zf rfl rfl ?_ | refine zt rfl rfl ?_ | (refine an rfl rfl ?_ ?_<;>intro hb<;>((try simp only [bn] at hb);first | subst hb | simp only [hb])) | refine ap ?_ | refine au ?_ | refine am ?_)
   exact ⟨rfl,_,_,⟨by simp [aH,List.replicate],.inl rfl⟩,rfl,rfl⟩
  | true =>
   have hlt:i<L.length:=by simpa using g0
   have ga:=nQ hlt
   have hlo1:=hlo i hlt
   have hup1:=fun e:i=k=>by subst e;exact (hup hlt).1
   have w1:IntKind.i64.wrap ((i:Int)+1)=((i+1:Nat):Int):=aP hlt (by omega)
   generalize L[i]=x at *
   obtain ⟨xc,xh,xp⟩:=x
   simp only [lkP] at ga
   simp only [ll] at hlo1 hup1
   obtain ⟨d1,g1⟩:∃d,decide (xc<c)=d:=⟨_,rfl⟩
   obtain ⟨d2,g2⟩:∃d,decide (xc=c)=d:=⟨_,rfl⟩
   obtain ⟨d3,g3⟩:∃d,decide (xh<h)=d:=⟨_,rfl⟩
   rw [g1,g2,g3] at hlo1 hup1
   obtain ⟨z,hz⟩:∃z,(d1||(d2&&d3))=z:=⟨_,rfl⟩
   rw [hz] at hlo1 hup1
   have hcase:(z=true∧i<k)∨(z=false∧i=k):=by
    rcases Nat.lt_or_eq_of_le hik with e | e
    ·exact .inl ⟨hlo1 e,e⟩
    ·exact .inr ⟨hup1 e,e⟩
   clear hlo1 hup1 hlo hup
   repeat' (first | (refine aa ?_;first | (refine zg rfl ?_;first | refine ah ?_ | refine zo ?_ | (refine zs ?_ ?_<;>intro hb<;>((try simp only [bn] at hb);first | subst hb | simp only [hb]))) | (apply ai;rfl;simp only [aj,avs,tts,seval,g0,la,hix,hlt,ga,w1,g1,g2,g3]<;>exact rr)) | refine ae ?_ | (refine ak ?_;first | (refine yg rfl ?_;first | refine aq ?_ | refine yo ?_ | (refine ys ?_ ?_<;>intro hb<;>((try simp only [bn] at hb);first | subst hb | simp only [hb]))) | (apply ar;rfl;simp only [aB,avs,tts,seval,g0,la,hix,hlt,ga,w1,g1,g2,g3]<;>exact rr;first | trivial | omega)) | refine al ?_ | refine ag ?_ | refine zr af ?_ | refine zQ 0 af mixed ?_ | refine zQ 1 af mixed ?_ | refine zQ 2 af mixed ?_ | refine zQ 3 af mixed ?_ | refine zf rfl rfl ?_ | refine zt rfl rfl ?_ | (refine an rfl rfl ?_ ?_<;>intro hb<;>((try simp only [bn] at hb);first | subst hb | simp only [hb])) | refine ap ?_ | refine au ?_ | refine am ?_)
   all_goals (rcases hcase with ⟨rfl,e⟩ | ⟨rfl,e⟩)
   all_goals first
    | (exfalso;simp at hz;done)
    | exact ⟨k - (i+1),_,_,by omega,⟨by simp [aH,List.replicate],.inl rfl⟩,i+1,rfl,e,rfl,rfl⟩
    | (subst e;exact ⟨rfl,_,_,⟨by simp [aH,List.replicate],.inl rfl⟩,rfl,rfl⟩)
 rintro env0 K0 ⟨rfl,rfl⟩
 simp only [rp]
 have hix:(0:Int)≤(k:Int):=by omega
 repeat refine ag ?_
 refine cC (Q0:=fun env K=>K=H++[.box 40 [.d (.v (.bool p.neg)),.d (.v (.string p.num)),.d (.v (.string p.den))]]∧env=(.d (.sl 5 (L.map lkP)) :: .d (.v (.int .i64 c)) :: .d (.v (.int .i64 h)) :: .undef :: .undef :: .undef :: .undef :: .ptr H.length 0 :: .d (.v (.slice none 0 0)) :: .d (.v (.int .i64 (k:Int)))::List.replicate 54 .undef ++ .d (.v (.bool false))::List.replicate 30 .undef)) ?_ ?_
 ·obtain ⟨d0,g0⟩:∃d,decide ((k:Int)<(L.length:Int))=d:=⟨_,rfl⟩
  cases d0 with
  | false =>
   repeat' (first | (refine aa ?_;first | (refine zg rfl ?_;first | refine ah ?_ | refine zo ?_ | (refine zs ?_ ?_<;>intro hb<;>((try simp only [bn] at hb);first | subst hb | simp only [hb]))) | (apply ai;rfl;simp only [aj,avs,tts,seval,g0,la]<;>exact rr)) | refine ae ?_ | (refine ak ?_;first | (refine yg rfl ?_;first | refine aq ?_ | refine yo ?_ | (refine ys ?_ ?_<;>intro hb<;>((try simp only [bn] at hb);first | subst hb | simp only [hb]))) | (apply ar;rfl;simp only [aB,avs,tts,seval,g0,la]<;>exact rr;first | trivial | omega)) | refine al ?_ | refine ag ?_ | refine zr af ?_ | refine zQ 0 af mixed ?_ | refine zQ 1 af mixed ?_ | refine zQ 2 af mixed ?_ | refine zQ 3 af mixed ?_ | refine zf rfl rfl ?_ | refine zt rfl rfl ?_ | (refine an rfl rfl ?_ ?_<;>intro hb<;>((try simp only [bn] at hb);first | subst hb | simp only [hb])) | refine ap ?_ | refine au ?_ | refine am ?_)
   exact ⟨rfl,_,_,⟨by simp [aH,List.replicate],.inl rfl⟩,rfl,rfl⟩
  | true =>
   have hlt:k<L.length:=by simpa using g0
   have ga:=nQ hlt
   have hup1:=(hup hlt).2
   generalize L[k]=x at *
   obtain ⟨xc,xh,xp⟩:=x
   simp only [lkP] at ga
   simp only [s8] at hup1
   obtain ⟨d2,g2⟩:∃d,decide (xc=c)=d:=⟨_,rfl⟩
   obtain ⟨d3,g3⟩:∃d,decide (xh=h)=d:=⟨_,rfl⟩
   rw [g2,g3] at hup1
   clear hlo hup
   repeat' (first | (refine aa ?_;first | (refine zg rfl ?_;first | refine ah ?_ | refine zo ?_ | (refine zs ?_ ?_<;>intro hb<;>((try simp only [bn] at hb);first | subst hb | simp only [hb]))) | (apply ai;rfl;simp only [aj,avs,tts,seval,g0,la,hix,hlt,ga,g2,g3]<;>exact rr)) | refine ae ?_ | (refine ak ?_;first | (refine yg rfl ?_;first | refine aq ?_ | refine yo ?_ | (refine ys ?_ ?_<;>intro hb<;>((try simp only [bn] at hb);first | subst hb | simp only [hb]))) | (apply ar;rfl;simp only [aB,avs,tts,seval,g0,la,hix,hlt,ga,g2,g3]<;>exact rr;first | trivial | omega)) | refine al ?_ | refine ag ?_ | refine zr af ?_ | refine zQ 0 af mixed ?_ | refine zQ 1 af mixed ?_ | refine zQ 2 af mixed ?_ | refine zQ 3 af mixed ?_ | refine zf rfl rfl ?_ | refine zt rfl rfl ?_ | (refine an rfl rfl ?_ ?_<;>intro hb<;>((try simp only [bn] at hb);first | subst hb | simp only [hb])) | refine ap ?_ | refine au ?_ | refine am ?_)
   all_goals first
    | (exfalso;simp at hup1;done)
    | (have e3:d3=false:=(by simpa using hup1);subst e3;exact ⟨rfl,_,_,⟨by simp [aH,List.replicate],.inl rfl⟩,rfl,rfl⟩)
    | exact ⟨rfl,_,_,⟨by simp [aH,List.replicate],.inl rfl⟩,rfl,rfl⟩
 rintro env0 K0 ⟨rfl,rfl⟩
 simp only [rp]
 repeat refine ag ?_
 refine zf rfl rfl ?_
 refine ap ?_
 repeat refine ag ?_
 clear hlo hup
 have e1:List.map (fun it=>List.map AV.d it) (List.take k (L.map lkP))=(L.take k).map lkL:=by rw [←List.map_take,List.map_map];rfl
 have e2:List.map (fun it=>List.map AV.d it) (List.take (L.length - k) (List.drop k (L.map lkP)))=(L.drop k).map lkL:=by
  rw [←List.map_drop,←List.map_take,List.map_map,List.take_of_length_le (by simp)];rfl
 have n1:((L.take k).map lkL).length=k:=by simp [hk]
 have n2:((((L.take k).map lkL)++[[.d (.v (.int .i64 c)),.d (.v (.int .i64 h)),.d (.v (.bool p.neg)),.d (.v (.string p.num)),.d (.v (.string p.den))]]):List (List AV)).length=k+1:=by simp [hk]
 have n3:((L.drop k).map lkL).length=L.length - k:=by simp
 have n4:k+1+(L.length - k)=L.length+1:=by omega
 have b1:k≤9223372036854775807:=by omega
 have b2:k * 56≤140737488355328:=by omega
 have b3:k+1≤9223372036854775807:=by omega
 have b4:(k+1) * 56≤140737488355328:=by omega
 have b5:L.length+1≤9223372036854775807:=by omega
 have b6:(L.length+1) * 56≤140737488355328:=by omega
 refine cC (Q0:=fun env K=>∃o:Bool,K=H ++ .box 40 [.d (.v (.bool p.neg)),.d (.v (.string p.num)),.d (.v (.string p.den))]::(if o=true then [.row 42 5 0 ((((L.take k).map lkL)++[[.d (.v (.int .i64 c)),.d (.v (.int .i64 h)),.d (.v (.bool p.neg)),.d (.v (.string p.num)),.d (.v (.string p.den))]])++(L.drop k).map lkL),(.row 42 5 0 [[.d (.v (.int .i64 c)),.d (.v (.int .i64 h)),.d (.v (.bool p.neg)),.d (.v (.string p.num)),.d (.v (.string p.den))]])] else [(.row 42 5 0 [[.d (.v (.int .i64 c)),.d (.v (.int .i64 h)),.d (.v (.bool p.neg)),.d (.v (.string p.num)),.d (.v (.string p.den))]]),.row 42 5 0 ((((L.take k).map lkL)++[[.d (.v (.int .i64 c)),.d (.v (.int .i64 h)),.d (.v (.bool p.neg)),.d (.v (.string p.num)),.d (.v (.string p.den))]])++(L.drop k).map lkL)])∧env=(.d (.sl 5 (L.map lkP)) :: .d (.v (.int .i64 c)) :: .d (.v (.int .i64 h)) :: .undef :: .undef :: .undef :: .undef :: .ptr H.length 0 :: .ms (H.length+if o=true then 1 else 2) 0 (L.length+1) :: .d (.v (.int .i64 (k:Int)))::List.replicate 85 .undef)) ?_ ?_
 ·refine eS af mixed (by kernel_rfl) (by kernel_rfl) (fun β env K=>∃o:Bool,(β 0=true→β 9=false→o=true)∧(β 9=true→β 0=false→o=false)∧(β 4=true→β 0=true)∧(β 10=true→β 4=true∧β 9=true)∧(β 14=true→β 10=true)∧(β 15=true→β 14=true)∧K=H ++ .box 40 [.d (.v (.bool p.neg)),.d (.v (.string p.num)),.d (.v (.string p.den))]::two o (β 0) (β 9) (.row 42 5 0 (if β 14=true then ((((L.take k).map lkL)++[[.d (.v (.int .i64 c)),.d (.v (.int .i64 h)),.d (.v (.bool p.neg)),.d (.v (.string p.num)),.d (.v (.string p.den))]])++(L.drop k).map lkL) else if β 10=true then (((L.take k).map lkL)++[[.d (.v (.int .i64 c)),.d (.v (.int .i64 h)),.d (.v (.bool p.neg)),.d (.v (.string p.num)),.d (.v (.string p.den))]]) else if β 4=true then ((L.take k).map lkL) else [])) (.row 42 5 0 [[.d (.v (.int .i64 c)),.d (.v (.int .i64 h)),.d (.v (.bool p.neg)),.d (.v (.string p.num)),.d (.v (.string p.den))]])∧env=(.d (.sl 5 (L.map lkP)) :: .d (.v (.int .i64 c)) :: .d (.v (.int .i64 h)) :: .undef :: .undef :: .undef :: .undef :: .ptr H.length 0::(if β 15=true then .ms (H.length+if o=true then 1 else 2) 0 (L.length+1) else .d (.v (.slice none 0 0))) :: .d (.v (.int .i64 (k:Int)))::List.replicate 70 .undef++(if β 0=true then .ms (H.length+if o=true then 1 else 2) 0 0 else .undef)::(if β 1=true then .d (.sl 5 (L.map lkP)) else .undef)::(if β 2=true then .d (.v (.int .i64 (k:Int))) else .undef)::(if β 3=true then .d (.sl 5 (List.take k (L.map lkP))) else .undef)::(if β 4=true then .ms (H.length+if o=true then 1 else 2) 0 k else .undef)::(if β 5=true then .d (.v (.int .i64 c)) else .undef)::(if β 6=true then .d (.v (.int .i64 h)) else .undef)::(if β 7=true then .agg [.d (.v (.bool p.neg)),.d (.v (.string p.num)),.d (.v (.string p.den))] else .undef)::(if β 8=true then .agg [.d (.v (.int .i64 c)),.d (.v (.int .i64 h)),.d (.v (.bool p.neg)),.d (.v (.string p.num)),.d (.v (.string p.den))] else .undef)::(if β 9=true then .ms (H.length+if o=true then 2 else 1) 0 1 else .undef)::(if β 10=true then .ms (H.length+if o=true then 1 else 2) 0 (k+1) else .undef)::(if β 11=true then .d (.sl 5 (L.map lkP)) else .undef)::(if β 12=true then .d (.v (.int .i64 (k:Int))) else .undef)::(if β 13=true then .d (.sl 5 (List.take (L.length - k) (List.drop k (L.map lkP)))) else .undef)::(if β 14=true then .ms (H.length+if o=true then 1 else 2) 0 (L.length+1) else .undef)::[])) (H0:=H++[.box 40 [.d (.v (.bool p.neg)),.d (.v (.string p.num)),.d (.v (.string p.den))]]) (env0:=(.d (.sl 5 (L.map lkP)) :: .d (.v (.int .i64 c)) :: .d (.v (.int .i64 h)) :: .undef :: .undef :: .undef :: .undef :: .ptr H.length 0 :: .d (.v (.slice none 0 0)) :: .d (.v (.int .i64 (k:Int)))::List.replicate 85 .undef)) ⟨by simp [aH,List.replicate],.inl rfl⟩ ⟨true,by simp,by simp,by simp,by simp,by simp,by simp,by simp [two],by simp⟩ ?_ ?_
  ·rintro β env K ⟨o,h1,h2,h3,h4,h5,h6',rfl,rfl⟩ hN2 j op hget hβ hr
   simp only [rp]
   simp only [ax] at hget
   rcases j with _ | _ | _ | _ | _ | _ | _ | _ | _ | _ | _ | _ | _ | _ | _ | _ | j
   all_goals (try simp only [gU,gT,Option.some.injEq,List.getElem?_nil,reduceCtorEq] at hget)
   all_goals (try subst hget)
   all_goals try (simp [gO,Region.binds] at hr)
   all_goals try (simp only [Nat.zero_add,Nat.reduceAdd] at hβ)
   ·
    have q4:β 4=false:=by
     cases h:β 4 with
     | false=>rfl
     | true=>rw [h3 h] at hβ;cases hβ
    have q10:β 10=false:=by
     cases h:β 10 with
     | false=>rfl
     | true=>rw [(h4 h).1] at q4;cases q4
    have q14:β 14=false:=by
     cases h:β 14 with
     | false=>rfl
     | true=>rw [h5 h] at q10;cases q10
    have q15:β 15=false:=by
     cases h:β 15 with
     | false=>rfl
     | true=>rw [h6' h] at q14;cases q14
    rcases (Bool.eq_false_or_eq_true (β 9)).symm with k9 | k9
    ·
     simp only [aD,aL,aE,aK,avs,tts,seval,hβ,k9,q4,q10,q14,q15,two,la,hix,hk,Nat.sub_zero,e1,e2,n1,n2,n3,n4,Nat.le_refl,b1,b2,b3,b4,b5,b6]
     exact ⟨true,by simp,by simp [k9],by simp,by simp [q10],by simp [q14],by simp [q15],by simp [two,k9,q4,q10,q14,hβ],by simp [k9,q15]⟩
    ·
     have ho:=h2 k9 hβ
     subst ho
     simp only [aD,aL,aE,aK,avs,tts,seval,hβ,k9,q4,q10,q14,q15,two,la,hix,hk,Nat.sub_zero,e1,e2,n1,n2,n3,n4,Nat.le_refl,b1,b2,b3,b4,b5,b6]
     exact ⟨false,by simp [k9],by simp,by simp,by simp [q10],by simp [q14],by simp [q15],by simp [two,k9,q4,q10,q14,hβ],by simp [k9,q15]⟩
   ·first
     | (simp only [aD,aL,aE,aK,avs,tts,seval,hr,la,hix,hk,Nat.sub_zero,e1,e2,n1,n2,n3,n4,Nat.le_refl,b1,b2,b3,b4,b5,b6];exact ⟨o,by first | (simp;done) | simpa using h1 | (simp [*];done),by first | (simp;done) | simpa using h2 | (simp [*];done),by first | (simp;done) | simpa using h3 | (simp [*];done),by first | (simp;done) | simpa using h4 | (simp [*];done),by first | (simp;done) | simpa using h5 | (simp [*];done),by first | (simp;done) | simpa using h6' | (simp [*];done),by simp,by simp [hr]⟩)
     | (simp only [aD,aL,aE,aK,avs,tts,seval,la,hix,hk,Nat.sub_zero,e1,e2,n1,n2,n3,n4,Nat.le_refl,b1,b2,b3,b4,b5,b6];exact ⟨o,by first | (simp;done) | simpa using h1 | (simp [*];done),by first | (simp;done) | simpa using h2 | (simp [*];done),by first | (simp;done) | simpa using h3 | (simp [*];done),by first | (simp;done) | simpa using h4 | (simp [*];done),by first | (simp;done) | simpa using h5 | (simp [*];done),by first | (simp;done) | simpa using h6' | (simp [*];done),by simp,by simp⟩)
   ·first
     | (simp only [aD,aL,aE,aK,avs,tts,seval,hr,la,hix,hk,Nat.sub_zero,e1,e2,n1,n2,n3,n4,Nat.le_refl,b1,b2,b3,b4,b5,b6];exact ⟨o,by first | (simp;done) | simpa using h1 | (simp [*];done),by first | (simp;done) | simpa using h2 | (simp [*];done),by first | (simp;done) | simpa using h3 | (simp [*];done),by first | (simp;done) | simpa using h4 | (simp [*];done),by first | (simp;done) | simpa using h5 | (simp [*];done),by first | (simp;done) | simpa using h6' | (simp [*];done),by simp,by simp [hr]⟩)
     | (simp only [aD,aL,aE,aK,avs,tts,seval,la,hix,hk,Nat.sub_zero,e1,e2,n1,n2,n3,n4,Nat.le_refl,b1,b2,b3,b4,b5,b6];exact ⟨o,by first | (simp;done) | simpa using h1 | (simp [*];done),by first | (simp;done) | simpa using h2 | (simp [*];done),by first | (simp;done) | simpa using h3 | (simp [*];done),by first | (simp;done) | simpa using h4 | (simp [*];done),by first | (simp;done) | simpa using h5 | (simp [*];done),by first | (simp;done) | simpa using h6' | (simp [*];done),by simp,by simp⟩)
   ·first
     | (simp only [aD,aL,aE,aK,avs,tts,seval,hr,la,hix,hk,Nat.sub_zero,e1,e2,n1,n2,n3,n4,Nat.le_refl,b1,b2,b3,b4,b5,b6];exact ⟨o,by first | (simp;done) | simpa using h1 | (simp [*];done),by first | (simp;done) | simpa using h2 | (simp [*];done),by first | (simp;done) | simpa using h3 | (simp [*];done),by first | (simp;done) | simpa using h4 | (simp [*];done),by first | (simp;done) | simpa using h5 | (simp [*];done),by first | (simp;done) | simpa using h6' | (simp [*];done),by simp,by simp [hr]⟩)
     | (simp only [aD,aL,aE,aK,avs,tts,seval,la,hix,hk,Nat.sub_zero,e1,e2,n1,n2,n3,n4,Nat.le_refl,b1,b2,b3,b4,b5,b6];exact ⟨o,by first | (simp;done) | simpa using h1 | (simp [*];done),by first | (simp;done) | simpa using h2 | (simp [*];done),by first | (simp;done) | simpa using h3 | (simp [*];done),by first | (simp;done) | simpa using h4 | (simp [*];done),by first | (simp;done) | simpa using h5 | (simp [*];done),by first | (simp;done) | simpa using h6' | (simp [*];done),by simp,by simp⟩)
   ·
    have q10:β 10=false:=by
     cases h:β 10 with
     | false=>rfl
     | true=>rw [(h4 h).1] at hβ;cases hβ
    have q14:β 14=false:=by
     cases h:β 14 with
     | false=>rfl
     | true=>rw [h5 h] at q10;cases q10
    have q15:β 15=false:=by
     cases h:β 15 with
     | false=>rfl
     | true=>rw [h6' h] at q14;cases q14
    rcases (Bool.eq_false_or_eq_true (β 9)).symm with k9 | k9
    ·
     have ho:=h1 hr.1 k9
     subst ho
     simp only [aD,aL,aE,aK,avs,tts,seval,hβ,hr,k9,q10,q14,q15,two,la,hix,hk,Nat.sub_zero,e1,e2,n1,n2,n3,n4,Nat.le_refl,b1,b2,b3,b4,b5,b6]
     exact ⟨true,by simp,by simp [k9],by simp [hr],by simp [q10],by simp [q14],by simp [q15],by simp [two,hr,k9,q10,q14,hβ],by simp [hr,k9,q15]⟩
    ·
     cases o with
     | true =>
      simp only [aD,aL,aE,aK,avs,tts,seval,hβ,hr,k9,q10,q14,q15,two,la,hix,hk,Nat.sub_zero,e1,e2,n1,n2,n3,n4,Nat.le_refl,b1,b2,b3,b4,b5,b6]
      exact ⟨true,by simp,by simp [hr],by simp [hr],by simp [q10],by simp [q14],by simp [q15],by simp [two,hr,k9,q10,q14,hβ],by simp [hr,k9,q15]⟩
     | false =>
      simp only [aD,aL,aE,aK,avs,tts,seval,hβ,hr,k9,q10,q14,q15,two,la,hix,hk,Nat.sub_zero,e1,e2,n1,n2,n3,n4,Nat.le_refl,b1,b2,b3,b4,b5,b6]
      exact ⟨false,by simp [k9],by simp,by simp [hr],by simp [q10],by simp [q14],by simp [q15],by simp [two,hr,k9,q10,q14,hβ],by simp [hr,k9,q15]⟩
   ·first
     | (simp only [aD,aL,aE,aK,avs,tts,seval,hr,la,hix,hk,Nat.sub_zero,e1,e2,n1,n2,n3,n4,Nat.le_refl,b1,b2,b3,b4,b5,b6];exact ⟨o,by first | (simp;done) | simpa using h1 | (simp [*];done),by first | (simp;done) | simpa using h2 | (simp [*];done),by first | (simp;done) | simpa using h3 | (simp [*];done),by first | (simp;done) | simpa using h4 | (simp [*];done),by first | (simp;done) | simpa using h5 | (simp [*];done),by first | (simp;done) | simpa using h6' | (simp [*];done),by simp,by simp [hr]⟩)
     | (simp only [aD,aL,aE,aK,avs,tts,seval,la,hix,hk,Nat.sub_zero,e1,e2,n1,n2,n3,n4,Nat.le_refl,b1,b2,b3,b4,b5,b6];exact ⟨o,by first | (simp;done) | simpa using h1 | (simp [*];done),by first | (simp;done) | simpa using h2 | (simp [*];done),by first | (simp;done) | simpa using h3 | (simp [*];done),by first | (simp;done) | simpa using h4 | (simp [*];done),by first | (simp;done) | simpa using h5 | (simp [*];done),by first | (simp;done) | simpa using h6' | (simp [*];done),by simp,by simp⟩)
   ·first
     | (simp only [aD,aL,aE,aK,avs,tts,seval,hr,la,hix,hk,Nat.sub_zero,e1,e2,n1,n2,n3,n4,Nat.le_refl,b1,b2,b3,b4,b5,b6];exact ⟨o,by first | (simp;done) | simpa using h1 | (simp [*];done),by first | (simp;done) | simpa using h2 | (simp [*];done),by first | (simp;done) | simpa using h3 | (simp [*];done),by first | (simp;done) | simpa using h4 | (simp [*];done),by first | (simp;done) | simpa using h5 | (simp [*];done),by first | (simp;done) | simpa using h6' | (simp [*];done),by simp,by simp [hr]⟩)
     | (simp only [aD,aL,aE,aK,avs,tts,seval,la,hix,hk,Nat.sub_zero,e1,e2,n1,n2,n3,n4,Nat.le_refl,b1,b2,b3,b4,b5,b6];exact ⟨o,by first | (simp;done) | simpa using h1 | (simp [*];done),by first | (simp;done) | simpa using h2 | (simp [*];done),by first | (simp;done) | simpa using h3 | (simp [*];done),by first | (simp;done) | simpa using h4 | (simp [*];done),by first | (simp;done) | simpa using h5 | (simp [*];done),by first | (simp;done) | simpa using h6' | (simp [*];done),by simp,by simp⟩)
   ·first
     | (simp only [aD,aL,aE,aK,avs,tts,seval,hr,la,hix,hk,Nat.sub_zero,e1,e2,n1,n2,n3,n4,Nat.le_refl,b1,b2,b3,b4,b5,b6];exact ⟨o,by first | (simp;done) | simpa using h1 | (simp [*];done),by first | (simp;done) | simpa using h2 | (simp [*];done),by first | (simp;done) | simpa using h3 | (simp [*];done),by first | (simp;done) | simpa using h4 | (simp [*];done),by first | (simp;done) | simpa using h5 | (simp [*];done),by first | (simp;done) | simpa using h6' | (simp [*];done),by simp,by simp [hr]⟩)
     | (simp only [aD,aL,aE,aK,avs,tts,seval,la,hix,hk,Nat.sub_zero,e1,e2,n1,n2,n3,n4,Nat.le_refl,b1,b2,b3,b4,b5,b6];exact ⟨o,by first | (simp;done) | simpa using h1 | (simp [*];done),by first | (simp;done) | simpa using h2 | (simp [*];done),by first | (simp;done) | simpa using h3 | (simp [*];done),by first | (simp;done) | simpa using h4 | (simp [*];done),by first | (simp;done) | simpa using h5 | (simp [*];done),by first | (simp;done) | simpa using h6' | (simp [*];done),by simp,by simp⟩)
   ·first
     | (simp only [aD,aL,aE,aK,avs,tts,seval,hr,la,hix,hk,Nat.sub_zero,e1,e2,n1,n2,n3,n4,Nat.le_refl,b1,b2,b3,b4,b5,b6];exact ⟨o,by first | (simp;done) | simpa using h1 | (simp [*];done),by first | (simp;done) | simpa using h2 | (simp [*];done),by first | (simp;done) | simpa using h3 | (simp [*];done),by first | (simp;done) | simpa using h4 | (simp [*];done),by first | (simp;done) | simpa using h5 | (simp [*];done),by first | (simp;done) | simpa using h6' | (simp [*];done),by simp,by simp [hr]⟩)
     | (simp only [aD,aL,aE,aK,avs,tts,seval,la,hix,hk,Nat.sub_zero,e1,e2,n1,n2,n3,n4,Nat.le_refl,b1,b2,b3,b4,b5,b6];exact ⟨o,by first | (simp;done) | simpa using h1 | (simp [*];done),by first | (simp;done) | simpa using h2 | (simp [*];done),by first | (simp;done) | simpa using h3 | (simp [*];done),by first | (simp;done) | simpa using h4 | (simp [*];done),by first | (simp;done) | simpa using h5 | (simp [*];done),by first | (simp;done) | simpa using h6' | (simp [*];done),by simp,by simp⟩)
   ·
    have q10:β 10=false:=by
     cases h:β 10 with
     | false=>rfl
     | true=>rw [(h4 h).2] at hβ;cases hβ
    have q14:β 14=false:=by
     cases h:β 14 with
     | false=>rfl
     | true=>rw [h5 h] at q10;cases q10
    have q15:β 15=false:=by
     cases h:β 15 with
     | false=>rfl
     | true=>rw [h6' h] at q14;cases q14
    rcases (Bool.eq_false_or_eq_true (β 0)).symm with k0 | k0
    ·
     have q4:β 4=false:=by
      cases h:β 4 with
      | false=>rfl
      | true=>rw [h3 h] at k0;cases k0
     simp only [aD,aL,aE,aK,avs,tts,seval,hβ,hr,k0,q4,q10,q14,q15,two,la,hix,hk,Nat.sub_zero,e1,e2,n1,n2,n3,n4,Nat.le_refl,b1,b2,b3,b4,b5,b6]
     exact ⟨false,by simp [k0],by simp,by simp [q4],by simp [q10],by simp [q14],by simp [q15],by simp [two,k0,q4,q10,q14,hβ],by simp [k0,q15]⟩
    ·
     have ho:=h1 k0 hβ
     subst ho
     simp only [aD,aL,aE,aK,avs,tts,seval,hβ,hr,k0,q10,q14,q15,two,la,hix,hk,Nat.sub_zero,e1,e2,n1,n2,n3,n4,Nat.le_refl,b1,b2,b3,b4,b5,b6]
     exact ⟨true,by simp,by simp [k0],by simp [k0],by simp [q10],by simp [q14],by simp [q15],by simp [two,k0,q10,q14,hβ],by simp [k0,q15]⟩
   ·have q0:=h3 hr.1
    have q14:β 14=false:=by
     cases h:β 14 with
     | false=>rfl
     | true=>rw [h5 h] at hβ;cases hβ
    have q15:β 15=false:=by
     cases h:β 15 with
     | false=>rfl
     | true=>rw [h6' h] at q14;cases q14
    cases o with
    | true =>
     simp only [aD,aL,aE,aK,avs,tts,seval,hβ,hr,q0,q14,q15,two,la,hix,hk,Nat.sub_zero,e1,e2,n1,n2,n3,n4,Nat.le_refl,b1,b2,b3,b4,b5,b6]
     exact ⟨true,by simp,by simp [q0],by simp [hr,q0],by simp [hr],by simp [q14],by simp [q15],by simp [two,hr,q0,q14,hβ],by simp [hr,q15]⟩
    | false =>
     simp only [aD,aL,aE,aK,avs,tts,seval,hβ,hr,q0,q14,q15,two,la,hix,hk,Nat.sub_zero,e1,e2,n1,n2,n3,n4,Nat.le_refl,b1,b2,b3,b4,b5,b6]
     exact ⟨false,by simp [hr],by simp,by simp [hr,q0],by simp [hr],by simp [q14],by simp [q15],by simp [two,hr,q0,q14,hβ],by simp [hr,q15]⟩
   ·first
     | (simp only [aD,aL,aE,aK,avs,tts,seval,hr,la,hix,hk,Nat.sub_zero,e1,e2,n1,n2,n3,n4,Nat.le_refl,b1,b2,b3,b4,b5,b6];exact ⟨o,by first | (simp;done) | simpa using h1 | (simp [*];done),by first | (simp;done) | simpa using h2 | (simp [*];done),by first | (simp;done) | simpa using h3 | (simp [*];done),by first | (simp;done) | simpa using h4 | (simp [*];done),by first | (simp;done) | simpa using h5 | (simp [*];done),by first | (simp;done) | simpa using h6' | (simp [*];done),by simp,by simp [hr]⟩)
     | (simp only [aD,aL,aE,aK,avs,tts,seval,la,hix,hk,Nat.sub_zero,e1,e2,n1,n2,n3,n4,Nat.le_refl,b1,b2,b3,b4,b5,b6];exact ⟨o,by first | (simp;done) | simpa using h1 | (simp [*];done),by first | (simp;done) | simpa using h2 | (simp [*];done),by first | (simp;done) | simpa using h3 | (simp [*];done),by first | (simp;done) | simpa using h4 | (simp [*];done),by first | (simp;done) | simpa using h5 | (simp [*];done),by first | (simp;done) | simpa using h6' | (simp [*];done),by simp,by simp⟩)
   ·first
     | (simp only [aD,aL,aE,aK,avs,tts,seval,hr,la,hix,hk,Nat.sub_zero,e1,e2,n1,n2,n3,n4,Nat.le_refl,b1,b2,b3,b4,b5,b6];exact ⟨o,by first | (simp;done) | simpa using h1 | (simp [*];done),by first | (simp;done) | simpa using h2 | (simp [*];done),by first | (simp;done) | simpa using h3 | (simp [*];done),by first | (simp;done) | simpa using h4 | (simp [*];done),by first | (simp;done) | simpa using h5 | (simp [*];done),by first | (simp;done) | simpa using h6' | (simp [*];done),by simp,by simp [hr]⟩)
     | (simp only [aD,aL,aE,aK,avs,tts,seval,la,hix,hk,Nat.sub_zero,e1,e2,n1,n2,n3,n4,Nat.le_refl,b1,b2,b3,b4,b5,b6];exact ⟨o,by first | (simp;done) | simpa using h1 | (simp [*];done),by first | (simp;done) | simpa using h2 | (simp [*];done),by first | (simp;done) | simpa using h3 | (simp [*];done),by first | (simp;done) | simpa using h4 | (simp [*];done),by first | (simp;done) | simpa using h5 | (simp [*];done),by first | (simp;done) | simpa using h6' | (simp [*];done),by simp,by simp⟩)
   ·first
     | (simp only [aD,aL,aE,aK,avs,tts,seval,hr,la,hix,hk,Nat.sub_zero,e1,e2,n1,n2,n3,n4,Nat.le_refl,b1,b2,b3,b4,b5,b6];exact ⟨o,by first | (simp;done) | simpa using h1 | (simp [*];done),by first | (simp;done) | simpa using h2 | (simp [*];done),by first | (simp;done) | simpa using h3 | (simp [*];done),by first | (simp;done) | simpa using h4 | (simp [*];done),by first | (simp;done) | simpa using h5 | (simp [*];done),by first | (simp;done) | simpa using h6' | (simp [*];done),by simp,by simp [hr]⟩)
     | (simp only [aD,aL,aE,aK,avs,tts,seval,la,hix,hk,Nat.sub_zero,e1,e2,n1,n2,n3,n4,Nat.le_refl,b1,b2,b3,b4,b5,b6];exact ⟨o,by first | (simp;done) | simpa using h1 | (simp [*];done),by first | (simp;done) | simpa using h2 | (simp [*];done),by first | (simp;done) | simpa using h3 | (simp [*];done),by first | (simp;done) | simpa using h4 | (simp [*];done),by first | (simp;done) | simpa using h5 | (simp [*];done),by first | (simp;done) | simpa using h6' | (simp [*];done),by simp,by simp⟩)
   ·have q4:=h4 hr.1
    have q0:=h3 q4.1
    have q15:β 15=false:=by
     cases h:β 15 with
     | false=>rfl
     | true=>rw [h6' h] at hβ;cases hβ
    cases o with
    | true =>
     simp only [aD,aL,aE,aK,avs,tts,seval,hβ,hr,q0,q4,two,la,hix,hk,Nat.sub_zero,e1,e2,n1,n2,n3,n4,Nat.le_refl,b1,b2,b3,b4,b5,b6]
     exact ⟨true,by simp,by simp [q0],by simp [q0],by simp [hr,q4],by simp [hr],by simp [q15],by simp [two,hr,q0,q4,hβ],by simp [hr,q15]⟩
    | false =>
     simp only [aD,aL,aE,aK,avs,tts,seval,hβ,hr,q0,q4,two,la,hix,hk,Nat.sub_zero,e1,e2,n1,n2,n3,n4,Nat.le_refl,b1,b2,b3,b4,b5,b6]
     exact ⟨false,by simp [q4],by simp,by simp [q0],by simp [hr,q4],by simp [hr],by simp [q15],by simp [two,hr,q0,q4,hβ],by simp [hr,q15]⟩
   ·first
     | (simp only [aD,aL,aE,aK,avs,tts,seval,hr,la,hix,hk,Nat.sub_zero,e1,e2,n1,n2,n3,n4,Nat.le_refl,b1,b2,b3,b4,b5,b6];exact ⟨o,by first | (simp;done) | simpa using h1 | (simp [*];done),by first | (simp;done) | simpa using h2 | (simp [*];done),by first | (simp;done) | simpa using h3 | (simp [*];done),by first | (simp;done) | simpa using h4 | (simp [*];done),by first | (simp;done) | simpa using h5 | (simp [*];done),by first | (simp;done) | simpa using h6' | (simp [*];done),by simp,by simp [hr]⟩)
     | (simp only [aD,aL,aE,aK,avs,tts,seval,la,hix,hk,Nat.sub_zero,e1,e2,n1,n2,n3,n4,Nat.le_refl,b1,b2,b3,b4,b5,b6];exact ⟨o,by first | (simp;done) | simpa using h1 | (simp [*];done),by first | (simp;done) | simpa using h2 | (simp [*];done),by first | (simp;done) | simpa using h3 | (simp [*];done),by first | (simp;done) | simpa using h4 | (simp [*];done),by first | (simp;done) | simpa using h5 | (simp [*];done),by first | (simp;done) | simpa using h6' | (simp [*];done),by simp,by simp⟩)
  ·rintro β env K ⟨o,h1,h2,h3,h4,h5,h6',rfl,rfl⟩ hall
   simp only [List.replicate,List.cons_append,List.nil_append,hall 0 (by decide),hall 1 (by decide),hall 2 (by decide),hall 3 (by decide),hall 4 (by decide),hall 5 (by decide),hall 6 (by decide),hall 7 (by decide),hall 8 (by decide),hall 9 (by decide),hall 10 (by decide),hall 11 (by decide),hall 12 (by decide),hall 13 (by decide),hall 14 (by decide),hall 15 (by decide),aE,two]
   exact ⟨by first | trivial | rfl,_,_,⟨by simp [aH,List.replicate],.inl rfl⟩,o,rfl,rfl⟩
 rintro env0 K0 ⟨o,rfl,rfl⟩
 simp only [rp]
 exact aw ⟨_,rfl,o,rfl,rfl⟩
end
end Av
end Go.Proofs.YtdekcppfpgeneaaGreatDoor
set_option linter.unnecessarySimpa false
namespace Go.Proofs.YtdekcppfpgeneaaGreatDoor
open Go Go.RowKit
namespace Av
attribute [local irreducible] AW aQ aM
open Nt Rg
section
variable (base:World)
set_option maxRecDepth 100000 in
set_option maxHeartbeats 8000000 in
theorem Dc (L:List Lk) (c h:Int) (p R:Rt) (k:Nat) (hl:L.length≤1000000) (hk:k<L.length) (hlo:∀i (hi:i<L.length),i<k→ll L[i] c h=true) (he1:L[k].company=c) (he2:L[k].holder=h) (hadd:aJ Tryz.prog base 83 [cP L[k].part,cP p] (.tup [cP R,iA 0])) {H:av} {r:Nat} (hrow:H[r]?=some (.row 42 5 0 (L.map lkL))):bE Tryz.prog base 57 [.ms r 0 L.length,iA c,iA h,cP p] H (fun res H'=>res = .ms r 0 L.length∧H'=H.set r (.row 42 5 0 ((L.set k ⟨c,h,R⟩).map lkL))++[.box 40 [.d (.v (.bool p.neg)),.d (.v (.string p.num)),.d (.v (.string p.den))]]):=by
 have hrl:=aF hrow
 have hst0:(L.map lkL).set k [.d (.v (.int .i64 c)),.d (.v (.int .i64 h)),.d (.v (.bool R.neg)),.d (.v (.string R.num)),.d (.v (.string R.den))]=(L.set k ⟨c,h,R⟩).map lkL:=by rw [List.map_set];rfl
 refine bV af Tryz.call57 Tryz.func57 rfl fun hB hb hF => ?_
 rw [Tryz.results57,Tryz.ntmps57]
 simp only [ax,List.length_cons,List.length_nil,List.replicate,List.cons_append,List.nil_append,Nat.reduceAdd,Nat.reduceSub]
 clear hF hb
 have lI:(L.map lkL).length=L.length:=by simp
 have hst:=hst0
 clear hst0
 simp only [iA,cP,tA]
 repeat refine ag ?_
 refine zr af ?_
 repeat (refine aa ?_;first | (apply ai;rfl;simp only [aj,avs,tts,seval]<;>exact rr) | (refine zg rfl ?_;first | refine ah ?_ | refine zo ?_))
 refine ae ?_
 repeat refine ag ?_
 refine zr af ?_
 repeat (refine aa ?_;first | (apply ai;rfl;simp only [aj,avs,tts,seval]<;>exact rr) | (refine zg rfl ?_;first | refine ah ?_ | refine zo ?_))
 refine ae ?_
 have hKb:(H++([.box 40 [.d (.v (.bool p.neg)),.d (.v (.string p.num)),.d (.v (.string p.den))]]:av))[H.length]?=some (.box 40 [.d (.v (.bool p.neg)),.d (.v (.string p.num)),.d (.v (.string p.den))]):=by simp
 have hKr:(H++([.box 40 [.d (.v (.bool p.neg)),.d (.v (.string p.num)),.d (.v (.string p.den))]]:av))[r]?=some (.row 42 5 0 (L.map lkL)):=by rw [List.getElem?_append_left hrl];exact hrow
 have hKs:(H++([.box 40 [.d (.v (.bool p.neg)),.d (.v (.string p.num)),.d (.v (.string p.den))]]:av)).set r (.row 42 5 0 ((L.set k ⟨c,h,R⟩).map lkL))=H.set r (.row 42 5 0 ((L.set k ⟨c,h,R⟩).map lkL))++[.box 40 [.d (.v (.bool p.neg)),.d (.v (.string p.num)),.d (.v (.string p.den))]]:=List.set_append_left _ _ hrl
 obtain ⟨K1,hK1⟩:∃K1,K1=H++[.box 40 [.d (.v (.bool p.neg)),.d (.v (.string p.num)),.d (.v (.string p.den))]]:=⟨_,rfl⟩
 rw [←hK1] at hKb hKr hKs ⊢
 have hNl:H.length≤K1.length:=by rw [hK1];simp
 repeat refine ag ?_
 refine cC (Q0:=fun env K=>K=K1∧env=(.ms r 0 L.length :: .d (.v (.int .i64 c)) :: .d (.v (.int .i64 h)) :: .undef :: .undef :: .undef :: .undef :: .ptr H.length 0 :: .d (.v (.slice none 0 0)) :: .d (.v (.int .i64 (k:Int)))::List.replicate 85 .undef)) ?_ ?_
 ·refine am (bc (H0:=K1) (fun n env K=>∃i,n=k - i∧i≤k∧K=K1∧env=(.ms r 0 L.length :: .d (.v (.int .i64 c)) :: .d (.v (.int .i64 h)) :: .undef :: .undef :: .undef :: .undef :: .ptr H.length 0 :: .d (.v (.slice none 0 0)) :: .d (.v (.int .i64 (i:Int)))::List.replicate 85 .undef)) ?_ ⟨0,rfl,Nat.zero_le _,rfl,rfl⟩ ?_)
  ·exact ⟨by simp [aH,List.replicate],.inl rfl⟩
  rintro n env K ⟨i,rfl,hik,rfl,rfl⟩ hN
  simp only [rp]
  have hix:(0:Int)≤(i:Int):=by omega
  have hlt:i<L.length:=by omega
  have g0:decide ((i:Int)<(L.length:Int))=true:=decide_eq_true (by omega)
  have ga:(L.map lkL).getD i []=lkL L[i]:=by simp [hlt]
  have w1:IntKind.i64.wrap ((i:Int)+1)=((i+1:Nat):Int):=aP hlt (by omega)
  have hlo1:=hlo i hlt
  have hup1:i=k→L[i].company=c∧L[i].holder=h:=fun e=>by subst e;exact ⟨he1,he2⟩
  clear hadd he1 he2 hlo hst
  generalize L[i]=x at *
  obtain ⟨xc,xh,xp⟩:=x
  simp only [lkL] at ga
  simp only [ll] at hlo1
  simp only at hup1
  obtain ⟨d1,g1⟩:∃d,decide (xc<c)=d:=⟨_,rfl⟩
  obtain ⟨d2,g2⟩:∃d,decide (xc=c)=d:=⟨_,rfl⟩
  obtain ⟨d3,g3⟩:∃d,decide (xh<h)=d:=⟨_,rfl⟩
  rw [g1,g2,g3] at hlo1
  have hup2:i=k→(d1||(d2&&d3))=false:=fun e=>by
   obtain ⟨rfl,rfl⟩:=hup1 e
   rw [←g1,←g2,←g3];simp
  obtain ⟨z,hz⟩:∃z,(d1||(d2&&d3))=z:=⟨_,rfl⟩
  rw [hz] at hlo1 hup2
  have hcase:(z=true∧i<k)∨(z=false∧i=k):=by
   rcases Nat.lt_or_eq_of_le hik with e | e
   ·exact .inl ⟨hlo1 e,e⟩
   ·exact .inr ⟨hup2 e,e⟩
  clear hlo1 hup1 hup2
  repeat' (first | (refine aa ?_;first | (refine zg rfl ?_;first | refine ah ?_ | refine zo ?_ | (refine zs ?_ ?_<;>intro hb<;>((try simp only [bn] at hb);first | subst hb | simp only [hb]))) | (apply ai;rfl;simp only [aj,avs,tts,seval,g0,lI,hKr,hix,hlt,ga,w1,g1,g2,g3]<;>exact rr)) | refine ae ?_ | (refine ak ?_;first | (refine yg rfl ?_;first | refine aq ?_ | refine yo ?_ | (refine ys ?_ ?_<;>intro hb<;>((try simp only [bn] at hb);first | subst hb | simp only [hb]))) | (apply ar;rfl;simp only [aB,avs,tts,seval,g0,lI,hKr,hix,hlt,ga,w1,g1,g2,g3]<;>exact rr;first | trivial | omega)) | refine al ?_ | refine ag ?_ | refine zr af ?_ | refine zQ 0 af mixed ?_ | refine zQ 1 af mixed ?_ | refine zQ 2 af mixed ?_ | refine zQ 3 af mixed ?_ | refine zf rfl rfl ?_ | refine zt rfl rfl ?_ | (refine an rfl rfl ?_ ?_<;>intro hb<;>((try simp only [bn] at hb);first | subst hb | simp only [hb])) | refine ap ?_ | refine au ?_ | refine am ?_)
  all_goals (rcases hcase with ⟨rfl,e⟩ | ⟨rfl,e⟩)
  all_goals first
   | (exfalso;simp at hz;done)
   | exact ⟨k - (i+1),_,_,by omega,⟨by simp [aH,List.replicate],.inl rfl⟩,i+1,rfl,e,rfl,rfl⟩
   | (subst e;exact ⟨rfl,_,_,⟨by simp [aH,List.replicate],.inl rfl⟩,rfl,rfl⟩)
 rintro env0 K0 ⟨rfl,rfl⟩
 simp only [rp]
 clear hlo
 have hix:(0:Int)≤(k:Int):=by omega
 have hgI:(L.map lkL).getD k []=lkL L[k]:=by simp [hk]
 generalize L[k]=x at *
 obtain ⟨xc,xh,q⟩:=x
 simp only at he1 he2 hadd
 subst he1 he2
 simp only [lkL] at hgI
 have cr:=hadd
 simp only [cP,tA,iA] at cr
 have g0:decide ((k:Int)<(L.length:Int))=true:=decide_eq_true (by omega)
 have g2:decide (xc=xc)=true:=decide_eq_true rfl
 have g3:decide (xh=xh)=true:=decide_eq_true rfl
 repeat refine ag ?_
 refine zr af ?_
 repeat (refine aa ?_;first | (apply ai;rfl;simp only [aj,avs,tts,seval,g0,lI,hKr,hix,hk,hgI,g2,g3]<;>exact rr) | (refine zg rfl ?_;first | refine ah ?_ | refine zo ?_))
 refine ae ?_
 repeat refine ag ?_
 refine zt rfl rfl ?_
 repeat refine ag ?_
 refine cC (Q0:=fun env K=>K=K0.set r (.row 42 5 0 ((L.set k ⟨xc,xh,R⟩).map lkL))∧env=(.ms r 0 L.length :: .d (.v (.int .i64 xc)) :: .d (.v (.int .i64 xh)) :: .undef :: .undef :: .undef :: .undef :: .ptr H.length 0 :: .d (.v (.slice none 0 0)) :: .d (.v (.int .i64 (k:Int)))::List.replicate 85 .undef)) ?_ ?_
 ·refine eS af mixed (by kernel_rfl) (by kernel_rfl) (fun β env K=>(β 14=true→β 10=true∧β 13=true)∧(β 10=true→β 9=true)∧(β 9=true→β 8=true)∧(β 8=true→β 6=true∧β 7=true)∧(β 6=true→β 5=true)∧(β 5=true→β 4=true)∧(β 13=true→β 12=true)∧K=(if β 14=true then K0.set r (.row 42 5 0 ((L.set k ⟨xc,xh,R⟩).map lkL)) else K0)∧env=(.ms r 0 L.length :: .d (.v (.int .i64 xc)) :: .d (.v (.int .i64 xh)) :: .undef :: .undef :: .undef :: .undef :: .ptr H.length 0 :: .d (.v (.slice none 0 0)) :: .d (.v (.int .i64 (k:Int)))::List.replicate 55 .undef++(if β 9=true then .tup [.agg [.d (.v (.bool R.neg)),.d (.v (.string R.num)),.d (.v (.string R.den))],.d (.v (.int .i64 0))] else .undef)::(if β 0=true then .ms r 0 L.length else .undef)::(if β 1=true then .d (.v (.int .i64 (k:Int))) else .undef)::(if β 2=true then .ms r 0 L.length else .undef)::(if β 3=true then .d (.v (.int .i64 (k:Int))) else .undef)::(if β 4=true then .ep r 0 L.length k 0 else .undef)::(if β 5=true then .ep r 0 L.length k 2 else .undef)::(if β 6=true then .agg [.d (.v (.bool q.neg)),.d (.v (.string q.num)),.d (.v (.string q.den))] else .undef)::(if β 7=true then .agg [.d (.v (.bool p.neg)),.d (.v (.string p.num)),.d (.v (.string p.den))] else .undef)::(if β 8=true then .tup [.agg [.d (.v (.bool R.neg)),.d (.v (.string R.num)),.d (.v (.string R.den))],.d (.v (.int .i64 0))] else .undef)::(if β 10=true then .agg [.d (.v (.bool R.neg)),.d (.v (.string R.num)),.d (.v (.string R.den))] else .undef)::(if β 11=true then .d (.v (.int .i64 0)) else .undef)::(if β 12=true then .ep r 0 L.length k 0 else .undef)::(if β 13=true then .ep r 0 L.length k 2 else .undef)::List.replicate 16 .undef)) (H0:=K0) (env0:=(.ms r 0 L.length :: .d (.v (.int .i64 xc)) :: .d (.v (.int .i64 xh)) :: .undef :: .undef :: .undef :: .undef :: .ptr H.length 0 :: .d (.v (.slice none 0 0)) :: .d (.v (.int .i64 (k:Int)))::List.replicate 85 .undef)) ⟨by simp [aH,List.replicate],.inl rfl⟩ ⟨by simp,by simp,by simp,by simp,by simp,by simp,by simp,by simp,by simp⟩ ?_ ?_
  ·rintro β env K ⟨h1,h2,h3,h4,h5,h6',h7,rfl,rfl⟩ hN2 j op hget hβ hr
   simp only [rp]
   simp only [ax] at hget
   rcases j with _ | _ | _ | _ | _ | _ | _ | _ | _ | _ | _ | _ | _ | _ | _ | j
   all_goals (try simp only [gU,gT,Option.some.injEq,List.getElem?_nil,reduceCtorEq] at hget)
   all_goals (try subst hget)
   all_goals try (simp [gO,Region.binds] at hr)
   all_goals try (simp only [Nat.zero_add,Nat.reduceAdd] at hβ)
   ·simp only [aD,aL,aE,aK,avs,tts,seval,hKr,hKb,lI,hix,hk,hgI,hst]
    exact ⟨by first | (simp;done) | simpa using h1,by first | (simp;done) | simpa using h2,by first | (simp;done) | simpa using h3,by first | (simp;done) | simpa using h4,by first | (simp;done) | simpa using h5,by first | (simp;done) | simpa using h6',by first | (simp;done) | simpa using h7,by first | rfl | (simp;done),by simp⟩
   ·simp only [aD,aL,aE,aK,avs,tts,seval,hKr,hKb,lI,hix,hk,hgI,hst]
    exact ⟨by first | (simp;done) | simpa using h1,by first | (simp;done) | simpa using h2,by first | (simp;done) | simpa using h3,by first | (simp;done) | simpa using h4,by first | (simp;done) | simpa using h5,by first | (simp;done) | simpa using h6',by first | (simp;done) | simpa using h7,by first | rfl | (simp;done),by simp⟩
   ·simp only [aD,aL,aE,aK,avs,tts,seval,hKr,hKb,lI,hix,hk,hgI,hst]
    exact ⟨by first | (simp;done) | simpa using h1,by first | (simp;done) | simpa using h2,by first | (simp;done) | simpa using h3,by first | (simp;done) | simpa using h4,by first | (simp;done) | simpa using h5,by first | (simp;done) | simpa using h6',by first | (simp;done) | simpa using h7,by first | rfl | (simp;done),by simp⟩
   ·simp only [aD,aL,aE,aK,avs,tts,seval,hKr,hKb,lI,hix,hk,hgI,hst]
    exact ⟨by first | (simp;done) | simpa using h1,by first | (simp;done) | simpa using h2,by first | (simp;done) | simpa using h3,by first | (simp;done) | simpa using h4,by first | (simp;done) | simpa using h5,by first | (simp;done) | simpa using h6',by first | (simp;done) | simpa using h7,by first | rfl | (simp;done),by simp⟩
   ·
    have q5:β 5=false:=by
     cases h:β 5 with
     | false=>rfl
     | true=>rw [h6' h] at hβ;cases hβ
    have q6:β 6=false:=by
     cases h:β 6 with
     | false=>rfl
     | true=>rw [h5 h] at q5;cases q5
    have q8:β 8=false:=by
     cases h:β 8 with
     | false=>rfl
     | true=>rw [(h4 h).1] at q6;cases q6
    have q9:β 9=false:=by
     cases h:β 9 with
     | false=>rfl
     | true=>rw [h3 h] at q8;cases q8
    have q10:β 10=false:=by
     cases h:β 10 with
     | false=>rfl
     | true=>rw [h2 h] at q9;cases q9
    have q14:β 14=false:=by
     cases h:β 14 with
     | false=>rfl
     | true=>rw [(h1 h).1] at q10;cases q10
    simp only [aD,aL,aE,aK,avs,tts,seval,hβ,hr,q5,q6,q8,q9,q10,q14,hKr,hKb,lI,hix,hk,hgI,hst]
    exact ⟨by first | (simp;done) | simpa [hr,hβ,q5,q6,q8,q9,q10,q14] using h1,by first | (simp;done) | simpa [hr,hβ,q5,q6,q8,q9,q10,q14] using h2,by first | (simp;done) | simpa [hr,hβ,q5,q6,q8,q9,q10,q14] using h3,by first | (simp;done) | simpa [hr,hβ,q5,q6,q8,q9,q10,q14] using h4,by first | (simp;done) | simpa [hr,hβ,q5,q6,q8,q9,q10,q14] using h5,by first | (simp;done) | simpa [hr,hβ,q5,q6,q8,q9,q10,q14] using h6',by first | (simp;done) | simpa [hr,hβ,q5,q6,q8,q9,q10,q14] using h7,by first | rfl | (simp [hr,hβ,q5,q6,q8,q9,q10,q14];done),by simp [hr,hβ,q5,q6,q8,q9,q10,q14]⟩
   ·simp only [aD,aL,aE,aK,avs,tts,seval,hr,hKr,hKb,lI,hix,hk,hgI,hst]
    exact ⟨by first | (simp;done) | simpa [hr] using h1,by first | (simp;done) | simpa [hr] using h2,by first | (simp;done) | simpa [hr] using h3,by first | (simp;done) | simpa [hr] using h4,by first | (simp;done) | simpa [hr] using h5,by first | (simp;done) | simpa [hr] using h6',by first | (simp;done) | simpa [hr] using h7,by first | rfl | (simp [hr];done),by simp [hr]⟩
   ·
    have q8:β 8=false:=by
     cases h:β 8 with
     | false=>rfl
     | true=>rw [(h4 h).1] at hβ;cases hβ
    have q9:β 9=false:=by
     cases h:β 9 with
     | false=>rfl
     | true=>rw [h3 h] at q8;cases q8
    have q10:β 10=false:=by
     cases h:β 10 with
     | false=>rfl
     | true=>rw [h2 h] at q9;cases q9
    have q14:β 14=false:=by
     cases h:β 14 with
     | false=>rfl
     | true=>rw [(h1 h).1] at q10;cases q10
    simp only [aD,aL,aE,aK,avs,tts,seval,hβ,hr,q8,q9,q10,q14,hKr,hKb,lI,hix,hk,hgI,hst]
    exact ⟨by first | (simp;done) | simpa [hr,hβ,q8,q9,q10,q14] using h1,by first | (simp;done) | simpa [hr,hβ,q8,q9,q10,q14] using h2,by first | (simp;done) | simpa [hr,hβ,q8,q9,q10,q14] using h3,by first | (simp;done) | simpa [hr,hβ,q8,q9,q10,q14] using h4,by first | (simp;done) | simpa [hr,hβ,q8,q9,q10,q14] using h5,by first | (simp;done) | simpa [hr,hβ,q8,q9,q10,q14] using h6',by first | (simp;done) | simpa [hr,hβ,q8,q9,q10,q14] using h7,by first | rfl | (simp [hr,hβ,q8,q9,q10,q14];done),by simp [hr,hβ,q8,q9,q10,q14]⟩
   ·
    have q8:β 8=false:=by
     cases h:β 8 with
     | false=>rfl
     | true=>rw [(h4 h).2] at hβ;cases hβ
    have q9:β 9=false:=by
     cases h:β 9 with
     | false=>rfl
     | true=>rw [h3 h] at q8;cases q8
    have q10:β 10=false:=by
     cases h:β 10 with
     | false=>rfl
     | true=>rw [h2 h] at q9;cases q9
    have q14:β 14=false:=by
     cases h:β 14 with
     | false=>rfl
     | true=>rw [(h1 h).1] at q10;cases q10
    simp only [aD,aL,aE,aK,avs,tts,seval,hβ,hr,q8,q9,q10,q14,hKr,hKb,lI,hix,hk,hgI,hst]
    exact ⟨by first | (simp;done) | simpa [hr,hβ,q8,q9,q10,q14] using h1,by first | (simp;done) | simpa [hr,hβ,q8,q9,q10,q14] using h2,by first | (simp;done) | simpa [hr,hβ,q8,q9,q10,q14] using h3,by first | (simp;done) | simpa [hr,hβ,q8,q9,q10,q14] using h4,by first | (simp;done) | simpa [hr,hβ,q8,q9,q10,q14] using h5,by first | (simp;done) | simpa [hr,hβ,q8,q9,q10,q14] using h6',by first | (simp;done) | simpa [hr,hβ,q8,q9,q10,q14] using h7,by first | rfl | (simp [hr,hβ,q8,q9,q10,q14];done),by simp [hr,hβ,q8,q9,q10,q14]⟩
   ·simp only [aD,aL,aE,aK,avs,tts,seval,hr,hKr,hKb,lI,hix,hk,hgI,hst]
    refine ⟨_,cr _,?_⟩
    rintro r' H' ⟨rfl,rfl⟩ _
    exact ⟨by first | (simp;done) | simpa [hr] using h1,by first | (simp;done) | simpa [hr] using h2,by first | (simp;done) | simpa [hr] using h3,by first | (simp;done) | simpa [hr] using h4,by first | (simp;done) | simpa [hr] using h5,by first | (simp;done) | simpa [hr] using h6',by first | (simp;done) | simpa [hr] using h7,by first | rfl | (simp [hr];done),by simp [hr]⟩
   ·simp only [aD,aL,aE,aK,avs,tts,seval,hr,hKr,hKb,lI,hix,hk,hgI,hst]
    exact ⟨by first | (simp;done) | simpa [hr] using h1,by first | (simp;done) | simpa [hr] using h2,by first | (simp;done) | simpa [hr] using h3,by first | (simp;done) | simpa [hr] using h4,by first | (simp;done) | simpa [hr] using h5,by first | (simp;done) | simpa [hr] using h6',by first | (simp;done) | simpa [hr] using h7,by first | rfl | (simp [hr];done),by simp [hr]⟩
   ·simp only [aD,aL,aE,aK,avs,tts,seval,hr,hKr,hKb,lI,hix,hk,hgI,hst]
    exact ⟨by simpa using fun h=>(h1 h).2,by first | (simp;done) | simpa [hr] using h2,by first | (simp;done) | simpa [hr] using h3,by first | (simp;done) | simpa [hr] using h4,by first | (simp;done) | simpa [hr] using h5,by first | (simp;done) | simpa [hr] using h6',by first | (simp;done) | simpa [hr] using h7,by first | rfl | (simp [hr];done),by simp [hr]⟩
   ·simp only [aD,aL,aE,aK,avs,tts,seval,hr,hKr,hKb,lI,hix,hk,hgI,hst]
    exact ⟨by first | (simp;done) | simpa [hr] using h1,by first | (simp;done) | simpa [hr] using h2,by first | (simp;done) | simpa [hr] using h3,by first | (simp;done) | simpa [hr] using h4,by first | (simp;done) | simpa [hr] using h5,by first | (simp;done) | simpa [hr] using h6',by first | (simp;done) | simpa [hr] using h7,by first | rfl | (simp [hr];done),by simp [hr]⟩
   ·
    have q13:β 13=false:=by
     cases h:β 13 with
     | false=>rfl
     | true=>rw [h7 h] at hβ;cases hβ
    have q14:β 14=false:=by
     cases h:β 14 with
     | false=>rfl
     | true=>rw [(h1 h).2] at q13;cases q13
    simp only [aD,aL,aE,aK,avs,tts,seval,hβ,hr,q13,q14,hKr,hKb,lI,hix,hk,hgI,hst]
    exact ⟨by first | (simp;done) | simpa [hr,hβ,q13,q14] using h1,by first | (simp;done) | simpa [hr,hβ,q13,q14] using h2,by first | (simp;done) | simpa [hr,hβ,q13,q14] using h3,by first | (simp;done) | simpa [hr,hβ,q13,q14] using h4,by first | (simp;done) | simpa [hr,hβ,q13,q14] using h5,by first | (simp;done) | simpa [hr,hβ,q13,q14] using h6',by first | (simp;done) | simpa [hr,hβ,q13,q14] using h7,by first | rfl | (simp [hr,hβ,q13,q14];done),by simp [hr,hβ,q13,q14]⟩
   ·simp only [aD,aL,aE,aK,avs,tts,seval,hr,hKr,hKb,lI,hix,hk,hgI,hst]
    exact ⟨by simpa using fun h=>(h1 h).1,by first | (simp;done) | simpa [hr] using h2,by first | (simp;done) | simpa [hr] using h3,by first | (simp;done) | simpa [hr] using h4,by first | (simp;done) | simpa [hr] using h5,by first | (simp;done) | simpa [hr] using h6',by first | (simp;done) | simpa [hr] using h7,by first | rfl | (simp [hr];done),by simp [hr]⟩
   ·
    simp only [aD,aL,aE,aK,avs,tts,seval,hβ,hr,hKr,hKb,lI,hix,hk,hgI,hst]
    exact ⟨by first | (simp;done) | simpa [hr,hβ] using h1,by first | (simp;done) | simpa [hr,hβ] using h2,by first | (simp;done) | simpa [hr,hβ] using h3,by first | (simp;done) | simpa [hr,hβ] using h4,by first | (simp;done) | simpa [hr,hβ] using h5,by first | (simp;done) | simpa [hr,hβ] using h6',by first | (simp;done) | simpa [hr,hβ] using h7,by first | rfl | (simp [hr,hβ];done),by simp [hr,hβ]⟩
  ·rintro β env K ⟨h1,h2,h3,h4,h5,h6',h7,rfl,rfl⟩ hall
   simp only [List.replicate,List.cons_append,List.nil_append,hall 0 (by decide),hall 1 (by decide),hall 2 (by decide),hall 3 (by decide),hall 4 (by decide),hall 5 (by decide),hall 6 (by decide),hall 7 (by decide),hall 8 (by decide),hall 9 (by decide),hall 10 (by decide),hall 11 (by decide),hall 12 (by decide),hall 13 (by decide),hall 14 (by decide),aE]
   exact ⟨by first | trivial | rfl,_,_,⟨by simp [aH,List.replicate],.inl rfl⟩,rfl,rfl⟩
 rintro env1 K2 ⟨rfl,rfl⟩
 simp only [rp]
 repeat' (first | (refine aa ?_;first | (refine zg rfl ?_;first | refine ah ?_ | refine zo ?_ | (refine zs ?_ ?_<;>intro hb<;>((try simp only [bn] at hb);first | subst hb | simp only [hb]))) | (apply ai;rfl;simp only [aj,avs,tts,seval]<;>exact rr)) | refine ae ?_ | (refine ak ?_;first | (refine yg rfl ?_;first | refine aq ?_ | refine yo ?_ | (refine ys ?_ ?_<;>intro hb<;>((try simp only [bn] at hb);first | subst hb | simp only [hb]))) | (apply ar;rfl;simp only [aB,avs,tts,seval]<;>exact rr;first | trivial | omega)) | refine al ?_ | refine ag ?_ | refine zr af ?_ | refine zQ 0 af mixed ?_ | refine zQ 1 af mixed ?_ | refine zQ 2 af mixed ?_ | refine zQ 3 af mixed ?_ | refine zf rfl rfl ?_ | refine zt rfl rfl ?_ | (refine an rfl rfl ?_ ?_<;>intro hb<;>((try simp only [bn] at hb);first | subst hb | simp only [hb])) | refine ap ?_ | refine au ?_ | refine am ?_)
 show AW _ _ _ _ _
 exact aw ⟨_,rfl,rfl,hKs⟩
end
end Av
end Go.Proofs.YtdekcppfpgeneaaGreatDoor
namespace Go.Proofs.YtdekcppfpgeneaaGreatDoor
open Go Go.RowKit
namespace Rg
open Av Nt
theorem pz (T:Nat) (h:T≤6000):∃p q:Nat,dg T=⟨false,aI p,aI q⟩∧p≤6000∧q≤6000∧0<q∧p * 6000=T * q∧Nat.gcd p q=1:=by
 have e:dg T=gR false T 6000:=gP T 6000 (by omega)
 refine ⟨T / Nat.gcd T 6000,6000 / Nat.gcd T 6000,?_,?_,?_,vT (by omega),zM,?_⟩
 ·rw [e]
  unfold gR
  simp
 ·exact Nat.le_trans (Nat.div_le_self _ _) h
 ·exact Nat.div_le_self _ _
 ·exact vU (by omega)
theorem ut (L:List Lk) (c h:Int):∃k,k≤L.length∧(∀i (hi:i<L.length),i<k→ll L[i] c h=true)∧∀hi:k<L.length,ll L[k] c h=false:=by
 refine ⟨L.findIdx (fun x => !ll x c h),List.findIdx_le_length,fun i hi hk => ?_,fun hi => ?_⟩
 ·have:=List.not_of_lt_findIdx hk
  simpa using this
 ·have:=List.findIdx_getElem (w:=hi)
  simpa using this
end Rg
namespace Av
attribute [local irreducible] AW aQ aM
open Nt Rg
section
variable (base:World)
theorem Dd (a b:Nat) (ha:a≤6000) (hb:b≤6000):aJ Tryz.prog base 83 [cP (dg a),cP (dg b)] (.tup [cP (dg (a+b)),iA 0]):=by
 obtain ⟨p1,q1,e1,h1,h2,k1,m1,v1⟩:=pz a ha
 obtain ⟨p2,q2,e2,h3,h4,k2,m2,v2⟩:=pz b hb
 rw [e1,e2]
 have:=By base p1 q1 p2 q2 (by omega) (by omega) (by omega) (by omega) k1 k2 v1 v2
 have e:gR false (p1 * q2+p2 * q1) (q1 * q2)=dg (a+b):=by
  unfold dg
  rw [show (6000:Int)=((6000:Nat):Int) from rfl,gP _ _ (by omega)]
  refine nO (Nat.mul_pos k1 k2) (by omega) ?_
  rw [Nat.add_mul,Nat.add_mul]
  have x1:p1 * q2 * 6000=a * (q1 * q2):=by
   rw [Nat.mul_right_comm,m1,Nat.mul_assoc]
  have x2:p2 * q1 * 6000=b * (q1 * q2):=by
   rw [Nat.mul_right_comm,m2,Nat.mul_assoc,Nat.mul_comm q2 q1]
  rw [x1,x2]
 rw [e] at this
 exact this
def fc (K:av) (v:AV) (s:KSt):Prop:=(s.1=[]∧v = .d (.v (.slice none 0 0)))∨∃r,v = .ms r 0 (cq s).length∧s.1≠[]∧K[r]?=some (.row 42 5 0 ((cq s).map lkL))
theorem yw (L:List Lk):unI (L.map lkL)=some (L.map lkP):=by
 have e:L.map lkL=dI (L.map lkP):=by rw [dI,List.map_map];rfl
 rw [e];exact bt _
theorem ur {s:KSt} {i:Nat} (hi:i<(ba s.1).length) (h2:i<(cq s).length):(cq s)[i]=jw s (ba s.1)[i]:=by
 simp only [cq,List.getElem_map]
theorem vV (s:KSt):(cq s).length=(ba s.1).length:=by unfold cq;rw [List.length_map]
theorem sw {s:KSt} {k:Int × Int} {c h:Int}:ll (jw s k) c h=true↔ltP k (c,h):=by
 unfold ll ltP jw
 simp
theorem s7 {s:KSt} {k:Int × Int} {c h:Int}:s8 (jw s k) c h=true↔k=(c,h):=by
 unfold s8 jw
 obtain ⟨a,b⟩:=k
 simp
def yk (H:av) (v:AV) (s s':KSt) (v':AV) (H':av):Prop:=∃r',v' = .ms r' 0 (cq s').length∧H'[r']?=some (.row 42 5 0 ((cq s').map lkL))∧(H.length≤r'∨v = .ms r' 0 (cq s).length)∧∀l,l<H.length→(∀n,v ≠ .ms l 0 n)→H'[l]?=H[l]?
theorem vo {H:av} {B x y:aT} {o:Bool}:(H++B::(if o=true then [x,y] else [y,x]))[H.length+if o=true then 1 else 2]?=some x:=by
 cases o<;>simp
theorem zk (s:KSt) {M:Int} (hs:KOk s M) (hn:(ba s.1).length≤900000) (c h:Int) (q:Nat) {k:Nat} (hk:k≤(cq s).length) (hlo:∀i (hi:i<(cq s).length),i<k→ll (cq s)[i] c h=true) (hup:∀hi:k<(cq s).length,ll (cq s)[k] c h=false∧s8 (cq s)[k] c h=false) {H:av} {v:AV} (hc:fc H v s) :
  bE Tryz.prog base 57 [v,iA c,iA h,cP (dg q)] H (yk H v s (dR s (c,h) q)):=by
 have hl:=vV s
 have hins:=zN hs (k:=(c,h)) (q:Int) (i:=k) (by omega) (fun j hj hjk=>sw.1 (by rw [←ur hj (by omega)];exact hlo j (by omega) hjk)) (fun hj=>by
  have h1:=hup (by omega)
  rw [ur hj (by omega)] at h1
  have h2:¬ltP (ba s.1)[k] (c,h):=fun e=>by rw [sw.2 e] at h1;exact absurd h1.1 (by simp)
  have h3:¬(ba s.1)[k]=(c,h):=fun e=>by rw [s7.2 e] at h1;exact absurd h1.2 (by simp)
  generalize (ba s.1)[k]=x at *
  obtain ⟨x1,x2⟩:=x
  unfold ltP at *
  simp only [Prod.mk.injEq] at *
  omega)
 have hL:(cq (dR s (c,h) q))=(cq s).take k++(⟨c,h,dg q⟩:Lk)::(cq s).drop k:=hins.1
 have hLm:(cq (dR s (c,h) q)).map lkL=(((cq s).take k).map lkL++[[.d (.v (.int .i64 c)),.d (.v (.int .i64 h)),.d (.v (.bool (dg q).neg)),.d (.v (.string (dg q).num)),.d (.v (.string (dg q).den))]])++((cq s).drop k).map lkL:=by
  rw [hL];simp [lkL]
 have hLn:(cq (dR s (c,h) q)).length=(cq s).length+1:=by rw [hL];simp;omega
 have ci:=fun H=>Df base (cq s) c h (dg q) k (by omega) hk hlo hup H
 unfold yk
 rw [hLm,hLn]
 rcases hc with ⟨h0,rfl⟩ | ⟨r,rfl,hne0,hr⟩
 ·have hl0:cq s=[]:=List.eq_nil_of_length_eq_zero (by
   have e:ba s.1=[]:=List.eq_nil_iff_forall_not_mem.2 fun x hx=>by
    have:=dM.1 hx
    rw [h0] at this
    simp at this
   rw [hl,e];rfl)
  have c1:=ci H
  have c2:bE Tryz.prog base 57 [.d (.v (.slice none 0 0)),iA c,iA h,cP (dg q)] H _:=⟨c1.enter,fun μ w vs hs ha=>c1.run μ w vs hs (LeL.rep (l:=[_,_,_,_]) (m:=[_,_,_,_]) ⟨by rw [hl0];exact LeA.nil 5,LeA.refl _,LeA.refl _,LeA.refl _,trivial⟩ ha)⟩
  refine c2.mono fun v' H' ⟨o,e1,e2⟩=>⟨_,e1,?_,.inl (by omega),fun l hl' _ => ?_⟩
  ·rw [e2];exact vo
  ·rw [e2,List.getElem?_append_left hl']
 ·have hrl:=aF hr
  have c1:=lH r (args:=[.ms r 0 (cq s).length,iA c,iA h,cP (dg q)]) (args':=[.d (jv (cq s)),iA c,iA h,cP (dg q)]) (H:=H) (by
   rw [hr]
   simp only [cz,cJ,di,yw,List.length_map,iA,cP,tA,jv]
   simp) rfl (ci _)
  refine c1.mono fun v' H' ⟨o,e1,e2⟩=>⟨_,e1,?_,.inl (by simp),fun l hl' hne => ?_⟩
  ·rw [e2];exact vo
  ·rw [e2,List.getElem?_append_left (by simp;exact hl'),List.getElem?_set_ne (fun e=>hne _ (by rw [e]))]
end
end Av
end Go.Proofs.YtdekcppfpgeneaaGreatDoor
namespace Go.Proofs.YtdekcppfpgeneaaGreatDoor
open Go Go.RowKit
namespace Av
attribute [local irreducible] AW aQ aM
open Nt Rg
section
variable (base:World)
theorem zj (s:KSt) {M:Int} (hs:KOk s M) (hn:(ba s.1).length≤900000) (c h:Int) (q:Nat) (hq:q≤6000) (hv:s.2 (c,h)≤6000) {k:Nat} (hk:k<(cq s).length) (hlo:∀i (hi:i<(cq s).length),i<k→ll (cq s)[i] c h=true) (heq:s8 (cq s)[k] c h=true) {H:av} {v:AV} (hc:fc H v s) :
  bE Tryz.prog base 57 [v,iA c,iA h,cP (dg q)] H (yk H v s (dR s (c,h) q)):=by
 have hl:=vV s
 have hk2:k<(ba s.1).length:=by omega
 have hat:=ur hk2 hk
 rw [hat] at heq
 have hkey:=s7.1 heq
 rw [hkey] at hat
 have hset:=zO hs.nd (k:=(c,h)) (q:Int) hk2 hkey
 obtain ⟨a,ha⟩:∃a:Nat,s.2 (c,h)=a:=⟨(s.2 (c,h)).toNat,by have:=hs.lo (c,h);omega⟩
 rw [ha] at hset hv
 have hpart:(cq s)[k].part=dg a:=by rw [hat];unfold jw dg;rw [ha]
 have hset2:cq (dR s (c,h) q)=(cq s).set k ⟨c,h,dg (a+q)⟩:=by rw [hset];rfl
 have hL:(cq (dR s (c,h) q)).length=(cq s).length:=by rw [hset2];simp
 rcases hc with ⟨h0,rfl⟩ | ⟨r,rfl,hne0,hr⟩
 ·exfalso
  have e:ba s.1=[]:=List.eq_nil_iff_forall_not_mem.2 fun x hx=>by
   have:=dM.1 hx
   rw [h0] at this
   simp at this
  rw [hl,e] at hk
  simp at hk
 ·have hrl:=aF hr
  have c1:=Dc base (cq s) c h (dg q) (dg (a+q)) k (by omega) hk hlo (by rw [hat];rfl) (by rw [hat];rfl) (by rw [hpart];exact Dd base a q (by omega) hq) hr
  refine c1.mono fun v' H' ⟨e1,e2⟩=>⟨r,by rw [e1,hL],?_,.inr rfl,fun l hl' hne => ?_⟩
  ·rw [e2,hset2,List.getElem?_append_left (by simp;exact hrl)]
   exact aG hrl
  ·rw [e2,List.getElem?_append_left (by simp;exact hl'),List.getElem?_set_ne (fun e=>hne _ (by rw [e]))]
theorem zl (s:KSt) {M:Int} (hs:KOk s M) (hn:(ba s.1).length≤900000) (c h:Int) (q:Nat) (hq:q≤6000) (hv:s.2 (c,h)≤6000) {H:av} {v:AV} (hc:fc H v s) :
  bE Tryz.prog base 57 [v,iA c,iA h,cP (dg q)] H (yk H v s (dR s (c,h) q)):=by
 obtain ⟨k,hk,hlo,hup⟩:=ut (cq s) c h
 by_cases he:∃hk2:k<(cq s).length,s8 (cq s)[k] c h=true
 ·obtain ⟨hk2,he⟩:=he
  exact zj base s hs hn c h q hq hv hk2 hlo he hc
 ·refine zk base s hs hn c h q hk hlo (fun hi=>⟨hup hi,?_⟩) hc
  cases e:s8 (cq s)[k] c h with
  | false=>rfl
  | true=>exact absurd ⟨hi,e⟩ he
end
end Av
end Go.Proofs.YtdekcppfpgeneaaGreatDoor
namespace Go.Proofs.YtdekcppfpgeneaaGreatDoor
open Go Go.RowKit
namespace Rg
open Av Nt
theorem qH {pc:Int} (h0:0≤pc) (h1:pc≤100) {n:Nat} (hn:0<n) (h5:n≤5):ofR pc ((100 * n:Nat):Int)=dg ((pc * 60).tdiv n).toNat∧((pc * 60).tdiv n).toNat≤6000∧(((pc * 60).tdiv n).toNat:Int)=(pc * 60).tdiv n:=by
 have hb:=BD h0 h1 hn
 have h6:=i7 (pc:=pc) h0 hn h5
 obtain ⟨t,ht⟩:∃t:Nat,(pc * 60).tdiv n=t:=⟨((pc * 60).tdiv n).toNat,by omega⟩
 rw [ht] at hb h6 ⊢
 obtain ⟨p,rfl⟩:∃p:Nat,pc=p:=⟨pc.toNat,by omega⟩
 have e:t * n=p * 60:=by
  have:(t:Int) * (n:Int)=((t * n:Nat):Int):=(Int.natCast_mul t n).symm
  omega
 refine ⟨?_,by omega,by omega⟩
 simp only [Int.toNat_natCast]
 unfold dg
 refine fk (n:=p) (d:=100 * n) (n':=t) (d':=6000) (by omega) (by omega) ?_
 have:t * (100 * n)=100 * (t * n):=Nat.mul_left_comm _ _ _
 omega
end Rg
namespace Av
attribute [local irreducible] AW aQ aM
open Nt Rg
section
variable (base:World)
theorem vF {pc:Int} (h0:0≤pc) (h1:pc≤100) {n:Nat} (hn:0<n) (h5:n≤5):aJ Tryz.prog base 56 [iA pc,iA ((100 * n:Nat):Int)] (.tup [cP (dg ((pc * 60).tdiv n).toNat),iA 0]):=by
 have hp:=qH h0 h1 hn h5
 rw [←hp.1]
 obtain ⟨p,rfl⟩:∃p:Nat,pc=p:=⟨pc.toNat,by omega⟩
 exact De base p (100 * n) (by omega) (by omega) (by omega)
end
end Av
end Go.Proofs.YtdekcppfpgeneaaGreatDoor
namespace Go.Proofs.YtdekcppfpgeneaaGreatDoor
open Go Go.RowKit
namespace Av
attribute [local irreducible] AW aQ aM
open Nt Rg
structure jy (H K:av) (ps:List ByteArray) (sc sv:KSt) (cv vv:AV):Prop where
 pre:∀i,i<H.length→K[i]?=H[i]?
 len:H.length+2≤K.length
 res:K[H.length]?=some (.box 25 [.d (.v (.slice none 0 0)),.d (.v (.slice none 0 0)),.d (.v (.slice none 0 0))])
 box:K[H.length+1]?=some (.box 25 [.d (aN ps),cv,vv])
 cap:fc K cv sc
 vot:fc K vv sv
 ce:∀r n,cv = .ms r 0 n→H.length+2≤r
 ve:∀r n,vv = .ms r 0 n→H.length+2≤r
 ne:∀r n m,cv = .ms r 0 n→vv ≠ .ms r 0 m
theorem ej {K K':av} {v:AV} {s:KSt} (h:fc K v s) (k:∀r n,v = .ms r 0 n→K'[r]?=K[r]?):fc K' v s:=by
 rcases h with h | ⟨r,e,h0,h⟩
 ·exact .inl h
 ·exact .inr ⟨r,e,h0,by rw [k r _ e];exact h⟩
theorem fI {K:av} {v:AV} {s:KSt} (h:fc K v s) {r n:Nat} (e:v = .ms r 0 n):r<K.length:=by
 rcases h with ⟨_,h⟩ | ⟨r',e',_,h⟩
 ·rw [h] at e;cases e
 ·rw [e'] at e
  injection e with e1
  subst e1
  exact aF h
theorem tE {K:av} {v:AV} {s:KSt} (h:fc K v s):AV.one v=true:=by
 rcases h with ⟨_,h⟩ | ⟨r,e,_,_⟩
 ·rw [h];rfl
 ·rw [e];rfl
def kB (s:KSt):AV:=if s.1=[] then .d (.v (.slice none 0 0)) else .d (sx s (ba s.1))
theorem qb {K:av} {v:AV} {s:KSt} (N:Nat) (h:fc K v s) (hN:∀r n,v = .ms r 0 n→N≤r):bL K N v=some (kB s):=by
 rcases h with ⟨h0,h⟩ | ⟨r,e,h0,h⟩
 ·rw [h]
  unfold kB
  rw [if_pos h0]
  simp [bL]
 ·have h1:=hN _ _ e
  rw [e]
  unfold kB
  rw [if_neg h0,mR]
  simp [bL,h,yw,Nat.not_lt.2 h1]
  rfl
theorem jy.app {H K:av} {ps:List ByteArray} {sc sv:KSt} {cv vv:AV} (h:jy H K ps sc sv cv vv) (E:av):jy H (K++E) ps sc sv cv vv:=by
 have hl:=h.len
 have hg:∀i,i<K.length→(K++E)[i]?=K[i]?:=fun i hi=>List.getElem?_append_left hi
 exact ⟨fun i hi=>by rw [hg i (by omega)];exact h.pre i hi,by simp;omega,by rw [hg _ (by omega)];exact h.res,by rw [hg _ (by omega)];exact h.box,ej h.cap fun r n e=>hg _ (fI h.cap e),ej h.vot fun r n e=>hg _ (fI h.vot e),h.ce,h.ve,h.ne⟩
theorem jy.heap {H K:av} {ps:List ByteArray} {sc sv:KSt} {cv vv:AV} (h:jy H K ps sc sv cv vv):∃E,K=H++E:=by
 refine ⟨K.drop H.length,?_⟩
 have hl:=h.len
 refine List.ext_getElem? fun i => ?_
 rcases Nat.lt_or_ge i H.length with hi | hi
 ·rw [List.getElem?_append_left hi];exact h.pre i hi
 ·rw [List.getElem?_append_right hi,List.getElem?_drop]
  congr 1;omega
theorem jy.capS {H K K':av} {ps:List ByteArray} {sc sv sc':KSt} {cv vv v':AV} (h:jy H K ps sc sv cv vv) (ha:yk K cv sc sc' v' K') (hle:K.length≤K'.length) (hne:sc'.1≠[]):jy H (K'.set (H.length+1) (.box 25 [.d (aN ps),v',vv])) ps sc' sv v' vv:=by
 obtain ⟨r',e1,e2,e3,e4⟩:=ha
 have hl:=h.len
 have hr:H.length+2≤r':=by
  rcases e3 with e | e
  ·omega
  ·exact h.ce _ _ e
 have hlow:∀i,i<H.length+2→K'[i]?=K[i]?:=fun i hi=>e4 i (by omega) fun n e=>by have:=h.ce _ _ e;omega
 have hset:∀(B:aT) i,i≠H.length+1→(K'.set (H.length+1) B)[i]?=K'[i]?:=fun B i hi=>List.getElem?_set_ne (fun e=>hi e.symm)
 refine ⟨fun i hi => ?_,by simp;omega,?_,?_,.inr ⟨r',e1,hne,?_⟩,ej h.vot fun r n e => ?_,fun r n e => ?_,h.ve,fun r n m e e' => ?_⟩
 ·rw [hset _ _ (by omega),hlow i (by omega)];exact h.pre i hi
 ·rw [hset _ _ (by omega),hlow _ (by omega)];exact h.res
 ·exact aG (by omega)
 ·rw [hset _ _ (by omega)];exact e2
 ·have h1:=h.ve _ _ e
  have h2:=fI h.vot e
  rw [hset _ _ (by omega)]
  exact e4 r h2 fun m e'=>h.ne _ _ _ e' e
 ·rw [e1] at e
  injection e with e5
  omega
 ·rw [e1] at e
  injection e with e5
  subst e5
  rcases e3 with e6 | e6
  ·have:=fI h.vot e';omega
  ·exact h.ne _ _ _ e6 e'
theorem jy.votS {H K K':av} {ps:List ByteArray} {sc sv sv':KSt} {cv vv v':AV} (h:jy H K ps sc sv cv vv) (ha:yk K vv sv sv' v' K') (hle:K.length≤K'.length) (hne:sv'.1≠[]):jy H (K'.set (H.length+1) (.box 25 [.d (aN ps),cv,v'])) ps sc sv' cv v':=by
 obtain ⟨r',e1,e2,e3,e4⟩:=ha
 have hl:=h.len
 have hr:H.length+2≤r':=by
  rcases e3 with e | e
  ·omega
  ·exact h.ve _ _ e
 have hlow:∀i,i<H.length+2→K'[i]?=K[i]?:=fun i hi=>e4 i (by omega) fun n e=>by have:=h.ve _ _ e;omega
 have hset:∀(B:aT) i,i≠H.length+1→(K'.set (H.length+1) B)[i]?=K'[i]?:=fun B i hi=>List.getElem?_set_ne (fun e=>hi e.symm)
 refine ⟨fun i hi => ?_,by simp;omega,?_,?_,ej h.cap fun r n e => ?_,.inr ⟨r',e1,hne,?_⟩,h.ce,fun r n e => ?_,fun r n m e e' => ?_⟩
 ·rw [hset _ _ (by omega),hlow i (by omega)];exact h.pre i hi
 ·rw [hset _ _ (by omega),hlow _ (by omega)];exact h.res
 ·exact aG (by omega)
 ·have h1:=h.ce _ _ e
  have h2:=fI h.cap e
  rw [hset _ _ (by omega)]
  exact e4 r h2 fun m e'=>h.ne _ _ _ e e'
 ·rw [hset _ _ (by omega)];exact e2
 ·rw [e1] at e
  injection e with e5
  omega
 ·rw [e1] at e'
  injection e' with e5
  subst e5
  rcases e3 with e6 | e6
  ·have:=fI h.cap e;omega
  ·exact h.ne _ _ _ e e6
end Av
end Go.Proofs.YtdekcppfpgeneaaGreatDoor
namespace Go.Proofs.YtdekcppfpgeneaaGreatDoor
open Go Go.RowKit
namespace Rg
open Av Nt
theorem BT {ix:ByteArray→Int} {company:ByteArray} {pc:Int} {n:Nat} (h0:0≤pc) (who:List ByteArray) (s:KSt) (p:Int × Int):s.2 p≤(who.foldl (bK ix company pc n) s).2 p:=by
 rw [lx]
 have:=cQ (p:=fe ix company pc p) (f:=fun _=>(pc * 60).tdiv n) (l:=who) fun _ _ _=>qw h0 n
 omega
theorem Da {pc:Hd→Int} {who:Hd→List ByteArray} {ix:ByteArray→Int} {day:Int} {l:List Hd} (h0:∀h∈l,0≤pc h) (s:KSt) (p:Int × Int):s.2 p≤(l.foldl (eI pc who ix day) s).2 p:=by
 rw [mJ]
 have:=cQ (p:=fun h=>bW h day) (f:=fun h=>jC ix h.company (pc h) (who h) p) (l:=l) fun h hh _=>cQ fun _ _ _=>qw (h0 h hh) _
 omega
theorem vP {pc:Hd→Int} {who:Hd→List ByteArray} {ix:ByteArray→Int} {day:Int} {l:List Hd} (h0:∀h∈l,0≤pc h) {k:Nat} (hk:k<l.length) (hr:bW l[k] day=true) (j:Nat) (p:Int × Int) :
  (((who l[k]).take j).foldl (bK ix l[k].company (pc l[k]) (who l[k]).length) ((l.take k).foldl (eI pc who ix day) ez)).2 p≤(l.foldl (eI pc who ix day) ez).2 p:=by
 have e:l=l.take k++(l[k]::l.drop (k+1)):=by rw [←List.drop_eq_getElem_cons hk,List.take_append_drop]
 have h1:(l.foldl (eI pc who ix day) ez)=(l.drop (k+1)).foldl (eI pc who ix day) (eK ix l[k].company (pc l[k]) (who l[k]) ((l.take k).foldl (eI pc who ix day) ez)):=by
  conv=>lhs;rw [e]
  rw [List.foldl_append,List.foldl_cons]
  congr 1
  unfold eI
  rw [if_pos hr]
 rw [h1]
 refine Int.le_trans ?_ (Da (fun h hh=>h0 h (List.mem_of_mem_drop hh)) _ p)
 have h2:=BT (ix:=ix) (company:=l[k].company) (n:=(who l[k]).length) (h0 _ (List.getElem_mem hk)) ((who l[k]).drop j) (((who l[k]).take j).foldl (bK ix l[k].company (pc l[k]) (who l[k]).length) ((l.take k).foldl (eI pc who ix day) ez)) p
 rw [←List.foldl_append,List.take_append_drop] at h2
 exact h2
theorem sE {n:Nat} {s:KSt} (h:tU n s) (ho:∀k,¬k∈s.1→s.2 k=0) (k:Int × Int):s.2 k≤6000:=by
 by_cases hk:k∈s.1
 ·exact t7 h hk
 ·rw [ho k hk];omega
theorem B4 {l:List Hd} (hv:br l=true) (hj:∀h∈l,h.joint.length≤1000) {day:Int} {k:Nat} (hk:k<l.length) (hr:bW l[k] day=true) (j:Nat) (p:Int × Int) :
  (((dK l[k]).take j).foldl (bK (ixS (ay l)) l[k].company l[k].capital (dK l[k]).length) (cV (ixS (ay l)) day (l.take k))).2 p≤6000:=by
 have hp:=(dw hv).1
 have h0:∀h∈l,0≤h.capital:=fun h hh=>(cY (hp h hh)).c0
 refine Int.le_trans (vP (pc:=Hd.capital) (who:=dK) h0 hk hr j p) ?_
 have ok:=(mW (ixS (ay l)) day l (fun h hh=>⟨(cY (hp h hh)).c0,(cY (hp h hh)).c1⟩) hj l.length (Nat.le_refl _)).1
 rw [List.take_length] at ok
 exact sE (AX hv day) ok.out p
theorem Bj {l:List Hd} (hv:br l=true) (hj:∀h∈l,h.joint.length≤1000) {day:Int} {k:Nat} (hk:k<l.length) (hr:bW l[k] day=true) (j:Nat) (p:Int × Int) :
  (((dV l[k]).take j).foldl (bK (ixS (ay l)) l[k].company l[k].votes (dV l[k]).length) (cW (ixS (ay l)) day (l.take k))).2 p≤6000:=by
 have hp:=(dw hv).1
 have h0:∀h∈l,0≤h.votes:=fun h hh=>(cY (hp h hh)).v0
 refine Int.le_trans (vP (pc:=Hd.votes) (who:=dV) h0 hk hr j p) ?_
 have ok:=(mG (ixS (ay l)) day l (fun h hh=>⟨(cY (hp h hh)).v0,(cY (hp h hh)).v1⟩) hj l.length (Nat.le_refl _)).1
 rw [List.take_length] at ok
 exact sE (yn hv day) ok.out p
theorem pR {ix:ByteArray→Int} {company:ByteArray} {pc:Int} {n:Nat} {who:List ByteArray} {s:KSt} {j:Nat} (hj:j<who.length):(who.take (j+1)).foldl (bK ix company pc n) s=bK ix company pc n ((who.take j).foldl (bK ix company pc n) s) who[j]:=by
 rw [List.take_add_one,List.getElem?_eq_getElem hj,Option.toList_some,List.foldl_append,List.foldl_cons,List.foldl_nil]
theorem gr {ix:ByteArray→Int} {company:ByteArray} {pc:Int} {n:Nat} (h:¬pc>0):∀(who:List ByteArray) (s:KSt),who.foldl (bK ix company pc n) s=s
 | [],s=>rfl
 | x::r,s=>by
  rw [List.foldl_cons,show bK ix company pc n s x=s from if_neg fun e=>h e.1]
  exact gr h r s
theorem nZ (ix:ByteArray→Int) (company:ByteArray) (pc:Int) (n:Nat):∀(who:List ByteArray) (s:KSt),(who.foldl (bK ix company pc n) s).1.length≤s.1.length+who.length
 | [],s=>by simp
 | x::r,s=>by
  rw [List.foldl_cons]
  have h1:=nZ ix company pc n r (bK ix company pc n s x)
  have h2:=kS ix company x pc n s
  rw [List.length_cons];omega
theorem rS {ix:ByteArray→Int} {company x:ByteArray} {pc:Int} {n:Nat} {s:KSt} (h:pc>0∧x≠company):bK ix company pc n s x=dR s (ix company,ix x) ((pc * 60).tdiv n)∧(dR s (ix company,ix x) ((pc * 60).tdiv n)).1≠[]:=by
 refine ⟨if_pos h,fun e => ?_⟩
 have:(ix company,ix x)∈(dR s (ix company,ix x) ((pc * 60).tdiv n)).1:=eV.2 (.inr rfl)
 rw [e] at this
 simp at this
end Rg
end Go.Proofs.YtdekcppfpgeneaaGreatDoor
namespace Go.Proofs.YtdekcppfpgeneaaGreatDoor
open Go Go.RowKit
namespace Av
attribute [local irreducible] AW aQ aM
open Nt Rg
section
variable (base:World)
set_option maxRecDepth 100000 in
set_option maxHeartbeats 8000000 in
theorem Di (l:List ByteArray) (s:ByteArray) (hl:l.length≤1000000):aJ Tryz.prog base 80 [.d (aN l),tA s] (.d (aN (bT l s))):=by
 refine aA af Tryz.call80 Tryz.func80 rfl fun H hB hb hF => ?_
 rw [Tryz.results80,Tryz.ntmps80]
 simp only [ax,List.length_cons,List.length_nil,List.replicate,List.cons_append,List.nil_append,Nat.reduceAdd,Nat.reduceSub]
 clear hF hb
 have la:(l.map fun s=>[PD.v (.string s)]).length=l.length:=by simp
 simp only [aN,tA]
 repeat refine ag ?_
 refine zr af ?_
 repeat (refine aa ?_;first | (apply ai;rfl;simp only [aj,avs,tts,seval]<;>exact rr) | (refine zg rfl ?_;first | refine ah ?_ | refine zo ?_))
 refine ae ?_
 repeat refine ag ?_
 refine zr af ?_
 repeat (refine aa ?_;first | (apply ai;rfl;simp only [aj,avs,tts,seval]<;>exact rr) | (refine zg rfl ?_;first | refine ah ?_ | refine zo ?_))
 refine ae ?_
 repeat refine ag ?_
 refine cC (Q0:=fun env K=>∃k,k≤l.length∧(∀i,i<k→∀h:i<l.length,ltT l[i] s=true)∧(∀h:k<l.length,ltT l[k] s=false)∧K=H∧env=(.d (.sl 1 (l.map fun s=>[PD.v (.string s)])) :: .d (.v (.string s)) :: .undef :: .undef :: .d (.v (.slice none 0 0)) :: .d (.v (.int .i64 (k:Int)))::List.replicate 39 .undef)) ?_ ?_
 ·refine am (bc (H0:=H) (fun r env K=>∃k,r=l.length - k∧k≤l.length∧(∀i,i<k→∀h:i<l.length,ltT l[i] s=true)∧K=H∧env=(.d (.sl 1 (l.map fun s=>[PD.v (.string s)])) :: .d (.v (.string s)) :: .undef :: .undef :: .d (.v (.slice none 0 0)) :: .d (.v (.int .i64 (k:Int)))::List.replicate 39 .undef)) ?_ ⟨0,rfl,Nat.zero_le _,fun i hi=>by omega,rfl,rfl⟩ ?_)
  ·exact ⟨by simp [aH,List.replicate],.inl rfl⟩
  rintro r env K ⟨k,rfl,hk,hok,rfl,rfl⟩ hN
  simp only [rp]
  obtain ⟨c1,g1⟩:∃c1,decide ((k:Int)<(l.length:Int))=c1:=⟨_,rfl⟩
  have hix:(0:Int)≤(k:Int):=by omega
  cases c1 with
  | true =>
   have hlt:k<l.length:=by simpa using g1
   have ga:=bP hlt
   have w1:IntKind.i64.wrap ((k:Int)+1)=((k+1:Nat):Int):=aP hlt (by omega)
   have hls:=mS l[k] s
   obtain ⟨c3,g3⟩:∃c,ltT l[k] s=c:=⟨_,rfl⟩
   rw [g3] at hls
   repeat' (first | (refine aa ?_;first | (refine zg rfl ?_;first | refine ah ?_ | refine zo ?_ | (refine zs ?_ ?_<;>intro hb<;>((try simp only [bn] at hb);first | subst hb | simp only [hb]))) | (apply ai;rfl;simp only [aj,avs,tts,seval,g1,la,hix,hlt,ga,w1,hls]<;>exact rr)) | refine ae ?_ | (refine ak ?_;first | (refine yg rfl ?_;first | refine aq ?_ | refine yo ?_ | (refine ys ?_ ?_<;>intro hb<;>((try simp only [bn] at hb);first | subst hb | simp only [hb]))) | (apply ar;rfl;simp only [aB,avs,tts,seval,g1,la,hix,hlt,ga,w1,hls]<;>exact rr;first | trivial | omega)) | refine al ?_ | refine ag ?_ | refine zr af ?_ | refine zR 0 af mixed ?_ | refine zR 1 af mixed ?_ | refine zR 2 af mixed ?_ | refine zR 3 af mixed ?_ | refine zf rfl rfl ?_ | refine zt rfl rfl ?_ | (refine an rfl rfl ?_ ?_<;>intro hb<;>((try simp only [bn] at hb);first | subst hb | simp only [hb])) | refine ap ?_ | refine au ?_ | refine am ?_)
   ·exact ⟨l.length - (k+1),_,_,by omega,⟨by simp [aH,List.replicate],.inl rfl⟩,k+1,rfl,hlt,dF hok (fun _=>g3),rfl,rfl⟩
   ·exact ⟨rfl,_,_,⟨by simp [aH,List.replicate],.inl rfl⟩,k,hk,hok,fun _=>g3,rfl,rfl⟩
  | false =>
   have hka:¬k<l.length:=by simpa using g1
   repeat' (first | (refine aa ?_;first | (refine zg rfl ?_;first | refine ah ?_ | refine zo ?_ | (refine zs ?_ ?_<;>intro hb<;>((try simp only [bn] at hb);first | subst hb | simp only [hb]))) | (apply ai;rfl;simp only [aj,avs,tts,seval,g1,la]<;>exact rr)) | refine ae ?_ | (refine ak ?_;first | (refine yg rfl ?_;first | refine aq ?_ | refine yo ?_ | (refine ys ?_ ?_<;>intro hb<;>((try simp only [bn] at hb);first | subst hb | simp only [hb]))) | (apply ar;rfl;simp only [aB,avs,tts,seval,g1,la]<;>exact rr;first | trivial | omega)) | refine al ?_ | refine ag ?_ | refine zr af ?_ | refine zR 0 af mixed ?_ | refine zR 1 af mixed ?_ | refine zR 2 af mixed ?_ | refine zR 3 af mixed ?_ | refine zf rfl rfl ?_ | refine zt rfl rfl ?_ | (refine an rfl rfl ?_ ?_<;>intro hb<;>((try simp only [bn] at hb);first | subst hb | simp only [hb])) | refine ap ?_ | refine au ?_ | refine am ?_)
   exact ⟨rfl,_,_,⟨by simp [aH,List.replicate],.inl rfl⟩,k,hk,hok,fun h=>absurd h hka,rfl,rfl⟩
 rintro env0 K0 ⟨k,hk,hok,hnl,rfl,rfl⟩
 simp only [rp]
 have hix:(0:Int)≤(k:Int):=by omega
 repeat refine ag ?_
 refine cC (Q0:=fun env K=>∃c,(c=true→∃h:k<l.length,l[k]=s)∧(c=false→∀h:k<l.length,¬l[k]=s)∧K=K0∧env=(.d (.sl 1 (l.map fun s=>[PD.v (.string s)])) :: .d (.v (.string s)) :: .undef :: .undef :: .d (.v (.slice none 0 0)) :: .d (.v (.int .i64 (k:Int)))::List.replicate 25 .undef ++ .d (.v (.bool c))::List.replicate 13 .undef)) ?_ ?_
 ·obtain ⟨c1,g1⟩:∃c1,decide ((k:Int)<(l.length:Int))=c1:=⟨_,rfl⟩
  cases c1 with
  | true =>
   have hlt:k<l.length:=by simpa using g1
   have ga:=bP hlt
   obtain ⟨c2,g2⟩:∃c,decide (l[k]=s)=c:=⟨_,rfl⟩
   repeat' (first | (refine aa ?_;first | (refine zg rfl ?_;first | refine ah ?_ | refine zo ?_ | (refine zs ?_ ?_<;>intro hb<;>((try simp only [bn] at hb);first | subst hb | simp only [hb]))) | (apply ai;rfl;simp only [aj,avs,tts,seval,g1,la,hix,hlt,ga,g2]<;>exact rr)) | refine ae ?_ | (refine ak ?_;first | (refine yg rfl ?_;first | refine aq ?_ | refine yo ?_ | (refine ys ?_ ?_<;>intro hb<;>((try simp only [bn] at hb);first | subst hb | simp only [hb]))) | (apply ar;rfl;simp only [aB,avs,tts,seval,g1,la,hix,hlt,ga,g2]<;>exact rr;first | trivial | omega)) | refine al ?_ | refine ag ?_ | refine zr af ?_ | refine zR 0 af mixed ?_ | refine zR 1 af mixed ?_ | refine zR 2 af mixed ?_ | refine zR 3 af mixed ?_ | refine zf rfl rfl ?_ | refine zt rfl rfl ?_ | (refine an rfl rfl ?_ ?_<;>intro hb<;>((try simp only [bn] at hb);first | subst hb | simp only [hb])) | refine ap ?_ | refine au ?_ | refine am ?_)
   exact ⟨rfl,_,_,⟨by simp [aH,List.replicate],.inl rfl⟩,c2,fun e=>⟨hlt,by subst e;exact of_decide_eq_true g2⟩,fun e _=>by subst e;exact of_decide_eq_false g2,rfl,rfl⟩
  | false =>
   have hka:¬k<l.length:=by simpa using g1
   repeat' (first | (refine aa ?_;first | (refine zg rfl ?_;first | refine ah ?_ | refine zo ?_ | (refine zs ?_ ?_<;>intro hb<;>((try simp only [bn] at hb);first | subst hb | simp only [hb]))) | (apply ai;rfl;simp only [aj,avs,tts,seval,g1,la]<;>exact rr)) | refine ae ?_ | (refine ak ?_;first | (refine yg rfl ?_;first | refine aq ?_ | refine yo ?_ | (refine ys ?_ ?_<;>intro hb<;>((try simp only [bn] at hb);first | subst hb | simp only [hb]))) | (apply ar;rfl;simp only [aB,avs,tts,seval,g1,la]<;>exact rr;first | trivial | omega)) | refine al ?_ | refine ag ?_ | refine zr af ?_ | refine zR 0 af mixed ?_ | refine zR 1 af mixed ?_ | refine zR 2 af mixed ?_ | refine zR 3 af mixed ?_ | refine zf rfl rfl ?_ | refine zt rfl rfl ?_ | (refine an rfl rfl ?_ ?_<;>intro hb<;>((try simp only [bn] at hb);first | subst hb | simp only [hb])) | refine ap ?_ | refine au ?_ | refine am ?_)
   exact ⟨rfl,_,_,⟨by simp [aH,List.replicate],.inl rfl⟩,false,(fun e=>by cases e),fun _ h=>absurd h hka,rfl,rfl⟩
 rintro env0 K1 ⟨c,hc1,hc2,rfl,rfl⟩
 simp only [rp]
 cases c with
 | true =>
  obtain ⟨hlt,he⟩:=hc1 rfl
  repeat' (first | (refine aa ?_;first | (refine zg rfl ?_;first | refine ah ?_ | refine zo ?_ | (refine zs ?_ ?_<;>intro hb<;>((try simp only [bn] at hb);first | subst hb | simp only [hb]))) | (apply ai;rfl;simp only [aj,avs,tts,seval]<;>exact rr)) | refine ae ?_ | (refine ak ?_;first | (refine yg rfl ?_;first | refine aq ?_ | refine yo ?_ | (refine ys ?_ ?_<;>intro hb<;>((try simp only [bn] at hb);first | subst hb | simp only [hb]))) | (apply ar;rfl;simp only [aB,avs,tts,seval]<;>exact rr;first | trivial | omega)) | refine al ?_ | refine ag ?_ | refine zr af ?_ | refine zR 0 af mixed ?_ | refine zR 1 af mixed ?_ | refine zR 2 af mixed ?_ | refine zR 3 af mixed ?_ | refine zf rfl rfl ?_ | refine zt rfl rfl ?_ | (refine an rfl rfl ?_ ?_<;>intro hb<;>((try simp only [bn] at hb);first | subst hb | simp only [hb])) | refine ap ?_ | refine au ?_ | refine am ?_)
  rw [sb hlt (fun i h h2=>hok i h2 h) (hnl hlt) he]
  exact aw ⟨_,rfl,[],by simp,rfl⟩
 | false =>
  repeat refine ag ?_
  refine zf rfl rfl ?_
  refine ap ?_
  repeat refine ag ?_
  have hnew:bT l s=l.take k++s::l.drop k:=sa hk (fun i h h2=>hok i h2 h) (fun h=>⟨hnl h,hc2 rfl h⟩)
  have e1:List.map (fun it=>List.map AV.d it) (List.take k (l.map fun s=>[PD.v (.string s)]))=((l.take k).map fun s=>[tA s]):=by rw [←List.map_take,List.map_map];rfl
  have e2:List.map (fun it=>List.map AV.d it) (List.take (l.length - k) (List.drop k (l.map fun s=>[PD.v (.string s)])))=(l.drop k).map fun s=>[tA s]:=by
   rw [←List.map_drop,←List.map_take,List.map_map,List.take_of_length_le (by simp)];rfl
  have n1:((l.take k).map fun s=>[tA s]).length=k:=by simp [hk]
  have n2:(((l.take k).map fun s=>[tA s])++[[tA s]]).length=k+1:=by simp [hk]
  have n3:((l.drop k).map fun s=>[tA s]).length=l.length - k:=by simp
  have n4:k+1+(l.length - k)=l.length+1:=by omega
  have b1:k≤9223372036854775807:=by omega
  have b2:k * 16≤140737488355328:=by omega
  have b3:k+1≤9223372036854775807:=by omega
  have b4:(k+1) * 16≤140737488355328:=by omega
  have b5:l.length+1≤9223372036854775807:=by omega
  have b6:(l.length+1) * 16≤140737488355328:=by omega
  refine cC (Q0:=fun env K=>∃o:Bool,K=K1++(if o=true then [.row 9 1 0 ((((l.take k).map fun s=>[tA s])++[[tA s]])++(l.drop k).map fun s=>[tA s]),(.row 9 1 0 [[tA s]])] else [(.row 9 1 0 [[tA s]]),.row 9 1 0 ((((l.take k).map fun s=>[tA s])++[[tA s]])++(l.drop k).map fun s=>[tA s])])∧env=(.d (.sl 1 (l.map fun s=>[PD.v (.string s)])) :: .d (.v (.string s)) :: .undef :: .undef :: .ms (K1.length+if o=true then 0 else 1) 0 (l.length+1) :: .d (.v (.int .i64 (k:Int)))::List.replicate 39 .undef)) ?_ ?_
  ·refine eS af mixed (by kernel_rfl) (by kernel_rfl) (fun β env K=>∃o:Bool,(β 0=true→β 6=false→o=true)∧(β 6=true→β 0=false→o=false)∧(β 4=true→β 0=true)∧(β 7=true→β 4=true∧β 6=true)∧(β 11=true→β 7=true)∧(β 12=true→β 11=true)∧K=K1++two o (β 0) (β 6) (.row 9 1 0 (if β 11=true then ((((l.take k).map fun s=>[tA s])++[[tA s]])++(l.drop k).map fun s=>[tA s]) else if β 7=true then (((l.take k).map fun s=>[tA s])++[[tA s]]) else if β 4=true then ((l.take k).map fun s=>[tA s]) else [])) (.row 9 1 0 [[tA s]])∧env=(.d (.sl 1 (l.map fun s=>[PD.v (.string s)])) :: .d (.v (.string s)) :: .undef :: .undef::(if β 12=true then .ms (K1.length+if o=true then 0 else 1) 0 (l.length+1) else .d (.v (.slice none 0 0))) :: .d (.v (.int .i64 (k:Int)))::List.replicate 27 .undef++(if β 0=true then .ms (K1.length+if o=true then 0 else 1) 0 0 else .undef)::(if β 1=true then .d (.sl 1 (l.map fun s=>[PD.v (.string s)])) else .undef)::(if β 2=true then .d (.v (.int .i64 (k:Int))) else .undef)::(if β 3=true then .d (.sl 1 (List.take k (l.map fun s=>[PD.v (.string s)]))) else .undef)::(if β 4=true then .ms (K1.length+if o=true then 0 else 1) 0 k else .undef)::(if β 5=true then .d (.v (.string s)) else .undef)::(if β 6=true then .ms (K1.length+if o=true then 1 else 0) 0 1 else .undef)::(if β 7=true then .ms (K1.length+if o=true then 0 else 1) 0 (k+1) else .undef)::(if β 8=true then .d (.sl 1 (l.map fun s=>[PD.v (.string s)])) else .undef)::(if β 9=true then .d (.v (.int .i64 (k:Int))) else .undef)::(if β 10=true then .d (.sl 1 (List.take (l.length - k) (List.drop k (l.map fun s=>[PD.v (.string s)])))) else .undef)::(if β 11=true then .ms (K1.length+if o=true then 0 else 1) 0 (l.length+1) else .undef)::[])) (H0:=K1) (env0:=(.d (.sl 1 (l.map fun s=>[PD.v (.string s)])) :: .d (.v (.string s)) :: .undef :: .undef :: .d (.v (.slice none 0 0)) :: .d (.v (.int .i64 (k:Int)))::List.replicate 39 .undef)) ⟨by simp [aH,List.replicate],.inl rfl⟩ ⟨true,by simp,by simp,by simp,by simp,by simp,by simp,by simp [two],by simp⟩ ?_ ?_
   rintro β env K ⟨o,h1,h2,h3,h4,h5,h6',rfl,rfl⟩ hN2 j op hget hβ hr
   simp only [rp]
   simp only [ax] at hget
   rcases j with _ | _ | _ | _ | _ | _ | _ | _ | _ | _ | _ | _ | _ | j
   all_goals (try simp only [gU,gT,Option.some.injEq,List.getElem?_nil,reduceCtorEq] at hget)
   all_goals (try subst hget)
   all_goals try (simp [gO,Region.binds] at hr)
   all_goals try (simp only [Nat.zero_add,Nat.reduceAdd] at hβ)
   ·have q4:β 4=false:=by
     cases h:β 4 with
     | false=>rfl
     | true=>rw [h3 h] at hβ;cases hβ
    have q7:β 7=false:=by
     cases h:β 7 with
     | false=>rfl
     | true=>rw [(h4 h).1] at q4;cases q4
    have q11:β 11=false:=by
     cases h:β 11 with
     | false=>rfl
     | true=>rw [h5 h] at q7;cases q7
    have q12:β 12=false:=by
     cases h:β 12 with
     | false=>rfl
     | true=>rw [h6' h] at q11;cases q11
    rcases (Bool.eq_false_or_eq_true (β 6)).symm with h6 | h6
    ·
     simp only [aD,aL,aE,aK,avs,tts,seval,hβ,h6,q4,q7,q11,q12,two,la,hix,hk,Nat.sub_zero,e1,e2,n1,n2,n3,n4,Nat.le_refl,b1,b2,b3,b4,b5,b6,tA]
     exact ⟨true,by simp,by simp [h6],by simp,by simp [q7],by simp [q11],by simp [q12],by simp [two,h6,q4,q7,q11,hβ],by simp [h6,q12]⟩
    ·
     have ho:=h2 h6 hβ
     subst ho
     simp only [aD,aL,aE,aK,avs,tts,seval,hβ,h6,q4,q7,q11,q12,two,la,hix,hk,Nat.sub_zero,e1,e2,n1,n2,n3,n4,Nat.le_refl,b1,b2,b3,b4,b5,b6,tA]
     exact ⟨false,by simp [h6],by simp,by simp,by simp [q7],by simp [q11],by simp [q12],by simp [two,h6,q4,q7,q11,hβ],by simp [h6,q12]⟩
   ·first
     | (simp only [aD,aL,aE,aK,avs,tts,seval,hr,la,hix,hk,Nat.sub_zero,e1,e2,n1,n2,n3,n4,Nat.le_refl,b1,b2,b3,b4,b5,b6,tA];exact ⟨o,by first | (simp;done) | simpa using h1 | (simp [*];done),by first | (simp;done) | simpa using h2 | (simp [*];done),by first | (simp;done) | simpa using h3 | (simp [*];done),by first | (simp;done) | simpa using h4 | (simp [*];done),by first | (simp;done) | simpa using h5 | (simp [*];done),by first | (simp;done) | simpa using h6' | (simp [*];done),by simp,by simp [hr]⟩)
     | (simp only [aD,aL,aE,aK,avs,tts,seval,la,hix,hk,Nat.sub_zero,e1,e2,n1,n2,n3,n4,Nat.le_refl,b1,b2,b3,b4,b5,b6,tA];exact ⟨o,by first | (simp;done) | simpa using h1 | (simp [*];done),by first | (simp;done) | simpa using h2 | (simp [*];done),by first | (simp;done) | simpa using h3 | (simp [*];done),by first | (simp;done) | simpa using h4 | (simp [*];done),by first | (simp;done) | simpa using h5 | (simp [*];done),by first | (simp;done) | simpa using h6' | (simp [*];done),by simp,by simp⟩)
   ·first
     | (simp only [aD,aL,aE,aK,avs,tts,seval,hr,la,hix,hk,Nat.sub_zero,e1,e2,n1,n2,n3,n4,Nat.le_refl,b1,b2,b3,b4,b5,b6,tA];exact ⟨o,by first | (simp;done) | simpa using h1 | (simp [*];done),by first | (simp;done) | simpa using h2 | (simp [*];done),by first | (simp;done) | simpa using h3 | (simp [*];done),by first | (simp;done) | simpa using h4 | (simp [*];done),by first | (simp;done) | simpa using h5 | (simp [*];done),by first | (simp;done) | simpa using h6' | (simp [*];done),by simp,by simp [hr]⟩)
     | (simp only [aD,aL,aE,aK,avs,tts,seval,la,hix,hk,Nat.sub_zero,e1,e2,n1,n2,n3,n4,Nat.le_refl,b1,b2,b3,b4,b5,b6,tA];exact ⟨o,by first | (simp;done) | simpa using h1 | (simp [*];done),by first | (simp;done) | simpa using h2 | (simp [*];done),by first | (simp;done) | simpa using h3 | (simp [*];done),by first | (simp;done) | simpa using h4 | (simp [*];done),by first | (simp;done) | simpa using h5 | (simp [*];done),by first | (simp;done) | simpa using h6' | (simp [*];done),by simp,by simp⟩)
   ·first
     | (simp only [aD,aL,aE,aK,avs,tts,seval,hr,la,hix,hk,Nat.sub_zero,e1,e2,n1,n2,n3,n4,Nat.le_refl,b1,b2,b3,b4,b5,b6,tA];exact ⟨o,by first | (simp;done) | simpa using h1 | (simp [*];done),by first | (simp;done) | simpa using h2 | (simp [*];done),by first | (simp;done) | simpa using h3 | (simp [*];done),by first | (simp;done) | simpa using h4 | (simp [*];done),by first | (simp;done) | simpa using h5 | (simp [*];done),by first | (simp;done) | simpa using h6' | (simp [*];done),by simp,by simp [hr]⟩)
     | (simp only [aD,aL,aE,aK,avs,tts,seval,la,hix,hk,Nat.sub_zero,e1,e2,n1,n2,n3,n4,Nat.le_refl,b1,b2,b3,b4,b5,b6,tA];exact ⟨o,by first | (simp;done) | simpa using h1 | (simp [*];done),by first | (simp;done) | simpa using h2 | (simp [*];done),by first | (simp;done) | simpa using h3 | (simp [*];done),by first | (simp;done) | simpa using h4 | (simp [*];done),by first | (simp;done) | simpa using h5 | (simp [*];done),by first | (simp;done) | simpa using h6' | (simp [*];done),by simp,by simp⟩)
   ·have q7:β 7=false:=by
     cases h:β 7 with
     | false=>rfl
     | true=>rw [(h4 h).1] at hβ;cases hβ
    have q11:β 11=false:=by
     cases h:β 11 with
     | false=>rfl
     | true=>rw [h5 h] at q7;cases q7
    have q12:β 12=false:=by
     cases h:β 12 with
     | false=>rfl
     | true=>rw [h6' h] at q11;cases q11
    rcases (Bool.eq_false_or_eq_true (β 6)).symm with h6 | h6
    ·
     have ho:=h1 hr.1 h6
     subst ho
     simp only [aD,aL,aE,aK,avs,tts,seval,hβ,hr,h6,q7,q11,q12,two,la,hix,hk,Nat.sub_zero,e1,e2,n1,n2,n3,n4,Nat.le_refl,b1,b2,b3,b4,b5,b6,tA]
     exact ⟨true,by simp,by simp [h6],by simp [hr],by simp [q7],by simp [q11],by simp [q12],by simp [two,hr,h6,q7,q11,hβ,tA],by simp [hr,h6,q12]⟩
    ·
     cases o with
     | true =>
      simp only [aD,aL,aE,aK,avs,tts,seval,hβ,hr,h6,q7,q11,q12,two,la,hix,hk,Nat.sub_zero,e1,e2,n1,n2,n3,n4,Nat.le_refl,b1,b2,b3,b4,b5,b6,tA]
      exact ⟨true,by simp,by simp [hr],by simp [hr],by simp [q7],by simp [q11],by simp [q12],by simp [two,hr,h6,q7,q11,hβ,tA],by simp [hr,h6,q12]⟩
     | false =>
      simp only [aD,aL,aE,aK,avs,tts,seval,hβ,hr,h6,q7,q11,q12,two,la,hix,hk,Nat.sub_zero,e1,e2,n1,n2,n3,n4,Nat.le_refl,b1,b2,b3,b4,b5,b6,tA]
      exact ⟨false,by simp [h6],by simp,by simp [hr],by simp [q7],by simp [q11],by simp [q12],by simp [two,hr,h6,q7,q11,hβ,tA],by simp [hr,h6,q12]⟩
   ·first
     | (simp only [aD,aL,aE,aK,avs,tts,seval,hr,la,hix,hk,Nat.sub_zero,e1,e2,n1,n2,n3,n4,Nat.le_refl,b1,b2,b3,b4,b5,b6,tA];exact ⟨o,by first | (simp;done) | simpa using h1 | (simp [*];done),by first | (simp;done) | simpa using h2 | (simp [*];done),by first | (simp;done) | simpa using h3 | (simp [*];done),by first | (simp;done) | simpa using h4 | (simp [*];done),by first | (simp;done) | simpa using h5 | (simp [*];done),by first | (simp;done) | simpa using h6' | (simp [*];done),by simp,by simp [hr]⟩)
     | (simp only [aD,aL,aE,aK,avs,tts,seval,la,hix,hk,Nat.sub_zero,e1,e2,n1,n2,n3,n4,Nat.le_refl,b1,b2,b3,b4,b5,b6,tA];exact ⟨o,by first | (simp;done) | simpa using h1 | (simp [*];done),by first | (simp;done) | simpa using h2 | (simp [*];done),by first | (simp;done) | simpa using h3 | (simp [*];done),by first | (simp;done) | simpa using h4 | (simp [*];done),by first | (simp;done) | simpa using h5 | (simp [*];done),by first | (simp;done) | simpa using h6' | (simp [*];done),by simp,by simp⟩)
   ·have q7:β 7=false:=by
     cases h:β 7 with
     | false=>rfl
     | true=>rw [(h4 h).2] at hβ;cases hβ
    have q11:β 11=false:=by
     cases h:β 11 with
     | false=>rfl
     | true=>rw [h5 h] at q7;cases q7
    have q12:β 12=false:=by
     cases h:β 12 with
     | false=>rfl
     | true=>rw [h6' h] at q11;cases q11
    rcases (Bool.eq_false_or_eq_true (β 0)).symm with h0 | h0
    ·
     have q4:β 4=false:=by
      cases h:β 4 with
      | false=>rfl
      | true=>rw [h3 h] at h0;cases h0
     simp only [aD,aL,aE,aK,avs,tts,seval,hβ,hr,h0,q4,q7,q11,q12,two,la,hix,hk,Nat.sub_zero,e1,e2,n1,n2,n3,n4,Nat.le_refl,b1,b2,b3,b4,b5,b6,tA]
     exact ⟨false,by simp [h0],by simp,by simp [q4],by simp [q7],by simp [q11],by simp [q12],by simp [two,h0,q4,q7,q11,hβ,tA],by simp [h0,q12]⟩
    ·
     have ho:=h1 h0 hβ
     subst ho
     simp only [aD,aL,aE,aK,avs,tts,seval,hβ,hr,h0,q7,q11,q12,two,la,hix,hk,Nat.sub_zero,e1,e2,n1,n2,n3,n4,Nat.le_refl,b1,b2,b3,b4,b5,b6,tA]
     exact ⟨true,by simp,by simp [h0],by simp [h0],by simp [q7],by simp [q11],by simp [q12],by simp [two,h0,q7,q11,hβ,tA],by simp [h0,q12]⟩
   ·have q0:=h3 hr.1
    have q11:β 11=false:=by
     cases h:β 11 with
     | false=>rfl
     | true=>rw [h5 h] at hβ;cases hβ
    have q12:β 12=false:=by
     cases h:β 12 with
     | false=>rfl
     | true=>rw [h6' h] at q11;cases q11
    cases o with
    | true =>
     simp only [aD,aL,aE,aK,avs,tts,seval,hβ,hr,q0,q11,q12,two,la,hix,hk,Nat.sub_zero,e1,e2,n1,n2,n3,n4,Nat.le_refl,b1,b2,b3,b4,b5,b6,tA]
     exact ⟨true,by simp,by simp [q0],by simp [hr,q0],by simp [hr],by simp [q11],by simp [q12],by simp [two,hr,q0,q11,hβ,tA],by simp [hr,q12]⟩
    | false =>
     simp only [aD,aL,aE,aK,avs,tts,seval,hβ,hr,q0,q11,q12,two,la,hix,hk,Nat.sub_zero,e1,e2,n1,n2,n3,n4,Nat.le_refl,b1,b2,b3,b4,b5,b6,tA]
     exact ⟨false,by simp [hr],by simp,by simp [hr,q0],by simp [hr],by simp [q11],by simp [q12],by simp [two,hr,q0,q11,hβ,tA],by simp [hr,q12]⟩
   ·first
     | (simp only [aD,aL,aE,aK,avs,tts,seval,hr,la,hix,hk,Nat.sub_zero,e1,e2,n1,n2,n3,n4,Nat.le_refl,b1,b2,b3,b4,b5,b6,tA];exact ⟨o,by first | (simp;done) | simpa using h1 | (simp [*];done),by first | (simp;done) | simpa using h2 | (simp [*];done),by first | (simp;done) | simpa using h3 | (simp [*];done),by first | (simp;done) | simpa using h4 | (simp [*];done),by first | (simp;done) | simpa using h5 | (simp [*];done),by first | (simp;done) | simpa using h6' | (simp [*];done),by simp,by simp [hr]⟩)
     | (simp only [aD,aL,aE,aK,avs,tts,seval,la,hix,hk,Nat.sub_zero,e1,e2,n1,n2,n3,n4,Nat.le_refl,b1,b2,b3,b4,b5,b6,tA];exact ⟨o,by first | (simp;done) | simpa using h1 | (simp [*];done),by first | (simp;done) | simpa using h2 | (simp [*];done),by first | (simp;done) | simpa using h3 | (simp [*];done),by first | (simp;done) | simpa using h4 | (simp [*];done),by first | (simp;done) | simpa using h5 | (simp [*];done),by first | (simp;done) | simpa using h6' | (simp [*];done),by simp,by simp⟩)
   ·first
     | (simp only [aD,aL,aE,aK,avs,tts,seval,hr,la,hix,hk,Nat.sub_zero,e1,e2,n1,n2,n3,n4,Nat.le_refl,b1,b2,b3,b4,b5,b6,tA];exact ⟨o,by first | (simp;done) | simpa using h1 | (simp [*];done),by first | (simp;done) | simpa using h2 | (simp [*];done),by first | (simp;done) | simpa using h3 | (simp [*];done),by first | (simp;done) | simpa using h4 | (simp [*];done),by first | (simp;done) | simpa using h5 | (simp [*];done),by first | (simp;done) | simpa using h6' | (simp [*];done),by simp,by simp [hr]⟩)
     | (simp only [aD,aL,aE,aK,avs,tts,seval,la,hix,hk,Nat.sub_zero,e1,e2,n1,n2,n3,n4,Nat.le_refl,b1,b2,b3,b4,b5,b6,tA];exact ⟨o,by first | (simp;done) | simpa using h1 | (simp [*];done),by first | (simp;done) | simpa using h2 | (simp [*];done),by first | (simp;done) | simpa using h3 | (simp [*];done),by first | (simp;done) | simpa using h4 | (simp [*];done),by first | (simp;done) | simpa using h5 | (simp [*];done),by first | (simp;done) | simpa using h6' | (simp [*];done),by simp,by simp⟩)
   ·first
     | (simp only [aD,aL,aE,aK,avs,tts,seval,hr,la,hix,hk,Nat.sub_zero,e1,e2,n1,n2,n3,n4,Nat.le_refl,b1,b2,b3,b4,b5,b6,tA];exact ⟨o,by first | (simp;done) | simpa using h1 | (simp [*];done),by first | (simp;done) | simpa using h2 | (simp [*];done),by first | (simp;done) | simpa using h3 | (simp [*];done),by first | (simp;done) | simpa using h4 | (simp [*];done),by first | (simp;done) | simpa using h5 | (simp [*];done),by first | (simp;done) | simpa using h6' | (simp [*];done),by simp,by simp [hr]⟩)
     | (simp only [aD,aL,aE,aK,avs,tts,seval,la,hix,hk,Nat.sub_zero,e1,e2,n1,n2,n3,n4,Nat.le_refl,b1,b2,b3,b4,b5,b6,tA];exact ⟨o,by first | (simp;done) | simpa using h1 | (simp [*];done),by first | (simp;done) | simpa using h2 | (simp [*];done),by first | (simp;done) | simpa using h3 | (simp [*];done),by first | (simp;done) | simpa using h4 | (simp [*];done),by first | (simp;done) | simpa using h5 | (simp [*];done),by first | (simp;done) | simpa using h6' | (simp [*];done),by simp,by simp⟩)
   ·have q4:=h4 hr.1
    have q0:=h3 q4.1
    have q12:β 12=false:=by
     cases h:β 12 with
     | false=>rfl
     | true=>rw [h6' h] at hβ;cases hβ
    cases o with
    | true =>
     simp only [aD,aL,aE,aK,avs,tts,seval,hβ,hr,q0,q4,two,la,hix,hk,Nat.sub_zero,e1,e2,n1,n2,n3,n4,Nat.le_refl,b1,b2,b3,b4,b5,b6,tA]
     exact ⟨true,by simp,by simp [q0],by simp [q0],by simp [hr,q4],by simp [hr],by simp [q12],by simp [two,hr,q0,q4,hβ,tA],by simp [hr,q12]⟩
    | false =>
     simp only [aD,aL,aE,aK,avs,tts,seval,hβ,hr,q0,q4,two,la,hix,hk,Nat.sub_zero,e1,e2,n1,n2,n3,n4,Nat.le_refl,b1,b2,b3,b4,b5,b6,tA]
     exact ⟨false,by simp [q4],by simp,by simp [q0],by simp [hr,q4],by simp [hr],by simp [q12],by simp [two,hr,q0,q4,hβ,tA],by simp [hr,q12]⟩
   ·first
     | (simp only [aD,aL,aE,aK,avs,tts,seval,hr,la,hix,hk,Nat.sub_zero,e1,e2,n1,n2,n3,n4,Nat.le_refl,b1,b2,b3,b4,b5,b6,tA];exact ⟨o,by first | (simp;done) | simpa using h1 | (simp [*];done),by first | (simp;done) | simpa using h2 | (simp [*];done),by first | (simp;done) | simpa using h3 | (simp [*];done),by first | (simp;done) | simpa using h4 | (simp [*];done),by first | (simp;done) | simpa using h5 | (simp [*];done),by first | (simp;done) | simpa using h6' | (simp [*];done),by simp,by simp [hr]⟩)
     | (simp only [aD,aL,aE,aK,avs,tts,seval,la,hix,hk,Nat.sub_zero,e1,e2,n1,n2,n3,n4,Nat.le_refl,b1,b2,b3,b4,b5,b6,tA];exact ⟨o,by first | (simp;done) | simpa using h1 | (simp [*];done),by first | (simp;done) | simpa using h2 | (simp [*];done),by first | (simp;done) | simpa using h3 | (simp [*];done),by first | (simp;done) | simpa using h4 | (simp [*];done),by first | (simp;done) | simpa using h5 | (simp [*];done),by first | (simp;done) | simpa using h6' | (simp [*];done),by simp,by simp⟩)
   ·rintro β env K ⟨o,h1,h2,h3,h4,h5,h6',rfl,rfl⟩ hall
    simp only [List.replicate,List.cons_append,List.nil_append,hall 0 (by decide),hall 1 (by decide),hall 2 (by decide),hall 3 (by decide),hall 4 (by decide),hall 5 (by decide),hall 6 (by decide),hall 7 (by decide),hall 8 (by decide),hall 9 (by decide),hall 10 (by decide),hall 11 (by decide),hall 12 (by decide),aE,two]
    exact ⟨by first | trivial | rfl,_,_,⟨by simp [aH,List.replicate],.inl rfl⟩,o,rfl,rfl⟩
  rintro env0 K0 ⟨o,rfl,rfl⟩
  simp only [rp]
  have hu:=rM ((l.take k)++s::l.drop k)
  rw [hnew]
  cases o with
  | true =>
   have hA:(((l.take k).map fun s=>[tA s])++[[tA s]]++(l.drop k).map fun s=>[tA s])=(l.take k++s::l.drop k).map fun s=>[tA s]:=by simp
   have hlen:(l.take k++s::l.drop k).length=l.length+1:=by simp;omega
   rw [hA]
   generalize l.take k++s::l.drop k=M at *
   refine aw ⟨_,rfl,_,rfl,?_⟩
   simp [bL,eU,hu,hlen]
   try rfl
  | false =>
   have hA:(((l.take k).map fun s=>[tA s])++[[tA s]]++(l.drop k).map fun s=>[tA s])=(l.take k++s::l.drop k).map fun s=>[tA s]:=by simp
   have hlen:(l.take k++s::l.drop k).length=l.length+1:=by simp;omega
   rw [hA]
   generalize l.take k++s::l.drop k=M at *
   refine aw ⟨_,rfl,_,rfl,?_⟩
   simp [bL,eU,hu,hlen]
   try rfl
end
end Av
end Go.Proofs.YtdekcppfpgeneaaGreatDoor
namespace Go.Proofs.YtdekcppfpgeneaaGreatDoor
open Go Go.RowKit
namespace Rg
open Av Nt
theorem jB {l:List Hd} {i:Nat} (h:i<l.length):dD (l.take (i+1))=(fb l[i]).foldl bT (dD (l.take i)):=by
 unfold dD
 rw [List.take_add_one,List.getElem?_eq_getElem h,List.foldl_append]
 rfl
theorem j7 {l:List Hd} (hj:∀h∈l,h.joint.length≤1000):∀i,i≤l.length→(dD (l.take i)).length≤1004 * i
 | 0,_=>by simp [dD]
 | i+1,hi=>by
  have h1:=j7 hj i (by omega)
  rw [jB (by omega)]
  have h2:=jh (fb l[i]) (dD (l.take i))
  have h3:(fb l[i]).length≤1004:=by
   have h4:=hj _ (List.getElem_mem (show i<l.length by omega))
   unfold fb zx
   simp only [List.length_cons,List.length_append]
   split<;>split<;>simp<;>omega
  omega
theorem uE {m out:List ByteArray} {j:Nat} (h:j<m.length):(m.take (j+1)).foldl bT out=bT ((m.take j).foldl bT out) m[j]:=by
 rw [List.take_add_one,List.getElem?_eq_getElem h,List.foldl_append]
 rfl
theorem sq (h:Hd) (out:List ByteArray):(fb h).foldl bT out=(if h.pledged=emp then (if h.nominee=emp then h.joint.foldl bT (bT (bT out h.company) h.holder) else bT (h.joint.foldl bT (bT (bT out h.company) h.holder)) h.nominee) else bT (if h.nominee=emp then h.joint.foldl bT (bT (bT out h.company) h.holder) else bT (h.joint.foldl bT (bT (bT out h.company) h.holder)) h.nominee) h.pledged):=by
 unfold fb zx
 simp only [List.foldl_cons,List.foldl_append]
 split<;>split<;>rfl
end Rg
namespace Av
attribute [local irreducible] AW aQ aM
open Nt Rg
section
variable (base:World)
set_option maxRecDepth 100000 in
set_option maxHeartbeats 8000000 in
theorem jH (l:List Hd) (hj:∀h∈l,h.joint.length≤1000) (hl:l.length≤900):aJ Tryz.prog base 50 [.d (bM l)] (.d (aN (dD l))):=by
 refine aA af Tryz.call50 Tryz.func50 rfl fun H hB hb hF => ?_
 rw [Tryz.results50,Tryz.ntmps50]
 simp only [ax,List.length_cons,List.length_nil,List.replicate,List.cons_append,List.nil_append,Nat.reduceAdd,Nat.reduceSub]
 clear hF hb
 have la:=bY l
 have hpl:=j7 hj
 have cput:=fun (L:List ByteArray) (s:ByteArray) (h:L.length≤1000000)=>Di base L s h
 simp only [bM,aN,tA] at cput ⊢
 repeat refine ag ?_
 refine zr af ?_
 repeat (refine aa ?_;first | (apply ai;rfl;simp only [aj,avs,tts,seval]<;>exact rr) | (refine zg rfl ?_;first | refine ah ?_ | refine zo ?_))
 refine ae ?_
 repeat refine ag ?_
 refine zr af ?_
 repeat (refine aa ?_;first | (apply ai;rfl;simp only [aj,avs,tts,seval]<;>exact rr) | (refine zg rfl ?_;first | refine ah ?_ | refine zo ?_))
 refine ae ?_
 show AW _ _ _ _ _
 refine cL 3 1 rfl (by simp only [bi,bh]<;>rfl) ?_
 repeat' (first | (refine aa ?_;first | (refine zg rfl ?_;first | refine ah ?_ | refine zo ?_ | (refine zs ?_ ?_<;>intro hb<;>((try simp only [bn] at hb);first | subst hb | simp only [hb]))) | (apply ai;rfl;simp only [aj,avs,tts,seval]<;>exact rr)) | refine ae ?_ | (refine ak ?_;first | (refine yg rfl ?_;first | refine aq ?_ | refine yo ?_ | (refine ys ?_ ?_<;>intro hb<;>((try simp only [bn] at hb);first | subst hb | simp only [hb]))) | (apply ar;rfl;simp only [aB,avs,tts,seval]<;>exact rr;first | trivial | omega)) | refine al ?_ | refine ag ?_ | refine zr af ?_ | refine zQ 0 af mixed ?_ | refine zQ 1 af mixed ?_ | refine zQ 2 af mixed ?_ | refine zQ 3 af mixed ?_ | refine zf rfl rfl ?_ | refine zt rfl rfl ?_ | (refine an rfl rfl ?_ ?_<;>intro hb<;>((try simp only [bn] at hb);first | subst hb | simp only [hb])) | refine ap ?_ | refine au ?_ | refine am ?_)
 refine bc (H0:=H) (fun r env K=>∃i,r=l.length - i∧i≤l.length∧K=H∧env=(.d (.sl 10 (l.map hdC)) :: .undef :: .undef :: .d (.sl 1 ((dD (l.take i)).map fun s=>[PD.v (.string s)])) :: .d (.v (.int .i64 (i:Int)))::List.replicate 48 .undef)) ?_ ⟨0,rfl,Nat.zero_le _,rfl,rfl⟩ ?_
 ·exact ⟨by simp [aH,List.replicate,dD],.inl rfl⟩
 rintro r env K ⟨i,rfl,hi,rfl,rfl⟩ hN
 simp only [rp]
 obtain ⟨c0,g0⟩:∃c,decide ((i:Int)<(l.length:Int))=c:=⟨_,rfl⟩
 cases c0 with
 | false =>
  have hka:i=l.length:=by
                 have:¬i<l.length:=by simpa using g0
                 omega
  rw [hka,List.take_length]
  rw [hka] at g0
  repeat' (first | (refine aa ?_;first | (refine zg rfl ?_;first | refine ah ?_ | refine zo ?_ | (refine zs ?_ ?_<;>intro hb<;>((try simp only [bn] at hb);first | subst hb | simp only [hb]))) | (apply ai;rfl;simp only [aj,avs,tts,seval,g0,la]<;>exact rr)) | refine ae ?_ | (refine ak ?_;first | (refine yg rfl ?_;first | refine aq ?_ | refine yo ?_ | (refine ys ?_ ?_<;>intro hb<;>((try simp only [bn] at hb);first | subst hb | simp only [hb]))) | (apply ar;rfl;simp only [aB,avs,tts,seval,g0,la]<;>exact rr;first | trivial | omega)) | refine al ?_ | refine ag ?_ | refine zr af ?_ | refine zQ 0 af mixed ?_ | refine zQ 1 af mixed ?_ | refine zQ 2 af mixed ?_ | refine zQ 3 af mixed ?_ | refine zf rfl rfl ?_ | refine zt rfl rfl ?_ | (refine an rfl rfl ?_ ?_<;>intro hb<;>((try simp only [bn] at hb);first | subst hb | simp only [hb])) | refine ap ?_ | refine au ?_ | refine am ?_)
  exact aw ⟨_,rfl,[],by simp,rfl⟩
 | true =>
 have hlt:i<l.length:=by simpa using g0
 have hix:(0:Int)≤(i:Int):=by omega
 have hgd:=dl hlt
 have w1:IntKind.i64.wrap ((i:Int)+1)=((i+1:Nat):Int):=aP hlt (by omega)
 have hO:=hpl i hi
 have hnx:=jB hlt
 have hjx:=hj _ (List.getElem_mem hlt)
 rw [sq] at hnx
 generalize l[i]=x at hgd hnx hjx
 generalize dD (l.take i)=O at *
 obtain ⟨xid,xco,xho,xno,xpl,xjo,xca,xvo,xfr,xti⟩:=x
 simp only [hdC,aN] at hgd
 simp only at hnx hjx
 have p1:=j0 O xco
 have p2:=j0 (bT O xco) xho
 have c1:=cput O xco (by omega)
 have c2:=cput (bT O xco) xho (by omega)
 have hlj:=fun j=>jh (xjo.take j) (bT (bT O xco) xho)
 have cj:=fun j (h:j<xjo.length)=>cput ((xjo.take j).foldl bT (bT (bT O xco) xho)) xjo[j] (by have:=hlj j;rw [List.length_take] at this;omega)
 have hO3:(xjo.foldl bT (bT (bT O xco) xho)).length≤904700:=by have:=jh xjo (bT (bT O xco) xho);omega
 have jl:(xjo.map fun s=>[PD.v (.string s)]).length=xjo.length:=by simp
 have hT:=fun j (h:j<xjo.length)=>uE (m:=xjo) (out:=bT (bT O xco) xho) h
 generalize bT (bT O xco) xho=O2 at *
 repeat' (first | (refine aa ?_;first | (refine zg rfl ?_;first | refine ah ?_ | refine zo ?_ | (refine zs ?_ ?_<;>intro hb<;>((try simp only [bn] at hb);first | subst hb | simp only [hb]))) | (apply ai;rfl;simp only [aj,avs,tts,seval,g0,la,hix,hlt,hgd]<;>exact rr) | (refine za rfl ?_;first | refine zp (c1) ?_ | refine zp (c2) ?_)) | refine ae ?_ | (refine ak ?_;first | (refine yg rfl ?_;first | refine aq ?_ | refine yo ?_ | (refine ys ?_ ?_<;>intro hb<;>((try simp only [bn] at hb);first | subst hb | simp only [hb]))) | (apply ar;rfl;simp only [aB,avs,tts,seval,g0,la,hix,hlt,hgd]<;>exact rr;first | trivial | omega) | (refine ya rfl ?_;first | refine yp (c1) ?_ | refine yp (c2) ?_)) | refine al ?_ | refine ag ?_ | refine zr af ?_ | refine zQ 0 af mixed ?_ | refine zQ 1 af mixed ?_ | refine zQ 2 af mixed ?_ | refine zQ 3 af mixed ?_ | refine zf rfl rfl ?_ | refine zt rfl rfl ?_ | (refine an rfl rfl ?_ ?_<;>intro hb<;>((try simp only [bn] at hb);first | subst hb | simp only [hb])) | refine ap ?_ | refine au ?_ | refine am ?_)
 clear c1 c2 p1 p2
 refine bc (H0:=K++[.box 36 [.d (.v (.string xid)),.d (.v (.string xco)),.d (.v (.string xho)),.d (.v (.string xno)),.d (.v (.string xpl)),.d (.sl 1 (xjo.map fun s=>[PD.v (.string s)])),.d (.v (.int .i64 xca)),.d (.v (.int .i64 xvo)),.d (.v (.int .i64 xfr)),.d (.v (.int .i64 xti))]]) (fun r env K2=>∃j,r=xjo.length - j∧j≤xjo.length∧K2=K++[.box 36 [.d (.v (.string xid)),.d (.v (.string xco)),.d (.v (.string xho)),.d (.v (.string xno)),.d (.v (.string xpl)),.d (.sl 1 (xjo.map fun s=>[PD.v (.string s)])),.d (.v (.int .i64 xca)),.d (.v (.int .i64 xvo)),.d (.v (.int .i64 xfr)),.d (.v (.int .i64 xti))]]∧env=(.d (.sl 10 (l.map hdC)) :: .undef :: .undef :: .d (.sl 1 (((xjo.take j).foldl bT O2).map fun s=>[PD.v (.string s)])) :: .d (.v (.int .i64 (i:Int))) :: .ptr K.length 0 :: .d (.v (.int .i64 (j:Int)))::List.replicate 46 .undef)) ?_ ⟨0,rfl,Nat.zero_le _,rfl,rfl⟩ ?_
 ·exact ⟨by (try simp only [rp]);(repeat (first | exact trivial | refine ⟨.inr rfl,?_⟩ | refine ⟨.inl rfl,?_⟩)),.inl rfl⟩
 rintro r env K2 ⟨j,rfl,hjl,rfl,rfl⟩ hN2
 simp only [rp]
 obtain ⟨d0,f0⟩:∃c,decide ((j:Int)<(xjo.length:Int))=c:=⟨_,rfl⟩
 cases d0 with
 | true =>
  have hltj:j<xjo.length:=by simpa using f0
  have hij:(0:Int)≤(j:Int):=by omega
  have gj:=bP hltj
  have w2:IntKind.i64.wrap ((j:Int)+1)=((j+1:Nat):Int):=aP hltj (by omega)
  have cc:=cj j hltj
  have hTj:=hT j hltj
  clear cj hT hlj cput
  generalize xjo[j]=y at gj cc hTj
  repeat' (first | (refine aa ?_;first | (refine zg rfl ?_;first | refine ah ?_ | refine zo ?_ | (refine zs ?_ ?_<;>intro hb<;>((try simp only [bn] at hb);first | subst hb | simp only [hb]))) | (apply ai;rfl;simp only [aj,avs,tts,seval,f0,jl,hij,hltj,gj,w2]<;>exact rr) | (refine za rfl ?_;refine zp (cc) ?_)) | refine ae ?_ | (refine ak ?_;first | (refine yg rfl ?_;first | refine aq ?_ | refine yo ?_ | (refine ys ?_ ?_<;>intro hb<;>((try simp only [bn] at hb);first | subst hb | simp only [hb]))) | (apply ar;rfl;simp only [aB,avs,tts,seval,f0,jl,hij,hltj,gj,w2]<;>exact rr;first | trivial | omega) | (refine ya rfl ?_;refine yp (cc) ?_)) | refine al ?_ | refine ag ?_ | refine zr af ?_ | refine zQ 0 af mixed ?_ | refine zQ 1 af mixed ?_ | refine zQ 2 af mixed ?_ | refine zQ 3 af mixed ?_ | refine zf rfl rfl ?_ | refine zt rfl rfl ?_ | (refine an rfl rfl ?_ ?_<;>intro hb<;>((try simp only [bn] at hb);first | subst hb | simp only [hb])) | refine ap ?_ | refine au ?_ | refine am ?_)
  refine ⟨xjo.length - (j+1),_,_,by omega,⟨?_,.inl rfl⟩,j+1,rfl,hltj,rfl,rfl⟩
  rw [hTj];(try simp only [rp]);(repeat (first | exact trivial | refine ⟨.inr rfl,?_⟩ | refine ⟨.inl rfl,?_⟩))
 | false =>
  have hkj:j=xjo.length:=by
                  have:¬j<xjo.length:=by simpa using f0
                  omega
  rw [hkj,List.take_length]
  rw [hkj] at f0
  clear cj hT hlj
  generalize xjo.foldl bT O2=O3 at *
  have p3:=j0 O3 xno
  have cn:=cput O3 xno (by omega)
  have cp1:=cput O3 xpl (by omega)
  have cp2:=cput (bT O3 xno) xpl (by omega)
  clear cput p3
  obtain ⟨e4,g4⟩:∃c,decide (xno=⟨#[]⟩)=c:=⟨_,rfl⟩
  obtain ⟨e5,g5⟩:∃c,decide (xpl=⟨#[]⟩)=c:=⟨_,rfl⟩
  have q4:(xno=emp)=(e4=true):=by rw [←g4];simp [emp]
  have q5:(xpl=emp)=(e5=true):=by rw [←g5];simp [emp]
  simp only [q4,q5] at hnx
  clear q4 q5
  repeat' (first | (refine aa ?_;first | (refine zg rfl ?_;first | refine ah ?_ | refine zo ?_ | (refine zs ?_ ?_<;>intro hb<;>((try simp only [bn] at hb);first | subst hb | simp only [hb]))) | (apply ai;rfl;simp only [aj,avs,tts,seval,f0,jl,g4,g5,w1,Bool.not_true,Bool.not_false]<;>exact rr) | (refine za rfl ?_;first | refine zp (cn) ?_ | refine zp (cp1) ?_ | refine zp (cp2) ?_)) | refine ae ?_ | (refine ak ?_;first | (refine yg rfl ?_;first | refine aq ?_ | refine yo ?_ | (refine ys ?_ ?_<;>intro hb<;>((try simp only [bn] at hb);first | subst hb | simp only [hb]))) | (apply ar;rfl;simp only [aB,avs,tts,seval,f0,jl,g4,g5,w1,Bool.not_true,Bool.not_false]<;>exact rr;first | trivial | omega) | (refine ya rfl ?_;first | refine yp (cn) ?_ | refine yp (cp1) ?_ | refine yp (cp2) ?_)) | refine al ?_ | refine ag ?_ | refine zr af ?_ | refine zQ 0 af mixed ?_ | refine zQ 1 af mixed ?_ | refine zQ 2 af mixed ?_ | refine zQ 3 af mixed ?_ | refine zf rfl rfl ?_ | refine zt rfl rfl ?_ | (refine an rfl rfl ?_ ?_<;>intro hb<;>((try simp only [bn] at hb);first | subst hb | simp only [hb])) | refine ap ?_ | refine au ?_ | refine am ?_)
  all_goals
   (refine ⟨l.length - (i+1),_,K,by omega,⟨?_,.inr ⟨Nat.le_refl _,?_,hB,_,rfl⟩⟩,i+1,rfl,hlt,rfl,rfl⟩;(rw [hnx];simp only [if_true,Bool.false_eq_true,if_false];(try simp only [rp]);(repeat (first | exact trivial | refine ⟨.inr rfl,?_⟩ | refine ⟨.inl rfl,?_⟩)));(simp [aY,AV.bel,List.replicate]))
end
end Av
end Go.Proofs.YtdekcppfpgeneaaGreatDoor
namespace Go.Proofs.YtdekcppfpgeneaaGreatDoor
open Go Go.RowKit
namespace Rg
open Av Nt
theorem nf {α:Type} (p:α→Bool) {f:α→Int}:∀{l:List α},(∀h∈l,0≤f h∧f h≤100)→0≤bH p f l∧bH p f l≤100 * l.length
 | [],_=>by simp [bH]
 | a::r,h=>by
  have h1:=nf p (l:=r) fun x hx=>h x (List.mem_cons_of_mem _ hx)
  have h2:=h a (List.mem_cons_self ..)
  simp only [bH,List.length_cons]
  split<;>omega
theorem yI {l:List Hd} {i:Nat} (hi:i<l.length) (h:okC l l[i].fr l[i].company=false):jT l=false:=by
 unfold jT
 rw [List.all_eq_false]
 exact ⟨_,List.getElem_mem hi,by simp [h]⟩
theorem wV {l:List Hd} (h:∀i (hi:i<l.length),okC l l[i].fr l[i].company=true):jT l=true:=by
 unfold jT
 rw [List.all_eq_true]
 intro x hx
 obtain ⟨i,hi,rfl⟩:=List.getElem_of_mem hx
 exact h i hi
end Rg
namespace Av
attribute [local irreducible] AW aQ aM
open Nt Rg
section
variable (base:World)
set_option maxRecDepth 100000 in
set_option maxHeartbeats 8000000 in
theorem vC (l:List Hd) (hp:∀h∈l,(0≤h.capital∧h.capital≤100)∧(0≤h.votes∧h.votes≤100)) (hl:l.length≤900):aJ Tryz.prog base 51 [.d (bM l)] (boA (jT l)):=by
 refine aA af Tryz.call51 Tryz.func51 rfl fun H hB hb hF => ?_
 rw [Tryz.results51,Tryz.ntmps51]
 simp only [ax,List.length_cons,List.length_nil,List.replicate,List.cons_append,List.nil_append,Nat.reduceAdd,Nat.reduceSub]
 clear hF hb
 have la:=bY l
 obtain ⟨P,hP⟩:∃P,jT l=P:=⟨_,rfl⟩
 rw [hP]
 simp only [bM]
 have hno:=fun i (hi:i<l.length) h=>yI (l:=l) hi h
 rw [hP] at hno
 repeat' (first | (refine aa ?_;first | (refine zg rfl ?_;first | refine ah ?_ | refine zo ?_ | (refine zs ?_ ?_<;>intro hb<;>((try simp only [bn] at hb);first | subst hb | simp only [hb]))) | (apply ai;rfl;simp only [aj,avs,tts,seval]<;>exact rr)) | refine ae ?_ | (refine ak ?_;first | (refine yg rfl ?_;first | refine aq ?_ | refine yo ?_ | (refine ys ?_ ?_<;>intro hb<;>((try simp only [bn] at hb);first | subst hb | simp only [hb]))) | (apply ar;rfl;simp only [aB,avs,tts,seval]<;>exact rr;first | trivial | omega)) | refine al ?_ | refine ag ?_ | refine zr af ?_ | refine zQ 0 af mixed ?_ | refine zQ 1 af mixed ?_ | refine zQ 2 af mixed ?_ | refine zQ 3 af mixed ?_ | refine zf rfl rfl ?_ | refine zt rfl rfl ?_ | (refine an rfl rfl ?_ ?_<;>intro hb<;>((try simp only [bn] at hb);first | subst hb | simp only [hb])) | refine ap ?_ | refine au ?_ | refine am ?_)
 refine bc (H0:=H) (fun r env K=>∃i,r=l.length - i∧i≤l.length∧(∀j,j<i→∀(h:j<l.length),okC l l[j].fr l[j].company=true)∧K=H∧env=(.d (.sl 10 (l.map hdC)) :: .undef :: .undef :: .d (.v (.int .i64 (i:Int)))::List.replicate 58 .undef)) ?_ ⟨0,rfl,Nat.zero_le _,fun j hj=>by omega,rfl,rfl⟩ ?_
 ·exact ⟨by simp [aH,List.replicate],.inl rfl⟩
 rintro r env K ⟨i,rfl,hi,hok,rfl,rfl⟩ hN
 simp only [rp]
 obtain ⟨c0,g0⟩:∃c,decide ((i:Int)<(l.length:Int))=c:=⟨_,rfl⟩
 cases c0 with
 | false =>
  have hka:i=l.length:=by
                 have:¬i<l.length:=by simpa using g0
                 omega
  have hp1:P=true:=by rw [←hP];exact wV fun j hj=>hok j (by omega) hj
  subst hp1
  repeat' (first | (refine aa ?_;first | (refine zg rfl ?_;first | refine ah ?_ | refine zo ?_ | (refine zs ?_ ?_<;>intro hb<;>((try simp only [bn] at hb);first | subst hb | simp only [hb]))) | (apply ai;rfl;simp only [aj,avs,tts,seval,g0,la]<;>exact rr)) | refine ae ?_ | (refine ak ?_;first | (refine yg rfl ?_;first | refine aq ?_ | refine yo ?_ | (refine ys ?_ ?_<;>intro hb<;>((try simp only [bn] at hb);first | subst hb | simp only [hb]))) | (apply ar;rfl;simp only [aB,avs,tts,seval,g0,la]<;>exact rr;first | trivial | omega)) | refine al ?_ | refine ag ?_ | refine zr af ?_ | refine zQ 0 af mixed ?_ | refine zQ 1 af mixed ?_ | refine zQ 2 af mixed ?_ | refine zQ 3 af mixed ?_ | refine zf rfl rfl ?_ | refine zt rfl rfl ?_ | (refine an rfl rfl ?_ ?_<;>intro hb<;>((try simp only [bn] at hb);first | subst hb | simp only [hb])) | refine ap ?_ | refine au ?_ | refine am ?_)
  exact aw ⟨_,rfl,[],by simp,rfl⟩
 | true =>
 have hlt:i<l.length:=by simpa using g0
 have hix:(0:Int)≤(i:Int):=by omega
 have hgd:=dl hlt
 have w1:IntKind.i64.wrap ((i:Int)+1)=((i+1:Nat):Int):=aP hlt (by omega)
 have hnx:=fun e=>dF (P:=fun j=>∀(h:j<l.length),okC l l[j].fr l[j].company=true) (k:=i) hok e
 have hno:=hno i hlt
 have hok1:∀(h:i<l.length),okC l l[i].fr l[i].company=okC l l[i].fr l[i].company:=fun _=>rfl
 have sb1:=fun d c j=>nf (inB d c) (f:=Hd.capital) (l:=l.take j) fun h hh=>(hp h (List.mem_of_mem_take hh)).1
 have sb2:=fun d c j=>nf (inB d c) (f:=Hd.votes) (l:=l.take j) fun h hh=>(hp h (List.mem_of_mem_take hh)).2
 have st1:=fun d c j (h:j<l.length)=>dq (inB d c) Hd.capital l h
 have st2:=fun d c j (h:j<l.length)=>dq (inB d c) Hd.votes l h
 have crun:=fun (h:Hd) (d:Int)=>vE base h d
 unfold okC at hno hnx
 generalize hX:l[i]=X at hgd hno
 have hnx:(decide (capS l X.fr X.company≤100)&&decide (votS l X.fr X.company≤100))=true→∀j,j<i+1→∀(h:j<l.length),okC l l[j].fr l[j].company=true:=fun e=>hnx fun _=>by rw [hX];exact e
 clear hX hok hok1
 obtain ⟨xid,xco,xho,xno,xpl,xjo,xca,xvo,xfr,xti⟩:=X
 simp only [hdC] at hgd
 simp only at hno hnx
 repeat' (first | (refine aa ?_;first | (refine zg rfl ?_;first | refine ah ?_ | refine zo ?_ | (refine zs ?_ ?_<;>intro hb<;>((try simp only [bn] at hb);first | subst hb | simp only [hb]))) | (apply ai;rfl;simp only [aj,avs,tts,seval,g0,la]<;>exact rr)) | refine ae ?_ | (refine ak ?_;first | (refine yg rfl ?_;first | refine aq ?_ | refine yo ?_ | (refine ys ?_ ?_<;>intro hb<;>((try simp only [bn] at hb);first | subst hb | simp only [hb]))) | (apply ar;rfl;simp only [aB,avs,tts,seval,g0,la]<;>exact rr;first | trivial | omega)) | refine al ?_ | refine ag ?_ | refine zr af ?_ | refine zQ 0 af mixed ?_ | refine zQ 1 af mixed ?_ | refine zQ 2 af mixed ?_ | refine zQ 3 af mixed ?_ | refine zf rfl rfl ?_ | refine zt rfl rfl ?_ | (refine an rfl rfl ?_ ?_<;>intro hb<;>((try simp only [bn] at hb);first | subst hb | simp only [hb])) | refine ap ?_ | refine au ?_ | refine am ?_)
 refine bc (H0:=K) (fun r env K2=>∃j,r=l.length - j∧j≤l.length∧K2=K∧env=(.d (.sl 10 (l.map hdC)) :: .undef :: .undef :: .d (.v (.int .i64 (i:Int))) :: .d (.v (.int .i64 (bH (inB xfr xco) Hd.capital (l.take j)))) :: .d (.v (.int .i64 (bH (inB xfr xco) Hd.votes (l.take j)))) :: .d (.v (.int .i64 (j:Int)))::List.replicate 55 .undef)) ?_ ⟨0,rfl,Nat.zero_le _,rfl,rfl⟩ ?_
 ·exact ⟨by simp [aH,List.replicate,bH],.inl rfl⟩
 rintro r env K2 ⟨j,rfl,hj,rfl,rfl⟩ hN2
 simp only [rp]
 obtain ⟨d0,f0⟩:∃c,decide ((j:Int)<(l.length:Int))=c:=⟨_,rfl⟩
 cases d0 with
 | false =>
  have hka:j=l.length:=by
                 have:¬j<l.length:=by simpa using f0
                 omega
  rw [hka,List.take_length]
  rw [hka] at f0
  unfold capS votS at hno hnx
  generalize bH (inB xfr xco) Hd.capital l=A1 at *
  generalize bH (inB xfr xco) Hd.votes l=A2 at *
  obtain ⟨e1,f1⟩:∃c,decide (A1≤100)=c:=⟨_,rfl⟩
  obtain ⟨e2,f2⟩:∃c,decide (A2≤100)=c:=⟨_,rfl⟩
  rw [f1,f2] at hno hnx
  have n1:decide (A1>100) = !e1:=by rw [←f1,←decide_not];exact decide_eq_decide.2 (by omega)
  have n2:decide (A2>100) = !e2:=by rw [←f2,←decide_not];exact decide_eq_decide.2 (by omega)
  clear sb1 sb2 st1 st2 crun f1 f2
  repeat' (first | (refine aa ?_;first | (refine zg rfl ?_;first | refine ah ?_ | refine zo ?_ | (refine zs ?_ ?_<;>intro hb<;>((try simp only [bn] at hb);first | subst hb | simp only [hb]))) | (apply ai;rfl;simp only [aj,avs,tts,seval,f0,la,n1,n2,w1,Bool.not_true,Bool.not_false]<;>exact rr)) | refine ae ?_ | (refine ak ?_;first | (refine yg rfl ?_;first | refine aq ?_ | refine yo ?_ | (refine ys ?_ ?_<;>intro hb<;>((try simp only [bn] at hb);first | subst hb | simp only [hb]))) | (apply ar;rfl;simp only [aB,avs,tts,seval,f0,la,n1,n2,w1,Bool.not_true,Bool.not_false]<;>exact rr;first | trivial | omega)) | refine al ?_ | refine ag ?_ | refine zr af ?_ | refine zQ 0 af mixed ?_ | refine zQ 1 af mixed ?_ | refine zQ 2 af mixed ?_ | refine zQ 3 af mixed ?_ | refine zf rfl rfl ?_ | refine zt rfl rfl ?_ | (refine an rfl rfl ?_ ?_<;>intro hb<;>((try simp only [bn] at hb);first | subst hb | simp only [hb])) | refine ap ?_ | refine au ?_ | refine am ?_)
  all_goals first
   | (have hp:P=false:=(hno rfl);subst hp;show AW _ _ _ _ _;refine aw ⟨_,rfl,[],by simp,?_⟩;rfl)
   | exact ⟨l.length - (i+1),_,_,by omega,⟨by simp [aH,List.replicate],.inl rfl⟩,i+1,rfl,hlt,hnx rfl,rfl,rfl⟩
 | true =>
  have hltj:j<l.length:=by simpa using f0
  have hij:(0:Int)≤(j:Int):=by omega
  have hgj:=dl hltj
  have w2:IntKind.i64.wrap ((j:Int)+1)=((j+1:Nat):Int):=aP hltj (by omega)
  have b1:=sb1 xfr xco j
  have b2:=sb2 xfr xco j
  have s1:=st1 xfr xco j hltj
  have s2:=st2 xfr xco j hltj
  have hpx:=hp _ (List.getElem_mem hltj)
  have cr:=crun l[j] xfr
  have inU:inB xfr xco l[j]=(bW l[j] xfr&&decide (l[j].company=xco)):=rfl
  rw [inU] at s1 s2
  rw [List.length_take] at b1 b2
  generalize bH (inB xfr xco) Hd.capital (l.take j)=A1 at *
  generalize bH (inB xfr xco) Hd.votes (l.take j)=A2 at *
  generalize l[j]=y at hgj s1 s2 hpx cr inU
  obtain ⟨yid,yco,yho,yno,ypl,yjo,yca,yvo,yfr,yti⟩:=y
  simp only [hdC] at hgj
  simp only [hdA,hdL,tA,iA] at cr
  simp only at s1 s2
  have w3:IntKind.i64.wrap (A1+yca)=A1+yca:=by rw [IntKind.wrap_i64];simp only at hpx;omega
  have w4:IntKind.i64.wrap (A2+yvo)=A2+yvo:=by rw [IntKind.wrap_i64];simp only at hpx;omega
  generalize bW ⟨yid,yco,yho,yno,ypl,yjo,yca,yvo,yfr,yti⟩ xfr=e1 at *
  obtain ⟨e2,f2⟩:∃c,decide (yco=xco)=c:=⟨_,rfl⟩
  rw [f2] at s1 s2
  clear inU hpx b1 b2 sb1 sb2 st1 st2 crun hno hnx hp
  repeat' (first | (refine aa ?_;first | (refine zg rfl ?_;first | refine ah ?_ | refine zo ?_ | (refine zs ?_ ?_<;>intro hb<;>((try simp only [bn] at hb);first | subst hb | simp only [hb]))) | (apply ai;rfl;simp only [aj,avs,tts,seval,f0,la,hix,hlt,hij,hltj,hgd,hgj,w2,w3,w4,f2]<;>exact rr) | (refine za rfl ?_;refine zp (cr) ?_)) | refine ae ?_ | (refine ak ?_;first | (refine yg rfl ?_;first | refine aq ?_ | refine yo ?_ | (refine ys ?_ ?_<;>intro hb<;>((try simp only [bn] at hb);first | subst hb | simp only [hb]))) | (apply ar;rfl;simp only [aB,avs,tts,seval,f0,la,hix,hlt,hij,hltj,hgd,hgj,w2,w3,w4,f2]<;>exact rr;first | trivial | omega) | (refine ya rfl ?_;refine yp (cr) ?_)) | refine al ?_ | refine ag ?_ | refine zr af ?_ | refine zQ 0 af mixed ?_ | refine zQ 1 af mixed ?_ | refine zQ 2 af mixed ?_ | refine zQ 3 af mixed ?_ | refine zf rfl rfl ?_ | refine zt rfl rfl ?_ | (refine an rfl rfl ?_ ?_<;>intro hb<;>((try simp only [bn] at hb);first | subst hb | simp only [hb])) | refine ap ?_ | refine au ?_ | refine am ?_)
  all_goals
   (refine ⟨l.length - (j+1),_,_,by omega,⟨?_,.inl rfl⟩,j+1,rfl,hltj,rfl,rfl⟩;simp only [s1,s2,Bool.true_and,Bool.false_and,Bool.and_true,Bool.and_false,if_true,Bool.false_eq_true,if_false,Int.add_zero];(try simp only [rp]);(repeat (first | exact trivial | refine ⟨.inr rfl,?_⟩ | refine ⟨.inl rfl,?_⟩)))
end
end Av
end Go.Proofs.YtdekcppfpgeneaaGreatDoor
namespace Go.Proofs.YtdekcppfpgeneaaGreatDoor
open Go Go.RowKit
namespace Rg
open Av Nt
def rq1 (h:Hd):Bool:=bx h.id&&(bx h.company&&(bx h.holder&&((decide (h.nominee=⟨#[]⟩)||bx h.nominee)&&(decide (h.pledged=⟨#[]⟩)||bx h.pledged))))
def rq2 (h:Hd):Bool:=decide (h.joint.length≤4)&&((decide (h.joint.length=0)||decide (h.nominee=⟨#[]⟩))&&(!decide (h.company=h.holder)&&(!decide (h.company=h.nominee) && !mA h.joint h.company)))
def rq4 (h:Hd):Bool:=decide (0≤h.capital)&&(decide (h.capital≤100)&&(decide (0≤h.votes)&&(decide (h.votes≤100)&&(eR h.fr&&(decide (h.til = -1)||(eR h.til&&decide (h.fr<h.til)))))))
theorem uj (h:Hd):aS h=(rq1 h&&(rq2 h&&(pr2 h&&rq4 h))):=by
 rw [Bool.eq_iff_iff,cX]
 unfold rq1 rq2 rq4 pr2
 simp only [Bool.and_eq_true,Bool.or_eq_true,Bool.not_eq_true',decide_eq_true_eq,decide_eq_false_iff_not,List.all_eq_true,ke]
 constructor
 ·intro p
  have hp:=p.pct
  unfold mz at hp
  simp only [Bool.and_eq_true,decide_eq_true_eq] at hp
  have hd:=p.days
  unfold pr4 at hd
  simp only [Bool.and_eq_true,Bool.or_eq_true,decide_eq_true_eq] at hd
  have ho:=p.own
  rw [List.mem_cons] at ho
  exact ⟨⟨p.id,p.company,p.holder,p.nominee,p.pledged⟩,⟨p.joint4,p.alone.symm.imp (fun e=>by rw [e];rfl) id,fun e=>ho (.inl e),p.nom,fun e=>ho (.inr e)⟩,⟨p.joint,p.nodup⟩,hp.1.1,hp.1.2,hp.2.1,hp.2.2,hd⟩
 ·rintro ⟨⟨h1,h2,h3,h4,h5⟩,⟨h6,h7,h8,h9,h10⟩,⟨h11,h12⟩,h13,h14,h15,h16,h17,h18⟩
  refine ⟨h1,h2,h3,h4,h5,h6,h7.symm.imp id (fun e=>List.length_eq_zero_iff.1 e),h11,h12,fun e => ?_,h9,?_,?_⟩
  ·rcases List.mem_cons.1 e with e | e
   ·exact h8 e
   ·exact h10 e
  ·unfold mz
   simp only [Bool.and_eq_true,decide_eq_true_eq]
   exact ⟨⟨h13,h14⟩,h15,h16⟩
  ·unfold pr4
   simp only [Bool.and_eq_true,Bool.or_eq_true,decide_eq_true_eq]
   exact ⟨h17,h18⟩
end Rg
namespace Av
attribute [local irreducible] AW aQ aM
open Nt Rg
section
variable (base:World)
set_option maxRecDepth 100000 in
set_option maxHeartbeats 8000000 in
theorem pu (h:Hd) (hs:Small h):aJ Tryz.prog base 48 [hdA h] (boA (aS h)):=by
 have d1:=je base h.id
 have d2:=je base h.company
 have d3:=je base h.holder
 have d4:=je base h.nominee
 have d5:=je base h.pledged
 have dj:=CY base h.joint h.company hs.jlen
 have dk:=fun k=>CY base (h.joint.take k)
 have d6:=qG base h.fr
 have d7:=qG base h.til
 have hjl:=hs.jlen
 obtain ⟨P,hP⟩:∃P,aS h=P:=⟨_,rfl⟩
 rw [hP]
 rw [uj] at hP
 refine aA af Tryz.call48 Tryz.func48 rfl fun H hB hb hF => ?_
 rw [Tryz.results48,Tryz.ntmps48]
 simp only [ax,List.length_cons,List.length_nil,List.replicate,List.cons_append,List.nil_append,Nat.reduceAdd,Nat.reduceSub]
 clear hF hb hs
 obtain ⟨id,company,holder,nominee,pledged,joint,capital,votes,fr,til⟩:=h
 obtain ⟨Q3,hQ3⟩:∃Q,pr2 ⟨id,company,holder,nominee,pledged,joint,capital,votes,fr,til⟩=Q:=⟨_,rfl⟩
 rw [hQ3] at hP
 unfold pr2 at hQ3
 simp only [hdA,hdL,tA,iA,boA,aN] at d1 d2 d3 d4 d5 d6 d7 dj dk hjl hQ3 ⊢
 have jl:(joint.map fun s=>[PD.v (.string s)]).length=joint.length:=by simp
 obtain ⟨q1,hq1⟩:∃q,rq1 ⟨id,company,holder,nominee,pledged,joint,capital,votes,fr,til⟩=q:=⟨_,rfl⟩
 obtain ⟨q2,hq2⟩:∃q,rq2 ⟨id,company,holder,nominee,pledged,joint,capital,votes,fr,til⟩=q:=⟨_,rfl⟩
 obtain ⟨q4,hq4⟩:∃q,rq4 ⟨id,company,holder,nominee,pledged,joint,capital,votes,fr,til⟩=q:=⟨_,rfl⟩
 rw [hq1,hq2,hq4] at hP
 unfold rq1 at hq1
 unfold rq2 at hq2
 unfold rq4 at hq4
 simp only at hq1 hq2 hq4
 generalize bx id=n1 at *
 generalize bx company=n2 at *
 generalize bx holder=n3 at *
 generalize bx nominee=n4 at *
 generalize bx pledged=n5 at *
 generalize mA joint company=cj at *
 generalize eR fr=n6 at *
 generalize eR til=n7 at *
 obtain ⟨e4,g4⟩:∃c,decide (nominee=⟨#[]⟩)=c:=⟨_,rfl⟩
 obtain ⟨e5,g5⟩:∃c,decide (pledged=⟨#[]⟩)=c:=⟨_,rfl⟩
 obtain ⟨e6,g6⟩:∃c,decide (joint.length≤4)=c:=⟨_,rfl⟩
 obtain ⟨e7,g7⟩:∃c,decide (joint.length=0)=c:=⟨_,rfl⟩
 obtain ⟨e8,g8⟩:∃c,decide (company=holder)=c:=⟨_,rfl⟩
 obtain ⟨e9,g9⟩:∃c,decide (company=nominee)=c:=⟨_,rfl⟩
 obtain ⟨v1,k1⟩:∃c,decide (0≤capital)=c:=⟨_,rfl⟩
 obtain ⟨v2,k2⟩:∃c,decide (capital≤100)=c:=⟨_,rfl⟩
 obtain ⟨v3,k3⟩:∃c,decide (0≤votes)=c:=⟨_,rfl⟩
 obtain ⟨v4,k4⟩:∃c,decide (votes≤100)=c:=⟨_,rfl⟩
 obtain ⟨v5,k5⟩:∃c,decide (til = -1)=c:=⟨_,rfl⟩
 obtain ⟨v6,k6⟩:∃c,decide (fr<til)=c:=⟨_,rfl⟩
 rw [g4,g5] at hq1
 rw [g4,g6,g7,g8,g9] at hq2
 rw [k1,k2,k3,k4,k5,k6] at hq4
 have g6':decide ((joint.length:Int)>4) = !e6:=by rw [←g6,←decide_not];exact decide_eq_decide.2 (by omega)
 have g7':decide ((joint.length:Int)>0) = !e7:=by rw [←g7,←decide_not];exact decide_eq_decide.2 (by omega)
 have k1':decide (capital≥0)=v1:=k1
 have k3':decide (votes≥0)=v3:=k3
 have k6':decide (til>fr)=v6:=k6
 clear g6 g7 k1 k3 k6
 repeat refine ag ?_
 refine zr af ?_
 repeat (refine aa ?_;first | (apply ai;rfl;simp only [aj,avs,tts,seval]<;>exact rr) | (refine zg rfl ?_;first | refine ah ?_ | refine zo ?_))
 refine ae ?_
 repeat refine ag ?_
 refine cC (Q0:=fun env K=>K=H++[.box 36 [.d (.v (.string id)),.d (.v (.string company)),.d (.v (.string holder)),.d (.v (.string nominee)),.d (.v (.string pledged)),.d (.sl 1 (joint.map fun s=>[PD.v (.string s)])),.d (.v (.int .i64 capital)),.d (.v (.int .i64 votes)),.d (.v (.int .i64 fr)),.d (.v (.int .i64 til))]]∧env=(.undef :: .ptr H.length 0::List.replicate 39 .undef ++ .d (.v (.bool (!q1)))::List.replicate 112 .undef)) ?_ ?_
 ·repeat' (first | (refine aa ?_;first | (refine zg rfl ?_;first | refine ah ?_ | refine zo ?_ | (refine zs ?_ ?_<;>intro hb<;>((try simp only [bn] at hb);first | subst hb | simp only [hb]))) | (apply ai;rfl;simp only [aj,avs,tts,seval,g4,g5,Bool.not_true,Bool.not_false]<;>exact rr) | (refine za rfl ?_;first | refine zp (d1) ?_ | refine zp (d2) ?_ | refine zp (d3) ?_ | refine zp (d4) ?_ | refine zp (d5) ?_)) | refine ae ?_ | (refine ak ?_;first | (refine yg rfl ?_;first | refine aq ?_ | refine yo ?_ | (refine ys ?_ ?_<;>intro hb<;>((try simp only [bn] at hb);first | subst hb | simp only [hb]))) | (apply ar;rfl;simp only [aB,avs,tts,seval,g4,g5,Bool.not_true,Bool.not_false]<;>exact rr;first | trivial | omega) | (refine ya rfl ?_;first | refine yp (d1) ?_ | refine yp (d2) ?_ | refine yp (d3) ?_ | refine yp (d4) ?_ | refine yp (d5) ?_)) | refine al ?_ | refine ag ?_ | refine zr af ?_ | refine zR 0 af mixed ?_ | refine zR 1 af mixed ?_ | refine zR 2 af mixed ?_ | refine zR 3 af mixed ?_ | refine zf rfl rfl ?_ | refine zt rfl rfl ?_ | (refine an rfl rfl ?_ ?_<;>intro hb<;>((try simp only [bn] at hb);first | subst hb | simp only [hb])) | refine ap ?_ | refine au ?_ | refine am ?_)
  all_goals (refine ⟨rfl,(.undef :: .ptr H.length 0::List.replicate 39 .undef ++ .d (.v (.bool (!q1)))::List.replicate 112 .undef),_,⟨?_,.inl rfl⟩,rfl,rfl⟩;subst hq1;(try simp only [rp]);repeat (first | exact trivial | refine ⟨.inr rfl,?_⟩ | refine ⟨.inl rfl,?_⟩))
 rintro env0 K0 ⟨rfl,rfl⟩
 simp only [rp]
 clear d1 d2 d3 d4 d5 g5 hq1
 cases q1 with
 | false =>
  repeat' (first | (refine aa ?_;first | (refine zg rfl ?_;first | refine ah ?_ | refine zo ?_ | (refine zs ?_ ?_<;>intro hb<;>((try simp only [bn] at hb);first | subst hb | simp only [hb]))) | (apply ai;rfl;simp only [aj,avs,tts,seval,Bool.not_false]<;>exact rr)) | refine ae ?_ | (refine ak ?_;first | (refine yg rfl ?_;first | refine aq ?_ | refine yo ?_ | (refine ys ?_ ?_<;>intro hb<;>((try simp only [bn] at hb);first | subst hb | simp only [hb]))) | (apply ar;rfl;simp only [aB,avs,tts,seval,Bool.not_false]<;>exact rr;first | trivial | omega)) | refine al ?_ | refine ag ?_ | refine zr af ?_ | refine zR 0 af mixed ?_ | refine zR 1 af mixed ?_ | refine zR 2 af mixed ?_ | refine zR 3 af mixed ?_ | refine zf rfl rfl ?_ | refine zt rfl rfl ?_ | (refine an rfl rfl ?_ ?_<;>intro hb<;>((try simp only [bn] at hb);first | subst hb | simp only [hb])) | refine ap ?_ | refine au ?_ | refine am ?_)
  rw [←hP]
  exact aw ⟨_,rfl,_,rfl,rfl⟩
 | true =>
 repeat refine ag ?_
 refine zf rfl rfl ?_
 refine ap ?_
 repeat refine ag ?_
 refine cC (Q0:=fun env K=>K=H++[.box 36 [.d (.v (.string id)),.d (.v (.string company)),.d (.v (.string holder)),.d (.v (.string nominee)),.d (.v (.string pledged)),.d (.sl 1 (joint.map fun s=>[PD.v (.string s)])),.d (.v (.int .i64 capital)),.d (.v (.int .i64 votes)),.d (.v (.int .i64 fr)),.d (.v (.int .i64 til))]]∧env=(.undef :: .ptr H.length 0::List.replicate 75 .undef ++ .d (.v (.bool (!q2)))::List.replicate 76 .undef)) ?_ ?_
 ·repeat' (first | (refine aa ?_;first | (refine zg rfl ?_;first | refine ah ?_ | refine zo ?_ | (refine zs ?_ ?_<;>intro hb<;>((try simp only [bn] at hb);first | subst hb | simp only [hb]))) | (apply ai;rfl;simp only [aj,avs,tts,seval,jl,g6',g7',g4,g8,g9,Bool.not_true,Bool.not_false]<;>exact rr) | (refine za rfl ?_;refine zp (dj) ?_)) | refine ae ?_ | (refine ak ?_;first | (refine yg rfl ?_;first | refine aq ?_ | refine yo ?_ | (refine ys ?_ ?_<;>intro hb<;>((try simp only [bn] at hb);first | subst hb | simp only [hb]))) | (apply ar;rfl;simp only [aB,avs,tts,seval,jl,g6',g7',g4,g8,g9,Bool.not_true,Bool.not_false]<;>exact rr;first | trivial | omega) | (refine ya rfl ?_;refine yp (dj) ?_)) | refine al ?_ | refine ag ?_ | refine zr af ?_ | refine zR 0 af mixed ?_ | refine zR 1 af mixed ?_ | refine zR 2 af mixed ?_ | refine zR 3 af mixed ?_ | refine zf rfl rfl ?_ | refine zt rfl rfl ?_ | (refine an rfl rfl ?_ ?_<;>intro hb<;>((try simp only [bn] at hb);first | subst hb | simp only [hb])) | refine ap ?_ | refine au ?_ | refine am ?_)
  all_goals (refine ⟨rfl,(.undef :: .ptr H.length 0::List.replicate 75 .undef ++ .d (.v (.bool (!q2)))::List.replicate 76 .undef),_,⟨?_,.inl rfl⟩,rfl,rfl⟩;subst hq2;first | ((try simp only [rp]);(repeat (first | exact trivial | refine ⟨.inr rfl,?_⟩ | refine ⟨.inl rfl,?_⟩));done) | (cases cj<;>((try simp only [rp]);repeat (first | exact trivial | refine ⟨.inr rfl,?_⟩ | refine ⟨.inl rfl,?_⟩))))
 rintro env0 K0 ⟨rfl,rfl⟩
 simp only [rp]
 clear dj g4 g6' g7' g8 g9 hq2
 cases q2 with
 | false =>
  repeat' (first | (refine aa ?_;first | (refine zg rfl ?_;first | refine ah ?_ | refine zo ?_ | (refine zs ?_ ?_<;>intro hb<;>((try simp only [bn] at hb);first | subst hb | simp only [hb]))) | (apply ai;rfl;simp only [aj,avs,tts,seval,Bool.not_false]<;>exact rr)) | refine ae ?_ | (refine ak ?_;first | (refine yg rfl ?_;first | refine aq ?_ | refine yo ?_ | (refine ys ?_ ?_<;>intro hb<;>((try simp only [bn] at hb);first | subst hb | simp only [hb]))) | (apply ar;rfl;simp only [aB,avs,tts,seval,Bool.not_false]<;>exact rr;first | trivial | omega)) | refine al ?_ | refine ag ?_ | refine zr af ?_ | refine zR 0 af mixed ?_ | refine zR 1 af mixed ?_ | refine zR 2 af mixed ?_ | refine zR 3 af mixed ?_ | refine zf rfl rfl ?_ | refine zt rfl rfl ?_ | (refine an rfl rfl ?_ ?_<;>intro hb<;>((try simp only [bn] at hb);first | subst hb | simp only [hb])) | refine ap ?_ | refine au ?_ | refine am ?_)
  rw [←hP]
  exact aw ⟨_,rfl,_,rfl,rfl⟩
 | true =>
 repeat refine ag ?_
 refine zf rfl rfl ?_
 refine ap ?_
 repeat' (first | (refine aa ?_;first | (refine zg rfl ?_;first | refine ah ?_ | refine zo ?_ | (refine zs ?_ ?_<;>intro hb<;>((try simp only [bn] at hb);first | subst hb | simp only [hb]))) | (apply ai;rfl;simp only [aj,avs,tts,seval]<;>exact rr)) | refine ae ?_ | (refine ak ?_;first | (refine yg rfl ?_;first | refine aq ?_ | refine yo ?_ | (refine ys ?_ ?_<;>intro hb<;>((try simp only [bn] at hb);first | subst hb | simp only [hb]))) | (apply ar;rfl;simp only [aB,avs,tts,seval]<;>exact rr;first | trivial | omega)) | refine al ?_ | refine ag ?_ | refine zr af ?_ | refine zR 0 af mixed ?_ | refine zR 1 af mixed ?_ | refine zR 2 af mixed ?_ | refine zR 3 af mixed ?_ | refine zf rfl rfl ?_ | refine zt rfl rfl ?_ | (refine an rfl rfl ?_ ?_<;>intro hb<;>((try simp only [bn] at hb);first | subst hb | simp only [hb])) | refine ap ?_ | refine au ?_ | refine am ?_)
 refine bc (H0:=H++[.box 36 [.d (.v (.string id)),.d (.v (.string company)),.d (.v (.string holder)),.d (.v (.string nominee)),.d (.v (.string pledged)),.d (.sl 1 (joint.map fun s=>[PD.v (.string s)])),.d (.v (.int .i64 capital)),.d (.v (.int .i64 votes)),.d (.v (.int .i64 fr)),.d (.v (.int .i64 til))]]) (fun r env K=>∃k,r=joint.length - k∧k≤joint.length∧(∀t∈joint.take k,bx t=true)∧(holder::joint.take k).Nodup∧K=H++[.box 36 [.d (.v (.string id)),.d (.v (.string company)),.d (.v (.string holder)),.d (.v (.string nominee)),.d (.v (.string pledged)),.d (.sl 1 (joint.map fun s=>[PD.v (.string s)])),.d (.v (.int .i64 capital)),.d (.v (.int .i64 votes)),.d (.v (.int .i64 fr)),.d (.v (.int .i64 til))]]∧env=(.undef :: .ptr H.length 0 :: .undef :: .d (.v (.int .i64 (k:Int)))::List.replicate 150 .undef)) ?_ ⟨0,rfl,Nat.zero_le _,fun t ht=>by simp at ht,by simp,rfl,rfl⟩ ?_
 ·exact ⟨by simp [aH,List.replicate],.inl rfl⟩
 rintro r env K ⟨k,rfl,hk,hok,hnd,rfl,rfl⟩ hN
 simp only [rp]
 obtain ⟨c1,f1⟩:∃c1,decide ((k:Int)<(joint.length:Int))=c1:=⟨_,rfl⟩
 cases c1 with
 | false =>
  have hka:k=joint.length:=by
                   have:¬k<joint.length:=by simpa using f1
                   omega
  rw [hka,List.take_length] at hok hnd
  have hq3:Q3=true:=by rw [←hQ3,List.all_eq_true.2 hok,decide_eq_true hnd];rfl
  rw [hq3] at hP
  clear hQ3 hq3 hok hnd dk
  repeat' (first | (refine aa ?_;first | (refine zg rfl ?_;first | refine ah ?_ | refine zo ?_ | (refine zs ?_ ?_<;>intro hb<;>((try simp only [bn] at hb);first | subst hb | simp only [hb]))) | (apply ai;rfl;simp only [aj,avs,tts,seval,f1,jl,k1',k2,k3',k4,k5,k6']<;>exact rr) | (refine za rfl ?_;first | refine zp (d6) ?_ | refine zp (d7) ?_)) | refine ae ?_ | (refine ak ?_;first | (refine yg rfl ?_;first | refine aq ?_ | refine yo ?_ | (refine ys ?_ ?_<;>intro hb<;>((try simp only [bn] at hb);first | subst hb | simp only [hb]))) | (apply ar;rfl;simp only [aB,avs,tts,seval,f1,jl,k1',k2,k3',k4,k5,k6']<;>exact rr;first | trivial | omega) | (refine ya rfl ?_;first | refine yp (d6) ?_ | refine yp (d7) ?_)) | refine al ?_ | refine ag ?_ | refine zr af ?_ | refine zR 0 af mixed ?_ | refine zR 1 af mixed ?_ | refine zR 2 af mixed ?_ | refine zR 3 af mixed ?_ | refine zf rfl rfl ?_ | refine zt rfl rfl ?_ | (refine an rfl rfl ?_ ?_<;>intro hb<;>((try simp only [bn] at hb);first | subst hb | simp only [hb])) | refine ap ?_ | refine au ?_ | refine am ?_)
  all_goals (show AW _ _ _ _ _;subst hq4 hP;first | exact aw ⟨_,rfl,_,rfl,rfl⟩ | (cases v6<;>exact aw ⟨_,rfl,_,rfl,rfl⟩))
 | true =>
  have hlt:k<joint.length:=by simpa using f1
  have hix:(0:Int)≤(k:Int):=by omega
  have ga:=bP hlt
  have w1:IntKind.i64.wrap ((k:Int)+1)=((k+1:Nat):Int):=aP hlt (by omega)
  have ci:=je base joint[k]
  have ch:=dk k joint[k] (by rw [List.length_take];omega)
  have hno:(bx joint[k]=false∨joint[k]∈holder::joint.take k)→P=false:=fun h=>by
   rw [←hP,←hQ3]
   rcases h with h | h
   ·rw [List.all_eq_false.2 ⟨_,List.getElem_mem hlt,by simp [h]⟩];rfl
   ·rw [decide_eq_false (sS hlt h)];simp
  have ht:(joint.map fun s=>[PD.v (.string s)]).take k=(joint.take k).map fun s=>[PD.v (.string s)]:=List.map_take.symm
  have hfs:=fun h=>(nY hlt hnd h).2
  have hkl:k≤joint.length:=by omega
  have hok2:bx joint[k]=true→∀t∈joint.take (k+1),bx t=true:=fun e t ht=>by
   rw [List.take_add_one,List.getElem?_eq_getElem hlt,Option.toList_some,List.mem_append,List.mem_singleton] at ht
   rcases ht with ht | rfl
   ·exact hok t ht
   ·exact e
  have hmi:¬joint[k]=holder→mA (joint.take k) joint[k]=false→¬joint[k]∈holder::joint.take k:=fun h1 h2 h3=>by
   rcases List.mem_cons.1 h3 with h4 | h4
   ·exact h1 h4
   ·exact ke.1 h2 h4
  have hno2:(bx joint[k]=false∨(joint[k]=holder∨mA (joint.take k) joint[k]=true))→P=false:=fun h=>by
   refine hno (h.imp (fun e=>e) fun h => ?_)
   rcases h with h | h
   ·rw [h];exact List.mem_cons_self ..
   ·exact List.mem_cons_of_mem _ (kf.1 h)
  have hst:bx joint[k]=true→¬joint[k]=holder→mA (joint.take k) joint[k]=false→(∀t∈joint.take (k+1),bx t=true)∧(holder::joint.take (k+1)).Nodup:=fun e1 e2 e3=>⟨hok2 e1,hfs (hmi e2 e3)⟩
  clear hno hok hfs hok2 hmi dk d6 d7 hQ3 hq4 hP k1' k2 k3' k4 k5 k6' hnd
  simp only [tA,iA,aN] at ci ch
  generalize bx joint[k]=b1 at *
  generalize mA (joint.take k) joint[k]=b2 at *
  obtain ⟨b3,f3⟩:∃c,decide (joint[k]=holder)=c:=⟨_,rfl⟩
  rw [show (joint[k]=holder)=(b3=true) by rw [←f3];simp] at hno2 hst
  generalize joint[k]=x at *
  repeat' (first | (refine aa ?_;first | (refine zg rfl ?_;first | refine ah ?_ | refine zo ?_ | (refine zs ?_ ?_<;>intro hb<;>((try simp only [bn] at hb);first | subst hb | simp only [hb]))) | (apply ai;rfl;simp only [aj,avs,tts,seval,f1,jl,hix,hlt,ga,w1,Nat.sub_zero,ht,hkl,f3,Bool.not_true,Bool.not_false]<;>exact rr) | (refine za rfl ?_;first | refine zp (ci) ?_ | refine zp (ch) ?_)) | refine ae ?_ | (refine ak ?_;first | (refine yg rfl ?_;first | refine aq ?_ | refine yo ?_ | (refine ys ?_ ?_<;>intro hb<;>((try simp only [bn] at hb);first | subst hb | simp only [hb]))) | (apply ar;rfl;simp only [aB,avs,tts,seval,f1,jl,hix,hlt,ga,w1,Nat.sub_zero,ht,hkl,f3,Bool.not_true,Bool.not_false]<;>exact rr;first | trivial | omega) | (refine ya rfl ?_;first | refine yp (ci) ?_ | refine yp (ch) ?_)) | refine al ?_ | refine ag ?_ | refine zr af ?_ | refine zR 0 af mixed ?_ | refine zR 1 af mixed ?_ | refine zR 2 af mixed ?_ | refine zR 3 af mixed ?_ | refine zf rfl rfl ?_ | refine zt rfl rfl ?_ | (refine an rfl rfl ?_ ?_<;>intro hb<;>((try simp only [bn] at hb);first | subst hb | simp only [hb])) | refine ap ?_ | refine au ?_ | refine am ?_)
  all_goals try first
   | (have hp:=hno2 (by simp);subst hp;show AW _ _ _ _ _;refine aw ⟨_,rfl,_,rfl,?_⟩;rfl)
   | (have hq:=hst rfl (by simp) rfl;refine ⟨joint.length - (k+1),_,_,by omega,⟨?_,.inl rfl⟩,k+1,rfl,hlt,hq.1,hq.2,rfl,rfl⟩;simp [aH,List.replicate])
end
end Av
end Go.Proofs.YtdekcppfpgeneaaGreatDoor
namespace Go.Proofs.YtdekcppfpgeneaaGreatDoor
open Go Go.RowKit
namespace Rg
open Av Nt
theorem xN {l:List Hd} {id:ByteArray} (h:0≤cE l id):∃x∈l,x.id=id:=by
 unfold cE at h
 cases hf:l.findIdx? (fun h=>decide (h.id=id)) with
 | none=>rw [hf] at h;simp at h
 | some i =>
  rw [List.findIdx?_eq_some_iff_getElem] at hf
  obtain ⟨hi,h1,_⟩:=hf
  exact ⟨_,List.getElem_mem hi,of_decide_eq_true h1⟩
theorem xC {l:List Hd} (h:∀j (hj:j<l.length),¬0≤cE (l.take j) l[j].id):(l.map Hd.id).Nodup:=by
 show List.Pairwise _ _
 rw [List.pairwise_map,List.pairwise_iff_getElem]
 intro i j hi hj hij e
 exact xO (h j hj) l[i] (List.mem_take_iff_getElem.2 ⟨i,by omega,rfl⟩) e
theorem xA {l:List Hd} {j:Nat} (hj:j<l.length) (h:0≤cE (l.take j) l[j].id):¬(l.map Hd.id).Nodup:=fun hn=>by
 obtain ⟨x,hx,e⟩:=xN h
 obtain ⟨i,hi,rfl⟩:=List.mem_take_iff_getElem.1 hx
 have hn:List.Pairwise _ _:=hn
 rw [List.pairwise_map,List.pairwise_iff_getElem] at hn
 exact hn i j (by omega) hj (by omega) e
end Rg
namespace Av
attribute [local irreducible] AW aQ aM
open Nt Rg
section
variable (base:World)
set_option maxRecDepth 100000 in
set_option maxHeartbeats 8000000 in
theorem ja (l:List Hd) (hs:∀h∈l,Small h) (hj:∀h∈l,h.joint.length≤1000) (hl:l.length≤900):aJ Tryz.prog base 23 [.d (bM l)] (boA (br l)):=by
 obtain ⟨P,hP⟩:∃P,br l=P:=⟨_,rfl⟩
 rw [hP]
 have cpar:=jH base l hj hl
 have csum:=fun hp=>vC base l hp hl
 refine aA af Tryz.call23 Tryz.func23 rfl fun H hB hb hF => ?_
 rw [Tryz.results23,Tryz.ntmps23]
 simp only [ax,List.length_cons,List.length_nil,List.replicate,List.cons_append,List.nil_append,Nat.reduceAdd,Nat.reduceSub]
 clear hF hb
 have la:=bY l
 have lq:∀L:List ByteArray,(L.map fun s=>[PD.v (.string s)]).length=L.length:=fun L=>by simp
 simp only [bM,aN,boA] at cpar csum ⊢
 obtain ⟨c0,g0⟩:∃c,decide ((l.length:Int)>400)=c:=⟨_,rfl⟩
 cases c0 with
 | true =>
  have hp:P=false:=by
   rw [←hP];unfold br
   rw [decide_eq_false (by have:=of_decide_eq_true g0;omega:¬l.length≤400)];simp
  subst hp
  repeat' (first | (refine aa ?_;first | (refine zg rfl ?_;first | refine ah ?_ | refine zo ?_ | (refine zs ?_ ?_<;>intro hb<;>((try simp only [bn] at hb);first | subst hb | simp only [hb]))) | (apply ai;rfl;simp only [aj,avs,tts,seval,g0,la]<;>exact rr)) | refine ae ?_ | (refine ak ?_;first | (refine yg rfl ?_;first | refine aq ?_ | refine yo ?_ | (refine ys ?_ ?_<;>intro hb<;>((try simp only [bn] at hb);first | subst hb | simp only [hb]))) | (apply ar;rfl;simp only [aB,avs,tts,seval,g0,la]<;>exact rr;first | trivial | omega)) | refine al ?_ | refine ag ?_ | refine zr af ?_ | refine zQ 0 af mixed ?_ | refine zQ 1 af mixed ?_ | refine zQ 2 af mixed ?_ | refine zQ 3 af mixed ?_ | refine zf rfl rfl ?_ | refine zt rfl rfl ?_ | (refine an rfl rfl ?_ ?_<;>intro hb<;>((try simp only [bn] at hb);first | subst hb | simp only [hb])) | refine ap ?_ | refine au ?_ | refine am ?_)
  exact aw ⟨_,rfl,[],by simp,rfl⟩
 | false =>
 have h400:decide (l.length≤400)=true:=decide_eq_true (by have:=of_decide_eq_false g0;omega)
 repeat' (first | (refine aa ?_;first | (refine zg rfl ?_;first | refine ah ?_ | refine zo ?_ | (refine zs ?_ ?_<;>intro hb<;>((try simp only [bn] at hb);first | subst hb | simp only [hb]))) | (apply ai;rfl;simp only [aj,avs,tts,seval,g0,la]<;>exact rr)) | refine ae ?_ | (refine ak ?_;first | (refine yg rfl ?_;first | refine aq ?_ | refine yo ?_ | (refine ys ?_ ?_<;>intro hb<;>((try simp only [bn] at hb);first | subst hb | simp only [hb]))) | (apply ar;rfl;simp only [aB,avs,tts,seval,g0,la]<;>exact rr;first | trivial | omega)) | refine al ?_ | refine ag ?_ | refine zr af ?_ | refine zQ 0 af mixed ?_ | refine zQ 1 af mixed ?_ | refine zQ 2 af mixed ?_ | refine zQ 3 af mixed ?_ | refine zf rfl rfl ?_ | refine zt rfl rfl ?_ | (refine an rfl rfl ?_ ?_<;>intro hb<;>((try simp only [bn] at hb);first | subst hb | simp only [hb])) | refine ap ?_ | refine au ?_ | refine am ?_)
 refine bc (H0:=H) (fun r env K=>∃i,r=l.length - i∧i≤l.length∧(∀j,j<i→∀(h:j<l.length),aS l[j]=true∧¬0≤cE (l.take j) l[j].id)∧K=H∧env=(.d (.sl 10 (l.map hdC)) :: .undef :: .undef :: .d (.v (.int .i64 (i:Int)))::List.replicate 35 .undef)) ?_ ⟨0,rfl,Nat.zero_le _,fun j hj=>by omega,rfl,rfl⟩ ?_
 ·exact ⟨by simp [aH,List.replicate],.inl rfl⟩
 rintro r env K ⟨i,rfl,hi,hok,rfl,rfl⟩ hN
 simp only [rp]
 obtain ⟨d0,f0⟩:∃c,decide ((i:Int)<(l.length:Int))=c:=⟨_,rfl⟩
 cases d0 with
 | false =>
  have hka:i=l.length:=by
                 have:¬i<l.length:=by simpa using f0
                 omega
  have hall:l.all aS=true:=List.all_eq_true.2 fun x hx=>by
   obtain ⟨j,hj,rfl⟩:=List.getElem_of_mem hx
   exact (hok j (by omega) hj).1
  have hpp:=List.all_eq_true.1 hall
  have hid:decide (l.map Hd.id).Nodup=true:=decide_eq_true (xC fun j hj=>(hok j (by omega) hj).2)
  have cs:=csum (uT hpp)
  rw [kP hpp] at cs
  rw [iB hpp] at cpar
  unfold br at hP
  rw [hall,hid,h400] at hP
  clear csum hok hall hid hpp h400
  generalize fg l=b1 at *
  obtain ⟨b2,f2⟩:∃c,decide ((ay l).length≤60)=c:=⟨_,rfl⟩
  rw [f2] at hP
  have f3:decide (((ay l).length:Int)≤60)=b2:=by rw [←f2];exact decide_eq_decide.2 (by omega)
  clear f2
  generalize ay l=ps at *
  have lp:=lq ps
  clear lq
  repeat' (first | (refine aa ?_;first | (refine zg rfl ?_;first | refine ah ?_ | refine zo ?_ | (refine zs ?_ ?_<;>intro hb<;>((try simp only [bn] at hb);first | subst hb | simp only [hb]))) | (apply ai;rfl;simp only [aj,avs,tts,seval,f0,la,lp,f3]<;>exact rr) | (refine za rfl ?_;first | refine zp (cpar) ?_ | refine zp (cs) ?_)) | refine ae ?_ | (refine ak ?_;first | (refine yg rfl ?_;first | refine aq ?_ | refine yo ?_ | (refine ys ?_ ?_<;>intro hb<;>((try simp only [bn] at hb);first | subst hb | simp only [hb]))) | (apply ar;rfl;simp only [aB,avs,tts,seval,f0,la,lp,f3]<;>exact rr;first | trivial | omega) | (refine ya rfl ?_;first | refine yp (cpar) ?_ | refine yp (cs) ?_)) | refine al ?_ | refine ag ?_ | refine zr af ?_ | refine zQ 0 af mixed ?_ | refine zQ 1 af mixed ?_ | refine zQ 2 af mixed ?_ | refine zQ 3 af mixed ?_ | refine zf rfl rfl ?_ | refine zt rfl rfl ?_ | (refine an rfl rfl ?_ ?_<;>intro hb<;>((try simp only [bn] at hb);first | subst hb | simp only [hb])) | refine ap ?_ | refine au ?_ | refine am ?_)
  all_goals (show AW _ _ _ _ _;subst hP;first | exact aw ⟨_,rfl,[],by simp,rfl⟩ | (cases b1<;>exact aw ⟨_,rfl,[],by simp,rfl⟩))
 | true =>
  have hlt:i<l.length:=by simpa using f0
  have hix:(0:Int)≤(i:Int):=by omega
  have hgd:=dl hlt
  have w1:IntKind.i64.wrap ((i:Int)+1)=((i+1:Nat):Int):=aP hlt (by omega)
  have hkl:i≤l.length:=by omega
  have ht:List.take i (l.map hdC)=(l.take i).map hdC:=List.map_take.symm
  have cp:=pu base l[i] (hs _ (List.getElem_mem hlt))
  have cf:=qE base (l.take i) l[i].id (by rw [List.length_take];omega)
  have hno1:aS l[i]=false→P=false:=fun h=>by
   rw [←hP];unfold br
   rw [List.all_eq_false.2 ⟨_,List.getElem_mem hlt,by simp [h]⟩];simp
  have hno2:0≤cE (l.take i) l[i].id→P=false:=fun h=>by
   rw [←hP];unfold br
   rw [decide_eq_false (xA hlt h)];simp
  have hnx:=fun (e:∀(h:i<l.length),aS l[i]=true∧¬0≤cE (l.take i) l[i].id)=>dF (P:=fun j=>∀(h:j<l.length),aS l[j]=true∧¬0≤cE (l.take j) l[j].id) hok e
  have hnx2:aS l[i]=true→¬0≤cE (l.take i) l[i].id→∀j,j<i+1→∀(h:j<l.length),aS l[j]=true∧¬0≤cE (l.take j) l[j].id:=fun a b=>hnx fun _=>⟨a,b⟩
  clear hnx csum cpar
  generalize aS l[i]=b1 at *
  generalize cE (l.take i) l[i].id=m at *
  generalize l[i]=x at hgd cp cf
  obtain ⟨xid,xco,xho,xno,xpl,xjo,xca,xvo,xfr,xti⟩:=x
  simp only [hdC] at hgd
  simp only [hdA,hdL,tA,iA,bM] at cp cf
  obtain ⟨b2,f2⟩:∃c,decide (m≥0)=c:=⟨_,rfl⟩
  have e2:(0≤m)=(b2=true):=by rw [←f2];simp
  simp only [e2] at hno2 hnx2
  clear e2
  repeat' (first | (refine aa ?_;first | (refine zg rfl ?_;first | refine ah ?_ | refine zo ?_ | (refine zs ?_ ?_<;>intro hb<;>((try simp only [bn] at hb);first | subst hb | simp only [hb]))) | (apply ai;rfl;simp only [aj,avs,tts,seval,f0,la,hix,hlt,hgd,w1,Nat.sub_zero,ht,hkl,f2,Bool.not_true,Bool.not_false]<;>exact rr) | (refine za rfl ?_;first | refine zp (cp) ?_ | refine zp (cf) ?_)) | refine ae ?_ | (refine ak ?_;first | (refine yg rfl ?_;first | refine aq ?_ | refine yo ?_ | (refine ys ?_ ?_<;>intro hb<;>((try simp only [bn] at hb);first | subst hb | simp only [hb]))) | (apply ar;rfl;simp only [aB,avs,tts,seval,f0,la,hix,hlt,hgd,w1,Nat.sub_zero,ht,hkl,f2,Bool.not_true,Bool.not_false]<;>exact rr;first | trivial | omega) | (refine ya rfl ?_;first | refine yp (cp) ?_ | refine yp (cf) ?_)) | refine al ?_ | refine ag ?_ | refine zr af ?_ | refine zQ 0 af mixed ?_ | refine zQ 1 af mixed ?_ | refine zQ 2 af mixed ?_ | refine zQ 3 af mixed ?_ | refine zf rfl rfl ?_ | refine zt rfl rfl ?_ | (refine an rfl rfl ?_ ?_<;>intro hb<;>((try simp only [bn] at hb);first | subst hb | simp only [hb])) | refine ap ?_ | refine au ?_ | refine am ?_)
  all_goals first
   | (have hp:P=false:=(by first | exact hno1 rfl | exact hno2 rfl);subst hp;show AW _ _ _ _ _;refine aw ⟨_,rfl,[],by simp,?_⟩;rfl)
   | exact ⟨l.length - (i+1),_,_,by omega,⟨by simp [aH,List.replicate],.inl rfl⟩,i+1,rfl,hlt,hnx2 rfl (by simp),rfl,rfl⟩
end
end Av
end Go.Proofs.YtdekcppfpgeneaaGreatDoor
namespace Go.Proofs.YtdekcppfpgeneaaGreatDoor
open Go Go.RowKit
namespace Av
attribute [local irreducible] AW aQ aM
open Nt Rg
section
variable (base:World)
set_option maxRecDepth 100000 in
set_option maxHeartbeats 4000000 in
theorem Dh (l:List Hd) (id:ByteArray) (d:Int) (hs:∀h∈l,Small h) (hj:∀h∈l,h.joint.length≤1000) (hl:l.length≤900):aJ Tryz.prog base 20 [.d (bM l),tA id,iA d] (.tup [.d (bM (iK l id d).1),iA (iK l id d).2]):=by
 have c1:=ja base l hs hj hl
 have c2:=qG base d
 have c3:=qE base l id (by omega)
 refine aA af Tryz.call20 Tryz.func20 rfl fun H hB hb hF => ?_
 rw [Tryz.results20,Tryz.ntmps20]
 simp only [ax,List.length_cons,List.length_nil,List.replicate,List.cons_append,List.nil_append,Nat.reduceAdd,Nat.reduceSub]
 clear hF hb
 have la:=bY l
 unfold iK
 simp only [iA,tA,boA,bM] at c1 c2 c3 ⊢
 obtain ⟨bv,hbv⟩:∃b,br l=b:=⟨_,rfl⟩
 obtain ⟨bd,hbd⟩:∃b,eR d=b:=⟨_,rfl⟩
 rw [hbv] at c1 ⊢
 rw [hbd] at c2 ⊢
 by_cases hvd:(bv&&bd)=true
 ·simp only [Bool.and_eq_true] at hvd
  obtain ⟨rfl,rfl⟩:=hvd
  simp only [Bool.and_true,if_true]
  have hnd:=pg hbv
  cases hfi:l.findIdx? (fun h=>decide (h.id=id)) with
  | none =>
   rw [pW hfi]
   have hI:cE l id = -1:=by unfold cE;rw [hfi]
   rw [hI] at c3
   repeat' (first | (refine aa ?_;first | (refine zg rfl ?_;first | refine ah ?_ | refine zo ?_ | (refine zs ?_ ?_<;>intro hb<;>((try simp only [bn] at hb);first | subst hb | simp only [hb]))) | (apply ai;rfl;simp only [aj,avs,tts,seval,la]<;>exact rr) | (refine za rfl ?_;first | refine zp (c1) ?_ | refine zp (c2) ?_ | refine zp (c3) ?_)) | refine ae ?_ | (refine ak ?_;first | (refine yg rfl ?_;first | refine aq ?_ | refine yo ?_ | (refine ys ?_ ?_<;>intro hb<;>((try simp only [bn] at hb);first | subst hb | simp only [hb]))) | (apply ar;rfl;simp only [aB,avs,tts,seval,la]<;>exact rr;first | trivial | omega) | (refine ya rfl ?_;first | refine yp (c1) ?_ | refine yp (c2) ?_ | refine yp (c3) ?_)) | refine al ?_ | refine ag ?_ | refine zr af ?_ | refine zQ 0 af mixed ?_ | refine zQ 1 af mixed ?_ | refine zQ 2 af mixed ?_ | refine zQ 3 af mixed ?_ | refine zf rfl rfl ?_ | refine zt rfl rfl ?_ | (refine an rfl rfl ?_ ?_<;>intro hb<;>((try simp only [bn] at hb);first | subst hb | simp only [hb])) | refine ap ?_ | refine au ?_ | refine am ?_)
   refine cL 6 10 rfl (by simp only [bi,bh]<;>rfl) ?_
   exact aw ⟨_,rfl,[],by simp,rfl⟩
  | some k =>
   obtain ⟨hk,hid,hf⟩:=sZ hfi
   have hI:cE l id=(k:Int):=by unfold cE;rw [hfi]
   rw [hI] at c3
   rw [hf,tg hk hid hnd]
   have hix:(0:Int)≤(k:Int):=by omega
   have hix2:decide ((k:Int)<0)=false:=decide_eq_false (by omega)
   have hgd:=dl hk
   have hgI:(l.map hdI)[k]?=some (hdI l[k]):=by rw [List.getElem?_map,List.getElem?_eq_getElem hk];rfl
   have hlI:=jf l
   have hset:∀y:Hd,(l.map hdI).set k (hdI y)=(l.set k y).map hdI:=fun y=>by rw [List.map_set]
   obtain ⟨h,hh⟩:∃h,l[k]=h:=⟨_,rfl⟩
   simp only [hh] at hgd hgI ⊢
   have hset2:=hset { h with til:=d }
   obtain ⟨hid',company,holder,nominee,pledged,joint,capital,votes,fr,til⟩:=h
   simp only at hset2 ⊢
   simp only [hdC] at hgd
   simp only [hdI,hdC,List.map_cons,List.map_nil] at hgI
   obtain ⟨ct,gt⟩:∃c,decide (til = -1)=c:=⟨_,rfl⟩
   obtain ⟨cf,gf⟩:∃c,decide (d≤fr)=c:=⟨_,rfl⟩
   have et:(til = -1)=(ct=true):=by rw [←gt];simp
   have ef:(d≤fr)=(cf=true):=by rw [←gf];simp
   simp only [et,ef]
   clear et ef hset
   have hap:List.map (fun it=>List.map AV.d it) (l.map hdC)=l.map hdI:=by rw [List.map_map];rfl
   have b1:l.length≤9223372036854775807:=by omega
   have b2:l.length * 136≤140737488355328:=by omega
   repeat' (first | (refine aa ?_;first | (refine zg rfl ?_;first | refine ah ?_ | refine zo ?_ | (refine zs ?_ ?_<;>intro hb<;>((try simp only [bn] at hb);first | subst hb | simp only [hb]))) | (apply ai;rfl;simp only [aj,avs,tts,seval,la,hix,hix2,hk,hgd,gt,gf,hap,hlI,b1,b2,hgI]<;>exact rr) | (refine za rfl ?_;first | refine zp (c1) ?_ | refine zp (c2) ?_ | refine zp (c3) ?_)) | refine ae ?_ | (refine ak ?_;first | (refine yg rfl ?_;first | refine aq ?_ | refine yo ?_ | (refine ys ?_ ?_<;>intro hb<;>((try simp only [bn] at hb);first | subst hb | simp only [hb]))) | (apply ar;rfl;simp only [aB,avs,tts,seval,la,hix,hix2,hk,hgd,gt,gf,hap,hlI,b1,b2,hgI]<;>exact rr;first | trivial | omega) | (refine ya rfl ?_;first | refine yp (c1) ?_ | refine yp (c2) ?_ | refine yp (c3) ?_)) | refine al ?_ | refine ag ?_ | refine zr af ?_ | refine zQ 0 af mixed ?_ | refine zQ 1 af mixed ?_ | refine zQ 2 af mixed ?_ | refine zQ 3 af mixed ?_ | refine zf rfl rfl ?_ | refine zt rfl rfl ?_ | (refine an rfl rfl ?_ ?_<;>intro hb<;>((try simp only [bn] at hb);first | subst hb | simp only [hb])) | refine ap ?_ | refine au ?_ | refine am ?_)
   ·(try show AW _ _ _ _ _)
    refine cL 6 10 rfl (by simp only [bi,bh]<;>rfl) ?_
    exact aw ⟨_,rfl,[],by simp,rfl⟩
   ·(try show AW _ _ _ _ _)
    refine cL 6 10 rfl (by simp only [bi,bh]<;>rfl) ?_
    exact aw ⟨_,rfl,[],by simp,rfl⟩
   ·
    have hgD:(l.map hdI).getD k []=hdI ⟨hid',company,holder,nominee,pledged,joint,capital,votes,fr,til⟩:=by rw [List.getD_eq_getElem?_getD,hgI];rfl
    have e9:(l.map hdI).set k (List.take 9 ((l.map hdI).getD k []) ++ .d (.v (.int .i64 d))::List.drop 10 ((l.map hdI).getD k []))=(l.set k ⟨hid',company,holder,nominee,pledged,joint,capital,votes,fr,d⟩).map hdI:=by rw [hgD];exact hset2
    rw [e9]
    have hu:unI ((l.map hdI).set k (hdI ⟨hid',company,holder,nominee,pledged,joint,capital,votes,fr,d⟩))=some ((l.map hdC).set k (hdC ⟨hid',company,holder,nominee,pledged,joint,capital,votes,fr,d⟩)):=by rw [←List.map_set,←List.map_set];exact qr _
    show AW _ _ _ _ _
    refine aw ⟨_,rfl,_,rfl,?_⟩
    simp [bL,eU,hu]
 ·have hvd':(bv&&bd)=false:=by simpa using hvd
  rw [hvd']
  simp only [Bool.false_eq_true,if_false]
  clear hbv hbd hvd
  cases bv with
  | false =>
   repeat' (first | (refine aa ?_;first | (refine zg rfl ?_;first | refine ah ?_ | refine zo ?_ | (refine zs ?_ ?_<;>intro hb<;>((try simp only [bn] at hb);first | subst hb | simp only [hb]))) | (apply ai;rfl;simp only [aj,avs,tts,seval]<;>exact rr) | (refine za rfl ?_;first | refine zp (c1) ?_ | refine zp (c2) ?_)) | refine ae ?_ | (refine ak ?_;first | (refine yg rfl ?_;first | refine aq ?_ | refine yo ?_ | (refine ys ?_ ?_<;>intro hb<;>((try simp only [bn] at hb);first | subst hb | simp only [hb]))) | (apply ar;rfl;simp only [aB,avs,tts,seval]<;>exact rr;first | trivial | omega) | (refine ya rfl ?_;first | refine yp (c1) ?_ | refine yp (c2) ?_)) | refine al ?_ | refine ag ?_ | refine zr af ?_ | refine zQ 0 af mixed ?_ | refine zQ 1 af mixed ?_ | refine zQ 2 af mixed ?_ | refine zQ 3 af mixed ?_ | refine zf rfl rfl ?_ | refine zt rfl rfl ?_ | (refine an rfl rfl ?_ ?_<;>intro hb<;>((try simp only [bn] at hb);first | subst hb | simp only [hb])) | refine ap ?_ | refine au ?_ | refine am ?_)
   refine cL 6 10 rfl (by simp only [bi,bh]<;>rfl) ?_
   exact aw ⟨_,rfl,[],by simp,rfl⟩
  | true =>
   have:bd=false:=by simpa using hvd'
   subst this
   repeat' (first | (refine aa ?_;first | (refine zg rfl ?_;first | refine ah ?_ | refine zo ?_ | (refine zs ?_ ?_<;>intro hb<;>((try simp only [bn] at hb);first | subst hb | simp only [hb]))) | (apply ai;rfl;simp only [aj,avs,tts,seval]<;>exact rr) | (refine za rfl ?_;first | refine zp (c1) ?_ | refine zp (c2) ?_)) | refine ae ?_ | (refine ak ?_;first | (refine yg rfl ?_;first | refine aq ?_ | refine yo ?_ | (refine ys ?_ ?_<;>intro hb<;>((try simp only [bn] at hb);first | subst hb | simp only [hb]))) | (apply ar;rfl;simp only [aB,avs,tts,seval]<;>exact rr;first | trivial | omega) | (refine ya rfl ?_;first | refine yp (c1) ?_ | refine yp (c2) ?_)) | refine al ?_ | refine ag ?_ | refine zr af ?_ | refine zQ 0 af mixed ?_ | refine zQ 1 af mixed ?_ | refine zQ 2 af mixed ?_ | refine zQ 3 af mixed ?_ | refine zf rfl rfl ?_ | refine zt rfl rfl ?_ | (refine an rfl rfl ?_ ?_<;>intro hb<;>((try simp only [bn] at hb);first | subst hb | simp only [hb])) | refine ap ?_ | refine au ?_ | refine am ?_)
   refine cL 6 10 rfl (by simp only [bi,bh]<;>rfl) ?_
   exact aw ⟨_,rfl,[],by simp,rfl⟩
end
section
variable {base:World}
set_option maxRecDepth 100000 in
set_option maxHeartbeats 8000000 in
theorem Bz (l:List Hd) (h:Hd) (hs:∀h∈l,Small h) (hsh:Small h) (hj:∀h∈l,h.joint.length≤1000) (hjh:h.joint.length≤1000) (hl:l.length≤800):aJ Tryz.prog base 18 [.d (bM l),hdA h] (.tup [.d (bM (iz l h).1),iA (iz l h).2]):=by
 have c1:=ja base l hs hj (by omega)
 have c2:=pu base h hsh
 have c3:=qE base l h.id (by omega)
 have c4:=fun (hp:∀x∈l++[h],aS x=true)=>(iB hp) ▸ jH base (l++[h]) (fun x hx=>by rcases List.mem_append.1 hx with hx | hx;exact hj x hx;rw [List.mem_singleton] at hx;rw [hx];exact hjh) (by simp;omega)
 have c5:=fun (hp:∀x∈l++[h],aS x=true)=>(kP hp) ▸ vC base (l++[h]) (uT hp) (by simp;omega)
 refine aA af Tryz.call18 Tryz.func18 rfl fun H hB hb hF => ?_
 rw [Tryz.results18,Tryz.ntmps18]
 simp only [ax,List.length_cons,List.length_nil,List.replicate,List.cons_append,List.nil_append,Nat.reduceAdd,Nat.reduceSub]
 clear hF hb
 have la:=bY l
 have la2:=bY (l++[h])
 unfold iz
 simp only [iA,tA,boA,bM] at c1 c2 c3 c4 c5 ⊢
 obtain ⟨bv,hbv⟩:∃b,br l=b:=⟨_,rfl⟩
 obtain ⟨bp,hbp⟩:∃b,aS h=b:=⟨_,rfl⟩
 have hpct:bv=true→bp=true→∀x∈l++[h],aS x=true:=fun e1 e2 x hx=>by
  subst e1 e2
  rcases List.mem_append.1 hx with hx | hx
  ·exact (dw hbv).1 x hx
  ·rw [List.mem_singleton] at hx;rw [hx];exact hbp
 rw [hbv] at c1 ⊢
 rw [hbp] at c2 ⊢
 clear hbv hbp
 obtain ⟨cb,hcb⟩:∃b,fg (l++[h])=b:=⟨_,rfl⟩
 obtain ⟨ps,hps⟩:∃ps,ay (l++[h])=ps:=⟨_,rfl⟩
 obtain ⟨cf,gf⟩:∃c,decide (cE l h.id≥0)=c:=⟨_,rfl⟩
 have ef:(0≤cE l h.id)=(cf=true):=by rw [←gf];simp
 rw [hcb] at c5 ⊢
 rw [hps] at c4 ⊢
 simp only [ef]
 clear ef hcb hps
 obtain ⟨m,hm⟩:∃m,cE l h.id=m:=⟨_,rfl⟩
 rw [hm] at c3 gf
 clear hm
 have hI:hdI h=hdL h:=rfl
 have hrow:(l.map hdI)++[hdL h]=(l++[h]).map hdI:=by simp [hI]
 have hun:=qr (l++[h])
 have hlen:(l++[h]).length=l.length+1:=by simp
 have hlI:=jf l
 obtain ⟨id,company,holder,nominee,pledged,joint,capital,votes,fr,til⟩:=h
 obtain ⟨L,hL⟩:∃L,l++[⟨id,company,holder,nominee,pledged,joint,capital,votes,fr,til⟩]=L:=⟨_,rfl⟩
 rw [hL] at la2 hun hlen hrow c4 c5 hpct ⊢
 clear hL
 simp only [hdA,hdL,tA,iA] at c2 c3 hrow ⊢
 obtain ⟨cp,gp⟩:∃c,decide (ps.length≤60)=c:=⟨_,rfl⟩
 obtain ⟨cl,gl⟩:∃c,decide (l.length+1≤400)=c:=⟨_,rfl⟩
 rw [gp,gl]
 have gp2:decide ((ps.length:Int)>60) = !cp:=by
  subst gp;by_cases h:ps.length≤60
  ·rw [decide_eq_true h,decide_eq_false (by omega)];rfl
  ·rw [decide_eq_false h,decide_eq_true (by omega)];rfl
 have gl2:decide (((l.length+1:Nat):Int)>400) = !cl:=by
  subst gl;by_cases h:l.length+1≤400
  ·rw [decide_eq_true h,decide_eq_false (by omega)];rfl
  ·rw [decide_eq_false h,decide_eq_true (by omega)];rfl
 have psl:(ps.map fun s=>[PD.v (.string s)]).length=ps.length:=by simp
 clear gp gl
 cases bv with
 | false =>
  repeat' (first | (refine aa ?_;first | (refine zg rfl ?_;first | refine ah ?_ | refine zo ?_ | (refine zs ?_ ?_<;>intro hb<;>((try simp only [bn] at hb);first | subst hb | simp only [hb]))) | (apply ai;rfl;simp only [aj,avs,tts,seval]<;>exact rr) | (refine za rfl ?_;first | refine zp (c1) ?_ | refine zp (c2) ?_)) | refine ae ?_ | (refine ak ?_;first | (refine yg rfl ?_;first | refine aq ?_ | refine yo ?_ | (refine ys ?_ ?_<;>intro hb<;>((try simp only [bn] at hb);first | subst hb | simp only [hb]))) | (apply ar;rfl;simp only [aB,avs,tts,seval]<;>exact rr;first | trivial | omega) | (refine ya rfl ?_;first | refine yp (c1) ?_ | refine yp (c2) ?_)) | refine al ?_ | refine ag ?_ | refine zr af ?_ | refine zQ 0 af mixed ?_ | refine zQ 1 af mixed ?_ | refine zQ 2 af mixed ?_ | refine zQ 3 af mixed ?_ | refine zf rfl rfl ?_ | refine zt rfl rfl ?_ | (refine an rfl rfl ?_ ?_<;>intro hb<;>((try simp only [bn] at hb);first | subst hb | simp only [hb])) | refine ap ?_ | refine au ?_ | refine am ?_)
  refine cL 4 10 rfl (by simp only [bi,bh]<;>rfl) ?_
  exact aw ⟨_,rfl,_,rfl,rfl⟩
 | true =>
 cases bp with
 | false =>
  repeat' (first | (refine aa ?_;first | (refine zg rfl ?_;first | refine ah ?_ | refine zo ?_ | (refine zs ?_ ?_<;>intro hb<;>((try simp only [bn] at hb);first | subst hb | simp only [hb]))) | (apply ai;rfl;simp only [aj,avs,tts,seval]<;>exact rr) | (refine za rfl ?_;first | refine zp (c1) ?_ | refine zp (c2) ?_)) | refine ae ?_ | (refine ak ?_;first | (refine yg rfl ?_;first | refine aq ?_ | refine yo ?_ | (refine ys ?_ ?_<;>intro hb<;>((try simp only [bn] at hb);first | subst hb | simp only [hb]))) | (apply ar;rfl;simp only [aB,avs,tts,seval]<;>exact rr;first | trivial | omega) | (refine ya rfl ?_;first | refine yp (c1) ?_ | refine yp (c2) ?_)) | refine al ?_ | refine ag ?_ | refine zr af ?_ | refine zQ 0 af mixed ?_ | refine zQ 1 af mixed ?_ | refine zQ 2 af mixed ?_ | refine zQ 3 af mixed ?_ | refine zf rfl rfl ?_ | refine zt rfl rfl ?_ | (refine an rfl rfl ?_ ?_<;>intro hb<;>((try simp only [bn] at hb);first | subst hb | simp only [hb])) | refine ap ?_ | refine au ?_ | refine am ?_)
  refine cL 4 10 rfl (by simp only [bi,bh]<;>rfl) ?_
  exact aw ⟨_,rfl,_,rfl,rfl⟩
 | true =>
 have c5:=c5 (hpct rfl rfl)
 have c4:=c4 (hpct rfl rfl)
 cases cf with
 | true =>
  repeat' (first | (refine aa ?_;first | (refine zg rfl ?_;first | refine ah ?_ | refine zo ?_ | (refine zs ?_ ?_<;>intro hb<;>((try simp only [bn] at hb);first | subst hb | simp only [hb]))) | (apply ai;rfl;simp only [aj,avs,tts,seval,gf]<;>exact rr) | (refine za rfl ?_;first | refine zp (c1) ?_ | refine zp (c2) ?_ | refine zp (c3) ?_)) | refine ae ?_ | (refine ak ?_;first | (refine yg rfl ?_;first | refine aq ?_ | refine yo ?_ | (refine ys ?_ ?_<;>intro hb<;>((try simp only [bn] at hb);first | subst hb | simp only [hb]))) | (apply ar;rfl;simp only [aB,avs,tts,seval,gf]<;>exact rr;first | trivial | omega) | (refine ya rfl ?_;first | refine yp (c1) ?_ | refine yp (c2) ?_ | refine yp (c3) ?_)) | refine al ?_ | refine ag ?_ | refine zr af ?_ | refine zQ 0 af mixed ?_ | refine zQ 1 af mixed ?_ | refine zQ 2 af mixed ?_ | refine zQ 3 af mixed ?_ | refine zf rfl rfl ?_ | refine zt rfl rfl ?_ | (refine an rfl rfl ?_ ?_<;>intro hb<;>((try simp only [bn] at hb);first | subst hb | simp only [hb])) | refine ap ?_ | refine au ?_ | refine am ?_)
  refine cL 4 10 rfl (by simp only [bi,bh]<;>rfl) ?_
  exact aw ⟨_,rfl,_,rfl,rfl⟩
 | false =>
 repeat refine ag ?_
 refine zr af ?_
 repeat (refine aa ?_;first | (apply ai;rfl;simp only [aj,avs,tts,seval]<;>exact rr) | (refine zg rfl ?_;first | refine ah ?_ | refine zo ?_))
 refine ae ?_
 repeat refine ag ?_
 refine zr af ?_
 repeat (refine aa ?_;first | (apply ai;rfl;simp only [aj,avs,tts,seval]<;>exact rr) | (refine zg rfl ?_;first | refine ah ?_ | refine zo ?_))
 refine zP rfl (c1) ?_
 repeat (refine aa ?_;first | (apply ai;rfl;simp only [aj,avs,tts,seval]<;>exact rr) | (refine zg rfl ?_;first | refine ah ?_ | refine zo ?_))
 refine zP rfl (c2) ?_
 repeat (refine aa ?_;first | (apply ai;rfl;simp only [aj,avs,tts,seval]<;>exact rr) | (refine zg rfl ?_;first | refine ah ?_ | refine zo ?_))
 refine ae ?_
 repeat refine ag ?_
 refine an rfl rfl (fun hb => ?_) fun hb => ?_
 ·cases hb
 refine ap ?_
 repeat refine ag ?_
 refine zr af ?_
 repeat (refine aa ?_;first | (apply ai;rfl;simp only [aj,avs,tts,seval]<;>exact rr) | (refine zg rfl ?_;first | refine ah ?_ | refine zo ?_))
 refine zP rfl (c3) ?_
 repeat (refine aa ?_;first | (apply ai;rfl;simp only [aj,avs,tts,seval,gf]<;>exact rr) | (refine zg rfl ?_;first | refine ah ?_ | refine zo ?_))
 refine ae ?_
 repeat refine ag ?_
 refine an rfl rfl (fun hb => ?_) fun hb => ?_
 ·cases hb
 refine ap ?_
 repeat refine ag ?_
 have la3:(L.map hdC).length=l.length+1:=by rw [la2,hlen]
 have lI3:(L.map hdI).length=l.length+1:=by rw [jf,hlen]
 have b1:l.length+1≤9223372036854775807:=by omega
 have b2:(l.length+1) * 136≤140737488355328:=by omega
 have hap:List.map (fun it=>List.map AV.d it) (l.map hdC)=l.map hdI:=by rw [List.map_map];rfl
 have b3:l.length≤9223372036854775807:=by omega
 have b4:l.length * 136≤140737488355328:=by omega
 refine mX (Q0:=fun env K=>K=H++[.box 36 [.d (.v (.string id)),.d (.v (.string company)),.d (.v (.string holder)),.d (.v (.string nominee)),.d (.v (.string pledged)),.d (aN joint),.d (.v (.int .i64 capital)),.d (.v (.int .i64 votes)),.d (.v (.int .i64 fr)),.d (.v (.int .i64 til))]]∧env=(.d (.sl 10 (l.map hdC)) :: .undef :: .undef :: .ptr H.length 0 :: .undef :: .undef :: .d (.sl 10 (L.map hdC))::List.replicate 32 .undef)) ?_ ?_
 ·refine eS af mixed (by kernel_rfl) (by kernel_rfl) (fun β env K=>∃o:Bool,(β 0=true→β 4=false→o=true)∧(β 4=true→β 0=false→o=false)∧(β 2=true→β 0=true)∧(β 5=true→β 2=true∧β 4=true)∧(β 6=true→β 5=true)∧K=H ++ .box 36 [.d (.v (.string id)),.d (.v (.string company)),.d (.v (.string holder)),.d (.v (.string nominee)),.d (.v (.string pledged)),.d (aN joint),.d (.v (.int .i64 capital)),.d (.v (.int .i64 votes)),.d (.v (.int .i64 fr)),.d (.v (.int .i64 til))]::two o (β 0) (β 4) (.row 36 10 0 (if β 5=true then L.map hdI else if β 2=true then l.map hdI else [])) (.row 36 10 0 [[.d (.v (.string id)),.d (.v (.string company)),.d (.v (.string holder)),.d (.v (.string nominee)),.d (.v (.string pledged)),.d (aN joint),.d (.v (.int .i64 capital)),.d (.v (.int .i64 votes)),.d (.v (.int .i64 fr)),.d (.v (.int .i64 til))]])∧env=(.d (.sl 10 (l.map hdC)) :: .undef :: .undef :: .ptr H.length 0 :: .undef :: .undef::(if β 6=true then .ms (H.length+if o=true then 1 else 2) 0 (l.length+1) else .undef)::List.replicate 13 .undef++(if β 0=true then .ms (H.length+if o=true then 1 else 2) 0 0 else .undef)::(if β 1=true then .d (.sl 10 (l.map hdC)) else .undef)::(if β 2=true then .ms (H.length+if o=true then 1 else 2) 0 l.length else .undef)::(if β 3=true then .agg [.d (.v (.string id)),.d (.v (.string company)),.d (.v (.string holder)),.d (.v (.string nominee)),.d (.v (.string pledged)),.d (aN joint),.d (.v (.int .i64 capital)),.d (.v (.int .i64 votes)),.d (.v (.int .i64 fr)),.d (.v (.int .i64 til))] else .undef)::(if β 4=true then .ms (H.length+if o=true then 2 else 1) 0 1 else .undef)::(if β 5=true then .ms (H.length+if o=true then 1 else 2) 0 (l.length+1) else .undef)::List.replicate 13 .undef)) (H0:=H++[.box 36 [.d (.v (.string id)),.d (.v (.string company)),.d (.v (.string holder)),.d (.v (.string nominee)),.d (.v (.string pledged)),.d (aN joint),.d (.v (.int .i64 capital)),.d (.v (.int .i64 votes)),.d (.v (.int .i64 fr)),.d (.v (.int .i64 til))]]) (env0:=(.d (.sl 10 (l.map hdC)) :: .undef :: .undef :: .ptr H.length 0::List.replicate 35 .undef)) ⟨by simp [aH,List.replicate],.inl (by simp only [aN])⟩ ⟨true,by simp,by simp,by simp,by simp,by simp,by simp [two],by simp⟩ ?_ ?_
  ·rintro β env K ⟨o,h1,h2,h3,h4,h5,rfl,rfl⟩ hN2 i op hget hβ hr
   simp only [rp]
   simp only [ax] at hget
   rcases i with _ | _ | _ | _ | _ | _ | _ | i
   all_goals (try simp only [gU,gT,Option.some.injEq,List.getElem?_nil,reduceCtorEq] at hget)
   all_goals (try subst hget)
   all_goals try (simp [gO,Region.binds] at hr)
   all_goals try (simp only [Nat.zero_add,Nat.reduceAdd] at hβ)
   ·
    have q2:β 2=false:=by
     cases h:β 2 with
     | false=>rfl
     | true=>rw [h3 h] at hβ;cases hβ
    have q5:β 5=false:=by
     cases h:β 5 with
     | false=>rfl
     | true=>rw [(h4 h).1] at q2;cases q2
    have q6:β 6=false:=by
     cases h:β 6 with
     | false=>rfl
     | true=>rw [h5 h] at q5;cases q5
    rcases (Bool.eq_false_or_eq_true (β 4)).symm with k4 | k4
    ·
     simp only [aD,aL,aE,aK,avs,tts,seval,hβ,k4,q2,q5,q6,two,la,hlI,hap,b1,b2,b3,b4,hrow]
     exact ⟨true,by simp,by simp [k4],by simp,by simp [q5],by simp [q6],by simp [two,k4,q2,q5,hβ],by simp [k4,q6]⟩
    ·
     have ho:=h2 k4 hβ
     subst ho
     simp only [aD,aL,aE,aK,avs,tts,seval,hβ,k4,q2,q5,q6,two,la,hlI,hap,b1,b2,b3,b4,hrow]
     exact ⟨false,by simp [k4],by simp,by simp,by simp [q5],by simp [q6],by simp [two,k4,q2,q5,hβ],by simp [k4,q6]⟩
   ·first
     | (simp only [aD,aL,aE,aK,avs,tts,seval,hr,la,hlI,hap,b1,b2,b3,b4,hrow];exact ⟨o,by first | (simp;done) | simpa using h1 | (simp [*];done),by first | (simp;done) | simpa using h2 | (simp [*];done),by first | (simp;done) | simpa using h3 | (simp [*];done),by first | (simp;done) | simpa using h4 | (simp [*];done),by first | (simp;done) | simpa using h5 | (simp [*];done),by simp,by simp [hr]⟩)
     | (simp only [aD,aL,aE,aK,avs,tts,seval,la,hlI,hap,b1,b2,b3,b4,hrow];exact ⟨o,by first | (simp;done) | simpa using h1 | (simp [*];done),by first | (simp;done) | simpa using h2 | (simp [*];done),by first | (simp;done) | simpa using h3 | (simp [*];done),by first | (simp;done) | simpa using h4 | (simp [*];done),by first | (simp;done) | simpa using h5 | (simp [*];done),by simp,by simp⟩)
   ·
    have q5:β 5=false:=by
     cases h:β 5 with
     | false=>rfl
     | true=>rw [(h4 h).1] at hβ;cases hβ
    have q6:β 6=false:=by
     cases h:β 6 with
     | false=>rfl
     | true=>rw [h5 h] at q5;cases q5
    rcases (Bool.eq_false_or_eq_true (β 4)).symm with k4 | k4
    ·
     have ho:=h1 hr.1 k4
     subst ho
     simp only [aD,aL,aE,aK,avs,tts,seval,hβ,hr,k4,q5,q6,two,la,hlI,hap,b1,b2,b3,b4,hrow]
     exact ⟨true,by simp,by simp [k4],by simp [hr],by simp [q5],by simp [q6],by simp [two,hr,k4,q5,hβ],by simp [hr,k4,q6]⟩
    ·
     cases o with
     | true =>
      simp only [aD,aL,aE,aK,avs,tts,seval,hβ,hr,k4,q5,q6,two,la,hlI,hap,b1,b2,b3,b4,hrow]
      exact ⟨true,by simp,by simp [hr],by simp [hr],by simp [q5],by simp [q6],by simp [two,hr,k4,q5,hβ],by simp [hr,k4,q6]⟩
     | false =>
      simp only [aD,aL,aE,aK,avs,tts,seval,hβ,hr,k4,q5,q6,two,la,hlI,hap,b1,b2,b3,b4,hrow]
      exact ⟨false,by simp [k4],by simp,by simp [hr],by simp [q5],by simp [q6],by simp [two,hr,k4,q5,hβ],by simp [hr,k4,q6]⟩
   ·first
     | (simp only [aD,aL,aE,aK,avs,tts,seval,hr,la,hlI,hap,b1,b2,b3,b4,hrow];exact ⟨o,by first | (simp;done) | simpa using h1 | (simp [*];done),by first | (simp;done) | simpa using h2 | (simp [*];done),by first | (simp;done) | simpa using h3 | (simp [*];done),by first | (simp;done) | simpa using h4 | (simp [*];done),by first | (simp;done) | simpa using h5 | (simp [*];done),by simp,by simp [hr]⟩)
     | (simp only [aD,aL,aE,aK,avs,tts,seval,la,hlI,hap,b1,b2,b3,b4,hrow];exact ⟨o,by first | (simp;done) | simpa using h1 | (simp [*];done),by first | (simp;done) | simpa using h2 | (simp [*];done),by first | (simp;done) | simpa using h3 | (simp [*];done),by first | (simp;done) | simpa using h4 | (simp [*];done),by first | (simp;done) | simpa using h5 | (simp [*];done),by simp,by simp⟩)
   ·
    have q5:β 5=false:=by
     cases h:β 5 with
     | false=>rfl
     | true=>rw [(h4 h).2] at hβ;cases hβ
    have q6:β 6=false:=by
     cases h:β 6 with
     | false=>rfl
     | true=>rw [h5 h] at q5;cases q5
    rcases (Bool.eq_false_or_eq_true (β 0)).symm with k0 | k0
    ·
     have q2:β 2=false:=by
      cases h:β 2 with
      | false=>rfl
      | true=>rw [h3 h] at k0;cases k0
     simp only [aD,aL,aE,aK,avs,tts,seval,hβ,hr,k0,q2,q5,q6,two,la,hlI,hap,b1,b2,b3,b4,hrow]
     exact ⟨false,by simp [k0],by simp,by simp [q2],by simp [q5],by simp [q6],by simp [two,k0,q2,q5,hβ],by simp [k0,q6]⟩
    ·
     have ho:=h1 k0 hβ
     subst ho
     simp only [aD,aL,aE,aK,avs,tts,seval,hβ,hr,k0,q5,q6,two,la,hlI,hap,b1,b2,b3,b4,hrow]
     exact ⟨true,by simp,by simp [k0],by simp [k0],by simp [q5],by simp [q6],by simp [two,k0,q5,hβ],by simp [k0,q6]⟩
   ·have q0:=h3 hr.1
    have q6:β 6=false:=by
     cases h:β 6 with
     | false=>rfl
     | true=>rw [h5 h] at hβ;cases hβ
    cases o with
    | true =>
     simp only [aD,aL,aE,aK,avs,tts,seval,hβ,hr,q0,q6,two,la,hlI,hap,b1,b2,b3,b4,hrow]
     exact ⟨true,by simp,by simp [q0],by simp [hr,q0],by simp [hr],by simp [q6],by simp [two,hr,q0,hβ],by simp [hr,q6]⟩
    | false =>
     simp only [aD,aL,aE,aK,avs,tts,seval,hβ,hr,q0,q6,two,la,hlI,hap,b1,b2,b3,b4,hrow]
     exact ⟨false,by simp [hr],by simp,by simp [hr,q0],by simp [hr],by simp [q6],by simp [two,hr,q0,hβ],by simp [hr,q6]⟩
   ·first
     | (simp only [aD,aL,aE,aK,avs,tts,seval,hr,la,hlI,hap,b1,b2,b3,b4,hrow];exact ⟨o,by first | (simp;done) | simpa using h1 | (simp [*];done),by first | (simp;done) | simpa using h2 | (simp [*];done),by first | (simp;done) | simpa using h3 | (simp [*];done),by first | (simp;done) | simpa using h4 | (simp [*];done),by first | (simp;done) | simpa using h5 | (simp [*];done),by simp,by simp [hr]⟩)
     | (simp only [aD,aL,aE,aK,avs,tts,seval,la,hlI,hap,b1,b2,b3,b4,hrow];exact ⟨o,by first | (simp;done) | simpa using h1 | (simp [*];done),by first | (simp;done) | simpa using h2 | (simp [*];done),by first | (simp;done) | simpa using h3 | (simp [*];done),by first | (simp;done) | simpa using h4 | (simp [*];done),by first | (simp;done) | simpa using h5 | (simp [*];done),by simp,by simp⟩)
  ·rintro β env K ⟨o,h1,h2,h3,h4,h5,rfl,rfl⟩ hall
   simp only [List.replicate,List.cons_append,List.nil_append,hall 0 (by decide),hall 1 (by decide),hall 2 (by decide),hall 3 (by decide),hall 4 (by decide),hall 5 (by decide),hall 6 (by decide),aE,two]
   cases o with
   | true=>exact ⟨by first | trivial | rfl,_,_,_,_,.inl ⟨H.length+1,(by simp only [avs,tts,Nat.reduceAdd,Nat.reduceMul,Nat.reduceSub,Nat.reduceEqDiff,Nat.reduceLT,Nat.reduceLeDiff,Int.reduceToNat,Int.reduceLE,Int.reduceLT,Int.toNat_natCast,reduceCtorEq,cz,cJ,di,bt,bw,unI,unL,Nat.add_eq_left,Nat.left_eq_add,Nat.one_ne_zero,hun,lI3]<;>rfl),(by simp only [avs,tts,Nat.reduceAdd,Nat.reduceMul,Nat.reduceSub,Nat.reduceEqDiff,Nat.reduceLT,Nat.reduceLeDiff,Int.reduceToNat,Int.reduceLE,Int.reduceLT,Int.toNat_natCast,reduceCtorEq,cz,cJ,di,bt,bw,unI,unL,Nat.add_eq_left,Nat.left_eq_add,Nat.one_ne_zero]<;>rfl)⟩,⟨by simp [aH,List.replicate],.inr ⟨by simp,by simp [aY,AV.bel,List.replicate],.more hB (.cons (by simp [aT.bel,aY,AV.bel,aN]) .nil),_,by simp only [List.append_assoc,List.cons_append,List.nil_append];rfl⟩⟩,rfl,rfl⟩
   | false=>exact ⟨by first | trivial | rfl,_,_,_,_,.inl ⟨H.length+2,(by simp only [avs,tts,Nat.reduceAdd,Nat.reduceMul,Nat.reduceSub,Nat.reduceEqDiff,Nat.reduceLT,Nat.reduceLeDiff,Int.reduceToNat,Int.reduceLE,Int.reduceLT,Int.toNat_natCast,reduceCtorEq,cz,cJ,di,bt,bw,unI,unL,Nat.add_eq_left,Nat.left_eq_add,Nat.one_ne_zero,hun,lI3]<;>rfl),(by simp only [avs,tts,Nat.reduceAdd,Nat.reduceMul,Nat.reduceSub,Nat.reduceEqDiff,Nat.reduceLT,Nat.reduceLeDiff,Int.reduceToNat,Int.reduceLE,Int.reduceLT,Int.toNat_natCast,reduceCtorEq,cz,cJ,di,bt,bw,unI,unL,Nat.add_eq_left,Nat.left_eq_add,Nat.one_ne_zero]<;>rfl)⟩,⟨by simp [aH,List.replicate],.inr ⟨by simp,by simp [aY,AV.bel,List.replicate],.more hB (.cons (by simp [aT.bel,aY,AV.bel,aN]) .nil),_,by simp only [List.append_assoc,List.cons_append,List.nil_append];rfl⟩⟩,rfl,rfl⟩
 rintro env0 K0 ⟨rfl,rfl⟩
 simp only [rp]
 repeat' (first | (refine aa ?_;first | (refine zg rfl ?_;first | refine ah ?_ | refine zo ?_ | (refine zs ?_ ?_<;>intro hb<;>((try simp only [bn] at hb);first | subst hb | simp only [hb]))) | (apply ai;rfl;simp only [aj,avs,tts,seval,la3,gp2,gl2,psl]<;>exact rr) | (refine za rfl ?_;first | refine zp (c4) ?_ | refine zp (c5) ?_)) | refine ae ?_ | (refine ak ?_;first | (refine yg rfl ?_;first | refine aq ?_ | refine yo ?_ | (refine ys ?_ ?_<;>intro hb<;>((try simp only [bn] at hb);first | subst hb | simp only [hb]))) | (apply ar;rfl;simp only [aB,avs,tts,seval,la3,gp2,gl2,psl]<;>exact rr;first | trivial | omega) | (refine ya rfl ?_;first | refine yp (c4) ?_ | refine yp (c5) ?_)) | refine al ?_ | refine ag ?_ | refine zr af ?_ | refine zQ 0 af mixed ?_ | refine zQ 1 af mixed ?_ | refine zQ 2 af mixed ?_ | refine zQ 3 af mixed ?_ | refine zf rfl rfl ?_ | refine zt rfl rfl ?_ | (refine an rfl rfl ?_ ?_<;>intro hb<;>((try simp only [bn] at hb);first | subst hb | simp only [hb])) | refine ap ?_ | refine au ?_ | refine am ?_)
 all_goals first
  | (show AW _ _ _ _ _;refine cL 4 10 rfl (by simp only [bi,bh]<;>rfl) ?_;refine aw ⟨_,rfl,_,rfl,?_⟩;rfl)
  | (show AW _ _ _ _ _;refine aw ⟨_,rfl,_,rfl,?_⟩;rfl)
end
end Av
end Go.Proofs.YtdekcppfpgeneaaGreatDoor
namespace Go.Proofs.YtdekcppfpgeneaaGreatDoor
open Go Go.RowKit
namespace Rg
open Av Nt
theorem Dq {l:List ByteArray} {x:ByteArray} {k:Nat} (hk:k<l.length) (h:l[k]=x) (h0:∀i,i<k→∀(h:i<l.length),¬l[i]=x):ixS l x=k:=by
 unfold ixS
 have:(l.findIdx fun y=>decide (y=x))=k:=by
  rw [List.findIdx_eq hk]
  exact ⟨decide_eq_true h,fun j hj=>decide_eq_false (h0 j hj (by omega))⟩
 rw [this]
end Rg
namespace Av
attribute [local irreducible] AW aQ aM
open Nt Rg
section
variable (base:World)
set_option maxRecDepth 100000 in
set_option maxHeartbeats 1000000 in
theorem zb (l:List ByteArray) (s:ByteArray) (hm:s∈l) (hl:l.length≤1000000):aJ Tryz.prog base 54 [.d (aN l),tA s] (iA (ixS l s)):=by
 refine aA af Tryz.call54 Tryz.func54 rfl fun H hB hb hF => ?_
 rw [Tryz.results54,Tryz.ntmps54]
 simp only [ax,List.length_cons,List.length_nil,List.replicate,List.cons_append,List.nil_append,Nat.reduceAdd,Nat.reduceSub]
 clear hF hb
 have la:(l.map fun s=>[PD.v (.string s)]).length=l.length:=by simp
 simp only [aN,tA]
 repeat' (first | (refine aa ?_;first | (refine zg rfl ?_;first | refine ah ?_ | refine zo ?_ | (refine zs ?_ ?_<;>intro hb<;>((try simp only [bn] at hb);first | subst hb | simp only [hb]))) | (apply ai;rfl;simp only [aj,avs,tts,seval]<;>exact rr)) | refine ae ?_ | (refine ak ?_;first | (refine yg rfl ?_;first | refine aq ?_ | refine yo ?_ | (refine ys ?_ ?_<;>intro hb<;>((try simp only [bn] at hb);first | subst hb | simp only [hb]))) | (apply ar;rfl;simp only [aB,avs,tts,seval]<;>exact rr;first | trivial | omega)) | refine al ?_ | refine ag ?_ | refine zr af ?_ | refine zQ 0 af mixed ?_ | refine zQ 1 af mixed ?_ | refine zQ 2 af mixed ?_ | refine zQ 3 af mixed ?_ | refine zf rfl rfl ?_ | refine zt rfl rfl ?_ | (refine an rfl rfl ?_ ?_<;>intro hb<;>((try simp only [bn] at hb);first | subst hb | simp only [hb])) | refine ap ?_ | refine au ?_ | refine am ?_)
 refine bc (H0:=H) (fun r env K=>∃k,r=l.length - k∧k≤l.length∧(∀i,i<k→∀h:i<l.length,¬l[i]=s)∧K=H∧env=(.d (.sl 1 (l.map fun s=>[PD.v (.string s)])) :: .d (.v (.string s)) :: .undef :: .undef :: .undef :: .d (.v (.int .i64 (k:Int)))::List.replicate 13 .undef)) ?_ ⟨0,rfl,Nat.zero_le _,fun i hi=>by omega,rfl,rfl⟩ ?_
 ·exact ⟨by simp [aH,List.replicate],.inl rfl⟩
 rintro r env K ⟨k,rfl,hk,hok,rfl,rfl⟩ hN
 simp only [rp]
 obtain ⟨c1,g1⟩:∃c1,decide ((k:Int)<(l.length:Int))=c1:=⟨_,rfl⟩
 cases c1 with
 | true =>
  have hlt:k<l.length:=by simpa using g1
  have hix:(0:Int)≤(k:Int):=by omega
  have ga:=bP hlt
  have w1:IntKind.i64.wrap ((k:Int)+1)=((k+1:Nat):Int):=aP hlt (by omega)
  obtain ⟨c2,g2⟩:∃c,decide (l[k]=s)=c:=⟨_,rfl⟩
  repeat' (first | (refine aa ?_;first | (refine zg rfl ?_;first | refine ah ?_ | refine zo ?_ | (refine zs ?_ ?_<;>intro hb<;>((try simp only [bn] at hb);first | subst hb | simp only [hb]))) | (apply ai;rfl;simp only [aj,avs,tts,seval,g1,la,hix,hlt,ga,w1,g2]<;>exact rr)) | refine ae ?_ | (refine ak ?_;first | (refine yg rfl ?_;first | refine aq ?_ | refine yo ?_ | (refine ys ?_ ?_<;>intro hb<;>((try simp only [bn] at hb);first | subst hb | simp only [hb]))) | (apply ar;rfl;simp only [aB,avs,tts,seval,g1,la,hix,hlt,ga,w1,g2]<;>exact rr;first | trivial | omega)) | refine al ?_ | refine ag ?_ | refine zr af ?_ | refine zQ 0 af mixed ?_ | refine zQ 1 af mixed ?_ | refine zQ 2 af mixed ?_ | refine zQ 3 af mixed ?_ | refine zf rfl rfl ?_ | refine zt rfl rfl ?_ | (refine an rfl rfl ?_ ?_<;>intro hb<;>((try simp only [bn] at hb);first | subst hb | simp only [hb])) | refine ap ?_ | refine au ?_ | refine am ?_)
  ·rw [Dq hlt (of_decide_eq_true g2) hok]
   exact aw ⟨_,rfl,[],by simp,rfl⟩
  ·exact ⟨l.length - (k+1),_,_,by omega,⟨by simp [aH,List.replicate],.inl rfl⟩,k+1,rfl,hlt,dF hok (fun _=>of_decide_eq_false g2),rfl,rfl⟩
 | false =>
  exfalso
  have hka:¬k<l.length:=by simpa using g1
  obtain ⟨i,hi,e⟩:=List.getElem_of_mem hm
  exact hok i (by omega) hi e
set_option maxRecDepth 100000 in
set_option maxHeartbeats 1000000 in
theorem C1 (h:Hd) (hj:h.joint.length≤1000):aJ Tryz.prog base 55 [hdA h] (.d (aN (dK h))):=by
 refine aA af Tryz.call55 Tryz.func55 rfl fun H hB hb hF => ?_
 rw [Tryz.results55,Tryz.ntmps55]
 simp only [ax,List.length_cons,List.length_nil,List.replicate,List.cons_append,List.nil_append,Nat.reduceAdd,Nat.reduceSub]
 clear hF hb
 obtain ⟨id,company,holder,nominee,pledged,joint,capital,votes,fr,til⟩:=h
 simp only at hj
 unfold dK
 simp only [hdA,hdL,tA,iA,aN]
 obtain ⟨c,g⟩:∃c,decide (nominee=⟨#[]⟩)=c:=⟨_,rfl⟩
 have e:(nominee=emp)=(c=true):=by rw [←g];simp [emp]
 simp only [e]
 clear e
 have la:(joint.map fun s=>[PD.v (.string s)]).length=joint.length:=by simp
 have hap:List.map (fun it=>List.map AV.d it) (joint.map fun s=>[PD.v (.string s)])=joint.map fun s=>[tA s]:=by rw [List.map_map];rfl
 have l2:(joint.map fun s=>[tA s]).length=joint.length:=by simp
 have b1:1+joint.length≤9223372036854775807:=by omega
 have b2:(1+joint.length) * 16≤140737488355328:=by omega
 repeat' (first | (refine aa ?_;first | (refine zg rfl ?_;first | refine ah ?_ | refine zo ?_ | (refine zs ?_ ?_<;>intro hb<;>((try simp only [bn] at hb);first | subst hb | simp only [hb]))) | (apply ai;rfl;simp only [aj,avs,tts,seval,g,la,hap,l2,b1,b2,Bool.not_true,Bool.not_false]<;>exact rr)) | refine ae ?_ | (refine ak ?_;first | (refine yg rfl ?_;first | refine aq ?_ | refine yo ?_ | (refine ys ?_ ?_<;>intro hb<;>((try simp only [bn] at hb);first | subst hb | simp only [hb]))) | (apply ar;rfl;simp only [aB,avs,tts,seval,g,la,hap,l2,b1,b2,Bool.not_true,Bool.not_false]<;>exact rr;first | trivial | omega)) | refine al ?_ | refine ag ?_ | refine zr af ?_ | refine zQ 0 af mixed ?_ | refine zQ 1 af mixed ?_ | refine zQ 2 af mixed ?_ | refine zQ 3 af mixed ?_ | refine zf rfl rfl ?_ | refine zt rfl rfl ?_ | (refine an rfl rfl ?_ ?_<;>intro hb<;>((try simp only [bn] at hb);first | subst hb | simp only [hb])) | refine ap ?_ | refine au ?_ | refine am ?_)
 ·show AW _ _ _ _ _
  refine aw ⟨_,rfl,_,rfl,?_⟩
  simp [bL,eU,unI,unL]
 ·show AW _ _ _ _ _
  have hu:=rM (holder::joint)
  refine aw ⟨_,rfl,_,rfl,?_⟩
  simp only [List.map_cons,tA] at hu
  simp [bL,eU,tA,hu]
  rw [if_neg (by omega),if_pos (by omega)]
set_option maxRecDepth 100000 in
set_option maxHeartbeats 1000000 in
theorem DP (h:Hd) (hj:h.joint.length≤1000):aJ Tryz.prog base 58 [hdA h] (.d (aN (dV h))):=by
 have cb:=C1 base h hj
 refine aA af Tryz.call58 Tryz.func58 rfl fun H hB hb hF => ?_
 rw [Tryz.results58,Tryz.ntmps58]
 simp only [ax,List.length_cons,List.length_nil,List.replicate,List.cons_append,List.nil_append,Nat.reduceAdd,Nat.reduceSub]
 clear hF hb
 unfold dV
 generalize dK h=W at *
 obtain ⟨id,company,holder,nominee,pledged,joint,capital,votes,fr,til⟩:=h
 simp only at hj
 simp only [hdA,hdL,tA,iA,aN] at cb ⊢
 obtain ⟨c,g⟩:∃c,decide (pledged=⟨#[]⟩)=c:=⟨_,rfl⟩
 have e:(pledged=emp)=(c=true):=by rw [←g];simp [emp]
 simp only [e]
 clear e
 repeat' (first | (refine aa ?_;first | (refine zg rfl ?_;first | refine ah ?_ | refine zo ?_ | (refine zs ?_ ?_<;>intro hb<;>((try simp only [bn] at hb);first | subst hb | simp only [hb]))) | (apply ai;rfl;simp only [aj,avs,tts,seval,g,Bool.not_true,Bool.not_false]<;>exact rr) | (refine za rfl ?_;refine zp (cb) ?_)) | refine ae ?_ | (refine ak ?_;first | (refine yg rfl ?_;first | refine aq ?_ | refine yo ?_ | (refine ys ?_ ?_<;>intro hb<;>((try simp only [bn] at hb);first | subst hb | simp only [hb]))) | (apply ar;rfl;simp only [aB,avs,tts,seval,g,Bool.not_true,Bool.not_false]<;>exact rr;first | trivial | omega) | (refine ya rfl ?_;refine yp (cb) ?_)) | refine al ?_ | refine ag ?_ | refine zr af ?_ | refine zQ 0 af mixed ?_ | refine zQ 1 af mixed ?_ | refine zQ 2 af mixed ?_ | refine zQ 3 af mixed ?_ | refine zf rfl rfl ?_ | refine zt rfl rfl ?_ | (refine an rfl rfl ?_ ?_<;>intro hb<;>((try simp only [bn] at hb);first | subst hb | simp only [hb])) | refine ap ?_ | refine au ?_ | refine am ?_)
 ·show AW _ _ _ _ _
  refine aw ⟨_,rfl,_,rfl,?_⟩
  simp [bL,eU,unI,unL]
 ·show AW _ _ _ _ _
  exact aw ⟨_,rfl,_,rfl,rfl⟩
end
end Av
end Go.Proofs.YtdekcppfpgeneaaGreatDoor
namespace Go.Proofs.YtdekcppfpgeneaaGreatDoor
open Go Go.RowKit
namespace Av
attribute [local irreducible] AW aQ aM
open Nt Rg
theorem vH {K:av} {lb n ty:Nat} {s:KSt} {cs:List AV} (h:fc K (.ms lb 0 n) s) (hb:K[lb]?=some (.box ty cs)):False:=by
 rcases h with ⟨_,h⟩ | ⟨r,e,_,h⟩
 ·cases h
 ·injection e with e1
  subst e1
  rw [h] at hb
  cases hb
theorem tF {K:av} {v:AV} {s:KSt} (h:fc K v s) {n:Nat} (hn:K.length≤n):AV.bel n v:=by
 rcases h with ⟨_,h⟩ | ⟨r,e,_,hr⟩
 ·rw [h];exact trivial
 ·rw [e];exact Nat.lt_of_lt_of_le (aF hr) hn
def DL (l:List Hd) (day:Int):AV := .tup (if br l&&eR day then [.agg [.d (aN (ay l)),kB (cV (ixS (ay l)) day l),kB (cW (ixS (ay l)) day l)],iA 0] else [.agg [bD,bD,bD],iA 1])
theorem Eo {K:av} {N:Nat} {p n:PD} {cv vv c v:AV} (h1:bL K N cv=some c) (h2:bL K N vv=some v) (m:PD) (hm:m=n:=by rfl):bL K N (.tup [.agg [.d p,cv,vv],.d m])=some (.tup [.agg [.d p,c,v],.d n]):=by
 subst hm
 simp [bL,eU,h1,h2]
section
variable (base:World)
set_option maxRecDepth 100000 in
set_option maxHeartbeats 8000000 in
theorem Ev (l:List Hd) (day:Int) (hs:∀h∈l,Small h) (hj:∀h∈l,h.joint.length≤1000) (hl:l.length≤900):aJ Tryz.prog base 21 [.d (bM l),iA day] (DL l day):=by
 have c1:=ja base l hs hj hl
 have c2:=qG base day
 have c3:=jH base l hj hl
 refine aA af Tryz.call21 Tryz.func21 rfl fun H hB hb hF => ?_
 rw [Tryz.results21,Tryz.ntmps21]
 simp only [ax,List.length_cons,List.length_nil,List.replicate,List.cons_append,List.nil_append,Nat.reduceAdd,Nat.reduceSub]
 clear hF hb
 simp only [iA,boA] at c1 c2 ⊢
 unfold DL
 obtain ⟨bv,hbv⟩:∃b,br l=b:=⟨_,rfl⟩
 obtain ⟨bd,hbd⟩:∃b,eR day=b:=⟨_,rfl⟩
 rw [hbv] at c1 ⊢
 rw [hbd] at c2 ⊢
 repeat' (first | (refine aa ?_;first | (refine zg rfl ?_;first | refine ah ?_ | refine zo ?_ | (refine zs ?_ ?_<;>intro hb<;>((try simp only [bn] at hb);first | subst hb | simp only [hb]))) | (apply ai;rfl;simp only [aj,avs,tts,seval,bY l]<;>exact rr) | (refine za rfl ?_;first | refine zp (c1) ?_ | refine zp (c2) ?_ | refine zp (c3) ?_)) | refine ae ?_ | (refine ak ?_;first | (refine yg rfl ?_;first | refine aq ?_ | refine yo ?_ | (refine ys ?_ ?_<;>intro hb<;>((try simp only [bn] at hb);first | subst hb | simp only [hb]))) | (apply ar;rfl;simp only [aB,avs,tts,seval,bY l]<;>exact rr;first | trivial | omega) | (refine ya rfl ?_;first | refine yp (c1) ?_ | refine yp (c2) ?_ | refine yp (c3) ?_)) | refine al ?_ | refine ag ?_ | refine zr af ?_ | refine zQ 0 af mixed ?_ | refine zQ 1 af mixed ?_ | refine zQ 2 af mixed ?_ | refine zQ 3 af mixed ?_ | refine zf rfl rfl ?_ | refine zt rfl rfl ?_ | (refine an rfl rfl ?_ ?_<;>intro hb<;>((try simp only [bn] at hb);first | subst hb | simp only [hb])) | refine ap ?_ | refine au ?_ | refine am ?_)
 ·show AW _ _ _ _ _
  refine aw ⟨.tup [.agg [.d (.v (.slice none 0 0)),.d (.v (.slice none 0 0)),.d (.v (.slice none 0 0))],.d (.v (.int .i64 1))],?_,_,rfl,?_⟩
  ·simp only [bj,cH,dO,avs,tts]<;>rfl
  ·simp only [Bool.and_false,Bool.false_and,Bool.false_eq_true,if_false];rfl
 ·clear c1 c2 c3
  have hln:=bY l
  obtain ⟨hall,hp60⟩:=dw hbv
  rw [iB hall]
  obtain ⟨ix,hix⟩:∃ix,ixS (ay l)=ix:=⟨_,rfl⟩
  simp only [hix]
  refine bc (fun n env K=>∃k cv vv,n=l.length - k∧k≤l.length∧jy H K (ay l) (cV ix day (l.take k)) (cW ix day (l.take k)) cv vv∧env=(.d (.sl 10 (l.map hdC)) :: .d (.v (.int .i64 day)) :: .undef :: .undef :: .ptr H.length 0 :: .d (.v (.int .i64 0)) :: .ptr (H.length+1) 0 :: .d (.v (.int .i64 (k:Int)))::List.replicate 119 .undef)) (H0:=H++[.box 25 [bD,bD,bD],.box 25 [.d (aN (ay l)),bD,bD]]) ?_ ⟨0,bD,bD,rfl,Nat.zero_le _,⟨fun i hi=>List.getElem?_append_left hi,by simp,by simp [bD],by simp,.inl ⟨rfl,rfl⟩,.inl ⟨rfl,rfl⟩,fun r n e=>by simp [bD] at e,fun r n e=>by simp [bD] at e,fun r n m e=>by simp [bD] at e⟩,rfl⟩ ?_
  ·exact ⟨by simp [aH,List.replicate,bM],.inl rfl⟩
  rintro n env K ⟨k,cv,vv,rfl,hk,hK,rfl⟩ hN
  simp only [rp]
  have hbx:=hK.box
  have hrs:=hK.res
  obtain ⟨c0,g0⟩:∃c0,decide ((k:Int)<(l.length:Int))=c0:=⟨_,rfl⟩
  cases c0 with
  | true =>
   have hlt:k<l.length:=by simpa using g0
   have hix2:(0:Int)≤(k:Int):=by omega
   have hgd:=dl hlt
   have cr:=vE base l[k] day
   obtain ⟨rb,hrb⟩:∃rb,bW l[k] day=rb:=⟨_,rfl⟩
   rw [hrb] at cr
   have w1:IntKind.i64.wrap ((k:Int)+1)=((k+1:Nat):Int):=aP hlt (by omega)
   have hstC:cV ix day (l.take (k+1))=stC ix day (cV ix day (l.take k)) l[k]:=by rw [List.take_add_one,List.getElem?_eq_getElem hlt];exact lG ..
   have hstV:cW ix day (l.take (k+1))=stV ix day (cW ix day (l.take k)) l[k]:=by rw [List.take_add_one,List.getElem?_eq_getElem hlt];exact kL ..
   unfold stC at hstC
   unfold stV at hstV
   rw [hrb] at hstC hstV
   obtain ⟨h,hh⟩:∃h,l[k]=h:=⟨_,rfl⟩
   rw [hh] at hgd cr hstC hstV
   obtain ⟨id,company,holder,nominee,pledged,joint,capital,votes,fr,til⟩:=h
   simp only [hdC] at hgd
   simp only [hdA,hdL,tA,iA,boA] at cr
   cases rb with
   | false =>
    simp only [Bool.false_eq_true,if_false] at hstC hstV
    repeat' (first | (refine aa ?_;first | (refine zg rfl ?_;first | refine ah ?_ | refine zo ?_ | (refine zs ?_ ?_<;>intro hb<;>((try simp only [bn] at hb);first | subst hb | simp only [hb]))) | (apply ai;rfl;simp only [aj,avs,tts,seval,g0,hix2,hlt,hgd,hln,w1]<;>exact rr) | (refine za rfl ?_;refine zp (cr) ?_)) | refine ae ?_ | (refine ak ?_;first | (refine yg rfl ?_;first | refine aq ?_ | refine yo ?_ | (refine ys ?_ ?_<;>intro hb<;>((try simp only [bn] at hb);first | subst hb | simp only [hb]))) | (apply ar;rfl;simp only [aB,avs,tts,seval,g0,hix2,hlt,hgd,hln,w1]<;>exact rr;first | trivial | omega) | (refine ya rfl ?_;refine yp (cr) ?_)) | refine al ?_ | refine ag ?_ | refine zr af ?_ | refine zQ 0 af mixed ?_ | refine zQ 1 af mixed ?_ | refine zQ 2 af mixed ?_ | refine zQ 3 af mixed ?_ | refine zf rfl rfl ?_ | refine zt rfl rfl ?_ | (refine an rfl rfl ?_ ?_<;>intro hb<;>((try simp only [bn] at hb);first | subst hb | simp only [hb])) | refine ap ?_ | refine au ?_ | refine am ?_)
    exact ⟨l.length - (k+1),_,_,by omega,⟨by (try simp only [rp]);(repeat (first | exact trivial | refine ⟨.inr rfl,?_⟩ | refine ⟨.inl rfl,?_⟩)),.inl rfl⟩,k+1,cv,vv,rfl,hlt,by rw [hstC,hstV];exact hK.app _,rfl⟩
   | true =>
    have hmem:=List.getElem_mem hlt
    have hprop:=hall _ hmem
    have hjl:=hj _ hmem
    have hin:=fun x=>ym (x:=x) hmem hprop
    have hpc:=cY hprop
    have cb:=C1 base l[k] hjl
    have cw:=DP base l[k] hjl
    rw [hh] at hmem hprop hjl hin hpc cb cw
    simp only [if_true] at hstC hstV
    have hpl:(ay l).length≤1000000:=by omega
    have cix:=fun x (hx:x∈ay l)=>zb base (ay l) x hx hpl
    have cic:=cix company (hin company (.inl rfl))
    rw [hix] at cic
    simp only [hdA,hdL,tA,iA,boA,aN] at cb cw cic hbx
    repeat' (first | (refine aa ?_;first | (refine zg rfl ?_;first | refine ah ?_ | refine zo ?_ | (refine zs ?_ ?_<;>intro hb<;>((try simp only [bn] at hb);first | subst hb | simp only [hb]))) | (apply ai;rfl;simp only [aj,avs,tts,seval,g0,hix2,hlt,hgd,hln]<;>exact rr) | (refine za rfl ?_;refine zp (cr) ?_)) | refine ae ?_ | (refine ak ?_;first | (refine yg rfl ?_;first | refine aq ?_ | refine yo ?_ | (refine ys ?_ ?_<;>intro hb<;>((try simp only [bn] at hb);first | subst hb | simp only [hb]))) | (apply ar;rfl;simp only [aB,avs,tts,seval,g0,hix2,hlt,hgd,hln]<;>exact rr;first | trivial | omega) | (refine ya rfl ?_;refine yp (cr) ?_)) | refine al ?_ | refine ag ?_ | refine zr af ?_ | refine zQ 0 af mixed ?_ | refine zQ 1 af mixed ?_ | refine zQ 2 af mixed ?_ | refine zQ 3 af mixed ?_ | refine zf rfl rfl ?_ | refine zt rfl rfl ?_ | (refine an rfl rfl ?_ ?_<;>intro hb<;>((try simp only [bn] at hb);first | subst hb | simp only [hb])) | refine ap ?_ | refine au ?_ | refine am ?_)
    generalize hK1:K++[aT.box _ _]=K1
    have hK2:jy H K1 (ay l) (cV ix day (l.take k)) (cW ix day (l.take k)) _ _:=hK1 ▸ hK.app _
    have hb1:=hK2.box
    have hbh:K1[K.length]?=some (.box 36 [.d (.v (.string id)),.d (.v (.string company)),.d (.v (.string holder)),.d (.v (.string nominee)),.d (.v (.string pledged)),.d (.sl 1 (joint.map fun s=>[PD.v (.string s)])),.d (.v (.int .i64 capital)),.d (.v (.int .i64 votes)),.d (.v (.int .i64 fr)),.d (.v (.int .i64 til))]):=by rw [←hK1];exact List.getElem?_concat_length
    simp only [aN] at hb1
    clear hK1
    obtain ⟨wc,hwc⟩:∃w,dK ⟨id,company,holder,nominee,pledged,joint,capital,votes,fr,til⟩=w:=⟨_,rfl⟩
    obtain ⟨wv,hwv⟩:∃w,dV ⟨id,company,holder,nominee,pledged,joint,capital,votes,fr,til⟩=w:=⟨_,rfl⟩
    have hwayC:=fun j p=>B4 hbv hj hlt hrb j p
    have hwayV:=fun j p=>Bj hbv hj hlt hrb j p
    have lenC:=(fT ((cX _).1 hprop))
    have lenV:=pf ((cX _).1 hprop)
    rw [hh,hix] at hwayC hwayV
    rw [hwc] at cb hwayC hin lenC hstC
    rw [hwv] at cw hwayV hin lenV hstV
    obtain ⟨hc0,hc1,hv0,hv1⟩:=hpc
    simp only at hc0 hc1 hv0 hv1 hstC hstV hwayC hwayV lenC hin
    have okC:=mW ix day l (fun h hh=>⟨(cY (hall h hh)).c0,(cY (hall h hh)).c1⟩) hj k hk
    have okV:=mG ix day l (fun h hh=>⟨(cY (hall h hh)).v0,(cY (hall h hh)).v1⟩) hj k hk
    have hlb:H.length+2≤K.length:=hK.len
    obtain ⟨lb,hlbe⟩:∃n,K.length=n:=⟨_,rfl⟩
    rw [hlbe] at hbh hlb ⊢
    repeat (refine aa ?_;first | (apply ai;rfl;simp only [aj,avs,tts,seval,hb1,hbh]<;>exact rr) | (refine zg rfl ?_;first | refine ah ?_ | refine zo ?_))
    refine zP rfl (cic) ?_
    repeat (refine aa ?_;first | (apply ai;rfl;simp only [aj,avs,tts,seval]<;>exact rr) | (refine zg rfl ?_;first | refine ah ?_ | refine zo ?_))
    refine ae ?_
    repeat refine ag ?_
    refine zr af ?_
    repeat (refine aa ?_;first | (apply ai;rfl;simp only [aj,avs,tts,seval,hbh]<;>exact rr) | (refine zg rfl ?_;first | refine ah ?_ | refine zo ?_))
    refine zP rfl (cb) ?_
    repeat (refine aa ?_;first | (apply ai;rfl;simp only [aj,avs,tts,seval]<;>exact rr) | (refine zg rfl ?_;first | refine ah ?_ | refine zo ?_))
    refine ae ?_
    repeat refine ag ?_
    refine zr af ?_
    repeat (refine aa ?_;first | (apply ai;rfl;simp only [aj,avs,tts,seval]<;>exact rr) | (refine zg rfl ?_;first | refine ah ?_ | refine zo ?_))
    refine ae ?_
    repeat refine ag ?_
    refine cC (Q0:=fun env K'=>∃cv',jy H K' (ay l) (cV ix day (l.take (k+1))) (cW ix day (l.take k)) cv' vv∧K'[lb]?=some (.box 36 [.d (.v (.string id)),.d (.v (.string company)),.d (.v (.string holder)),.d (.v (.string nominee)),.d (.v (.string pledged)),.d (aN joint),.d (.v (.int .i64 capital)),.d (.v (.int .i64 votes)),.d (.v (.int .i64 fr)),.d (.v (.int .i64 til))])∧env=(.d (.sl 10 (l.map hdC)) :: .d (.v (.int .i64 day)) :: .undef :: .undef :: .ptr H.length 0 :: .d (.v (.int .i64 0)) :: .ptr (H.length+1) 0 :: .d (.v (.int .i64 (k:Int))) :: .ptr lb 0 :: .d (.v (.int .i64 (ix company)))::List.replicate 117 .undef)) ?_ ?_
    ·refine am (bc (fun n env K'=>∃j cv',n=wc.length - j∧j≤wc.length∧jy H K' (ay l) ((wc.take j).foldl (bK ix company capital wc.length) (cV ix day (l.take k))) (cW ix day (l.take k)) cv' vv∧K'[lb]?=some (.box 36 [.d (.v (.string id)),.d (.v (.string company)),.d (.v (.string holder)),.d (.v (.string nominee)),.d (.v (.string pledged)),.d (aN joint),.d (.v (.int .i64 capital)),.d (.v (.int .i64 votes)),.d (.v (.int .i64 fr)),.d (.v (.int .i64 til))])∧env=(.d (.sl 10 (l.map hdC)) :: .d (.v (.int .i64 day)) :: .undef :: .undef :: .ptr H.length 0 :: .d (.v (.int .i64 0)) :: .ptr (H.length+1) 0 :: .d (.v (.int .i64 (k:Int))) :: .ptr lb 0 :: .d (.v (.int .i64 (ix company))) :: .d (aN wc) :: .d (.v (.int .i64 (j:Int)))::List.replicate 115 .undef)) (H0:=K1) ?_ ⟨0,_,rfl,Nat.zero_le _,hK2,hbh,rfl⟩ ?_)
     ·exact ⟨by (try simp only [rp]);(repeat (first | exact trivial | refine ⟨.inr rfl,?_⟩ | refine ⟨.inl rfl,?_⟩)),.inl rfl⟩
     rintro n env K3 ⟨j,cv3,rfl,hj3,hA,hB,rfl⟩ hN3
     simp only [rp]
     simp only [aN] at hB ⊢
     have lw:(wc.map fun s=>[PD.v (.string s)]).length=wc.length:=by simp
     obtain ⟨d0,f0⟩:∃c,decide ((j:Int)<(wc.length:Int))=c:=⟨_,rfl⟩
     obtain ⟨d1,f1⟩:∃c,decide (capital>0)=c:=⟨_,rfl⟩
     have hexit:d0=false∨d1=false→((wc.take j).foldl (bK ix company capital wc.length) (cV ix day (l.take k)))=cV ix day (l.take (k+1)):=fun hd=>by
      rw [hstC]
      rcases hd with rfl | rfl
      ·have:¬j<wc.length:=by simpa using f0
       rw [show wc.take j=wc from List.take_of_length_le (by omega)];rfl
      ·have hnp:¬capital>0:=of_decide_eq_false f1
       unfold eK
       rw [gr hnp,gr hnp]
     cases d0 with
     | false =>
      rw [hexit (.inl rfl)] at hA
      repeat' (first | (refine aa ?_;first | (refine zg rfl ?_;first | refine ah ?_ | refine zo ?_ | (refine zs ?_ ?_<;>intro hb<;>((try simp only [bn] at hb);first | subst hb | simp only [hb]))) | (apply ai;rfl;simp only [aj,avs,tts,seval,f0,lw,w1]<;>exact rr)) | refine ae ?_ | (refine ak ?_;first | (refine yg rfl ?_;first | refine aq ?_ | refine yo ?_ | (refine ys ?_ ?_<;>intro hb<;>((try simp only [bn] at hb);first | subst hb | simp only [hb]))) | (apply ar;rfl;simp only [aB,avs,tts,seval,f0,lw,w1]<;>exact rr;first | trivial | omega)) | refine al ?_ | refine ag ?_ | refine zr af ?_ | refine zQ 0 af mixed ?_ | refine zQ 1 af mixed ?_ | refine zQ 2 af mixed ?_ | refine zQ 3 af mixed ?_ | refine zf rfl rfl ?_ | refine zt rfl rfl ?_ | (refine an rfl rfl ?_ ?_<;>intro hb<;>((try simp only [bn] at hb);first | subst hb | simp only [hb])) | refine ap ?_ | refine au ?_ | refine am ?_)
      refine ⟨rfl,(.d (.sl 10 (l.map hdC)) :: .d (.v (.int .i64 day)) :: .undef :: .undef :: .ptr H.length 0 :: .d (.v (.int .i64 0)) :: .ptr (H.length+1) 0 :: .d (.v (.int .i64 (k:Int))) :: .ptr lb 0 :: .d (.v (.int .i64 (ix company)))::List.replicate 117 .undef),_,⟨?_,.inl rfl⟩,cv3,hA,hB,rfl⟩
      (try simp only [rp]);(repeat (first | exact trivial | refine ⟨.inr rfl,?_⟩ | refine ⟨.inl rfl,?_⟩))
     | true =>
     cases d1 with
     | false =>
      rw [hexit (.inr rfl)] at hA
      repeat' (first | (refine aa ?_;first | (refine zg rfl ?_;first | refine ah ?_ | refine zo ?_ | (refine zs ?_ ?_<;>intro hb<;>((try simp only [bn] at hb);first | subst hb | simp only [hb]))) | (apply ai;rfl;simp only [aj,avs,tts,seval,f0,f1,lw,hB,w1]<;>exact rr)) | refine ae ?_ | (refine ak ?_;first | (refine yg rfl ?_;first | refine aq ?_ | refine yo ?_ | (refine ys ?_ ?_<;>intro hb<;>((try simp only [bn] at hb);first | subst hb | simp only [hb]))) | (apply ar;rfl;simp only [aB,avs,tts,seval,f0,f1,lw,hB,w1]<;>exact rr;first | trivial | omega)) | refine al ?_ | refine ag ?_ | refine zr af ?_ | refine zQ 0 af mixed ?_ | refine zQ 1 af mixed ?_ | refine zQ 2 af mixed ?_ | refine zQ 3 af mixed ?_ | refine zf rfl rfl ?_ | refine zt rfl rfl ?_ | (refine an rfl rfl ?_ ?_<;>intro hb<;>((try simp only [bn] at hb);first | subst hb | simp only [hb])) | refine ap ?_ | refine au ?_ | refine am ?_)
      refine ⟨rfl,(.d (.sl 10 (l.map hdC)) :: .d (.v (.int .i64 day)) :: .undef :: .undef :: .ptr H.length 0 :: .d (.v (.int .i64 0)) :: .ptr (H.length+1) 0 :: .d (.v (.int .i64 (k:Int))) :: .ptr lb 0 :: .d (.v (.int .i64 (ix company)))::List.replicate 117 .undef),_,⟨?_,.inl rfl⟩,cv3,hA,hB,rfl⟩
      (try simp only [rp]);(repeat (first | exact trivial | refine ⟨.inr rfl,?_⟩ | refine ⟨.inl rfl,?_⟩))
     | true =>
     clear hexit
     have hjl:j<wc.length:=by simpa using f0
     have hjx:(0:Int)≤(j:Int):=by omega
     have hgw:(wc.map fun s=>[PD.v (.string s)]).getD j []=[PD.v (.string wc[j])]:=bP hjl
     have hxw:=List.getElem_mem hjl
     have hxin:=hin wc[j] (.inr (.inl hxw))
     have cxj:=cix wc[j] hxin
     rw [hix] at cxj
     have hpos:capital>0:=of_decide_eq_true f1
     have cpt:=vF base hc0 hc1 (n:=wc.length) (lenC.2.1) (lenC.2.2)
     have hqq:=qH hc0 hc1 (n:=wc.length) (lenC.2.1) (lenC.2.2)
     have w100:IntKind.i64.wrap (100 * (wc.length:Int))=((100 * wc.length:Nat):Int):=by rw [IntKind.wrap_i64];omega
     have wj:IntKind.i64.wrap ((j:Int)+1)=((j+1:Nat):Int):=aP hjl (by omega)
     have hval:=hwayC j (ix company,ix wc[j])
     have hok:=ew (ix:=ix) (company:=company) hc0 hc1 (n:=wc.length) (wc.take j) (.inl (by omega)) okC.1
     have hfl:=nZ ix company capital wc.length (wc.take j) (cV ix day (l.take k))
     have hnew:=pR (ix:=ix) (company:=company) (pc:=capital) (n:=wc.length) (s:=cV ix day (l.take k)) hjl
     obtain ⟨sj,hsj⟩:∃s,((wc.take j).foldl (bK ix company capital wc.length) (cV ix day (l.take k)))=s:=⟨_,rfl⟩
     rw [hsj] at hA hval hok hfl hnew
     obtain ⟨x,hx⟩:∃x,wc[j]=x:=⟨_,rfl⟩
     rw [hx] at hgw hxin cxj hval hnew hxw
     have hone:AV.one cv3=true:=tE hA.cap
     have hbx3:=hA.box
     have hl3:=hA.len
     simp only [aN] at hbx3
     have lt1:=aF hbx3
     have lt2:=aF hB
     have got1:=fun G=>got hbx3 G
     have got2:=fun G=>got hB G
     repeat refine ag ?_
     refine zr af ?_
     repeat (refine aa ?_;first | (apply ai;rfl;simp only [aj,avs,tts,seval,f0,f1,lw,hB]<;>exact rr) | (refine zg rfl ?_;first | refine ah ?_ | refine zo ?_))
     refine ae ?_
     repeat refine ag ?_
     refine an rfl rfl (fun hb => ?_) fun hb => ?_
     ·refine ap ?_
      repeat refine ag ?_
      refine am ?_
      obtain ⟨q,hq⟩:∃q,((capital * 60).tdiv wc.length).toNat=q:=⟨_,rfl⟩
      rw [hq] at cpt hqq
      have hadd:=fun G=>zl base sj hok (by rw [(Rg.sortK_perm sj.1).length_eq];rw [List.length_take] at hfl;omega) (ix company) (ix x) q hqq.2.1 hval (H:=K3++G) (v:=cv3) (ej hA.cap fun r n e=>List.getElem?_append_left (fI hA.cap e))
      obtain ⟨pr,hpr⟩:∃p,dg q=p:=⟨_,rfl⟩
      rw [hpr] at cpt hadd
      obtain ⟨pa,pb,pd⟩:=pr
      simp only [cP,tA,iA,aN] at cpt hadd cxj
      repeat refine ag ?_
      refine zr af ?_
      repeat (refine aa ?_;first | (apply ai;rfl;simp only [aj,avs,tts,seval,hB,lw,w100]<;>exact rr) | (refine zg rfl ?_;first | refine ah ?_ | refine zo ?_))
      refine zP rfl (cpt) ?_
      repeat (refine aa ?_;first | (apply ai;rfl;simp only [aj,avs,tts,seval]<;>exact rr) | (refine zg rfl ?_;first | refine ah ?_ | refine zo ?_))
      refine ae ?_
      have hxc:x≠company:=fun e=>lenC.1 (e ▸ hxw)
      have hst:=rS (ix:=ix) (pc:=capital) (n:=wc.length) (s:=sj) ⟨hpos,hxc⟩
      rw [←hqq.2.2] at hst
      have hbl:AV.bel (List.length K3+1) cv3:=tF hA.cap (by omega)
      rw [AV.bel.eq_def] at hbl
      repeat refine ag ?_
      refine zw 11 af mixed ?_
      repeat (refine ak ?_;first | (apply ar;rfl;simp only [aB,avs,tts,seval,got1,got2,lw,hjx,hjl,hgw,hone]<;>exact rr;first | trivial | omega) | (refine yg rfl ?_;first | refine aq ?_ | refine yo ?_))
      refine yP rfl (cxj) ?_
      repeat (refine ak ?_;first | (apply ar;rfl;simp only [aB,avs,tts,seval,got1,got2,hone]<;>exact rr;first | trivial | omega) | (refine yg rfl ?_;first | refine aq ?_ | refine yo ?_))
      refine al ?_
      refine bQ rfl (by simp only [avs]<;>rfl) (⟨_,hadd _,?_⟩)
      rintro r1 K4 ⟨r',rfl,e2,e3,e4⟩ hle
      have b1:K4[H.length+1]?=_:=(e4 (H.length+1) (by simp;omega) fun n e=>by have:=hA.ce _ _ e;omega).trans (got1 _)
      have b2:K4[lb]?=_:=(e4 lb (by simp;omega) fun n e=>by have hc:=hA.cap;rw [e] at hc;exact vH hc hB).trans (got2 _)
      have hAn:=(hA.app _).capS ⟨r',rfl,e2,e3,e4⟩ hle hst.2
      have he:=hnew.trans hst.1
      have hBn:∀B,(K4.set (H.length+1) B)[lb]?=_:=fun B=>(List.getElem?_set_ne (by omega)).trans b2
      simp only [aN] at hAn
      repeat (refine aa ?_;first | (apply ai;rfl;simp only [aj,avs,tts,seval,b1]<;>exact rr) | (refine zg rfl ?_;first | refine ah ?_ | refine zo ?_))
      refine ae ?_
      repeat' (first | (refine aa ?_;first | (refine zg rfl ?_;first | refine ah ?_ | refine zo ?_ | (refine zs ?_ ?_<;>intro hb<;>((try simp only [bn] at hb);first | subst hb | simp only [hb]))) | (apply ai;rfl;simp only [aj,avs,tts,seval,wj]<;>exact rr)) | refine ae ?_ | (refine ak ?_;first | (refine yg rfl ?_;first | refine aq ?_ | refine yo ?_ | (refine ys ?_ ?_<;>intro hb<;>((try simp only [bn] at hb);first | subst hb | simp only [hb]))) | (apply ar;rfl;simp only [aB,avs,tts,seval,wj]<;>exact rr;first | trivial | omega)) | refine al ?_ | refine ag ?_ | refine zr af ?_ | refine zQ 0 af mixed ?_ | refine zQ 1 af mixed ?_ | refine zQ 2 af mixed ?_ | refine zQ 3 af mixed ?_ | refine zf rfl rfl ?_ | refine zt rfl rfl ?_ | (refine an rfl rfl ?_ ?_<;>intro hb<;>((try simp only [bn] at hb);first | subst hb | simp only [hb])) | refine ap ?_ | refine au ?_ | refine am ?_)
      exact ⟨wc.length - (j+1),_,_,by omega,⟨by (try simp only [rp]);(repeat (first | exact trivial | refine ⟨.inr rfl,?_⟩ | refine ⟨.inl rfl,?_⟩)),.inl rfl⟩,j+1,_,rfl,hjl,by rw [he];exact hAn,hBn _,rfl⟩
     ·cases hb
    rintro env2 K2 ⟨cvn,hA2,hB2,rfl⟩
    simp only [rp]
    have hB2':=hB2
    simp only [aN] at hB2'
    repeat refine ag ?_
    refine zr af ?_
    repeat (refine aa ?_;first | (apply ai;rfl;simp only [aj,avs,tts,seval,hB2']<;>exact rr) | (refine zg rfl ?_;first | refine ah ?_ | refine zo ?_))
    refine zP rfl (cw) ?_
    repeat (refine aa ?_;first | (apply ai;rfl;simp only [aj,avs,tts,seval]<;>exact rr) | (refine zg rfl ?_;first | refine ah ?_ | refine zo ?_))
    refine ae ?_
    repeat refine ag ?_
    refine zr af ?_
    repeat (refine aa ?_;first | (apply ai;rfl;simp only [aj,avs,tts,seval]<;>exact rr) | (refine zg rfl ?_;first | refine ah ?_ | refine zo ?_))
    refine ae ?_
    repeat refine ag ?_
    refine am (bc (fun n env K'=>∃j cv',n=wv.length - j∧j≤wv.length∧jy H K' (ay l) (cV ix day (l.take (k+1))) ((wv.take j).foldl (bK ix company votes wv.length) (cW ix day (l.take k))) cvn cv'∧K'[lb]?=some (.box 36 [.d (.v (.string id)),.d (.v (.string company)),.d (.v (.string holder)),.d (.v (.string nominee)),.d (.v (.string pledged)),.d (aN joint),.d (.v (.int .i64 capital)),.d (.v (.int .i64 votes)),.d (.v (.int .i64 fr)),.d (.v (.int .i64 til))])∧env=(.d (.sl 10 (l.map hdC)) :: .d (.v (.int .i64 day)) :: .undef :: .undef :: .ptr H.length 0 :: .d (.v (.int .i64 0)) :: .ptr (H.length+1) 0 :: .d (.v (.int .i64 (k:Int))) :: .ptr lb 0 :: .d (.v (.int .i64 (ix company))) :: .undef :: .undef :: .undef :: .undef :: .d (aN wv) :: .d (.v (.int .i64 (j:Int)))::List.replicate 111 .undef)) (H0:=K2) ?_ ⟨0,_,rfl,Nat.zero_le _,hA2,hB2,rfl⟩ ?_)
    ·exact ⟨by (try simp only [rp]);(repeat (first | exact trivial | refine ⟨.inr rfl,?_⟩ | refine ⟨.inl rfl,?_⟩)),.inl rfl⟩
    rintro n env K3 ⟨j,cv3,rfl,hj3,hA,hB,rfl⟩ hN3
    simp only [rp]
    simp only [aN] at hB ⊢
    have lw:(wv.map fun s=>[PD.v (.string s)]).length=wv.length:=by simp
    obtain ⟨d0,f0⟩:∃c,decide ((j:Int)<(wv.length:Int))=c:=⟨_,rfl⟩
    obtain ⟨d1,f1⟩:∃c,decide (votes>0)=c:=⟨_,rfl⟩
    have hexit:d0=false∨d1=false→((wv.take j).foldl (bK ix company votes wv.length) (cW ix day (l.take k)))=cW ix day (l.take (k+1)):=fun hd=>by
     rw [hstV]
     rcases hd with rfl | rfl
     ·have:¬j<wv.length:=by simpa using f0
      rw [show wv.take j=wv from List.take_of_length_le (by omega)];rfl
     ·have hnp:¬votes>0:=of_decide_eq_false f1
      unfold eK
      rw [gr hnp,gr hnp]
    cases d0 with
    | false =>
     rw [hexit (.inl rfl)] at hA
     repeat' (first | (refine aa ?_;first | (refine zg rfl ?_;first | refine ah ?_ | refine zo ?_ | (refine zs ?_ ?_<;>intro hb<;>((try simp only [bn] at hb);first | subst hb | simp only [hb]))) | (apply ai;rfl;simp only [aj,avs,tts,seval,f0,lw,w1]<;>exact rr)) | refine ae ?_ | (refine ak ?_;first | (refine yg rfl ?_;first | refine aq ?_ | refine yo ?_ | (refine ys ?_ ?_<;>intro hb<;>((try simp only [bn] at hb);first | subst hb | simp only [hb]))) | (apply ar;rfl;simp only [aB,avs,tts,seval,f0,lw,w1]<;>exact rr;first | trivial | omega)) | refine al ?_ | refine ag ?_ | refine zr af ?_ | refine zQ 0 af mixed ?_ | refine zQ 1 af mixed ?_ | refine zQ 2 af mixed ?_ | refine zQ 3 af mixed ?_ | refine zf rfl rfl ?_ | refine zt rfl rfl ?_ | (refine an rfl rfl ?_ ?_<;>intro hb<;>((try simp only [bn] at hb);first | subst hb | simp only [hb])) | refine ap ?_ | refine au ?_ | refine am ?_)
     exact ⟨l.length - (k+1),_,_,by omega,⟨by (try simp only [rp]);(repeat (first | exact trivial | refine ⟨.inr rfl,?_⟩ | refine ⟨.inl rfl,?_⟩)),.inl rfl⟩,k+1,cvn,cv3,rfl,hlt,hA,rfl⟩
    | true =>
    cases d1 with
    | false =>
     rw [hexit (.inr rfl)] at hA
     repeat' (first | (refine aa ?_;first | (refine zg rfl ?_;first | refine ah ?_ | refine zo ?_ | (refine zs ?_ ?_<;>intro hb<;>((try simp only [bn] at hb);first | subst hb | simp only [hb]))) | (apply ai;rfl;simp only [aj,avs,tts,seval,f0,f1,lw,hB,w1]<;>exact rr)) | refine ae ?_ | (refine ak ?_;first | (refine yg rfl ?_;first | refine aq ?_ | refine yo ?_ | (refine ys ?_ ?_<;>intro hb<;>((try simp only [bn] at hb);first | subst hb | simp only [hb]))) | (apply ar;rfl;simp only [aB,avs,tts,seval,f0,f1,lw,hB,w1]<;>exact rr;first | trivial | omega)) | refine al ?_ | refine ag ?_ | refine zr af ?_ | refine zQ 0 af mixed ?_ | refine zQ 1 af mixed ?_ | refine zQ 2 af mixed ?_ | refine zQ 3 af mixed ?_ | refine zf rfl rfl ?_ | refine zt rfl rfl ?_ | (refine an rfl rfl ?_ ?_<;>intro hb<;>((try simp only [bn] at hb);first | subst hb | simp only [hb])) | refine ap ?_ | refine au ?_ | refine am ?_)
     exact ⟨l.length - (k+1),_,_,by omega,⟨by (try simp only [rp]);(repeat (first | exact trivial | refine ⟨.inr rfl,?_⟩ | refine ⟨.inl rfl,?_⟩)),.inl rfl⟩,k+1,cvn,cv3,rfl,hlt,hA,rfl⟩
    | true =>
    clear hexit
    have hjl:j<wv.length:=by simpa using f0
    have hjx:(0:Int)≤(j:Int):=by omega
    have hgw:(wv.map fun s=>[PD.v (.string s)]).getD j []=[PD.v (.string wv[j])]:=bP hjl
    have hxw:=List.getElem_mem hjl
    have hxin:=hin wv[j] (.inr (.inr hxw))
    have cxj:=cix wv[j] hxin
    rw [hix] at cxj
    have hpos:votes>0:=of_decide_eq_true f1
    have cpt:=vF base hv0 hv1 (n:=wv.length) (lenV.1) (lenV.2)
    have hqq:=qH hv0 hv1 (n:=wv.length) (lenV.1) (lenV.2)
    have w100:IntKind.i64.wrap (100 * (wv.length:Int))=((100 * wv.length:Nat):Int):=by rw [IntKind.wrap_i64];omega
    have wj:IntKind.i64.wrap ((j:Int)+1)=((j+1:Nat):Int):=aP hjl (by omega)
    have hval:=hwayV j (ix company,ix wv[j])
    have hok:=ew (ix:=ix) (company:=company) hv0 hv1 (n:=wv.length) (wv.take j) (.inl (by omega)) okV.1
    have hfl:=nZ ix company votes wv.length (wv.take j) (cW ix day (l.take k))
    have hnew:=pR (ix:=ix) (company:=company) (pc:=votes) (n:=wv.length) (s:=cW ix day (l.take k)) hjl
    obtain ⟨sj,hsj⟩:∃s,((wv.take j).foldl (bK ix company votes wv.length) (cW ix day (l.take k)))=s:=⟨_,rfl⟩
    rw [hsj] at hA hval hok hfl hnew
    obtain ⟨x,hx⟩:∃x,wv[j]=x:=⟨_,rfl⟩
    rw [hx] at hgw hxin cxj hval hnew hxw
    have hone:AV.one cv3=true:=tE hA.vot
    have hbx3:=hA.box
    have hl3:=hA.len
    simp only [aN] at hbx3
    have lt1:=aF hbx3
    have lt2:=aF hB
    have got1:=fun G=>got hbx3 G
    have got2:=fun G=>got hB G
    repeat refine ag ?_
    refine zr af ?_
    repeat (refine aa ?_;first | (apply ai;rfl;simp only [aj,avs,tts,seval,f0,f1,lw,hB]<;>exact rr) | (refine zg rfl ?_;first | refine ah ?_ | refine zo ?_))
    refine ae ?_
    repeat refine ag ?_
    refine an rfl rfl (fun hb => ?_) fun hb => ?_
    ·refine ap ?_
     repeat refine ag ?_
     refine am ?_
     obtain ⟨q,hq⟩:∃q,((votes * 60).tdiv wv.length).toNat=q:=⟨_,rfl⟩
     rw [hq] at cpt hqq
     have hadd:=fun G=>zl base sj hok (by rw [(Rg.sortK_perm sj.1).length_eq];rw [List.length_take] at hfl;omega) (ix company) (ix x) q hqq.2.1 hval (H:=K3++G) (v:=cv3) (ej hA.vot fun r n e=>List.getElem?_append_left (fI hA.vot e))
     obtain ⟨pr,hpr⟩:∃p,dg q=p:=⟨_,rfl⟩
     rw [hpr] at cpt hadd
     obtain ⟨pa,pb,pd⟩:=pr
     simp only [cP,tA,iA,aN] at cpt hadd cxj
     repeat refine ag ?_
     refine zr af ?_
     repeat (refine aa ?_;first | (apply ai;rfl;simp only [aj,avs,tts,seval,hB,lw,w100]<;>exact rr) | (refine zg rfl ?_;first | refine ah ?_ | refine zo ?_))
     refine zP rfl (cpt) ?_
     repeat (refine aa ?_;first | (apply ai;rfl;simp only [aj,avs,tts,seval]<;>exact rr) | (refine zg rfl ?_;first | refine ah ?_ | refine zo ?_))
     refine ae ?_
     obtain ⟨dm,fm⟩:∃c,decide (x=company)=c:=⟨_,rfl⟩
     repeat refine ag ?_
     refine zw 7 af mixed ?_
     repeat (refine ak ?_;first | (apply ar;rfl;simp only [aB,avs,tts,seval,got2,lw,hjx,hjl,hgw,fm]<;>exact rr;first | trivial | omega) | (refine yg rfl ?_;first | refine aq ?_ | refine yo ?_))
     refine al ?_
     repeat (refine aa ?_;first | (apply ai;rfl;simp only [aj,avs,tts,seval,got2,lw,hjx,hjl,hgw,fm]<;>exact rr) | (refine zg rfl ?_;first | refine ah ?_ | refine zo ?_))
     refine ae ?_
     cases dm with
     | true =>
      have hsame:((wv.take (j+1)).foldl (bK ix company votes wv.length) (cW ix day (l.take k)))=sj:=by rw [hnew];exact if_neg fun h=>h.2 (of_decide_eq_true fm)
      repeat' (first | (refine aa ?_;first | (refine zg rfl ?_;first | refine ah ?_ | refine zo ?_ | (refine zs ?_ ?_<;>intro hb<;>((try simp only [bn] at hb);first | subst hb | simp only [hb]))) | (apply ai;rfl;simp only [aj,avs,tts,seval,wj,Bool.not_true]<;>exact rr)) | refine ae ?_ | (refine ak ?_;first | (refine yg rfl ?_;first | refine aq ?_ | refine yo ?_ | (refine ys ?_ ?_<;>intro hb<;>((try simp only [bn] at hb);first | subst hb | simp only [hb]))) | (apply ar;rfl;simp only [aB,avs,tts,seval,wj,Bool.not_true]<;>exact rr;first | trivial | omega)) | refine al ?_ | refine ag ?_ | refine zr af ?_ | refine zQ 0 af mixed ?_ | refine zQ 1 af mixed ?_ | refine zQ 2 af mixed ?_ | refine zQ 3 af mixed ?_ | refine zf rfl rfl ?_ | refine zt rfl rfl ?_ | (refine an rfl rfl ?_ ?_<;>intro hb<;>((try simp only [bn] at hb);first | subst hb | simp only [hb])) | refine ap ?_ | refine au ?_ | refine am ?_)
      exact ⟨wv.length - (j+1),_,_,by omega,⟨by (try simp only [rp]);(repeat (first | exact trivial | refine ⟨.inr rfl,?_⟩ | refine ⟨.inl rfl,?_⟩)),.inl rfl⟩,j+1,cv3,rfl,hjl,by rw [hsame];exact hA.app _,got2 _,rfl⟩
     | false =>
      have hxc:x≠company:=of_decide_eq_false fm
      repeat refine ag ?_
      refine an rfl rfl (fun hb => ?_) fun hb => ?_
      rotate_left
      ·cases hb
      have hst:=rS (ix:=ix) (pc:=votes) (n:=wv.length) (s:=sj) ⟨hpos,hxc⟩
      rw [←hqq.2.2] at hst
      have hbl:AV.bel (List.length K3+1) cv3:=tF hA.vot (by omega)
      rw [AV.bel.eq_def] at hbl
      repeat refine ag ?_
      refine zw 11 af mixed ?_
      repeat (refine ak ?_;first | (apply ar;rfl;simp only [aB,avs,tts,seval,got1,got2,lw,hjx,hjl,hgw,hone]<;>exact rr;first | trivial | omega) | (refine yg rfl ?_;first | refine aq ?_ | refine yo ?_))
      refine yP rfl (cxj) ?_
      repeat (refine ak ?_;first | (apply ar;rfl;simp only [aB,avs,tts,seval,got1,got2,hone]<;>exact rr;first | trivial | omega) | (refine yg rfl ?_;first | refine aq ?_ | refine yo ?_))
      refine al ?_
      refine bQ rfl (by simp only [avs]<;>rfl) (⟨_,hadd _,?_⟩)
      rintro r1 K4 ⟨r',rfl,e2,e3,e4⟩ hle
      have b1:K4[H.length+1]?=_:=(e4 (H.length+1) (by simp;omega) fun n e=>by have:=hA.ve _ _ e;omega).trans (got1 _)
      have b2:K4[lb]?=_:=(e4 lb (by simp;omega) fun n e=>by have hc:=hA.vot;rw [e] at hc;exact vH hc hB).trans (got2 _)
      have hAn:=(hA.app _).votS ⟨r',rfl,e2,e3,e4⟩ hle hst.2
      have he:=hnew.trans hst.1
      have hBn:∀B,(K4.set (H.length+1) B)[lb]?=_:=fun B=>(List.getElem?_set_ne (by omega)).trans b2
      simp only [aN] at hAn
      repeat (refine aa ?_;first | (apply ai;rfl;simp only [aj,avs,tts,seval,b1]<;>exact rr) | (refine zg rfl ?_;first | refine ah ?_ | refine zo ?_))
      refine ae ?_
      repeat' (first | (refine aa ?_;first | (refine zg rfl ?_;first | refine ah ?_ | refine zo ?_ | (refine zs ?_ ?_<;>intro hb<;>((try simp only [bn] at hb);first | subst hb | simp only [hb]))) | (apply ai;rfl;simp only [aj,avs,tts,seval,wj]<;>exact rr)) | refine ae ?_ | (refine ak ?_;first | (refine yg rfl ?_;first | refine aq ?_ | refine yo ?_ | (refine ys ?_ ?_<;>intro hb<;>((try simp only [bn] at hb);first | subst hb | simp only [hb]))) | (apply ar;rfl;simp only [aB,avs,tts,seval,wj]<;>exact rr;first | trivial | omega)) | refine al ?_ | refine ag ?_ | refine zr af ?_ | refine zQ 0 af mixed ?_ | refine zQ 1 af mixed ?_ | refine zQ 2 af mixed ?_ | refine zQ 3 af mixed ?_ | refine zf rfl rfl ?_ | refine zt rfl rfl ?_ | (refine an rfl rfl ?_ ?_<;>intro hb<;>((try simp only [bn] at hb);first | subst hb | simp only [hb])) | refine ap ?_ | refine au ?_ | refine am ?_)
      exact ⟨wv.length - (j+1),_,_,by omega,⟨by (try simp only [rp]);(repeat (first | exact trivial | refine ⟨.inr rfl,?_⟩ | refine ⟨.inl rfl,?_⟩)),.inl rfl⟩,j+1,_,rfl,hjl,by rw [he];exact hAn,hBn _,rfl⟩
    ·cases hb
  | false =>
   have hka:k=l.length:=by
                  have:¬k<l.length:=by simpa using g0
                  omega
   subst hka
   rw [List.take_length] at hK
   obtain ⟨E,hE⟩:=hK.heap
   have hKl:H.length<K.length:=by have:=hK.len;omega
   have hc:=hK.cap
   have hv:=hK.vot
   have hce:=hK.ce
   have hve:=hK.ve
   have z1:∀B,bL (K.set H.length B) H.length cv=some (kB (cV ix day l)):=fun B=>qb _ (ej hc fun r n e=>List.getElem?_set_ne (by have:=hce r n e;omega)) fun r n e=>by have:=hce r n e;omega
   have z2:∀B,bL (K.set H.length B) H.length vv=some (kB (cW ix day l)):=fun B=>qb _ (ej hv fun r n e=>List.getElem?_set_ne (by have:=hve r n e;omega)) fun r n e=>by have:=hve r n e;omega
   have z3:∀B,K.set H.length B=H++E.set 0 B:=fun B=>by rw [hE,List.set_append_right _ _ (Nat.le_refl _),Nat.sub_self]
   have z4:∀B,(K.set H.length B)[H.length]?=some B:=fun B=>aG hKl
   simp only [aN] at hbx
   rcases hc with ⟨a1,rfl⟩ | ⟨r1,rfl,a1,b1⟩<;>rcases hv with ⟨a2,rfl⟩ | ⟨r2,rfl,a2,b2⟩
   repeat' (first | (refine aa ?_;first | (refine zg rfl ?_;first | refine ah ?_ | refine zo ?_ | (refine zs ?_ ?_<;>intro hb<;>((try simp only [bn] at hb);first | subst hb | simp only [hb]))) | (apply ai;rfl;simp only [aj,avs,tts,seval,g0,hln,hbx,hrs]<;>exact rr)) | refine ae ?_ | (refine ak ?_;first | (refine yg rfl ?_;first | refine aq ?_ | refine yo ?_ | (refine ys ?_ ?_<;>intro hb<;>((try simp only [bn] at hb);first | subst hb | simp only [hb]))) | (apply ar;rfl;simp only [aB,avs,tts,seval,g0,hln,hbx,hrs]<;>exact rr;first | trivial | omega)) | refine al ?_ | refine ag ?_ | refine zr af ?_ | refine zQ 0 af mixed ?_ | refine zQ 1 af mixed ?_ | refine zQ 2 af mixed ?_ | refine zQ 3 af mixed ?_ | refine zf rfl rfl ?_ | refine zt rfl rfl ?_ | (refine an rfl rfl ?_ ?_<;>intro hb<;>((try simp only [bn] at hb);first | subst hb | simp only [hb])) | refine ap ?_ | refine au ?_ | refine am ?_)
   all_goals (show AW _ _ _ _ _)
   all_goals (refine aw ⟨_,(by simp only [bj,cH,dO,avs,tts,z4]<;>rfl),_,z3 _,?_⟩)
   all_goals (simp only [Bool.and_true,if_true];exact Eo (z1 _) (z2 _) _)
 ·show AW _ _ _ _ _
  refine aw ⟨.tup [.agg [.d (.v (.slice none 0 0)),.d (.v (.slice none 0 0)),.d (.v (.slice none 0 0))],.d (.v (.int .i64 1))],?_,_,rfl,?_⟩
  ·simp only [bj,cH,dO,avs,tts]<;>rfl
  ·simp only [Bool.and_false,Bool.false_and,Bool.false_eq_true,if_false];rfl
end
end Av
end Go.Proofs.YtdekcppfpgeneaaGreatDoor
namespace Go.Proofs.YtdekcppfpgeneaaGreatDoor
open Go Go.RowKit
namespace Av
open Nt Rg
def HdIn (w:World) (v:Value) (x:Hd):Prop:=Rep (fW w) (hdA x) v
set_option maxRecDepth 100000 in
theorem open_hd {H:Type} {enc:TypeId × Value→H} {w:World} {b0:Nat} {v:Value} {d:DataW H} {p:List MemPlace} (hv:Value.okWide Tryz.prog w .any b0 36 v) (h:DataW.Trod enc Tryz.prog w 0 (fun _=>true) true 36 v d p) :
  ∃x,HdIn w v x:=by
 obtain ⟨cs,rfl,_⟩:=Go.WideShapes.okWide_struct Tryz.underlying36 hv
 obtain ⟨n,hn⟩:=h
 obtain ⟨ps,h1,h2⟩:=mO (s:=fW w) rfl (pw w) n 6 36 _ _ Dj (by kernel_rfl) hn
 obtain ⟨x,rfl⟩:=ww h1
 refine ⟨x,?_⟩
 simp only [HdIn,hdA,Rep]
 exact ⟨cs,rfl,by simpa [dL,Value.cells,hdC,hdL,tA,iA] using h2⟩
end Av
end Go.Proofs.YtdekcppfpgeneaaGreatDoor
