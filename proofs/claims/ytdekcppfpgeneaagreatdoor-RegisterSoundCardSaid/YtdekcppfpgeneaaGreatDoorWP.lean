import Derived.Test.YtdekcppfpgeneaaGreatDoorW5
import Derived.Test.YtdekcppfpgeneaaGreatDoorW2
import Derived.Test.YtdekcppfpgeneaaGreatDoorW3
set_option linter.unusedVariables false
set_option linter.unusedSimpArgs false
namespace Go.Proofs.YtdekcppfpgeneaaGreatDoor
open Go Go.RowKit
namespace Rg
open Av Nt
theorem wk {t:ByteArray} (h:bL t=true):t.size≤9223372036854775807:=by
 unfold bL at h
 simp only [Bool.and_eq_true,decide_eq_true_eq] at h
 omega
theorem o0 {n:Nat} {s:KSt} (h:lZ n s):∀x∈jr s,x.part.num.size≤9223372036854775807∧x.part.den.size≤9223372036854775807:=fun x hx=>by
 unfold jr at hx
 obtain ⟨k,hk,rfl⟩:=List.mem_map.1 hx
 have h1:=fR.1 hk
 have h2:=mF h h1
 have h3:=h.pos k h1
 obtain ⟨m,hm⟩:∃m:Nat,s.2 k=m:=⟨(s.2 k).toNat,by omega⟩
 have:=pV (n:=m) (d:=6000) (by decide) (by omega) (by decide)
 unfold ez
 rw [hm]
 exact this
theorem xj {l:List Hd} {day:Int} (hv:bN l=true) (hd:gW day=true):(∀t∈(atS l day).parties,t.size≤9223372036854775807)∧(∀x∈(atS l day).capital,x.part.num.size≤9223372036854775807∧x.part.den.size≤9223372036854775807)∧∀x∈(atS l day).votes,x.part.num.size≤9223372036854775807∧x.part.den.size≤9223372036854775807:=by
 unfold atS
 rw [hv,hd]
 simp only [Bool.and_true,if_true]
 refine ⟨fun t ht => ?_,o0 (sL hv day),o0 (qT hv day)⟩
 obtain ⟨k,hk,rfl⟩:=List.getElem_of_mem ht
 have h1:=il.1 (na hv) k hk
 unfold jq at h1
 simp only [Bool.or_eq_false_iff,Bool.not_eq_false'] at h1
 exact wk h1.1
end Rg
namespace Av
attribute [local irreducible] AW aL aH
open Nt Rg
section
variable (base:World)
set_option maxRecDepth 100000 in
set_option maxHeartbeats 8000000 in
theorem x5 (s:Str) (h1:s.parties.length≤1000000) (h2:s.capital.length≤1000000) (h3:s.votes.length≤1000000) (h4:∀x∈s.capital,x.part.num.size≤1000000∧x.part.den.size≤1000000) (h5:∀x∈s.votes,x.part.num.size≤1000000∧x.part.den.size≤1000000) :
  aI Tryz.prog base 15 [hZ s] (boA (eZ s)):=by
 obtain ⟨ps,cs,vs⟩:=s
 simp only at h1 h2 h3 h4 h5
 have cg:=rt base ps.length cs h1 h2 h4
 have cv:=rt base ps.length vs h1 h3 h5
 refine aC af Tryz.call15 Tryz.func15 rfl fun H hB hb hF => ?_
 rw [Tryz.results15,Tryz.ntmps15]
 simp only [aA,List.length_cons,List.length_nil,List.replicate,List.cons_append,List.nil_append,Nat.reduceAdd,Nat.reduceSub]
 clear hF hb
 have la:(ps.map fun s=>[PD.v (.string s)]).length=ps.length:=by simp
 obtain ⟨P,hP⟩:∃P,eZ ⟨ps,cs,vs⟩=P:=⟨_,rfl⟩
 rw [hP]
 unfold eZ at hP
 simp only [hZ,pM,bq] at hP ⊢
 generalize eR (ps.length:Int) cs=b1 at *
 generalize eR (ps.length:Int) vs=b2 at *
 simp only [js,iA,boA] at cg cv ⊢
 generalize cs.map lkP=cs at *
 generalize vs.map lkP=vs at *
 obtain ⟨c2,g2⟩:∃c,decide (ps.length≤60)=c:=⟨_,rfl⟩
 rw [g2] at hP
 have g3:decide ((ps.length:Int)>60) = !c2:=by rw [←g2,←decide_not];exact decide_eq_decide.2 (by omega)
 clear g2
 cases c2 with
 | false =>
  have hp:P=false:=by rw [←hP];simp
  subst hp
  repeat' (first | (refine aa ?_;first | (refine zg rfl ?_;first | refine ah ?_ | refine zo ?_ | (refine zs ?_ ?_<;>intro hb<;>((try simp only [bn] at hb);first | subst hb | simp only [hb]))) | (apply ai;rfl;simp only [aj,avs,tts,seval,la,g3,Bool.not_false]<;>exact rr)) | refine ae ?_ | (refine ak ?_;first | (refine yg rfl ?_;first | refine ar ?_ | refine yo ?_ | (refine ys ?_ ?_<;>intro hb<;>((try simp only [bn] at hb);first | subst hb | simp only [hb]))) | (apply au;rfl;simp only [aB,avs,tts,seval,la,g3,Bool.not_false]<;>exact rr;first | trivial | omega)) | refine al ?_ | refine ag ?_ | refine zr af ?_ | refine zQ 0 af mixed ?_ | refine zQ 1 af mixed ?_ | refine zQ 2 af mixed ?_ | refine zQ 3 af mixed ?_ | refine zf rfl rfl ?_ | refine zt rfl rfl ?_ | (refine am rfl rfl ?_ ?_<;>intro hb<;>((try simp only [bn] at hb);first | subst hb | simp only [hb])) | refine ap ?_ | refine aq ?_ | refine an ?_)
  exact aw ⟨_,rfl,_,rfl,rfl⟩
 | true =>
 rw [Bool.true_and] at hP
 repeat' (first | (refine aa ?_;first | (refine zg rfl ?_;first | refine ah ?_ | refine zo ?_ | (refine zs ?_ ?_<;>intro hb<;>((try simp only [bn] at hb);first | subst hb | simp only [hb]))) | (apply ai;rfl;simp only [aj,avs,tts,seval,la,g3,Bool.not_true]<;>exact rr)) | refine ae ?_ | (refine ak ?_;first | (refine yg rfl ?_;first | refine ar ?_ | refine yo ?_ | (refine ys ?_ ?_<;>intro hb<;>((try simp only [bn] at hb);first | subst hb | simp only [hb]))) | (apply au;rfl;simp only [aB,avs,tts,seval,la,g3,Bool.not_true]<;>exact rr;first | trivial | omega)) | refine al ?_ | refine ag ?_ | refine zr af ?_ | refine zQ 0 af mixed ?_ | refine zQ 1 af mixed ?_ | refine zQ 2 af mixed ?_ | refine zQ 3 af mixed ?_ | refine zf rfl rfl ?_ | refine zt rfl rfl ?_ | (refine am rfl rfl ?_ ?_<;>intro hb<;>((try simp only [bn] at hb);first | subst hb | simp only [hb])) | refine ap ?_ | refine aq ?_ | refine an ?_)
 refine aZ (H0:=H++[.box 25 [.d (.sl 1 (ps.map fun s=>[PD.v (.string s)])),.d (.sl 5 cs),.d (.sl 5 vs)]]) (fun r env K=>∃k,r=ps.length - k∧k≤ps.length∧(∀i (hi:i<ps.length),i<k→jq (ps.take i) ps[i]=false)∧K=H++[.box 25 [.d (.sl 1 (ps.map fun s=>[PD.v (.string s)])),.d (.sl 5 cs),.d (.sl 5 vs)]]∧env=(.undef :: .ptr H.length 0 :: .undef :: .d (.v (.int .i64 (k:Int)))::List.replicate 50 .undef)) ?_ ⟨0,rfl,Nat.zero_le _,fun i _ h=>by omega,rfl,rfl⟩ ?_
 ·exact ⟨by (try simp only [rp]);(repeat (first | exact trivial | refine ⟨.inr rfl,?_⟩ | refine ⟨.inl rfl,?_⟩)),.inl rfl⟩
 rintro r env K ⟨k,rfl,hk,hok,rfl,rfl⟩ hN
 simp only [rp]
 obtain ⟨c1,g1⟩:∃c1,decide ((k:Int)<(ps.length:Int))=c1:=⟨_,rfl⟩
 cases c1 with
 | false =>
  have hnk:¬k<ps.length:=by simpa using g1
  have hka:k=ps.length:=by omega
  have hp:eQ [] ps=true:=il.2 fun i hi=>hok i hi (by omega)
  rw [hp,Bool.true_and] at hP
  repeat' (first | (refine aa ?_;first | (refine zg rfl ?_;first | refine ah ?_ | refine zo ?_ | (refine zs ?_ ?_<;>intro hb<;>((try simp only [bn] at hb);first | subst hb | simp only [hb]))) | (apply ai;rfl;simp only [aj,avs,tts,seval,g1,la]<;>exact rr) | (refine za rfl ?_;first | refine zp (cg) ?_ | refine zp (cv) ?_)) | refine ae ?_ | (refine ak ?_;first | (refine yg rfl ?_;first | refine ar ?_ | refine yo ?_ | (refine ys ?_ ?_<;>intro hb<;>((try simp only [bn] at hb);first | subst hb | simp only [hb]))) | (apply au;rfl;simp only [aB,avs,tts,seval,g1,la]<;>exact rr;first | trivial | omega) | (refine ya rfl ?_;first | refine yp (cg) ?_ | refine yp (cv) ?_)) | refine al ?_ | refine ag ?_ | refine zr af ?_ | refine zQ 0 af mixed ?_ | refine zQ 1 af mixed ?_ | refine zQ 2 af mixed ?_ | refine zQ 3 af mixed ?_ | refine zf rfl rfl ?_ | refine zt rfl rfl ?_ | (refine am rfl rfl ?_ ?_<;>intro hb<;>((try simp only [bn] at hb);first | subst hb | simp only [hb])) | refine ap ?_ | refine aq ?_ | refine an ?_)
  all_goals (rw [←hP];exact aw ⟨_,rfl,_,rfl,rfl⟩)
 | true =>
  have hlt:k<ps.length:=by simpa using g1
  have hix:(0:Int)≤(k:Int):=by omega
  have ga:=cI hlt
  have w1:IntKind.i64.wrap ((k:Int)+1)=((k+1:Nat):Int):=aP hlt (by omega)
  have hno:=fun hb=>rD hlt hb
  have hoks:jq (ps.take k) ps[k]=false→∀i (hi:i<ps.length),i<k+1→jq (ps.take i) ps[i]=false:=fun h i hi h2=>by
   rcases Nat.lt_succ_iff_lt_or_eq.1 h2 with h3 | h3
   ·exact hok i hi h3
   ·subst h3;exact h
  have cn:=A9 base ps[k]
  cases k with
  | zero =>
   rw [kI hlt] at hno hoks
   obtain ⟨x,hx⟩:∃x,ps[0]=x:=⟨_,rfl⟩
   rw [hx] at hno hoks ga cn
   generalize bL x=b at *
   have gz:decide ((0:Int)>0)=false:=rfl
   have g1:decide ((0:Int)<(ps.length:Int))=true:=g1
   have w1:IntKind.i64.wrap 1=1:=rfl
   have hix:(0:Int)≤0:=Int.le_refl _
   simp only [tA,boA] at cn
   repeat' (first | (refine aa ?_;first | (refine zg rfl ?_;first | refine ah ?_ | refine zo ?_ | (refine zs ?_ ?_<;>intro hb<;>((try simp only [bn] at hb);first | subst hb | simp only [hb]))) | (apply ai;rfl;simp only [aj,avs,tts,seval,hix,hlt,ga,la,g1,w1,gz,Bool.not_true,Bool.not_false]<;>exact rr) | (refine za rfl ?_;refine zp (cn) ?_)) | refine ae ?_ | (refine ak ?_;first | (refine yg rfl ?_;first | refine ar ?_ | refine yo ?_ | (refine ys ?_ ?_<;>intro hb<;>((try simp only [bn] at hb);first | subst hb | simp only [hb]))) | (apply au;rfl;simp only [aB,avs,tts,seval,hix,hlt,ga,la,g1,w1,gz,Bool.not_true,Bool.not_false]<;>exact rr;first | trivial | omega) | (refine ya rfl ?_;refine yp (cn) ?_)) | refine al ?_ | refine ag ?_ | refine zr af ?_ | refine zQ 0 af mixed ?_ | refine zQ 1 af mixed ?_ | refine zQ 2 af mixed ?_ | refine zQ 3 af mixed ?_ | refine zf rfl rfl ?_ | refine zt rfl rfl ?_ | (refine am rfl rfl ?_ ?_<;>intro hb<;>((try simp only [bn] at hb);first | subst hb | simp only [hb])) | refine ap ?_ | refine aq ?_ | refine an ?_)
   all_goals first
    | (have hp:P=false:=(by rw [←hP,hno (by rfl)];rfl);subst hp;show AW _ _ _ _ _;refine aw ⟨_,rfl,_,rfl,?_⟩;rfl)
    | exact ⟨ps.length - (0+1),_,_,by omega,⟨by (try simp only [rp]);(repeat (first | exact trivial | refine ⟨.inr rfl,?_⟩ | refine ⟨.inl rfl,?_⟩)),.inl rfl⟩,0+1,rfl,hlt,hoks (by rfl),rfl,rfl⟩
  | succ j =>
   rw [kJ hlt] at hno hoks
   have hlt3:j<ps.length:=by omega
   have ga3:=cI hlt3
   have hix3:(0:Int)≤(j:Int):=by omega
   have gz:decide (((j+1:Nat):Int)>0)=true:=decide_eq_true (by omega)
   have w3:IntKind.i64.wrap (((j+1:Nat):Int) - 1)=(j:Int):=by rw [IntKind.wrap_i64];omega
   have hls:=mw ps[j+1] ps[j]
   obtain ⟨x,hx⟩:∃x,ps[j+1]=x:=⟨_,rfl⟩
   rw [hx] at hno hoks ga cn hls
   obtain ⟨y,hy⟩:∃y,ps[j]=y:=⟨_,rfl⟩
   rw [hy] at hno hoks ga3 hls
   generalize bL x=b at *
   generalize ltT x y=b3 at *
   obtain ⟨b4,g4⟩:∃c,decide (x=y)=c:=⟨_,rfl⟩
   rw [g4] at hno hoks
   obtain ⟨b5,g5⟩:∃c,(b3||b4)=c:=⟨_,rfl⟩
   rw [g5] at hno hoks
   simp only [tA,boA] at cn
   repeat' (first | (refine aa ?_;first | (refine zg rfl ?_;first | refine ah ?_ | refine zo ?_ | (refine zs ?_ ?_<;>intro hb<;>((try simp only [bn] at hb);first | subst hb | simp only [hb]))) | (apply ai;rfl;simp only [aj,avs,tts,seval,hix,hlt,ga,la,g1,w1,gz,w3,hix3,hlt3,ga3,hls,g4,g5,Bool.not_true,Bool.not_false]<;>exact rr) | (refine za rfl ?_;refine zp (cn) ?_)) | refine ae ?_ | (refine ak ?_;first | (refine yg rfl ?_;first | refine ar ?_ | refine yo ?_ | (refine ys ?_ ?_<;>intro hb<;>((try simp only [bn] at hb);first | subst hb | simp only [hb]))) | (apply au;rfl;simp only [aB,avs,tts,seval,hix,hlt,ga,la,g1,w1,gz,w3,hix3,hlt3,ga3,hls,g4,g5,Bool.not_true,Bool.not_false]<;>exact rr;first | trivial | omega) | (refine ya rfl ?_;refine yp (cn) ?_)) | refine al ?_ | refine ag ?_ | refine zr af ?_ | refine zQ 0 af mixed ?_ | refine zQ 1 af mixed ?_ | refine zQ 2 af mixed ?_ | refine zQ 3 af mixed ?_ | refine zf rfl rfl ?_ | refine zt rfl rfl ?_ | (refine am rfl rfl ?_ ?_<;>intro hb<;>((try simp only [bn] at hb);first | subst hb | simp only [hb])) | refine ap ?_ | refine aq ?_ | refine an ?_)
   all_goals first
    | (have hp:P=false:=(by rw [←hP,hno (by rfl)];rfl);subst hp;show AW _ _ _ _ _;refine aw ⟨_,rfl,_,rfl,?_⟩;rfl)
    | exact ⟨ps.length - ((j+1)+1),_,_,by omega,⟨by (try simp only [rp]);(repeat (first | exact trivial | refine ⟨.inr rfl,?_⟩ | refine ⟨.inl rfl,?_⟩)),.inl rfl⟩,(j+1)+1,rfl,hlt,hoks (by rfl),rfl,rfl⟩
end
def StrIn (w:World) (v:Value) (x:Str):Prop:=Rep (gT w) (hZ x) v
def AP:List PT:=[.i .i64,.i .i64,.b,.s,.s]
theorem Bb {ps:List PD} (h:bW AP ps):∃x:Lk,ps=lkP x:=by
 obtain ⟨p1,r1,rfl,h1,k1⟩:=bF h
 obtain ⟨a1,rfl⟩:=kT h1
 obtain ⟨p2,r2,rfl,h2,k2⟩:=bF k1
 obtain ⟨a2,rfl⟩:=kT h2
 obtain ⟨p3,r3,rfl,h3,k3⟩:=bF k2
 obtain ⟨a3,rfl⟩:=CQ h3
 obtain ⟨p4,r4,rfl,h4,k4⟩:=bF k3
 obtain ⟨a4,rfl⟩:=iw h4
 obtain ⟨p5,r5,rfl,h5,k5⟩:=bF k4
 obtain ⟨a5,rfl⟩:=iw h5
 exact ⟨⟨a1,a2,⟨a3,a4,a5⟩⟩,by rw [iy k5];rfl⟩
theorem sj {p:PD} (h:PT.fits (.sl AP) p):∃l:List Lk,p = .sl 5 (l.map lkP):=by
 obtain ⟨l,rfl,hl⟩:=qh h
 obtain ⟨xs,rfl⟩:=qa (f:=lkP) (l:=l) fun it hi=>Bb (hl it hi)
 exact ⟨xs,rfl⟩
def BX:List PT:=[.sl [.s],.sl AP,.sl AP]
theorem zj {ps:List PD} (h:bW BX ps):∃x:Str,ps.map AV.d=pM x:=by
 obtain ⟨p1,r1,rfl,h1,k1⟩:=bF h
 obtain ⟨a1,rfl⟩:=pk h1
 obtain ⟨p2,r2,rfl,h2,k2⟩:=bF k1
 obtain ⟨a2,rfl⟩:=sj h2
 obtain ⟨p3,r3,rfl,h3,k3⟩:=bF k2
 obtain ⟨a3,rfl⟩:=sj h3
 exact ⟨⟨a1,a2,a3⟩,by rw [iy k3];rfl⟩
set_option maxRecDepth 100000 in
theorem open_str {H:Type} {enc:TypeId × Value→H} {w:World} {b0:Nat} {v:Value} {d:DataW H} {p:List MemPlace} (hv:Value.okWide Tryz.prog w .any b0 25 v) (h:DataW.Trod enc Tryz.prog w 0 (fun _=>true) true 25 v d p) :
  ∃x,StrIn w v x:=by
 obtain ⟨cs,rfl,_⟩:=Go.WideShapes.okWide_struct Tryz.underlying25 hv
 obtain ⟨n,hn⟩:=h
 obtain ⟨ps,h1,h2⟩:=mn (s:=gT w) rfl (oQ w) n 8 25 _ _ BX (by kernel_rfl) hn
 obtain ⟨x,hx⟩:=zj h1
 refine ⟨x,?_⟩
 simp only [StrIn,hZ,Rep]
 refine ⟨cs,rfl,?_⟩
 rw [←hx]
 simpa [dL,Value.cells] using h2
section
variable {base:World} (hT:dt base)
include hT
set_option maxRecDepth 100000 in
set_option maxHeartbeats 16000000 in
theorem rgsound_a (s:Str) (l:List Hd) (day:Int):aI Tryz.prog base 3 [hZ s,.d (cO l),iA day] (boA true):=by
 have hd:=CJ hT
 have cm:=vX base s
 have cf:=CD (base:=base) l
 obtain ⟨bm,hbm⟩:∃b,mR s=b:=⟨_,rfl⟩
 obtain ⟨bf,hbf⟩:∃b,l8 20 l=b:=⟨_,rfl⟩
 rw [hbm] at cm
 rw [hbf] at cf
 by_cases hgo:(bm&&bf)=false
 ·refine aC af Tryz.call3 Tryz.func3 rfl fun H hB hb hF => ?_
  rw [Tryz.results3,Tryz.ntmps3]
  simp only [aA,List.length_cons,List.length_nil,List.replicate,List.cons_append,List.nil_append,Nat.reduceAdd,Nat.reduceSub]
  clear hF hb hbm hbf
  obtain ⟨ps,cs,vs⟩:=s
  simp only [cO,iA,boA,hZ,pM] at cf hd cm ⊢
  cases bm with
  | false =>
   repeat' (first | (refine aa ?_;first | (refine zg rfl ?_;first | refine ah ?_ | refine zo ?_ | (refine zs ?_ ?_<;>intro hb<;>((try simp only [bn] at hb);first | subst hb | simp only [hb]))) | (apply ai;rfl;simp only [aj,avs,tts,seval,Bool.not_true,Bool.not_false]<;>exact rr) | (refine za rfl ?_;first | refine zp (hd) ?_ | refine zp (cm) ?_ | refine zp (cf) ?_)) | refine ae ?_ | (refine ak ?_;first | (refine yg rfl ?_;first | refine ar ?_ | refine yo ?_ | (refine ys ?_ ?_<;>intro hb<;>((try simp only [bn] at hb);first | subst hb | simp only [hb]))) | (apply au;rfl;simp only [aB,avs,tts,seval,Bool.not_true,Bool.not_false]<;>exact rr;first | trivial | omega) | (refine ya rfl ?_;first | refine yp (hd) ?_ | refine yp (cm) ?_ | refine yp (cf) ?_)) | refine al ?_ | refine ag ?_ | refine zr af ?_ | refine zQ 0 af mixed ?_ | refine zQ 1 af mixed ?_ | refine zQ 2 af mixed ?_ | refine zQ 3 af mixed ?_ | refine zf rfl rfl ?_ | refine zt rfl rfl ?_ | (refine am rfl rfl ?_ ?_<;>intro hb<;>((try simp only [bn] at hb);first | subst hb | simp only [hb])) | refine ap ?_ | refine aq ?_ | refine an ?_)
   exact aw ⟨_,rfl,_,rfl,rfl⟩
  | true =>
   cases bf with
   | false =>
    repeat' (first | (refine aa ?_;first | (refine zg rfl ?_;first | refine ah ?_ | refine zo ?_ | (refine zs ?_ ?_<;>intro hb<;>((try simp only [bn] at hb);first | subst hb | simp only [hb]))) | (apply ai;rfl;simp only [aj,avs,tts,seval,Bool.not_true,Bool.not_false]<;>exact rr) | (refine za rfl ?_;first | refine zp (hd) ?_ | refine zp (cm) ?_ | refine zp (cf) ?_)) | refine ae ?_ | (refine ak ?_;first | (refine yg rfl ?_;first | refine ar ?_ | refine yo ?_ | (refine ys ?_ ?_<;>intro hb<;>((try simp only [bn] at hb);first | subst hb | simp only [hb]))) | (apply au;rfl;simp only [aB,avs,tts,seval,Bool.not_true,Bool.not_false]<;>exact rr;first | trivial | omega) | (refine ya rfl ?_;first | refine yp (hd) ?_ | refine yp (cm) ?_ | refine yp (cf) ?_)) | refine al ?_ | refine ag ?_ | refine zr af ?_ | refine zQ 0 af mixed ?_ | refine zQ 1 af mixed ?_ | refine zQ 2 af mixed ?_ | refine zQ 3 af mixed ?_ | refine zf rfl rfl ?_ | refine zt rfl rfl ?_ | (refine am rfl rfl ?_ ?_<;>intro hb<;>((try simp only [bn] at hb);first | subst hb | simp only [hb])) | refine ap ?_ | refine aq ?_ | refine an ?_)
    exact aw ⟨_,rfl,_,rfl,rfl⟩
   | true=>exact absurd hgo (by decide)
 ·obtain ⟨rfl,rfl⟩:bm=true∧bf=true:=by
   revert hgo;cases bm<;>cases bf<;>decide
  obtain ⟨h20,hsm⟩:=pm hbf
  have hs:=fun h hh=>(hsm h hh).1
  have hj:∀h∈l,h.joint.length≤1000:=fun h hh=>by have:=(hsm h hh).2;omega
  unfold mR at hbm
  simp only [Bool.and_eq_true,decide_eq_true_eq] at hbm
  obtain ⟨⟨k1,k2,k3⟩,k4,k5,k6⟩:=hbm
  have hp1:∀t∈s.parties,t.size≤60:=fun t ht=>by simpa using List.all_eq_true.1 k4 t ht
  have hp2:∀x∈s.capital,x.part.num.size≤30∧x.part.den.size≤30:=fun x hx=>by
   have:=List.all_eq_true.1 k5 x hx
   unfold dd at this
   simpa using this
  have hp3:∀x∈s.votes,x.part.num.size≤30∧x.part.den.size≤30:=fun x hx=>by
   have:=List.all_eq_true.1 k6 x hx
   unfold dd at this
   simpa using this
  have c1:=pN hT s (by omega) (fun t ht=>by have:=hp1 t ht;omega) (by omega) (by omega) (fun x hx=>by have:=hp2 x hx;omega) (fun x hx=>by have:=hp3 x hx;omega)
  have c2:=x5 base s (by omega) (by omega) (by omega) (fun x hx=>by have:=hp2 x hx;omega) (fun x hx=>by have:=hp3 x hx;omega)
  have ca:=Bv (base:=base) hT l day hs hj (by omega)
  have c3:atE l day=0→aI Tryz.prog base 14 [hZ (atS l day)] (boA true):=fun he=>by
   have hvd:bN l=true∧gW day=true:=by
    unfold atE at he
    split at he
    ·rename_i h;simpa using h
    ·cases he
   have hso:=Ai hvd.1 hvd.2
   have hst:=xk (l:=l) day hj (by omega)
   have hsz:=xj hvd.1 hvd.2
   have:=pN hT (atS l day) hst.p hsz.1 (by have:=hst.c;omega) (by have:=hst.v;omega) hsz.2.1 hsz.2.2
   rw [hso] at this
   exact this
  refine aC af Tryz.call3 Tryz.func3 rfl fun H hB hb hF => ?_
  rw [Tryz.results3,Tryz.ntmps3]
  simp only [aA,List.length_cons,List.length_nil,List.replicate,List.cons_append,List.nil_append,Nat.reduceAdd,Nat.reduceSub]
  clear hF hb hbf hsm
  generalize eZ s=so at *
  generalize atS l day=S at *
  generalize atE l day=E at *
  obtain ⟨ps,cs,vs⟩:=s
  obtain ⟨sp,sc,sv⟩:=S
  simp only [cO,iA,boA,hZ,pM] at cf hd cm ca c1 c2 c3 ⊢
  obtain ⟨e0,z0⟩:∃c,decide (E=0)=c:=⟨_,rfl⟩
  have eb:∀x:Bool,(x == x)=true:=fun x=>by simp
  clear k4 k5 k6 hp1 hp2 hp3 hs hj
  cases e0 with
  | true =>
   have c3:=c3 (of_decide_eq_true z0)
   repeat' (first | (refine aa ?_;first | (refine zg rfl ?_;first | refine ah ?_ | refine zo ?_ | (refine zs ?_ ?_<;>intro hb<;>((try simp only [bn] at hb);first | subst hb | simp only [hb]))) | (apply ai;rfl;simp only [aj,avs,tts,seval,Bool.not_true,Bool.not_false,z0,eb,decide_true]<;>exact rr) | (refine za rfl ?_;first | refine zp (hd) ?_ | refine zp (cm) ?_ | refine zp (cf) ?_ | refine zp (ca) ?_ | refine zp (c1) ?_ | refine zp (c2) ?_ | refine zp (c3) ?_)) | refine ae ?_ | (refine ak ?_;first | (refine yg rfl ?_;first | refine ar ?_ | refine yo ?_ | (refine ys ?_ ?_<;>intro hb<;>((try simp only [bn] at hb);first | subst hb | simp only [hb]))) | (apply au;rfl;simp only [aB,avs,tts,seval,Bool.not_true,Bool.not_false,z0,eb,decide_true]<;>exact rr;first | trivial | omega) | (refine ya rfl ?_;first | refine yp (hd) ?_ | refine yp (cm) ?_ | refine yp (cf) ?_ | refine yp (ca) ?_ | refine yp (c1) ?_ | refine yp (c2) ?_ | refine yp (c3) ?_)) | refine al ?_ | refine ag ?_ | refine zr af ?_ | refine zQ 0 af mixed ?_ | refine zQ 1 af mixed ?_ | refine zQ 2 af mixed ?_ | refine zQ 3 af mixed ?_ | refine zf rfl rfl ?_ | refine zt rfl rfl ?_ | (refine am rfl rfl ?_ ?_<;>intro hb<;>((try simp only [bn] at hb);first | subst hb | simp only [hb])) | refine ap ?_ | refine aq ?_ | refine an ?_)
   exact aw ⟨_,rfl,_,rfl,rfl⟩
  | false =>
   repeat' (first | (refine aa ?_;first | (refine zg rfl ?_;first | refine ah ?_ | refine zo ?_ | (refine zs ?_ ?_<;>intro hb<;>((try simp only [bn] at hb);first | subst hb | simp only [hb]))) | (apply ai;rfl;simp only [aj,avs,tts,seval,Bool.not_true,Bool.not_false,z0,eb,decide_true]<;>exact rr) | (refine za rfl ?_;first | refine zp (hd) ?_ | refine zp (cm) ?_ | refine zp (cf) ?_ | refine zp (ca) ?_ | refine zp (c1) ?_ | refine zp (c2) ?_)) | refine ae ?_ | (refine ak ?_;first | (refine yg rfl ?_;first | refine ar ?_ | refine yo ?_ | (refine ys ?_ ?_<;>intro hb<;>((try simp only [bn] at hb);first | subst hb | simp only [hb]))) | (apply au;rfl;simp only [aB,avs,tts,seval,Bool.not_true,Bool.not_false,z0,eb,decide_true]<;>exact rr;first | trivial | omega) | (refine ya rfl ?_;first | refine yp (hd) ?_ | refine yp (cm) ?_ | refine yp (cf) ?_ | refine yp (ca) ?_ | refine yp (c1) ?_ | refine yp (c2) ?_)) | refine al ?_ | refine ag ?_ | refine zr af ?_ | refine zQ 0 af mixed ?_ | refine zQ 1 af mixed ?_ | refine zQ 2 af mixed ?_ | refine zQ 3 af mixed ?_ | refine zf rfl rfl ?_ | refine zt rfl rfl ?_ | (refine am rfl rfl ?_ ?_<;>intro hb<;>((try simp only [bn] at hb);first | subst hb | simp only [hb])) | refine ap ?_ | refine aq ?_ | refine an ?_)
   exact aw ⟨_,rfl,_,rfl,rfl⟩
end
end Av
theorem registerSound.walk {w:World} (hT:dt w) (v0:Value) (a0:Rg.Str) (h0:Av.StrIn w v0 a0) (v1:Value) (a1:List Rg.Hd) (h1:Av.HdsIn w v1 a1) (a2:Int) (w2:(Lit.int .i64 a2).wf=true):Calls Tryz.prog 3 #[v0,v1,.int .i64 a2] w fun e w'=>e = .returned (.bool true)∧Below w.heap.size w w' :=
 Av.calls_of_a (Av.rgsound_a hT a0 a1 a2 []) (.cons h0 (.cons h1 (.one (Av.rep_w w w2)))) fun r H' h=>h.1
end Go.Proofs.YtdekcppfpgeneaaGreatDoor
