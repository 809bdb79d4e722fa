import Derived.Test.YtdekcppfpgeneaaGreatDoorW4
import Derived.Test.YtdekcppfpgeneaaGreatDoorW2
import Derived.Test.YtdekcppfpgeneaaGreatDoorW3
import Derived.KernelRfl
import Derived.WideShapes
import Derived.Test.YtdekcppfpgeneaaGreatDoorRows
import Derived.Lib.LaidTab
import Derived.Lib.LaidU8
import Derived.Stop.LaidErr
set_option linter.unusedVariables false
set_option linter.unusedSimpArgs false
namespace Go.Proofs.YtdekcppfpgeneaaGreatDoor
open Go Go.RowKit
namespace Rg
open Av Nt
def jq (pre:List ByteArray) (x:ByteArray):Bool := !bL x||(match pre.getLast? with
 | none=>false
 | some p=>(ltT x p||decide (x=p)))
def eQ:List ByteArray→List ByteArray→Bool
 | _,[]=>true
 | pre,x::r => !jq pre x&&eQ (pre++[x]) r
theorem oX:∀{l pre:List ByteArray},eQ pre l=true↔∀k (h:k<l.length),jq (pre++l.take k) l[k]=false
 | [],pre=>by simp [eQ]
 | x::r,pre=>by
  rw [eQ,Bool.and_eq_true,oX]
  constructor
  ·rintro ⟨h1,h2⟩ k hk
   cases k with
   | zero=>simpa using h1
   | succ k=>have:=h2 k (by simpa using hk);simpa using this
  ·intro h
   refine ⟨by have:=h 0 (by simp);simpa using this,fun k hk => ?_⟩
   have:=h (k+1) (by simpa using hk)
   simpa using this
theorem il {l:List ByteArray}:eQ [] l=true↔∀k (h:k<l.length),jq (l.take k) l[k]=false:=by
 rw [oX];simp
theorem rD {l:List ByteArray} {k:Nat} (h:k<l.length) (hb:jq (l.take k) l[k]=true):eQ [] l=false:=by
 cases hg:eQ [] l with
 | false=>rfl
 | true=>rw [il.1 hg k h] at hb;cases hb
def eZ (s:Str):Bool:=eQ [] s.parties&&(decide (s.parties.length≤60)&&(eR s.parties.length s.capital&&eR s.parties.length s.votes))
theorem kI {l:List ByteArray} (h:0<l.length):jq (l.take 0) l[0] = !bL l[0]:=by
 unfold jq;simp
theorem kJ {l:List ByteArray} {j:Nat} (h:j+1<l.length):jq (l.take (j+1)) l[j+1]=(!bL l[j+1]||(ltT l[j+1] l[j]||decide (l[j+1]=l[j]))):=by
 have e:l.take (j+1)=l.take j++[l[j]]:=by rw [List.take_add_one,List.getElem?_eq_getElem (by omega)];rfl
 rw [e]
 unfold jq
 rw [List.getLast?_concat]
end Rg
namespace Av
attribute [local irreducible] AW aL aH
open Nt Rg
section
variable {base:World} (hT:dt base)
include hT
set_option maxRecDepth 100000 in
set_option maxHeartbeats 8000000 in
theorem pN (s:Str) (h1:s.parties.length≤1000000) (h0:∀t∈s.parties,t.size≤9223372036854775807) (h2:s.capital.length≤1000000000) (h3:s.votes.length≤1000000000) (h4:∀x∈s.capital,x.part.num.size≤9223372036854775807∧x.part.den.size≤9223372036854775807) (h5:∀x∈s.votes,x.part.num.size≤9223372036854775807∧x.part.den.size≤9223372036854775807) :
  aI Tryz.prog base 14 [hZ s] (boA (eZ s)):=by
 obtain ⟨ps,cs,vs⟩:=s
 simp only at h0 h1 h2 h3 h4 h5
 have cg:=fun (H:av) (ln:Nat) hn=>zh (base:=base) hT (H:=H) (ln:=ln) cs (ps.length:Int) hn h2 h4
 have cv:=fun (H:av) (ln:Nat) hn=>zh (base:=base) hT (H:=H) (ln:=ln) vs (ps.length:Int) hn h3 h5
 refine aC af Tryz.call14 Tryz.func14 rfl fun H hB hb hF => ?_
 rw [Tryz.results14,Tryz.ntmps14]
 simp only [aA,List.length_cons,List.length_nil,List.replicate,List.cons_append,List.nil_append,Nat.reduceAdd,Nat.reduceSub]
 clear hF hb
 have la:(ps.map fun s=>[PD.v (.string s)]).length=ps.length:=by simp
 obtain ⟨P,hP⟩:∃P,eZ ⟨ps,cs,vs⟩=P:=⟨_,rfl⟩
 rw [hP]
 unfold eZ at hP
 simp only [hZ,pM,bq] at hP ⊢
 generalize eR (ps.length:Int) cs=b1 at *
 generalize eR (ps.length:Int) vs=b2 at *
 simp only [js,iA] at cg cv ⊢
 generalize cs.map lkP=cs at *
 generalize vs.map lkP=vs at *
 repeat' (first | (refine aa ?_;first | (refine zg rfl ?_;first | refine ah ?_ | refine zo ?_ | (refine zs ?_ ?_<;>intro hb<;>((try simp only [bn] at hb);first | subst hb | simp only [hb]))) | (apply ai;rfl;simp only [aj,avs,tts,Nat.reduceAdd,Nat.reduceMul,Nat.reduceSub,Nat.reduceEqDiff,Nat.reduceLT,Nat.reduceLeDiff,Int.reduceToNat,Int.reduceLE,Int.reduceLT,Int.toNat_natCast,reduceCtorEq,la]<;>exact rr)) | refine ae ?_ | (refine ak ?_;first | (refine yg rfl ?_;first | refine ar ?_ | refine yo ?_ | (refine ys ?_ ?_<;>intro hb<;>((try simp only [bn] at hb);first | subst hb | simp only [hb]))) | (apply au;rfl;simp only [aB,avs,tts,Nat.reduceAdd,Nat.reduceMul,Nat.reduceSub,Nat.reduceEqDiff,Nat.reduceLT,Nat.reduceLeDiff,Int.reduceToNat,Int.reduceLE,Int.reduceLT,Int.toNat_natCast,reduceCtorEq,la]<;>exact rr;first | trivial | omega)) | refine al ?_ | refine ag ?_ | refine zr af ?_ | refine zR 0 af mixed ?_ | refine zR 1 af mixed ?_ | refine zR 2 af mixed ?_ | refine zR 3 af mixed ?_ | refine zf rfl rfl ?_ | refine zt rfl rfl ?_ | (refine am rfl rfl ?_ ?_<;>intro hb<;>((try simp only [bn] at hb);first | subst hb | simp only [hb])) | refine ap ?_ | refine aq ?_ | refine an ?_)
 refine aZ (H0:=H++[.box 25 [.d (.sl 1 (ps.map fun s=>[PD.v (.string s)])),.d (.sl 5 cs),.d (.sl 5 vs)]]) (fun r env K=>∃k,r=ps.length - k∧k≤ps.length∧(∀i (hi:i<ps.length),i<k→jq (ps.take i) ps[i]=false)∧K=H++[.box 25 [.d (.sl 1 (ps.map fun s=>[PD.v (.string s)])),.d (.sl 5 cs),.d (.sl 5 vs)]]∧env=(.undef :: .ptr H.length 0 :: .undef :: .undef :: .undef :: .undef :: .undef :: .undef :: .d (.sl 1 (ps.map fun s=>[PD.v (.string s)])) :: .d (.v (.int .i64 (ps.length:Int))) :: .d (.v (.int .i64 (k:Int)))::List.replicate 40 .undef)) ?_ ⟨0,rfl,Nat.zero_le _,fun i _ h=>by omega,rfl,rfl⟩ ?_
 ·exact ⟨by simp [aJ,List.replicate],.inl rfl⟩
 rintro r env K ⟨k,rfl,hk,hok,rfl,rfl⟩ hN
 simp only [rp]
 obtain ⟨c1,g1⟩:∃c1,decide ((k:Int)<(ps.length:Int))=c1:=⟨_,rfl⟩
 cases c1 with
 | false =>
  have hka:k=ps.length:=by
                  have:¬k<ps.length:=by simpa using g1
                  omega
  have hp:eQ [] ps=true:=il.2 fun i hi=>hok i hi (by omega)
  rw [hp] at hP
  obtain ⟨c2,g2⟩:∃c,decide (ps.length≤60)=c:=⟨_,rfl⟩
  rw [g2] at hP
  have g3:decide ((ps.length:Int)≤60)=c2:=by rw [←g2];exact decide_eq_decide.2 (by omega)
  clear g2
  have cg2:=fun G=>cg (H++(.box 25 [.d (.sl 1 (ps.map fun s=>[PD.v (.string s)])),.d (.sl 5 cs),.d (.sl 5 vs)] :: .box 3 [.d (.v (.int .i64 (ps.length:Int)))]::G)) (H.length+1) (by simp)
  have cv2:=fun G=>cv (H++(.box 25 [.d (.sl 1 (ps.map fun s=>[PD.v (.string s)])),.d (.sl 5 cs),.d (.sl 5 vs)] :: .box 3 [.d (.v (.int .i64 (ps.length:Int)))]::G)) (H.length+1) (by simp)
  repeat' (first | (refine aa ?_;first | (refine zg rfl ?_;first | refine ah ?_ | refine zo ?_ | (refine zs ?_ ?_<;>intro hb<;>((try simp only [bn] at hb);first | subst hb | simp only [hb]))) | (apply ai;rfl;simp only [aj,avs,tts,Nat.reduceAdd,Nat.reduceMul,Nat.reduceSub,Nat.reduceEqDiff,Nat.reduceLT,Nat.reduceLeDiff,Int.reduceToNat,Int.reduceLE,Int.reduceLT,Int.toNat_natCast,reduceCtorEq,g1,g3,la]<;>exact rr) | (refine za rfl ?_;first | refine zd (cg2 _) ?_ | refine zd (cv2 _) ?_)) | refine ae ?_ | (refine ak ?_;first | (refine yg rfl ?_;first | refine ar ?_ | refine yo ?_ | (refine ys ?_ ?_<;>intro hb<;>((try simp only [bn] at hb);first | subst hb | simp only [hb]))) | (apply au;rfl;simp only [aB,avs,tts,Nat.reduceAdd,Nat.reduceMul,Nat.reduceSub,Nat.reduceEqDiff,Nat.reduceLT,Nat.reduceLeDiff,Int.reduceToNat,Int.reduceLE,Int.reduceLT,Int.toNat_natCast,reduceCtorEq,g1,g3,la]<;>exact rr;first | trivial | omega) | (refine ya rfl ?_;first | refine yd (cg2 _) ?_ | refine yd (cv2 _) ?_)) | refine al ?_ | refine ag ?_ | refine zr af ?_ | refine zR 0 af mixed ?_ | refine zR 1 af mixed ?_ | refine zR 2 af mixed ?_ | refine zR 3 af mixed ?_ | refine zf rfl rfl ?_ | refine zt rfl rfl ?_ | (refine am rfl rfl ?_ ?_<;>intro hb<;>((try simp only [bn] at hb);first | subst hb | simp only [hb])) | refine ap ?_ | refine aq ?_ | refine an ?_)
  all_goals (rw [←hP];exact aw ⟨_,rfl,_,rfl,rfl⟩)
 | true =>
  have hlt:k<ps.length:=by simpa using g1
  have hix:(0:Int)≤(k:Int):=by omega
  have ga:=cI hlt
  have w1:IntKind.i64.wrap ((k:Int)+1)=((k+1:Nat):Int):=aP hlt (by omega)
  have hno:=fun hb=>rD hlt hb
  have hoks:jq (ps.take k) ps[k]=false→∀i (hi:i<ps.length),i<k+1→jq (ps.take i) ps[i]=false:=fun h i hi h2=>by
   rcases Nat.lt_succ_iff_lt_or_eq.1 h2 with h3 | h3
   ·exact hok i hi h3
   ·subst h3;exact h
  have cn:=kK base ps[k] (h0 _ (List.getElem_mem hlt))
  cases k with
  | zero =>
   rw [kI hlt] at hno hoks
   obtain ⟨x,hx⟩:∃x,ps[0]=x:=⟨_,rfl⟩
   rw [hx] at hno hoks ga cn
   generalize bL x=b at *
   have gz:decide (((0:Nat):Int)>0)=false:=rfl
   simp only [tA] at cn
   repeat' (first | (refine aa ?_;first | (refine zg rfl ?_;first | refine ah ?_ | refine zo ?_ | (refine zs ?_ ?_<;>intro hb<;>((try simp only [bn] at hb);first | subst hb | simp only [hb]))) | (apply ai;rfl;simp only [aj,avs,tts,Nat.reduceAdd,Nat.reduceMul,Nat.reduceSub,Nat.reduceEqDiff,Nat.reduceLT,Nat.reduceLeDiff,Int.reduceToNat,Int.reduceLE,Int.reduceLT,Int.toNat_natCast,reduceCtorEq,hix,hlt,ga,la,g1,w1,gz,Bool.not_true,Bool.not_false]<;>exact rr) | (refine za rfl ?_;refine zp (cn) ?_)) | refine ae ?_ | (refine ak ?_;first | (refine yg rfl ?_;first | refine ar ?_ | refine yo ?_ | (refine ys ?_ ?_<;>intro hb<;>((try simp only [bn] at hb);first | subst hb | simp only [hb]))) | (apply au;rfl;simp only [aB,avs,tts,Nat.reduceAdd,Nat.reduceMul,Nat.reduceSub,Nat.reduceEqDiff,Nat.reduceLT,Nat.reduceLeDiff,Int.reduceToNat,Int.reduceLE,Int.reduceLT,Int.toNat_natCast,reduceCtorEq,hix,hlt,ga,la,g1,w1,gz,Bool.not_true,Bool.not_false]<;>exact rr;first | trivial | omega) | (refine ya rfl ?_;refine yp (cn) ?_)) | refine al ?_ | refine ag ?_ | refine zr af ?_ | refine zR 0 af mixed ?_ | refine zR 1 af mixed ?_ | refine zR 2 af mixed ?_ | refine zR 3 af mixed ?_ | refine zf rfl rfl ?_ | refine zt rfl rfl ?_ | (refine am rfl rfl ?_ ?_<;>intro hb<;>((try simp only [bn] at hb);first | subst hb | simp only [hb])) | refine ap ?_ | refine aq ?_ | refine an ?_)
   all_goals first
    | (have hp:P=false:=(by rw [←hP,hno (by rfl)];rfl);subst hp;show AW _ _ _ _ _;refine aw ⟨_,rfl,_,rfl,?_⟩;rfl)
    | (refine ⟨ps.length - (0+1),_,_,by omega,⟨?_,.inl rfl⟩,0+1,rfl,hlt,hoks (by rfl),rfl,rfl⟩;simp [aJ,List.replicate])
  | succ j =>
   rw [kJ hlt] at hno hoks
   have hlt3:j<ps.length:=by omega
   have ga3:=cI hlt3
   have hix3:(0:Int)≤(j:Int):=by omega
   have gz:decide (((j+1:Nat):Int)>0)=true:=decide_eq_true (by omega)
   have w3:IntKind.i64.wrap (((j+1:Nat):Int) - 1)=(j:Int):=by rw [IntKind.wrap_i64];omega
   have hls:=mw ps[j+1] ps[j]
   obtain ⟨x,hx⟩:∃x,ps[j+1]=x:=⟨_,rfl⟩
   rw [hx] at hno hoks ga cn hls
   obtain ⟨y,hy⟩:∃y,ps[j]=y:=⟨_,rfl⟩
   rw [hy] at hno hoks ga3 hls
   generalize bL x=b at *
   generalize ltT x y=b3 at *
   obtain ⟨b4,g4⟩:∃c,decide (x=y)=c:=⟨_,rfl⟩
   rw [g4] at hno hoks
   obtain ⟨b5,g5⟩:∃c,(b3||b4)=c:=⟨_,rfl⟩
   rw [g5] at hno hoks
   simp only [tA] at cn
   repeat' (first | (refine aa ?_;first | (refine zg rfl ?_;first | refine ah ?_ | refine zo ?_ | (refine zs ?_ ?_<;>intro hb<;>((try simp only [bn] at hb);first | subst hb | simp only [hb]))) | (apply ai;rfl;simp only [aj,avs,tts,Nat.reduceAdd,Nat.reduceMul,Nat.reduceSub,Nat.reduceEqDiff,Nat.reduceLT,Nat.reduceLeDiff,Int.reduceToNat,Int.reduceLE,Int.reduceLT,Int.toNat_natCast,reduceCtorEq,hix,hlt,ga,la,g1,w1,gz,w3,hix3,hlt3,ga3,hls,g4,g5,Bool.not_true,Bool.not_false]<;>exact rr) | (refine za rfl ?_;refine zp (cn) ?_)) | refine ae ?_ | (refine ak ?_;first | (refine yg rfl ?_;first | refine ar ?_ | refine yo ?_ | (refine ys ?_ ?_<;>intro hb<;>((try simp only [bn] at hb);first | subst hb | simp only [hb]))) | (apply au;rfl;simp only [aB,avs,tts,Nat.reduceAdd,Nat.reduceMul,Nat.reduceSub,Nat.reduceEqDiff,Nat.reduceLT,Nat.reduceLeDiff,Int.reduceToNat,Int.reduceLE,Int.reduceLT,Int.toNat_natCast,reduceCtorEq,hix,hlt,ga,la,g1,w1,gz,w3,hix3,hlt3,ga3,hls,g4,g5,Bool.not_true,Bool.not_false]<;>exact rr;first | trivial | omega) | (refine ya rfl ?_;refine yp (cn) ?_)) | refine al ?_ | refine ag ?_ | refine zr af ?_ | refine zR 0 af mixed ?_ | refine zR 1 af mixed ?_ | refine zR 2 af mixed ?_ | refine zR 3 af mixed ?_ | refine zf rfl rfl ?_ | refine zt rfl rfl ?_ | (refine am rfl rfl ?_ ?_<;>intro hb<;>((try simp only [bn] at hb);first | subst hb | simp only [hb])) | refine ap ?_ | refine aq ?_ | refine an ?_)
   all_goals first
    | (have hp:P=false:=(by rw [←hP,hno (by rfl)];rfl);subst hp;show AW _ _ _ _ _;refine aw ⟨_,rfl,_,rfl,?_⟩;rfl)
    | (refine ⟨ps.length - ((j+1)+1),_,_,by omega,⟨?_,.inl rfl⟩,(j+1)+1,rfl,hlt,hoks (by rfl),rfl,rfl⟩;simp [aJ,List.replicate])
end
end Av
end Go.Proofs.YtdekcppfpgeneaaGreatDoor
namespace Go.Proofs.YtdekcppfpgeneaaGreatDoor
open Go Go.RowKit
namespace Rg
open Av Nt
theorem tI {n d n' d':Nat} (hd:0<d) (hd':0<d') (h:n * d'=n' * d):np false n d=np false n' d':=by
 obtain ⟨h1,h2⟩:=ww hd hd' h
 unfold np
 rw [h1,h2]
 rfl
theorem mo (n d:Nat) (hd:0<d):ofR (n:Int) (d:Int)=np false n d:=by
 unfold ofR
 rw [if_neg (by omega),decide_eq_false (by omega),decide_eq_false (by omega)]
 rfl
theorem fW {n d n' d':Nat} (hd:0<d) (hd':0<d') (h:n * d'=n' * d):ofR (n:Int) (d:Int)=ofR (n':Int) (d':Int):=by
 rw [mo _ _ hd,mo _ _ hd',tI hd hd' h]
theorem qw {n:Nat} (h:n<10000):(aD n).size≤4:=by
 rw [aX];exact gO 3 n h
theorem vG {n d:Nat} (hn:0<n) (hd:0<d) (h1:n<tp 300) (h2:d<tp 300):dF (np false n d)=true:=by
 have hg:0<Nat.gcd n d:=Nat.gcd_pos_of_pos_right _ hd
 have l1:n / Nat.gcd n d<tp 300:=Nat.lt_of_le_of_lt (Nat.div_le_self _ _) h1
 have l2:d / Nat.gcd n d<tp 300:=Nat.lt_of_le_of_lt (Nat.div_le_self _ _) h2
 have p1:0<n / Nat.gcd n d:=Nat.div_pos (Nat.le_of_dvd hn (Nat.gcd_dvd_left n d)) hg
 have p2:=AZ (n:=n) hd
 have c:=A0 (n:=n) hd
 unfold dF np okN
 simp only
 rw [iu (nH (k:=299) l1),iu (nH (k:=299) l2),cz,cz]
 simp only [Bool.and_self,if_true]
 rw [if_neg (by omega),if_neg (by omega)]
 exact decide_eq_true c
theorem mH {v:Nat} (h0:0<v) (h1:v≤6000):cZ (ofR (v:Int) 6000)=v:=by
 rw [show (6000:Int)=((6000:Nat):Int) from rfl,mo v 6000 (by omega)]
 have hv:=vG (n:=v) (d:=6000) h0 (by omega) (Nat.lt_of_le_of_lt h1 (Nat.lt_of_lt_of_le (by decide:6000<tp 4) (hU (by decide)))) (Nat.lt_of_lt_of_le (by decide:6000<tp 4) (hU (by decide)))
 have hu:=wt (n:=v) (N:=6000) (by omega)
 have hg:0<Nat.gcd v 6000:=Nat.gcd_pos_of_pos_right _ (by omega)
 have l1:v / Nat.gcd v 6000≤v:=Nat.div_le_self _ _
 have l2:6000 / Nat.gcd v 6000≤6000:=Nat.div_le_self _ _
 have l3:v / Nat.gcd v 6000≤6000 / Nat.gcd v 6000:=Nat.div_le_div_right h1
 unfold cZ
 rw [hv]
 unfold np
 simp only [Bool.false_and,Bool.not_false,Bool.true_and]
 rw [decide_eq_true (qw (by omega)),decide_eq_true (qw (by omega)),cz,cz]
 simp only [Bool.and_self,if_true]
 rw [if_pos ⟨l3,hu.1⟩,hu.2]
def nmA:ByteArray:=⟨#[97]⟩
def nmP:ByteArray:=⟨#[112]⟩
def nmQ:ByteArray:=⟨#[113]⟩
def nmR:ByteArray:=⟨#[114]⟩
def nmZ:ByteArray:=⟨#[122]⟩
def hd1:Hd:=⟨⟨#[104,49]⟩,nmA,nmP,⟨#[]⟩,⟨#[]⟩,[],60,60,0, -1⟩
def hd2:Hd:=⟨⟨#[104,50]⟩,nmA,nmQ,⟨#[]⟩,⟨#[]⟩,[nmR],30,0,0, -1⟩
def hd3:Hd:=⟨⟨#[104,51]⟩,nmA,nmZ,⟨#[]⟩,⟨#[]⟩,[],50,0,0, -1⟩
def hdN:Hd:=⟨⟨#[104,49]⟩,nmA,nmP,nmQ,nmR,[],60,60,0, -1⟩
def l6:Hd:=⟨⟨#[104,49]⟩,nmA,nmP,⟨#[]⟩,⟨#[]⟩,[],60,60,6, -1⟩
theorem fa {l:List Hd} {m:List ByteArray} (hm:m.Nodup) (hs:m.Pairwise fun a b=>leT a b=true) (h:∀x,x∈l.flatMap bu↔x∈m):ay l=m :=
 xQ (fw _) hm hs fun x=>by rw [iW];exact h x
theorem DH:ay [hd1,hd2]=[nmA,nmP,nmQ,nmR]:=fa (by decide) (by decide) fun x=>by
 rw [show [hd1,hd2].flatMap bu=[nmA,nmP,nmA,nmQ,nmR] from by kernel_rfl]
 simp only [List.mem_cons,List.not_mem_nil,or_false]
 constructor
 ·rintro (h | h | h | h | h)<;>simp [h]
 ·rintro (h | h | h | h)<;>simp [h]
theorem psN:ay [hdN]=[nmA,nmP,nmQ,nmR]:=fa (by decide) (by decide) fun x=>by
 rw [show [hdN].flatMap bu=[nmA,nmP,nmQ,nmR] from by kernel_rfl]
theorem psL:ay [l6]=[nmA,nmP]:=fa (by decide) (by decide) fun x=>by
 rw [show [l6].flatMap bu=[nmA,nmP] from by kernel_rfl]
theorem ps1:ay [hd1]=[nmA,nmP]:=fa (by decide) (by decide) fun x=>by
 rw [show [hd1].flatMap bu=[nmA,nmP] from by kernel_rfl]
theorem Ez:ay [hd1,hd3]=[nmA,nmP,nmZ]:=fa (by decide) (by decide) fun x=>by
 rw [show [hd1,hd3].flatMap bu=[nmA,nmP,nmA,nmZ] from by kernel_rfl]
 simp only [List.mem_cons,List.not_mem_nil,or_false]
 constructor
 ·rintro (h | h | h | h)<;>simp [h]
 ·rintro (h | h | h)<;>simp [h]
theorem jC {l:List Hd} {m:List ByteArray} (hp:ay l=m) (h:((l.all bl&&decide ((l.map Hd.id).Nodup))&&(decide (l.length≤400)&&(decide (m.length≤60)&&fA l)))=true):bN l=true:=by
 unfold bN;rw [hp];exact h
theorem v12:bN [hd1,hd2]=true:=jC DH (by kernel_rfl)
theorem vN:bN [hdN]=true:=jC psN (by kernel_rfl)
theorem vL:bN [l6]=true:=jC psL (by kernel_rfl)
theorem v1:bN [hd1]=true:=jC ps1 (by kernel_rfl)
theorem ia {l:List (Int × Int)} (hn:l.Nodup) (hs:l.Pairwise leK):aT l=l:=xR hn hn hs fun _=>Iff.rfl
theorem Ej:atS [hd1,hd2] 5=⟨[nmA,nmP,nmQ,nmR],[⟨0,1,ofR 3 5⟩,⟨0,2,ofR 3 20⟩,⟨0,3,ofR 3 20⟩],[⟨0,1,ofR 3 5⟩]⟩∧atE [hd1,hd2] 5=0:=by
 unfold atS atE
 rw [v12,DH,show gW 5=true from rfl]
 simp only [Bool.and_self,if_true]
 refine ⟨?_,trivial⟩
 unfold jr
 rw [show (dA (ixS [nmA,nmP,nmQ,nmR]) 5 [hd1,hd2]).1=[(0,1),(0,2),(0,3)] from by kernel_rfl,show (dE (ixS [nmA,nmP,nmQ,nmR]) 5 [hd1,hd2]).1=[(0,1)] from by kernel_rfl]
 rw [ia (by decide) (by simp [leK]),ia (by decide) (by simp [leK])]
 simp only [List.map_cons,List.map_nil,ez]
 rw [show (dA (ixS [nmA,nmP,nmQ,nmR]) 5 [hd1,hd2]).2 (0,1)=3600 from by kernel_rfl,show (dA (ixS [nmA,nmP,nmQ,nmR]) 5 [hd1,hd2]).2 (0,2)=900 from by kernel_rfl,show (dA (ixS [nmA,nmP,nmQ,nmR]) 5 [hd1,hd2]).2 (0,3)=900 from by kernel_rfl,show (dE (ixS [nmA,nmP,nmQ,nmR]) 5 [hd1,hd2]).2 (0,1)=3600 from by kernel_rfl]
 rw [show ofR 3600 6000=ofR 3 5 from fW (n:=3600) (d:=6000) (n':=3) (d':=5) (by decide) (by decide) (by decide),show ofR 900 6000=ofR 3 20 from fW (n:=900) (d:=6000) (n':=3) (d':=20) (by decide) (by decide) (by decide)]
theorem atN:(atS [hdN] 5).capital=[⟨0,2,ofR 3 5⟩]∧(atS [hdN] 5).votes=[⟨0,3,ofR 3 5⟩]∧atE [hdN] 5=0:=by
 unfold atS atE
 rw [vN,psN,show gW 5=true from rfl]
 simp only [Bool.and_self,if_true,and_true]
 unfold jr
 rw [show (dA (ixS [nmA,nmP,nmQ,nmR]) 5 [hdN]).1=[(0,2)] from by kernel_rfl,show (dE (ixS [nmA,nmP,nmQ,nmR]) 5 [hdN]).1=[(0,3)] from by kernel_rfl]
 rw [ia (by decide) (by simp [leK]),ia (by decide) (by simp [leK])]
 simp only [List.map_cons,List.map_nil,ez]
 rw [show (dA (ixS [nmA,nmP,nmQ,nmR]) 5 [hdN]).2 (0,2)=3600 from by kernel_rfl,show (dE (ixS [nmA,nmP,nmQ,nmR]) 5 [hdN]).2 (0,3)=3600 from by kernel_rfl]
 rw [show ofR 3600 6000=ofR 3 5 from fW (n:=3600) (d:=6000) (n':=3) (d':=5) (by decide) (by decide) (by decide)]
 exact ⟨rfl,rfl⟩
theorem atL:atS [l6] 5=⟨[nmA,nmP],[],[]⟩∧atE [l6] 5=0:=by
 unfold atS atE
 rw [vL,psL,show gW 5=true from rfl]
 simp only [Bool.and_self,if_true,and_true]
 unfold jr
 rw [show (dA (ixS [nmA,nmP]) 5 [l6]).1=[] from by kernel_rfl,show (dE (ixS [nmA,nmP]) 5 [l6]).1=[] from by kernel_rfl]
 rw [ia (by decide) (by simp)]
 rfl
theorem Ex:ym [hd1] hd3=([],10):=by
 unfold ym
 rw [v1,show bl hd3=true from by kernel_rfl,show [hd1]++[hd3]=[hd1,hd3] from rfl,Ez,show fA [hd1,hd3]=false from by kernel_rfl,show lO [hd1] hd3.id = -1 from by kernel_rfl]
 rfl
theorem u35:cZ (ofR 3 5)=3600:=by
 rw [show ofR 3 5=ofR 3600 6000 from fW (n:=3) (d:=5) (n':=3600) (d':=6000) (by decide) (by decide) (by decide)]
 exact mH (v:=3600) (by decide) (by decide)
theorem Ev:cZ (ofR 3 20)=900:=by
 rw [show ofR 3 20=ofR 900 6000 from fW (n:=3) (d:=20) (n':=900) (d':=6000) (by decide) (by decide) (by decide)]
 exact mH (v:=900) (by decide) (by decide)
theorem AH:eZ ⟨[nmA,nmP,nmQ,nmR],[⟨0,1,ofR 3 5⟩,⟨0,2,ofR 3 20⟩,⟨0,3,ofR 3 20⟩],[⟨0,1,ofR 3 5⟩]⟩=true:=by
 unfold eZ
 rw [show eQ [] [nmA,nmP,nmQ,nmR]=true from by kernel_rfl]
 simp only [eR,pb,iG,eG,ig,du,bB,u35,Ev,List.nil_append,List.cons_append,List.length_cons,List.length_nil]
 decide
end Rg
end Go.Proofs.YtdekcppfpgeneaaGreatDoor
namespace Go.Proofs.YtdekcppfpgeneaaGreatDoor
open Go Go.RowKit
namespace Rg
open Av Nt
theorem mh {α:Type} {p:α→Bool} {f:α→Int}:∀{l:List α},(∀h∈l,p h=true→0≤f h)→∀{x:α},x∈l→p x=true→f x≤bB p f l
 | [],_,x,hx,_=>by cases hx
 | a::r,hn,x,hx,hp=>by
  have h0:=dl (p:=p) (f:=f) (l:=r) fun y hy=>hn y (List.mem_cons_of_mem _ hy)
  have ha:=hn a (List.mem_cons_self ..)
  simp only [bB]
  rcases List.mem_cons.1 hx with rfl | hx
  ·rw [if_pos hp];omega
  ·have:=mh (fun y hy=>hn y (List.mem_cons_of_mem _ hy)) hx hp
   by_cases e:p a=true
   ·rw [if_pos e];have:=ha e;omega
   ·rw [if_neg e];omega
theorem xF {pc:Int} (h0:0<pc) {n:Nat} (h1:0<n) (h5:n≤5):0<(pc * 60).tdiv n:=by
 have:=kr (pc:=pc) (by omega) h1 h5
 refine Classical.byContradiction fun hn => ?_
 have h2:(pc * 60).tdiv n * n≤0:=Int.mul_nonpos_of_nonpos_of_nonneg (by omega) (by omega)
 omega
theorem AA {pc:Int} (h0:0≤pc) (n:Nat):0≤(pc * 60).tdiv n:=Int.tdiv_nonneg (by omega) (Int.natCast_nonneg n)
structure lZ (n:Nat) (s:KSt):Prop where
 nd:s.1.Nodup
 rng:∀k∈s.1,(0≤k.1∧k.1<n)∧(0≤k.2∧k.2<n)∧k.1≠k.2
 pos:∀k∈s.1,0<s.2 k
 tot:∀c:Int,fQ c s≤6000
theorem mF {n:Nat} {s:KSt} (h:lZ n s) {k:Int × Int} (hk:k∈s.1):s.2 k≤6000:=by
 have h1:=h.tot k.1
 have h2:=mh (p:=fun j:Int × Int=>decide (j.1=k.1)) (f:=s.2) (l:=s.1) (fun j hj _=>Int.le_of_lt (h.pos j hj)) hk (decide_eq_true rfl)
 unfold fQ at h1
 omega
theorem qZ {n:Nat} {s:KSt} (h:lZ n s) {k:Int × Int} (hk:k∈s.1):cZ (ez s k).part=s.2 k:=by
 have h1:=h.pos k hk
 have h2:=mF h hk
 unfold ez
 simp only
 obtain ⟨v,hv⟩:∃v:Nat,s.2 k=v:=⟨(s.2 k).toNat,by omega⟩
 rw [hv] at h1 h2 ⊢
 exact mH (by omega) (by omega)
theorem Az {n:Nat} {s:KSt} (h:lZ n s) {l:List (Int × Int)} (hl:∀k∈l,k∈s.1) (c:Int):du (l.map (ez s)) c=bB (fun k:Int × Int=>decide (k.1=c)) s.2 l:=by
 unfold du
 rw [rf]
 exact mL fun k hk=>⟨rfl,fun _=>qZ h (hl k hk)⟩
theorem rY {n:Nat} {s:KSt} (h:lZ n s):eR (n:Int) (jr s)=true:=by
 rw [jY]
 intro i hi
 have hlen:(jr s).length=(aT s.1).length:=by unfold jr;rw [List.length_map]
 have hi':i<(aT s.1).length:=by omega
 have hk:=fR.1 (List.getElem_mem hi')
 have e:(jr s)[i]=ez s (aT s.1)[i]:=List.getElem_map ..
 have et:(jr s).take i=((aT s.1).take i).map (ez s):=by unfold jr;rw [List.map_take]
 rw [e,et]
 obtain ⟨⟨r1,r2⟩,⟨r3,r4⟩,r5⟩:=h.rng _ hk
 have hu:=qZ h hk
 have hp:=h.pos _ hk
 unfold iG
 have t:du (((aT s.1).take i).map (ez s)++[ez s (aT s.1)[i]]) (ez s (aT s.1)[i]).company≤6000:=by
  have e2:((aT s.1).take i).map (ez s)++[ez s (aT s.1)[i]]=((aT s.1).take (i+1)).map (ez s):=by
   rw [List.take_add_one,List.getElem?_eq_getElem hi',List.map_append];rfl
  rw [e2,Az h fun k hk=>fR.1 (List.mem_of_mem_take hk)]
  have h1:=gF (p:=fun k:Int × Int=>decide (k.1=(ez s (aT s.1)[i]).company)) (f:=s.2) (l:=aT s.1) (fun k hk _=>Int.le_of_lt (h.pos k (fR.1 hk))) (i+1)
  have h2:=h.tot (ez s (aT s.1)[i]).company
  unfold fQ at h2
  rw [←vS _ _ (ew s.1)] at h2
  omega
 have rise:ig (eG (((aT s.1).take i).map (ez s))) (ez s (aT s.1)[i]).company (ez s (aT s.1)[i]).holder=true:=by
  unfold ig
  simp only [Bool.or_eq_true,Bool.and_eq_true,decide_eq_true_eq]
  cases i with
  | zero =>
   left
   show (-1:Int)<(aT s.1)[0].1
   omega
  | succ j =>
   have hj:j<(aT s.1).length:=by omega
   have el:eG (((aT s.1).take (j+1)).map (ez s))=(aT s.1)[j]:=by
    rw [List.take_add_one,List.getElem?_eq_getElem hj,List.map_append]
    unfold eG
    rw [show (Option.toList (some (aT s.1)[j])).map (ez s)=[ez s (aT s.1)[j]] from rfl,List.getLast?_concat]
    rfl
   rw [el]
   have h1:=List.pairwise_iff_getElem.1 (jH s.1) j (j+1) hj hi' (by omega)
   have h2:=List.pairwise_iff_getElem.1 (lB h.nd) j (j+1) hj hi' (by omega)
   show (aT s.1)[j].1<(aT s.1)[j+1].1∨((aT s.1)[j+1].1=(aT s.1)[j].1∧(aT s.1)[j].2<(aT s.1)[j+1].2)
   unfold leK at h1
   rcases h1 with h1 | ⟨h1,h3⟩
   ·exact .inl h1
   ·refine .inr ⟨h1.symm,?_⟩
    rcases Int.lt_or_eq_of_le h3 with h4 | h4
    ·exact h4
    ·exact absurd (Prod.ext h1 h4) h2
 rw [rise,hu,decide_eq_false (by omega:¬du (((aT s.1).take i).map (ez s)++[ez s (aT s.1)[i]]) (ez s (aT s.1)[i]).company>6000),decide_eq_false (by omega:¬s.2 (aT s.1)[i]=0)]
 show (decide ((aT s.1)[i].1<0)||(decide ((aT s.1)[i].1≥n)||(decide ((aT s.1)[i].2<0)||(decide ((aT s.1)[i].2≥n)||(decide ((aT s.1)[i].1=(aT s.1)[i].2)||(!true||(false||false)))))))=false
 rw [decide_eq_false (by omega),decide_eq_false (by omega),decide_eq_false (by omega),decide_eq_false (by omega),decide_eq_false r5]
 rfl
theorem y6 {ps:List ByteArray} {x:ByteArray} (hx:x∈ps):0≤ixS ps x∧ixS ps x<ps.length:=by
 obtain ⟨i,hi,e,_⟩:=u6 hx
 omega
theorem s9 {h:Hd} (hp:bl h=true) {x:ByteArray} (hx:x∈eK h):x∈bu h:=by
 unfold eK at hx
 by_cases e:h.pledged=emp
 ·rw [if_pos e] at hx;exact mE hp hx
 ·rw [if_neg e,List.mem_singleton] at hx
  subst hx
  unfold bu
  simp only [List.mem_cons,List.mem_filter,Bool.not_eq_true',decide_eq_false_iff_not,true_or,or_true,true_and]
  exact .inr (.inr e)
theorem vB {h:Hd} (hp:Prp h):0<(eK h).length∧(eK h).length≤5:=by
 unfold eK
 split
 ·exact ⟨(gY hp).2.1,(gY hp).2.2⟩
 ·exact ⟨by simp,by simp⟩
theorem vQ {ps:List ByteArray} {s:KSt} (hr:∀k∈s.1,0≤k.1∧k.1<ps.length) (ht:∀i,i<ps.length→fQ (i:Int) s≤6000) (c:Int):fQ c s≤6000:=by
 by_cases h:0≤c∧c<ps.length
 ·obtain ⟨i,rfl⟩:∃i:Nat,c=i:=⟨c.toNat,by omega⟩
  exact ht i (by omega)
 ·have:fQ c s=0:=iU fun k hk e=>by
   have:=hr k hk
   have:k.1=c:=of_decide_eq_true e
   omega
  omega
theorem rM {l:List Hd} (hv:bN l=true) (day:Int) (pc:Hd→Int) (who:Hd→List ByteArray) (h0:∀h∈l,0≤pc h) (hw:∀h∈l,0<(who h).length∧(who h).length≤5) (hn:∀h∈l,∀x∈who h,x∈bu h) {s:KSt} (hnd:s.1.Nodup)
  (hm:∀k,k∈s.1↔∃h∈l,cF h day=true∧∃x∈who h,ff (ixS (ay l)) h.company (pc h) k x=true)
  (hval:∀k,s.2 k=bB (fun h=>cF h day) (fun h=>jZ (ixS (ay l)) h.company (pc h) (who h) k) l)
  (ht:∀i,i<(ay l).length→fQ (i:Int) s≤6000):lZ (ay l).length s:=by
 have hrng:∀k∈s.1,(0≤k.1∧k.1<(ay l).length)∧(0≤k.2∧k.2<(ay l).length)∧k.1≠k.2:=fun k hk=>by
  obtain ⟨h,hh,_,x,hx,h2⟩:=(hm k).1 hk
  unfold ff at h2
  simp only [decide_eq_true_eq] at h2
  have hc:h.company∈ay l:=dv.2 ⟨h,hh,by unfold bu;exact List.mem_cons_self ..⟩
  have hxm:x∈ay l:=dv.2 ⟨h,hh,hn h hh x hx⟩
  rw [←h2.2.2]
  refine ⟨y6 hc,y6 hxm,fun e => ?_⟩
  exact h2.2.1 ((tN hc hxm).1 e).symm
 refine ⟨hnd,hrng,fun k hk => ?_,fun c=>vQ (fun k hk=>(hrng k hk).1) ht c⟩
 obtain ⟨h,hh,h1,x,hx,h2⟩:=(hm k).1 hk
 have hpc:0<pc h:=by unfold ff at h2;simp only [decide_eq_true_eq] at h2;exact h2.1
 have h3:=xF hpc (hw h hh).1 (hw h hh).2
 have h4:(pc h * 60).tdiv (who h).length≤jZ (ixS (ay l)) h.company (pc h) (who h) k:=by
  unfold jZ
  exact mh (f:=fun _=>(pc h * 60).tdiv (who h).length) (fun _ _ _=>Int.le_of_lt h3) hx h2
 have h5:=mh (p:=fun h=>cF h day) (f:=fun h=>jZ (ixS (ay l)) h.company (pc h) (who h) k) (l:=l) (fun y hy _=>by
  unfold jZ
  exact dl fun _ _ _=>AA (h0 y hy) _) hh h1
 rw [hval]
 omega
theorem sL {l:List Hd} (hv:bN l=true) (day:Int):lZ (ay l).length (dA (ixS (ay l)) day l):=by
 have hp:=(dM hv).1
 have hc:=zY hp
 have hb:fA l=true:=by
  unfold bN at hv;simp only [Bool.and_eq_true] at hv;exact hv.2.2.2
 refine rM hv day Hd.capital ev (fun h hh=>(hc h hh).1.1) (fun h hh=>(gY ((dn h).1 (hp h hh))).2) (fun h hh x hx=>mE (hp h hh) hx) (ud ..) (sM _ day l) (zZ _ day l) fun i hi => ?_
 rw [Bo hp (fun h hh=>hh) hi day]
 have:=(wM hp hb day (ay l)[i]).1
 omega
theorem qT {l:List Hd} (hv:bN l=true) (day:Int):lZ (ay l).length (dE (ixS (ay l)) day l):=by
 have hp:=(dM hv).1
 have hc:=zY hp
 have hb:fA l=true:=by
  unfold bN at hv;simp only [Bool.and_eq_true] at hv;exact hv.2.2.2
 refine rM hv day Hd.votes eK (fun h hh=>(hc h hh).2.1) (fun h hh=>vB ((dn h).1 (hp h hh))) (fun h hh x hx=>s9 (hp h hh) hx) (tf ..) (qU _ day l) (xt _ day l) fun i hi => ?_
 rw [As hp (fun h hh=>hh) hi day]
 have h1:=(wM hp hb day (ay l)[i]).2
 have h2:bB (fun h=>inB day (ay l)[i] h && !oP h) Hd.votes l≤dR l day (ay l)[i]:=by
  unfold dR
  refine mg fun x hx => ?_
  have h6:=(hc x hx).2.1
  by_cases e:inB day (ay l)[i] x=true
  ·rw [if_pos e];split<;>omega
  ·simp [e]
 omega
theorem na {l:List Hd} (hv:bN l=true):eQ [] (ay l)=true:=by
 have hp:=(dM hv).1
 rw [il]
 intro k hk
 have hnm:bL (ay l)[k]=true:=by
  obtain ⟨h,hh,hx⟩:=dv.1 (List.getElem_mem hk)
  have hq:=(dn h).1 (hp h hh)
  unfold bu at hx
  simp only [List.mem_cons,List.mem_filter,Bool.not_eq_true',decide_eq_false_iff_not] at hx
  rcases hx with e | e | ⟨e | e | e,hne⟩
  ·rw [e];exact hq.company
  ·rw [e];exact hq.holder
  ·rw [e];exact hq.nominee.resolve_left (by rw [←e];exact hne)
  ·rw [e];exact hq.pledged.resolve_left (by rw [←e];exact hne)
  ·exact hq.joint _ e
 cases k with
 | zero=>rw [kI hk,hnm];rfl
 | succ j =>
  rw [kJ hk,hnm]
  have h1:=List.pairwise_iff_getElem.1 (eO l) j (j+1) (by omega) hk (by omega)
  have h2:=List.pairwise_iff_getElem.1 (dp l) j (j+1) (by omega) hk (by omega)
  have h3:ltT (ay l)[j+1] (ay l)[j]=false:=by
   cases hc:ltT (ay l)[j+1] (ay l)[j] with
   | false=>rfl
   | true=>exact absurd (gL h1 (pZ.1 hc).1) h2
  rw [h3,decide_eq_false (fun e=>h2 e.symm)]
  rfl
theorem Ai {l:List Hd} {day:Int} (hv:bN l=true) (hd:gW day=true):eZ (atS l day)=true:=by
 unfold atS eZ
 rw [hv,hd]
 simp only [Bool.and_self,if_true]
 rw [na hv,decide_eq_true (dM hv).2,rY (sL hv day),rY (qT hv day)]
 rfl
end Rg
end Go.Proofs.YtdekcppfpgeneaaGreatDoor
namespace Go.Proofs.YtdekcppfpgeneaaGreatDoor
open Go Go.RowKit
namespace Av
open Nt Rg
theorem aI.leArg {P:Program} {base:World} {f:FuncId} {args args':List AV} {r:AV} (h:aI P base f args' r) (k:LeL args args'):aI P base f args r:=fun H =>
 ⟨(h H).enter,fun μ w vs hs ha=>(h H).run μ w vs hs (k.rep ha)⟩
def LeP (p q:PD):Prop:=q.one=true∧∀w imm v,aQ w imm p v→aQ w imm q v
theorem LeP.nil (k:Nat):LeP (.v (.slice none 0 0)) (.sl k []):=⟨rfl,fun w imm v h=>by
 simp only [aQ] at h ⊢
 exact ⟨none,0,h.1,Nat.le_refl _,by unfold maxLen;omega,.inl trivial⟩⟩
def oe:List PD→List PD→Prop
 | [],[]=>True
 | a::l,b::m=>(a=b∨LeP a b)∧oe l m
 | _,_=>False
theorem oe.refl:∀l:List PD,oe l l
 | []=>trivial
 | a::l=>⟨.inl rfl,oe.refl l⟩
theorem oe.len:∀{l m:List PD},oe l m→l.length=m.length
 | [],[],_=>rfl
 | [],_::_,h=>h.elim
 | _::_,[],h=>h.elim
 | a::l,b::m,h=>by rw [List.length_cons,List.length_cons,h.2.len]
theorem oe.cells {w:World} {imm:Nat→Prop} {b:Nat}:∀{l m:List PD} {o:Nat},oe l m→aK w imm l b o→aK w imm m b o
 | [],[],_,_,h=>h
 | [],_::_,_,h,_=>h.elim
 | _::_,[],_,h,_=>h.elim
 | p::l,q::m,o,h,k=>by
  simp only [aK] at k ⊢
  refine ⟨?_,h.2.cells k.2⟩
  rcases h.1 with rfl | h1
  ·exact k.1
  ·obtain ⟨_,c,k1,k2⟩:=k.1
   exact ⟨h1.1,c,k1,h1.2 _ _ _ k2⟩
def xq:List (List PD)→List (List PD)→Prop
 | [],[]=>True
 | a::l,b::m=>oe a b∧xq l m
 | _,_=>False
theorem xq.rows {w:World} {imm:Nat→Prop} {b k:Nat}:∀{l m:List (List PD)} {o:Nat},xq l m→bi w imm l b k o→bi w imm m b k o
 | [],[],_,_,h=>h
 | [],_::_,_,h,_=>h.elim
 | _::_,[],_,h,_=>h.elim
 | p::l,q::m,o,h,k=>by
  simp only [bi] at k ⊢
  exact ⟨h.1.len.symm.trans k.1,h.1.cells k.2.1,h.2.rows k.2.2⟩
theorem xq.len:∀{l m:List (List PD)},xq l m→l.length=m.length
 | [],[],_=>rfl
 | [],_::_,h=>h.elim
 | _::_,[],h=>h.elim
 | a::l,b::m,h=>by rw [List.length_cons,List.length_cons,h.2.len]
theorem LeA.sl {k:Nat} {l m:List (List PD)} (h:xq l m):LeA (.d (.sl k l)) (.d (.sl k m)):=fun s v hv=>by
 simp only [Rep,aQ] at hv ⊢
 obtain ⟨ao,cap,h1,h2,h3,h4⟩:=hv
 refine ⟨ao,cap,by rw [←h.len];exact h1,by rw [←h.len];exact h2,h3,?_⟩
 rcases h4 with rfl | ⟨b,o,h4,h5,h6⟩
 ·left
  cases m with
  | nil=>rfl
  | cons _ _=>exact h.elim
 ·exact .inr ⟨b,o,h4,h5,h.rows h6⟩
def tQ (h:Hd):List PD:=[.v (.string h.id),.v (.string h.company),.v (.string h.holder),.v (.string h.nominee),.v (.string h.pledged),.v (.slice none 0 0),.v (.int .i64 h.capital),.v (.int .i64 h.votes),.v (.int .i64 h.fr),.v (.int .i64 h.til)]
theorem my {h:Hd} (e:h.joint=[]):oe (tQ h) (hdC h):=by
 unfold tQ hdC
 refine ⟨.inl rfl,.inl rfl,.inl rfl,.inl rfl,.inl rfl,.inr ?_,.inl rfl,.inl rfl,.inl rfl,.inl rfl,trivial⟩
 rw [e];exact LeP.nil 1
attribute [local irreducible] AW aL aH
section
variable {base:World} (hT:dt base)
theorem xS:∀h∈[hd1,hd2,hd3,hdN,l6],Small h:=fun h hh=>by
 have:(ow h&&kU h)=true:=by
  simp only [List.mem_cons,List.not_mem_nil,or_false] at hh
  rcases hh with rfl | rfl | rfl | rfl | rfl<;>kernel_rfl
 exact (pm (n:=1) (l:=[h]) (by unfold l8;simp [this])).2 h (by simp) |>.1
theorem y5:∀h∈[hd1,hd2,hd3,hdN,l6],h.joint.length≤1000:=fun h hh=>by
 simp only [List.mem_cons,List.not_mem_nil,or_false] at hh
 rcases hh with rfl | rfl | rfl | rfl | rfl<;>decide
theorem pV {n d:Nat} (hd:0<d) (h1:n<10000) (h2:d<10000):(ofR (n:Int) (d:Int)).num.size≤9223372036854775807∧(ofR (n:Int) (d:Int)).den.size≤9223372036854775807:=by
 rw [mo n d hd]
 unfold np
 have q1:=qw (n:=n / Nat.gcd n d) (Nat.lt_of_le_of_lt (Nat.div_le_self _ _) h1)
 have q2:=qw (n:=d / Nat.gcd n d) (Nat.lt_of_le_of_lt (Nat.div_le_self _ _) h2)
 exact ⟨by simp only;omega,by simp only;omega⟩
include hT
set_option maxRecDepth 100000 in
set_option maxHeartbeats 8000000 in
theorem CJ:aI Tryz.prog base 10 [] (boA true):=by
 have sm:=xS
 have jm:=y5
 have a1:=Bv (base:=base) hT [hd1,hd2] 5 (fun h hh=>sm h (by simp only [List.mem_cons,List.not_mem_nil,or_false] at hh ⊢;rcases hh with h | h<;>simp [h])) (fun h hh=>jm h (by simp only [List.mem_cons,List.not_mem_nil,or_false] at hh ⊢;rcases hh with h | h<;>simp [h])) (by simp)
 have a2:=Bv (base:=base) hT [hdN] 5 (fun h hh=>sm h (by simp at hh;simp [hh])) (fun h hh=>jm h (by simp at hh;simp [hh])) (by simp)
 have a3:=Bv (base:=base) hT [l6] 5 (fun h hh=>sm h (by simp at hh;simp [hh])) (fun h hh=>jm h (by simp at hh;simp [hh])) (by simp)
 have a4:=DF (base:=base) [hd1] hd3 (fun h hh=>sm h (by simp at hh;simp [hh])) (sm _ (by simp)) (fun h hh=>jm h (by simp at hh;simp [hh])) (jm _ (by simp)) (by simp)
 rw [Ej.1,Ej.2] at a1
 rw [Ex] at a4
 rw [atL.1,atL.2] at a3
 have o1:=B8 hT 3 5 (by decide) (by decide) (by decide) (by decide)
 have o2:=B8 hT 3 20 (by decide) (by decide) (by decide) (by decide)
 have z1:(ofR 3 5).num.size≤9223372036854775807∧(ofR 3 5).den.size≤9223372036854775807:=pV (n:=3) (d:=5) (by decide) (by decide) (by decide)
 have z2:(ofR 3 20).num.size≤9223372036854775807∧(ofR 3 20).den.size≤9223372036854775807:=pV (n:=3) (d:=20) (by decide) (by decide) (by decide)
 have hN:=atN
 have s0:=AH
 generalize ofR 3 5=r1 at *
 generalize ofR 3 20=r2 at *
 have s1:=pN hT ⟨[nmA,nmP,nmQ,nmR],[⟨0,1,r1⟩,⟨0,2,r2⟩,⟨0,3,r2⟩],[⟨0,1,r1⟩]⟩ (by simp) (fun t ht=>by simp only [List.mem_cons,List.not_mem_nil,or_false] at ht;rcases ht with rfl | rfl | rfl | rfl<;>decide) (by simp) (by simp) (fun x hx=>by simp only [List.mem_cons,List.not_mem_nil,or_false] at hx;rcases hx with rfl | rfl | rfl;exact z1;exact z2;exact z2) (fun x hx=>by simp only [List.mem_cons,List.not_mem_nil,or_false] at hx;subst hx;exact z1)
 rw [s0] at s1
 have e1:=Cv base ⟨[nmA,nmP,nmQ,nmR],[⟨0,1,r1⟩,⟨0,2,r2⟩,⟨0,3,r2⟩],[⟨0,1,r1⟩]⟩ ⟨[nmA,nmP,nmQ,nmR],[⟨0,1,r1⟩,⟨0,2,r2⟩,⟨0,3,r2⟩],[⟨0,1,r1⟩]⟩ (by simp) (by simp) (by simp) (by simp) (by simp) (by simp)
 have e2:=jI base [⟨0,2,r1⟩] [⟨0,2,r1⟩] (by simp) (by simp)
 have e3:=jI base [⟨0,3,r1⟩] [⟨0,3,r1⟩] (by simp) (by simp)
 have e4:=uy base [nmA,nmP] [nmA,nmP] (by simp) (by simp)
 rw [decide_eq_true rfl] at e1 e2 e3 e4
 generalize atS [hdN] 5=S2 at a2 hN
 obtain ⟨p2,c2,v2⟩:=S2
 simp only at hN
 obtain ⟨rfl,rfl,hN⟩:=hN
 rw [hN] at a2
 clear hN sm jm z1 z2 s0
 obtain ⟨rn,ru,rd⟩:=r1
 obtain ⟨qn,qu,qd⟩:=r2
 have a1:=a1.leArg (args:=[.d (.sl 10 [tQ hd1,hdC hd2]),iA 5]) ⟨LeA.sl ⟨my rfl,oe.refl _,trivial⟩,.refl _,trivial⟩
 have a2:=a2.leArg (args:=[.d (.sl 10 [tQ hdN]),iA 5]) ⟨LeA.sl ⟨my rfl,trivial⟩,.refl _,trivial⟩
 have a3:=a3.leArg (args:=[.d (.sl 10 [tQ l6]),iA 5]) ⟨LeA.sl ⟨my rfl,trivial⟩,.refl _,trivial⟩
 have a4:=a4.leArg (args:=[.d (.sl 10 [tQ hd1]),.agg [tA hd3.id,tA hd3.company,tA hd3.holder,tA hd3.nominee,tA hd3.pledged,.d (.v (.slice none 0 0)),iA hd3.capital,iA hd3.votes,iA hd3.fr,iA hd3.til]]) ⟨LeA.sl ⟨my rfl,trivial⟩,LeA.agg ⟨.refl _,.refl _,.refl _,.refl _,.refl _,.nil 1,.refl _,.refl _,.refl _,.refl _,trivial⟩,trivial⟩
 simp only [hZ,pM,bq,js,lkP,fF,cO,List.map_cons,List.map_nil,iA,tA,boA,tQ,hdC,hd1,hd2,hd3,hdN,l6,nmA,nmP,nmQ,nmR,nmZ] at a1 a2 a3 a4 o1 o2 s1 e1 e2 e3 e4 ⊢
 refine aC af Tryz.call10 Tryz.func10 rfl fun H hB hb hF => ?_
 rw [Tryz.results10,Tryz.ntmps10]
 simp only [aA,List.length_cons,List.length_nil,List.replicate,List.cons_append,List.nil_append,Nat.reduceAdd,Nat.reduceSub]
 clear hF hb
 repeat refine ag ?_
 refine zr af ?_
 repeat (refine aa ?_;first | (apply ai;rfl;simp only [aj,avs,tts,seval]<;>exact rr) | (refine zg rfl ?_;first | refine ah ?_ | refine zo ?_))
 refine ae ?_
 repeat refine ag ?_
 refine zr af ?_
 repeat (refine aa ?_;first | (apply ai;rfl;simp only [aj,avs,tts,seval]<;>exact rr) | (refine zg rfl ?_;first | refine ah ?_ | refine zo ?_))
 refine ae ?_
 repeat refine ag ?_
 refine zr af ?_
 repeat (refine aa ?_;first | (apply ai;rfl;simp only [aj,avs,tts,seval]<;>exact rr) | (refine zg rfl ?_;first | refine ah ?_ | refine zo ?_))
 refine ae ?_
 refine vq (H.length+1) (H.length+2) (by omega) (by simp only [avs]<;>rfl) (by simp only [avs,tts,Nat.reduceAdd,Nat.reduceMul,Nat.reduceSub,Nat.reduceEqDiff,Nat.reduceLT,Nat.reduceLeDiff,Int.reduceToNat,Int.reduceLE,Int.reduceLT,Int.toNat_natCast,reduceCtorEq,bU,bY,cP,bh,bc,unI,unL,Nat.add_eq_left,Nat.left_eq_add,Nat.one_ne_zero]<;>rfl) (by simp only [avs,tts,Nat.reduceAdd,Nat.reduceMul,Nat.reduceSub,Nat.reduceEqDiff,Nat.reduceLT,Nat.reduceLeDiff,Int.reduceToNat,Int.reduceLE,Int.reduceLT,Int.toNat_natCast,reduceCtorEq,bU,bY,cP,bh,bc,unI,unL,Nat.add_eq_left,Nat.left_eq_add,Nat.one_ne_zero]<;>rfl) (by simp only [avs,tts,Nat.reduceAdd,Nat.reduceMul,Nat.reduceSub,Nat.reduceEqDiff,Nat.reduceLT,Nat.reduceLeDiff,Int.reduceToNat,Int.reduceLE,Int.reduceLT,Int.toNat_natCast,reduceCtorEq,bU,bY,cP,bh,bc,unI,unL,Nat.add_eq_left,Nat.left_eq_add,Nat.one_ne_zero]<;>rfl) ?_
 repeat' (first | (refine aa ?_;first | (refine zg rfl ?_;first | refine ah ?_ | refine zo ?_ | (refine zs ?_ ?_<;>intro hb<;>((try simp only [bn] at hb);first | subst hb | simp only [hb]))) | (apply ai;rfl;simp only [aj,avs,tts,seval]<;>exact rr)) | refine ae ?_ | (refine ak ?_;first | (refine yg rfl ?_;first | refine ar ?_ | refine yo ?_ | (refine ys ?_ ?_<;>intro hb<;>((try simp only [bn] at hb);first | subst hb | simp only [hb]))) | (apply au;rfl;simp only [aB,avs,tts,seval]<;>exact rr;first | trivial | omega)) | refine al ?_ | refine ag ?_ | refine zr af ?_ | refine zR 0 af mixed ?_ | refine zR 1 af mixed ?_ | refine zR 2 af mixed ?_ | refine zR 3 af mixed ?_ | refine zf rfl rfl ?_ | refine zt rfl rfl ?_ | (refine am rfl rfl ?_ ?_<;>intro hb<;>((try simp only [bn] at hb);first | subst hb | simp only [hb])) | refine ap ?_ | refine aq ?_ | refine an ?_)
 refine aa ?_
 refine eF rfl (by simp only [avs]<;>rfl) ?_
 refine sT ((H.length+3)) (by simp only [avs,tts,seval,bU,bY,cP,bh,bc,unI,unL,Nat.add_eq_left,Nat.left_eq_add,Nat.one_ne_zero]<;>rfl) (by simp only [avs,tts,seval,bU,bY,cP,bh,bc,unI,unL,Nat.add_eq_left,Nat.left_eq_add,Nat.one_ne_zero]<;>rfl) (a1) (by simp only [avs]<;>rfl) ?_
 repeat' (first | (refine aa ?_;first | (refine zg rfl ?_;first | refine ah ?_ | refine zo ?_ | (refine zs ?_ ?_<;>intro hb<;>((try simp only [bn] at hb);first | subst hb | simp only [hb]))) | (apply ai;rfl;simp only [aj,avs,tts,seval]<;>exact rr) | (refine za rfl ?_;first | refine zp (o1) ?_ | refine zp (o2) ?_ | refine zp (e1) ?_)) | refine ae ?_ | (refine ak ?_;first | (refine yg rfl ?_;first | refine ar ?_ | refine yo ?_ | (refine ys ?_ ?_<;>intro hb<;>((try simp only [bn] at hb);first | subst hb | simp only [hb]))) | (apply au;rfl;simp only [aB,avs,tts,seval]<;>exact rr;first | trivial | omega) | (refine ya rfl ?_;first | refine yp (o1) ?_ | refine yp (o2) ?_ | refine yp (e1) ?_)) | refine al ?_ | refine ag ?_ | refine zr af ?_ | refine zR 0 af mixed ?_ | refine zR 1 af mixed ?_ | refine zR 2 af mixed ?_ | refine zR 3 af mixed ?_ | refine zf rfl rfl ?_ | refine zt rfl rfl ?_ | (refine am rfl rfl ?_ ?_<;>intro hb<;>((try simp only [bn] at hb);first | subst hb | simp only [hb])) | refine ap ?_ | refine aq ?_ | refine an ?_)
 refine aa ?_
 refine eF rfl (by simp only [avs]<;>rfl) ?_
 refine sT ((H.length+9)) (by simp only [avs,tts,seval,bU,bY,cP,bh,bc,unI,unL,Nat.add_eq_left,Nat.left_eq_add,Nat.one_ne_zero]<;>rfl) (by simp only [avs,tts,seval,bU,bY,cP,bh,bc,unI,unL,Nat.add_eq_left,Nat.left_eq_add,Nat.one_ne_zero]<;>rfl) (a2) (by simp only [avs]<;>rfl) ?_
 repeat' (first | (refine aa ?_;first | (refine zg rfl ?_;first | refine ah ?_ | refine zo ?_ | (refine zs ?_ ?_<;>intro hb<;>((try simp only [bn] at hb);first | subst hb | simp only [hb]))) | (apply ai;rfl;simp only [aj,avs,tts,seval]<;>exact rr) | (refine za rfl ?_;first | refine zp (o1) ?_ | refine zp (e2) ?_ | refine zp (e3) ?_)) | refine ae ?_ | (refine ak ?_;first | (refine yg rfl ?_;first | refine ar ?_ | refine yo ?_ | (refine ys ?_ ?_<;>intro hb<;>((try simp only [bn] at hb);first | subst hb | simp only [hb]))) | (apply au;rfl;simp only [aB,avs,tts,seval]<;>exact rr;first | trivial | omega) | (refine ya rfl ?_;first | refine yp (o1) ?_ | refine yp (e2) ?_ | refine yp (e3) ?_)) | refine al ?_ | refine ag ?_ | refine zr af ?_ | refine zR 0 af mixed ?_ | refine zR 1 af mixed ?_ | refine zR 2 af mixed ?_ | refine zR 3 af mixed ?_ | refine zf rfl rfl ?_ | refine zt rfl rfl ?_ | (refine am rfl rfl ?_ ?_<;>intro hb<;>((try simp only [bn] at hb);first | subst hb | simp only [hb])) | refine ap ?_ | refine aq ?_ | refine an ?_)
 refine aa ?_
 refine eF rfl (by simp only [avs]<;>rfl) ?_
 refine sT ((H.length+14)) (by simp only [avs,tts,seval,bU,bY,cP,bh,bc,unI,unL,Nat.add_eq_left,Nat.left_eq_add,Nat.one_ne_zero]<;>rfl) (by simp only [avs,tts,seval,bU,bY,cP,bh,bc,unI,unL,Nat.add_eq_left,Nat.left_eq_add,Nat.one_ne_zero]<;>rfl) (a3) (by simp only [avs]<;>rfl) ?_
 repeat' (first | (refine aa ?_;first | (refine zg rfl ?_;first | refine ah ?_ | refine zo ?_ | (refine zs ?_ ?_<;>intro hb<;>((try simp only [bn] at hb);first | subst hb | simp only [hb]))) | (apply ai;rfl;simp only [aj,avs,tts,seval]<;>exact rr)) | refine ae ?_ | (refine ak ?_;first | (refine yg rfl ?_;first | refine ar ?_ | refine yo ?_ | (refine ys ?_ ?_<;>intro hb<;>((try simp only [bn] at hb);first | subst hb | simp only [hb]))) | (apply au;rfl;simp only [aB,avs,tts,seval]<;>exact rr;first | trivial | omega)) | refine al ?_ | refine ag ?_ | refine zr af ?_ | refine zR 0 af mixed ?_ | refine zR 1 af mixed ?_ | refine zR 2 af mixed ?_ | refine zR 3 af mixed ?_ | refine zf rfl rfl ?_ | refine zt rfl rfl ?_ | (refine am rfl rfl ?_ ?_<;>intro hb<;>((try simp only [bn] at hb);first | subst hb | simp only [hb])) | refine ap ?_ | refine aq ?_ | refine an ?_)
 refine aa ?_
 refine eF rfl (by simp only [avs]<;>rfl) ?_
 refine sT ((H.length+16)) (by simp only [avs,tts,seval,bU,bY,cP,bh,bc,unI,unL,Nat.add_eq_left,Nat.left_eq_add,Nat.one_ne_zero]<;>rfl) (by simp only [avs,tts,seval,bU,bY,cP,bh,bc,unI,unL,Nat.add_eq_left,Nat.left_eq_add,Nat.one_ne_zero]<;>rfl) (a4) (by simp only [avs]<;>rfl) ?_
 repeat' (first | (refine aa ?_;first | (refine zg rfl ?_;first | refine ah ?_ | refine zo ?_ | (refine zs ?_ ?_<;>intro hb<;>((try simp only [bn] at hb);first | subst hb | simp only [hb]))) | (apply ai;rfl;simp only [aj,avs,tts,seval]<;>exact rr)) | refine ae ?_ | (refine ak ?_;first | (refine yg rfl ?_;first | refine ar ?_ | refine yo ?_ | (refine ys ?_ ?_<;>intro hb<;>((try simp only [bn] at hb);first | subst hb | simp only [hb]))) | (apply au;rfl;simp only [aB,avs,tts,seval]<;>exact rr;first | trivial | omega)) | refine al ?_ | refine ag ?_ | refine zr af ?_ | refine zR 0 af mixed ?_ | refine zR 1 af mixed ?_ | refine zR 2 af mixed ?_ | refine zR 3 af mixed ?_ | refine zf rfl rfl ?_ | refine zt rfl rfl ?_ | (refine am rfl rfl ?_ ?_<;>intro hb<;>((try simp only [bn] at hb);first | subst hb | simp only [hb])) | refine ap ?_ | refine aq ?_ | refine an ?_)
 refine aa ?_
 refine eF rfl (by simp only [avs]<;>rfl) ?_
 refine E5 (e4) (by simp only [avs,tts,seval,fN.eq_def,jB.eq_def,bh,bc]<;>rfl) rfl (by simp only [avs]<;>rfl) ?_
 repeat' (first | (refine aa ?_;first | (refine zg rfl ?_;first | refine ah ?_ | refine zo ?_ | (refine zs ?_ ?_<;>intro hb<;>((try simp only [bn] at hb);first | subst hb | simp only [hb]))) | (apply ai;rfl;simp only [aj,avs,tts,seval]<;>exact rr) | (refine za rfl ?_;refine zp (s1) ?_)) | refine ae ?_ | (refine ak ?_;first | (refine yg rfl ?_;first | refine ar ?_ | refine yo ?_ | (refine ys ?_ ?_<;>intro hb<;>((try simp only [bn] at hb);first | subst hb | simp only [hb]))) | (apply au;rfl;simp only [aB,avs,tts,seval]<;>exact rr;first | trivial | omega) | (refine ya rfl ?_;refine yp (s1) ?_)) | refine al ?_ | refine ag ?_ | refine zr af ?_ | refine zR 0 af mixed ?_ | refine zR 1 af mixed ?_ | refine zR 2 af mixed ?_ | refine zR 3 af mixed ?_ | refine zf rfl rfl ?_ | refine zt rfl rfl ?_ | (refine am rfl rfl ?_ ?_<;>intro hb<;>((try simp only [bn] at hb);first | subst hb | simp only [hb])) | refine ap ?_ | refine aq ?_ | refine an ?_)
 simp only [decide_true,if_true]
 show AW _ _ _ _ _
 exact aw ⟨_,rfl,_,rfl,rfl⟩
end
end Av
end Go.Proofs.YtdekcppfpgeneaaGreatDoor
namespace Go.Proofs.YtdekcppfpgeneaaGreatDoor
open Go Go.RowKit
namespace Av
open Nt Rg
def gT (w:World):St:=⟨fun _=>none,[],w⟩
theorem oQ (w:World) (b:Nat) (h:b<w.heap.size):(gT w).imm b:=⟨h,fun ⟨l,o,h1,_⟩=>by simp [gT] at h1⟩
theorem vY (w:World):Sim w (gT w):=⟨Below.refl _ _,fun l o h=>by simp [gT] at h,fun l l' o o' b h=>by simp [gT] at h⟩
def HdsIn (w:World) (v:Value) (l:List Hd):Prop:=Rep (gT w) (.d (cO l)) v
def DG:List PT:=[.s,.s,.s,.s,.s,.sl [.s],.i .i64,.i .i64,.i .i64,.i .i64]
theorem Bc {ps:List PD} (h:bW DG ps):∃x:Hd,ps=hdC x:=by
 obtain ⟨p1,r1,rfl,h1,k1⟩:=bF h
 obtain ⟨a1,rfl⟩:=iw h1
 obtain ⟨p2,r2,rfl,h2,k2⟩:=bF k1
 obtain ⟨a2,rfl⟩:=iw h2
 obtain ⟨p3,r3,rfl,h3,k3⟩:=bF k2
 obtain ⟨a3,rfl⟩:=iw h3
 obtain ⟨p4,r4,rfl,h4,k4⟩:=bF k3
 obtain ⟨a4,rfl⟩:=iw h4
 obtain ⟨p5,r5,rfl,h5,k5⟩:=bF k4
 obtain ⟨a5,rfl⟩:=iw h5
 obtain ⟨p6,r6,rfl,h6,k6⟩:=bF k5
 obtain ⟨a6,rfl⟩:=pk h6
 obtain ⟨p7,r7,rfl,h7,k7⟩:=bF k6
 obtain ⟨a7,rfl⟩:=kT h7
 obtain ⟨p8,r8,rfl,h8,k8⟩:=bF k7
 obtain ⟨a8,rfl⟩:=kT h8
 obtain ⟨p9,r9,rfl,h9,k9⟩:=bF k8
 obtain ⟨a9,rfl⟩:=kT h9
 obtain ⟨p10,r10,rfl,h10,k10⟩:=bF k9
 obtain ⟨a10,rfl⟩:=kT h10
 exact ⟨⟨a1,a2,a3,a4,a5,a6,a7,a8,a9,a10⟩,by rw [iy k10];rfl⟩
set_option maxRecDepth 100000 in
theorem open_hds {H:Type} {enc:TypeId × Value→H} {w:World} {b0:Nat} {v:Value} {d:DataW H} {p:List MemPlace} (hv:Value.okWide Tryz.prog w .any b0 26 v) (h:DataW.Trod enc Tryz.prog w 0 (fun _=>true) true 26 v d p) :
  ∃l,HdsIn w v l:=by
 obtain ⟨a,n,c,rfl⟩:=Go.WideShapes.okWide_slice Tryz.underlying26 hv
 obtain ⟨n,hn⟩:=h
 obtain ⟨ps,h1,h2⟩:=mn (s:=gT w) rfl (oQ w) n 8 26 _ _ [.sl DG] (by kernel_rfl) hn
 obtain ⟨p,r,rfl,h3,h4⟩:=bF h1
 have h5:=iy h4
 subst h5
 obtain ⟨l,rfl,hl⟩:=qh h3
 obtain ⟨xs,rfl⟩:=qa (f:=hdC) (l:=l) fun it hi=>Bc (hl it hi)
 refine ⟨xs,?_⟩
 simp only [dL,List.map_cons,List.map_nil,ax] at h2
 obtain ⟨x,t,e,h6,rfl⟩:=h2
 simp only [Value.cells] at e
 cases e
 exact h6
theorem calls_of_a {P:Program} {w:World} {f:FuncId} {args:List AV} {vs:Array Value} {R:AV→av→Prop} (h:bR P w f args [] R) (ha:ax (gT w) args vs.toList) (hR:∀r H',R r H'→r = .d (.v (.bool true))) :
  Calls P f vs w fun e w'=>e = .returned (.bool true)∧Below w.heap.size w w':=by
 refine (h.run (fun _=>none) w vs (vY w) ha).mono fun e w' ⟨v,r,H',μ',h1,h2,h3,h4,h5,h6⟩ => ?_
 rw [hR r H' h2] at h5
 simp only [Rep,aQ] at h5
 exact ⟨by rw [h1,h5.1],h4.below⟩
theorem DD (w:World) {n:Int} (h0 : -9223372036854775808≤n) (h1:n≤9223372036854775807):Rep (gT w) (iA n) (.int .i64 n):=by
 simp only [iA,Rep,aQ,true_and,small,IntKind.min,IntKind.max,IntKind.signed,IntKind.bits]
 (try simp)
 omega
theorem rep_w (w:World) {n:Int} (h:(Lit.int .i64 n).wf=true):Rep (gT w) (iA n) (.int .i64 n):=by
 simp only [Lit.wf,Bool.and_eq_true,decide_eq_true_eq,IntKind.min,IntKind.max,IntKind.signed,IntKind.bits] at h
 (try simp at h)
 exact DD w (by omega) (by omega)
end Av
end Go.Proofs.YtdekcppfpgeneaaGreatDoor
namespace Go.Proofs.YtdekcppfpgeneaaGreatDoor
open Go Go.RowKit
def Ef:List Int:=[0,1,56,2,57,49,28,3,61,58,42,50,38,29,17,4,62,47,59,36,45,43,51,22,53,39,33,30,24,18,12,5,63,55,48,27,60,41,37,16,46,35,44,21,52,32,23,11,54,26,40,15,34,20,31,10,25,14,19,9,13,8,7,6]
theorem tabs_of {W:World} {rest:List (String × DataW Unit)} (h:laidMet Tryz.prog (("math/bits.deBruijn32tab",Rows.laid_math_bits_deBruijn32tab)::("math/bits.deBruijn64tab",Rows.laid_math_bits_deBruijn64tab)::("internal/strconv.uint64pow10",Rows.laid_internal_strconv_uint64pow10)::rest) W):dt W:=by
 have h1:laidMet Tryz.prog (("math/bits.deBruijn64tab",Lib.tabData .u8 Ef)::("internal/strconv.uint64pow10",Lib.tabData .u64 Lib.pow10Tab)::rest) W:=laidMet.tail h
 have t1:=Lib.tabIs_of_head (g:=6) (t:=250) (e:=5) (n:=64) (by kernel_rfl) (by kernel_rfl) (by kernel_rfl) (by kernel_rfl) (by kernel_rfl) (by kernel_rfl) h1
 have t2:=Lib.tabIs_of_head (g:=2) (t:=225) (e:=167) (n:=20) (by kernel_rfl) (by kernel_rfl) (by kernel_rfl) (by kernel_rfl) (by kernel_rfl) (by kernel_rfl) (laidMet.tail h1)
 have hc:=t1.cell (g:=6) (by kernel_rfl) 15 (by decide)
 refine ⟨t2,hc,?_⟩
 rcases Nat.lt_or_ge 6 W.heap.size with h' | h'
 ·exact h'
 ·rw [World.cell?,Array.getElem?_eq_none h'] at hc
  cases hc
end Go.Proofs.YtdekcppfpgeneaaGreatDoor
namespace Go.Proofs.YtdekcppfpgeneaaGreatDoor
open Go Go.RowKit
namespace Rg
open Av Nt
theorem eM (ix:ByteArray→Int) (day:Int) (pc:Hd→Int) (who:Hd→List ByteArray):∀(l:List Hd) (s:KSt),(∀h∈l,(who h).length≤1001)→(l.foldl (fS pc who ix day) s).1.length≤s.1.length+1001 * l.length
 | [],s,_=>by simp
 | h::r,s,hw=>by
  have h1:=eM ix day pc who r (fS pc who ix day s h) fun x hx=>hw x (List.mem_cons_of_mem _ hx)
  have h2:=hw h (List.mem_cons_self ..)
  have h3:(fS pc who ix day s h).1.length≤s.1.length+1001:=by
   unfold fS
   split
   ·have:=jp ix h.company (pc h) (who h) s;omega
   ·omega
  rw [List.foldl_cons,List.length_cons];omega
theorem rH (s:KSt):(jr s).length=s.1.length:=by unfold jr;rw [List.length_map];exact (ew _).length_eq
structure Em (s:Str):Prop where
 p:s.parties.length≤1000000
 c:s.capital.length≤1000000
 v:s.votes.length≤1000000
theorem xk {l:List Hd} (day:Int) (hj:∀h∈l,h.joint.length≤1000) (hl:l.length≤900):Em (atS l day):=by
 unfold atS
 cases hv:bN l&&gW day with
 | false=>exact ⟨by simp,by simp,by simp⟩
 | true =>
  simp only [Bool.and_eq_true] at hv
  have:=(dM hv.1).2
  have hc:=eM (ixS (ay l)) day Hd.capital ev l eU fun h hh=>jz (hj h hh)
  have hvv:=eM (ixS (ay l)) day Hd.votes eK l eU fun h hh=>mD (hj h hh)
  rw [show eU.1.length=0 from rfl] at hc hvv
  simp only [if_true]
  exact ⟨by simp only;omega,by simp only [rH];unfold dA;rw [AG];omega,by simp only [rH];unfold dE;rw [AF];omega⟩
end Rg
namespace Av
attribute [local irreducible] AW aL aH
open Nt Rg
section
variable {base:World} (hT:dt base)
include hT
end
end Av
end Go.Proofs.YtdekcppfpgeneaaGreatDoor
namespace Go.Proofs.YtdekcppfpgeneaaGreatDoor
open Go Go.RowKit
namespace Rg
open Av Nt
end Rg
namespace Av
attribute [local irreducible] AW aL aH
open Nt Rg
section
variable {base:World} (hT:dt base)
include hT
end
end Av
end Go.Proofs.YtdekcppfpgeneaaGreatDoor
namespace Go.Proofs.YtdekcppfpgeneaaGreatDoor
open Go Go.RowKit
namespace Rg
open Av Nt
end Rg
namespace Av
attribute [local irreducible] AW aL aH
open Nt Rg
section
variable {base:World} (hT:dt base)
include hT
end
end Av
end Go.Proofs.YtdekcppfpgeneaaGreatDoor
namespace Go.Proofs.YtdekcppfpgeneaaGreatDoor
open Go Go.RowKit
namespace Rg
open Av Nt
end Rg
namespace Av
attribute [local irreducible] AW aL aH
open Nt Rg
section
variable {base:World} (hT:dt base)
include hT
end
end Av
end Go.Proofs.YtdekcppfpgeneaaGreatDoor
namespace Go.Proofs.YtdekcppfpgeneaaGreatDoor
open Go Go.RowKit
namespace Av
attribute [local irreducible] AW aL aH
open Nt Rg
section
variable (base:World)
theorem zM (n:Nat):decide (aD n=⟨#[49]⟩)=decide (n=1):=by
 refine decide_eq_decide.2 ⟨fun h => ?_,fun h=>by rw [h];kernel_rfl⟩
 exact j9 (h.trans (by kernel_rfl:(⟨#[49]⟩:ByteArray)=aD 1))
end
end Av
end Go.Proofs.YtdekcppfpgeneaaGreatDoor
namespace Go.Proofs.YtdekcppfpgeneaaGreatDoor
open Go Go.RowKit
namespace Rg
open Av Nt
theorem vi {t:ByteArray} (h:fq t):decide (t=⟨#[48]⟩)=decide (bj t=0):=by
 rw [←kY,h.can]
theorem vD {r:Rt} (h1:fq r.num) (h2:fq r.den) (ho:okN r.num r.den=true):dF r=(!decide (r.den=⟨#[48]⟩)&&(!(r.neg&&decide (r.num=⟨#[48]⟩))&&decide (aD (Nat.gcd (bj r.num) (bj r.den))=⟨#[49]⟩))):=by
 unfold dF
 rw [if_pos ho,vi h1,vi h2,zM]
 by_cases hd:bj r.den=0
 ·simp [hd]
 ·by_cases hn:bj r.num=0
  ·have e1:r.den=AU↔bj r.den=1:=by
    have h3:AU=aD 1:=by kernel_rfl
    rw [h3]
    exact ⟨fun h=>by rw [h,cz],fun h=>h2.can.symm.trans (by rw [h])⟩
   rw [if_neg hd,if_pos hn,hn,Nat.gcd_zero_left]
   simp [hd,e1]
  ·rw [if_neg hd,if_neg hn]
   simp [hd,hn]
end Rg
namespace Av
attribute [local irreducible] AW aL aH
open Nt Rg
section
variable (base:World)
set_option maxRecDepth 100000 in
set_option maxHeartbeats 4000000 in
theorem vW (r:Rt) (h1:r.num.size≤1000000) (h2:r.den.size≤1000000):aI Tryz.prog base 101 [fF r] (boA (dF r)):=by
 have c1:=uJ base r.num h1
 have c2:=uJ base r.den h2
 have hc:=fun (e1:isN r.num=true) (e2:isN r.den=true)=>by
  have k1:=dX e1
  have k2:=dX e2
  have:=Cx base (n:=bj r.num) (m:=bj r.den) (by rw [k1.can];exact k1.le) (by rw [k2.can];exact k2.le)
  rw [k1.can,k2.can] at this
  exact this
 have hv:=fun (e1:isN r.num=true) (e2:isN r.den=true)=>vD (r:=r) (dX e1) (dX e2) (by unfold okN;rw [e1,e2];rfl)
 have hno:(isN r.num&&isN r.den)=false→dF r=false:=fun h=>by unfold dF okN;rw [h];rfl
 obtain ⟨neg,num,den⟩:=r
 simp only at c1 c2 hc hv hno h1 h2
 obtain ⟨b1,e1⟩:∃b,isN num=b:=⟨_,rfl⟩
 obtain ⟨b2,e2⟩:∃b,isN den=b:=⟨_,rfl⟩
 obtain ⟨b3,e3⟩:∃b,decide (den=⟨#[48]⟩)=b:=⟨_,rfl⟩
 obtain ⟨b4,e4⟩:∃b,decide (num=⟨#[48]⟩)=b:=⟨_,rfl⟩
 rw [e1] at c1 hc hv hno
 rw [e2] at c2 hc hv hno
 rw [e3,e4] at hv
 generalize dF ⟨neg,num,den⟩=res at *
 generalize aD (Nat.gcd (bj num) (bj den))=g at *
 obtain ⟨b5,e5⟩:∃b,decide (g=⟨#[49]⟩)=b:=⟨_,rfl⟩
 rw [e5] at hv
 refine aC af Tryz.call101 Tryz.func101 rfl fun H hB hb hF => ?_
 rw [Tryz.results101,Tryz.ntmps101]
 simp only [aA,List.length_cons,List.length_nil,List.replicate,List.cons_append,List.nil_append,Nat.reduceAdd,Nat.reduceSub]
 clear hF hb
 simp only [tA,iA,boA,fF] at c1 c2 hc ⊢
 cases b1 with
 | false =>
  rw [hno rfl]
  repeat' (first | (refine aa ?_;first | (refine zg rfl ?_;first | refine ah ?_ | refine zo ?_ | (refine zs ?_ ?_<;>intro hb<;>((try simp only [bn] at hb);first | subst hb | simp only [hb]))) | (apply ai;rfl;simp only [aj,avs,tts,seval,e3,e4,Bool.not_false]<;>exact rr) | (refine za rfl ?_;first | refine zp (c1) ?_ | refine zp (c2) ?_)) | refine ae ?_ | (refine ak ?_;first | (refine yg rfl ?_;first | refine ar ?_ | refine yo ?_ | (refine ys ?_ ?_<;>intro hb<;>((try simp only [bn] at hb);first | subst hb | simp only [hb]))) | (apply au;rfl;simp only [aB,avs,tts,seval,e3,e4,Bool.not_false]<;>exact rr;first | trivial | omega) | (refine ya rfl ?_;first | refine yp (c1) ?_ | refine yp (c2) ?_)) | refine al ?_ | refine ag ?_ | refine zr af ?_ | refine zQ 0 af mixed ?_ | refine zQ 1 af mixed ?_ | refine zQ 2 af mixed ?_ | refine zQ 3 af mixed ?_ | refine zf rfl rfl ?_ | refine zt rfl rfl ?_ | (refine am rfl rfl ?_ ?_<;>intro hb<;>((try simp only [bn] at hb);first | subst hb | simp only [hb])) | refine ap ?_ | refine aq ?_ | refine an ?_)
  all_goals (show AW _ _ _ _ _;exact aw ⟨_,rfl,_,rfl,rfl⟩)
 | true =>
  cases b2 with
  | false =>
   rw [hno rfl]
   repeat' (first | (refine aa ?_;first | (refine zg rfl ?_;first | refine ah ?_ | refine zo ?_ | (refine zs ?_ ?_<;>intro hb<;>((try simp only [bn] at hb);first | subst hb | simp only [hb]))) | (apply ai;rfl;simp only [aj,avs,tts,seval,e3,e4,Bool.not_true,Bool.not_false]<;>exact rr) | (refine za rfl ?_;first | refine zp (c1) ?_ | refine zp (c2) ?_)) | refine ae ?_ | (refine ak ?_;first | (refine yg rfl ?_;first | refine ar ?_ | refine yo ?_ | (refine ys ?_ ?_<;>intro hb<;>((try simp only [bn] at hb);first | subst hb | simp only [hb]))) | (apply au;rfl;simp only [aB,avs,tts,seval,e3,e4,Bool.not_true,Bool.not_false]<;>exact rr;first | trivial | omega) | (refine ya rfl ?_;first | refine yp (c1) ?_ | refine yp (c2) ?_)) | refine al ?_ | refine ag ?_ | refine zr af ?_ | refine zQ 0 af mixed ?_ | refine zQ 1 af mixed ?_ | refine zQ 2 af mixed ?_ | refine zQ 3 af mixed ?_ | refine zf rfl rfl ?_ | refine zt rfl rfl ?_ | (refine am rfl rfl ?_ ?_<;>intro hb<;>((try simp only [bn] at hb);first | subst hb | simp only [hb])) | refine ap ?_ | refine aq ?_ | refine an ?_)
   all_goals (show AW _ _ _ _ _;exact aw ⟨_,rfl,_,rfl,rfl⟩)
  | true =>
   have hc:=hc rfl rfl
   rw [hv rfl rfl]
   clear hv hno
   repeat' (first | (refine aa ?_;first | (refine zg rfl ?_;first | refine ah ?_ | refine zo ?_ | (refine zs ?_ ?_<;>intro hb<;>((try simp only [bn] at hb);first | subst hb | simp only [hb]))) | (apply ai;rfl;simp only [aj,avs,tts,seval,e3,e4,e5,Bool.not_true,Bool.not_false]<;>exact rr) | (refine za rfl ?_;first | refine zp (c1) ?_ | refine zp (c2) ?_ | refine zp (hc) ?_)) | refine ae ?_ | (refine ak ?_;first | (refine yg rfl ?_;first | refine ar ?_ | refine yo ?_ | (refine ys ?_ ?_<;>intro hb<;>((try simp only [bn] at hb);first | subst hb | simp only [hb]))) | (apply au;rfl;simp only [aB,avs,tts,seval,e3,e4,e5,Bool.not_true,Bool.not_false]<;>exact rr;first | trivial | omega) | (refine ya rfl ?_;first | refine yp (c1) ?_ | refine yp (c2) ?_ | refine yp (hc) ?_)) | refine al ?_ | refine ag ?_ | refine zr af ?_ | refine zQ 0 af mixed ?_ | refine zQ 1 af mixed ?_ | refine zQ 2 af mixed ?_ | refine zQ 3 af mixed ?_ | refine zf rfl rfl ?_ | refine zt rfl rfl ?_ | (refine am rfl rfl ?_ ?_<;>intro hb<;>((try simp only [bn] at hb);first | subst hb | simp only [hb])) | refine ap ?_ | refine aq ?_ | refine an ?_)
   all_goals (show AW _ _ _ _ _;first | exact aw ⟨_,rfl,_,rfl,rfl⟩ | (simp only [Bool.not_true,Bool.not_false,Bool.false_and,Bool.true_and,Bool.and_true,Bool.and_false];exact aw ⟨_,rfl,_,rfl,rfl⟩))
set_option maxRecDepth 100000 in
set_option maxHeartbeats 4000000 in
theorem ro (t:ByteArray) (hd:t.data.toList.all aM=true) (ht:t.size≤18):aI Tryz.prog base 102 [tA t] (iA (bj t)):=by
 refine aC af Tryz.call102 Tryz.func102 rfl fun H hB hb hF => ?_
 rw [Tryz.results102,Tryz.ntmps102]
 simp only [aA,List.length_cons,List.length_nil,List.replicate,List.cons_append,List.nil_append,Nat.reduceAdd,Nat.reduceSub]
 clear hF hb
 have hsz:t.size=t.data.toList.length:=Lib.size_eq t
 simp only [tA,iA]
 repeat' (first | (refine aa ?_;first | (refine zg rfl ?_;first | refine ah ?_ | refine zo ?_ | (refine zs ?_ ?_<;>intro hb<;>((try simp only [bn] at hb);first | subst hb | simp only [hb]))) | (apply ai;rfl;simp only [aj,avs,tts,seval]<;>exact rr)) | refine ae ?_ | (refine ak ?_;first | (refine yg rfl ?_;first | refine ar ?_ | refine yo ?_ | (refine ys ?_ ?_<;>intro hb<;>((try simp only [bn] at hb);first | subst hb | simp only [hb]))) | (apply au;rfl;simp only [aB,avs,tts,seval]<;>exact rr;first | trivial | omega)) | refine al ?_ | refine ag ?_ | refine zr af ?_ | refine zQ 0 af mixed ?_ | refine zQ 1 af mixed ?_ | refine zQ 2 af mixed ?_ | refine zQ 3 af mixed ?_ | refine zf rfl rfl ?_ | refine zt rfl rfl ?_ | (refine am rfl rfl ?_ ?_<;>intro hb<;>((try simp only [bn] at hb);first | subst hb | simp only [hb])) | refine ap ?_ | refine aq ?_ | refine an ?_)
 refine aZ (H0:=H) (fun r env K=>∃k,r=t.size - k∧k≤t.size∧K=H∧env=(.d (.v (.string t)) :: .undef :: .undef :: .d (.v (.int .i64 (aG (t.data.toList.take k):Int))) :: .d (.v (.int .i64 (k:Int)))::List.replicate 15 .undef)) ?_ ⟨0,rfl,Nat.zero_le _,rfl,rfl⟩ ?_
 ·exact ⟨by simp [aJ,List.replicate,aG],.inl rfl⟩
 rintro r env K ⟨k,rfl,hk,rfl,rfl⟩ hN
 simp only [rp]
 obtain ⟨c0,g0⟩:∃c,decide ((k:Int)<(t.size:Int))=c:=⟨_,rfl⟩
 cases c0 with
 | false =>
  have hka:k=t.size:=by
                have:¬k<t.size:=by simpa using g0
                omega
  have e:t.data.toList.take k=t.data.toList:=by rw [hka,hsz,List.take_length]
  rw [e]
  repeat' (first | (refine aa ?_;first | (refine zg rfl ?_;first | refine ah ?_ | refine zo ?_ | (refine zs ?_ ?_<;>intro hb<;>((try simp only [bn] at hb);first | subst hb | simp only [hb]))) | (apply ai;rfl;simp only [aj,avs,tts,seval,g0]<;>exact rr)) | refine ae ?_ | (refine ak ?_;first | (refine yg rfl ?_;first | refine ar ?_ | refine yo ?_ | (refine ys ?_ ?_<;>intro hb<;>((try simp only [bn] at hb);first | subst hb | simp only [hb]))) | (apply au;rfl;simp only [aB,avs,tts,seval,g0]<;>exact rr;first | trivial | omega)) | refine al ?_ | refine ag ?_ | refine zr af ?_ | refine zQ 0 af mixed ?_ | refine zQ 1 af mixed ?_ | refine zQ 2 af mixed ?_ | refine zQ 3 af mixed ?_ | refine zf rfl rfl ?_ | refine zt rfl rfl ?_ | (refine am rfl rfl ?_ ?_<;>intro hb<;>((try simp only [bn] at hb);first | subst hb | simp only [hb])) | refine ap ?_ | refine aq ?_ | refine an ?_)
  exact aw ⟨_,rfl,[],by simp,rfl⟩
 | true =>
  have hlt:k<t.size:=by simpa using g0
  have hlt2:k<t.data.toList.length:=by omega
  have hix:(0:Int)≤(k:Int):=by omega
  have w1:IntKind.i64.wrap ((k:Int)+1)=((k+1:Nat):Int):=aP hlt (by omega)
  have hbt:t.data.toList.getD k 0=t.data.toList[k]:=by rw [List.getD_eq_getElem?_getD,List.getElem?_eq_getElem hlt2];rfl
  have hdg:=nG hd hlt2
  have htk:=lQ hlt2
  have hlim:aG (t.data.toList.take k)<10 ^ 17:=by
   have h1:=cA (l:=t.data.toList.take k) (List.all_eq_true.2 fun x hx=>List.all_eq_true.1 hd x (List.mem_of_mem_take hx))
   rw [List.length_take] at h1
   exact Nat.lt_of_lt_of_le h1 (Nat.pow_le_pow_right (by decide) (by omega))
  generalize aG (t.data.toList.take k)=v at *
  generalize t.data.toList[k]=c at *
  have w2:IntKind.i64.wrap (10 * (v:Int))=((v * 10:Nat):Int):=by rw [IntKind.wrap_i64];omega
  have w3:IntKind.u8.wrap ((c.toNat:Int) - 48)=((c.toNat - 48:Nat):Int):=by
   rw [IntKind.wrap_u8];omega
  have w4:IntKind.i64.wrap ((c.toNat - 48:Nat):Int)=((c.toNat - 48:Nat):Int):=by rw [IntKind.wrap_i64];omega
  have w5:IntKind.i64.wrap (((v * 10:Nat):Int)+((c.toNat - 48:Nat):Int))=((v * 10+(c.toNat - 48):Nat):Int):=by rw [IntKind.wrap_i64];omega
  repeat' (first | (refine aa ?_;first | (refine zg rfl ?_;first | refine ah ?_ | refine zo ?_ | (refine zs ?_ ?_<;>intro hb<;>((try simp only [bn] at hb);first | subst hb | simp only [hb]))) | (apply ai;rfl;simp only [aj,avs,tts,seval,g0,hix,hlt,hbt,w1,w2,w3,w4,w5]<;>exact rr)) | refine ae ?_ | (refine ak ?_;first | (refine yg rfl ?_;first | refine ar ?_ | refine yo ?_ | (refine ys ?_ ?_<;>intro hb<;>((try simp only [bn] at hb);first | subst hb | simp only [hb]))) | (apply au;rfl;simp only [aB,avs,tts,seval,g0,hix,hlt,hbt,w1,w2,w3,w4,w5]<;>exact rr;first | trivial | omega)) | refine al ?_ | refine ag ?_ | refine zr af ?_ | refine zQ 0 af mixed ?_ | refine zQ 1 af mixed ?_ | refine zQ 2 af mixed ?_ | refine zQ 3 af mixed ?_ | refine zf rfl rfl ?_ | refine zt rfl rfl ?_ | (refine am rfl rfl ?_ ?_<;>intro hb<;>((try simp only [bn] at hb);first | subst hb | simp only [hb])) | refine ap ?_ | refine aq ?_ | refine an ?_)
  exact ⟨t.size - (k+1),_,_,by omega,⟨by rw [htk];(try simp only [rp]);(repeat (first | exact trivial | refine ⟨.inr rfl,?_⟩ | refine ⟨.inl rfl,?_⟩)),.inl rfl⟩,k+1,rfl,hlt,rfl,rfl⟩
set_option maxRecDepth 100000 in
set_option maxHeartbeats 4000000 in
theorem x4 (r:Rt) (h1:r.num.size≤1000000) (h2:r.den.size≤1000000):aI Tryz.prog base 71 [fF r] (iA (cZ r)):=by
 have cv:=vW base r h1 h2
 refine aC af Tryz.call71 Tryz.func71 rfl fun H hB hb hF => ?_
 rw [Tryz.results71,Tryz.ntmps71]
 simp only [aA,List.length_cons,List.length_nil,List.replicate,List.cons_append,List.nil_append,Nat.reduceAdd,Nat.reduceSub]
 clear hF hb
 obtain ⟨neg,num,den⟩:=r
 have hvn:=oI (r:=⟨neg,num,den⟩)
 simp only at h1 h2 hvn
 unfold cZ
 simp only [fF,tA,iA,boA] at cv ⊢
 obtain ⟨bv,hbv⟩:∃b,dF ⟨neg,num,den⟩=b:=⟨_,rfl⟩
 rw [hbv] at cv hvn ⊢
 obtain ⟨b1,e1⟩:∃d,decide (num.size≤4)=d:=⟨_,rfl⟩
 obtain ⟨b2,e2⟩:∃d,decide (den.size≤4)=d:=⟨_,rfl⟩
 have f1:decide ((num.size:Int)>4) = !b1:=by
  subst e1;by_cases h:num.size≤4
  ·rw [decide_eq_true h,decide_eq_false (by omega)];rfl
  ·rw [decide_eq_false h,decide_eq_true (by omega)];rfl
 have f2:decide ((den.size:Int)>4) = !b2:=by
  subst e2;by_cases h:den.size≤4
  ·rw [decide_eq_true h,decide_eq_false (by omega)];rfl
  ·rw [decide_eq_false h,decide_eq_true (by omega)];rfl
 rw [e1,e2]
 by_cases hg:(bv&&(!neg&&(b1&&b2)))=true
 ·rw [if_pos hg]
  simp only [Bool.and_eq_true,Bool.not_eq_true'] at hg
  obtain ⟨rfl,rfl,rfl,rfl⟩:=hg
  obtain ⟨hn,hd,h0⟩:=hvn rfl
  have s1:=of_decide_eq_true e1
  have s2:=of_decide_eq_true e2
  have c1:=ro base num hn.digits (by omega)
  have c2:=ro base den hd.digits (by omega)
  have v1:=qV hn s1
  have v2:=qV hd s2
  simp only [tA,iA] at c1 c2
  generalize bj num=n at *
  generalize bj den=d at *
  have z1:((d:Int)=0)=False:=eq_false (by omega)
  obtain ⟨q,hq⟩:∃q,6000 / d=q:=⟨_,rfl⟩
  obtain ⟨m,hm⟩:∃m,6000 % d=m:=⟨_,rfl⟩
  have q1:q≤6000:=hq ▸ Nat.div_le_self _ _
  have q2:d * q≤6000:=hq ▸ Nat.mul_div_le _ _
  have m1:m≤6000:=hm ▸ Nat.mod_le _ _
  have z2:(6000:Int).tmod (d:Int)=(m:Int):=by rw [←hm];rfl
  have z3:(6000:Int).tdiv (d:Int)=(q:Int):=by rw [←hq];rfl
  have z4:IntKind.i64.wrap (q:Int)=(q:Int):=by rw [IntKind.wrap_i64];omega
  have z5:IntKind.i64.wrap (m:Int)=(m:Int):=by rw [IntKind.wrap_i64];omega
  rw [hq,hm]
  obtain ⟨d1,g1⟩:∃c,decide ((n:Int)>(d:Int))=c:=⟨_,rfl⟩
  obtain ⟨d2,g2⟩:∃c,decide ((m:Int)=0)=c:=⟨_,rfl⟩
  have z6:d1=false→IntKind.i64.wrap ((n:Int) * (q:Int))=((n * q:Nat):Int):=fun hd1=>by
   have h1:n≤d:=by subst hd1;have:=of_decide_eq_false g1;omega
   have h2:=Nat.mul_le_mul_right q h1
   rw [←Int.natCast_mul,IntKind.wrap_i64]
   generalize n * q=nq at *
   omega
  have hif:(n≤d∧m=0)=(d1=false∧d2=true):=by
   subst g1 g2
   simp only [decide_eq_false_iff_not,decide_eq_true_eq]
   exact propext ⟨fun h=>⟨by omega,by omega⟩,fun h=>⟨by omega,by omega⟩⟩
  simp only [hif]
  repeat' (first | (refine aa ?_;first | (refine zg rfl ?_;first | refine ah ?_ | refine zo ?_ | (refine zs ?_ ?_<;>intro hb<;>((try simp only [bn] at hb);first | subst hb | simp only [hb]))) | (apply ai;rfl;simp only [aj,avs,tts,seval,f1,f2,z1,z2,z3,z4,z5,g1,g2,Bool.not_true,Bool.not_false]<;>exact rr) | (refine za rfl ?_;first | refine zp (cv) ?_ | refine zp (c1) ?_ | refine zp (c2) ?_)) | refine ae ?_ | (refine ak ?_;first | (refine yg rfl ?_;first | refine ar ?_ | refine yo ?_ | (refine ys ?_ ?_<;>intro hb<;>((try simp only [bn] at hb);first | subst hb | simp only [hb]))) | (apply au;rfl;simp only [aB,avs,tts,seval,f1,f2,z1,z2,z3,z4,z5,g1,g2,Bool.not_true,Bool.not_false]<;>exact rr;first | trivial | omega) | (refine ya rfl ?_;first | refine yp (cv) ?_ | refine yp (c1) ?_ | refine yp (c2) ?_)) | refine al ?_ | refine ag ?_ | refine zr af ?_ | refine zQ 0 af mixed ?_ | refine zQ 1 af mixed ?_ | refine zQ 2 af mixed ?_ | refine zQ 3 af mixed ?_ | refine zf rfl rfl ?_ | refine zt rfl rfl ?_ | (refine am rfl rfl ?_ ?_<;>intro hb<;>((try simp only [bn] at hb);first | subst hb | simp only [hb])) | refine ap ?_ | refine aq ?_ | refine an ?_)
  all_goals (simp only [Bool.false_eq_true,and_true,and_false,false_and,true_and,if_true,if_false,reduceCtorEq])
  all_goals first
   | (show AW _ _ _ _ _;exact aw ⟨_,rfl,_,rfl,rfl⟩)
   | (rw [z6 rfl];show AW _ _ _ _ _;exact aw ⟨_,rfl,_,rfl,rfl⟩)
 ·rw [if_neg hg]
  clear hbv e1 e2 hvn
  have hg':(bv&&(!neg&&(b1&&b2)))=false:=by simpa using hg
  clear hg
  repeat' (first | (refine aa ?_;first | (refine zg rfl ?_;first | refine ah ?_ | refine zo ?_ | (refine zs ?_ ?_<;>intro hb<;>((try simp only [bn] at hb);first | subst hb | simp only [hb]))) | (apply ai;rfl;simp only [aj,avs,tts,seval,f1,f2,Bool.not_true,Bool.not_false]<;>exact rr) | (refine za rfl ?_;refine zp (cv) ?_)) | refine ae ?_ | (refine ak ?_;first | (refine yg rfl ?_;first | refine ar ?_ | refine yo ?_ | (refine ys ?_ ?_<;>intro hb<;>((try simp only [bn] at hb);first | subst hb | simp only [hb]))) | (apply au;rfl;simp only [aB,avs,tts,seval,f1,f2,Bool.not_true,Bool.not_false]<;>exact rr;first | trivial | omega) | (refine ya rfl ?_;refine yp (cv) ?_)) | refine al ?_ | refine ag ?_ | refine zr af ?_ | refine zQ 0 af mixed ?_ | refine zQ 1 af mixed ?_ | refine zQ 2 af mixed ?_ | refine zQ 3 af mixed ?_ | refine zf rfl rfl ?_ | refine zt rfl rfl ?_ | (refine am rfl rfl ?_ ?_<;>intro hb<;>((try simp only [bn] at hb);first | subst hb | simp only [hb])) | refine ap ?_ | refine aq ?_ | refine an ?_)
  all_goals first
   | (exfalso;revert hg';decide)
   | (show AW _ _ _ _ _;exact aw ⟨_,rfl,_,rfl,rfl⟩)
end
end Av
end Go.Proofs.YtdekcppfpgeneaaGreatDoor
namespace Go.Proofs.YtdekcppfpgeneaaGreatDoor
open Go Go.RowKit
namespace Rg
open Av Nt
end Rg
end Go.Proofs.YtdekcppfpgeneaaGreatDoor
namespace Go.Proofs.YtdekcppfpgeneaaGreatDoor
open Go Go.RowKit
namespace Rg
open Av Nt
end Rg
end Go.Proofs.YtdekcppfpgeneaaGreatDoor
namespace Go.Proofs.YtdekcppfpgeneaaGreatDoor
open Go Go.RowKit
namespace Rg
open Av Nt
end Rg
namespace Av
attribute [local irreducible] AW aL aH
open Nt Rg
section
variable (base:World)
end
end Av
end Go.Proofs.YtdekcppfpgeneaaGreatDoor
namespace Go.Proofs.YtdekcppfpgeneaaGreatDoor
open Go Go.RowKit
namespace Rg
open Av Nt
def jE (n:Nat) (p:List Lk):List (List AV):=(List.range n).map fun c:Nat=>[.d (.v (.int .i64 (du p (c:Int))))]
theorem AB (n:Nat) (p:List Lk):jE n p=dI ((List.range n).map fun c:Nat=>[PD.v (.int .i64 (du p (c:Int)))]):=by
 unfold jE dI
 simp [dL]
theorem Ad (m n:Nat) (p:List Lk):(aN.row 3 1 0 (jE n p)).bel m:=by rw [AB];exact fM _
theorem rc (n:Nat) (p:List Lk):(jE n p).length=n:=by unfold jE;simp
theorem xK (n:Nat):jE n []=List.replicate n [.d (.v (.int .i64 0))]:=by
 unfold jE du
 refine List.eq_replicate_iff.2 ⟨by simp,fun x hx => ?_⟩
 obtain ⟨c,_,rfl⟩:=List.mem_map.1 hx
 rfl
theorem re {n c:Nat} (h:c<n) (p:List Lk):(jE n p).getD c []=[.d (.v (.int .i64 (du p (c:Int))))]:=by
 unfold jE
 rw [List.getD_eq_getElem?_getD,List.getElem?_map,List.getElem?_range h];rfl
theorem xJ {n c:Nat} (h:c<n) (p:List Lk) (x:Lk) (hx:x.company=c):(jE n p).set c [.d (.v (.int .i64 (du p (c:Int)+cZ x.part)))]=jE n (p++[x]):=by
 refine List.ext_getElem? fun i => ?_
 unfold jE
 rw [List.getElem?_set]
 simp only [List.length_map,List.length_range,List.getElem?_map]
 by_cases hi:c=i
 ·subst hi
  rw [if_pos rfl,if_pos h,List.getElem?_range h,Option.map_some,fP,if_pos hx]
 ·rw [if_neg hi]
  by_cases hn:i<n
  ·rw [List.getElem?_range hn,Option.map_some,Option.map_some,fP,if_neg (by omega),Int.add_zero]
  ·rw [List.getElem?_eq_none (by rw [List.length_range];omega)];rfl
def yL (k:Nat) (y:Lk) (c h:Int):Bool:=decide ((k:Int)>0)&&(decide (c<y.company)||(decide (c=y.company)&&decide (h≤y.holder)))
theorem v6 {pre:List Lk} {y:Lk} {k:Nat} {c h:Int} (h0:0≤c) (hk:k=0→pre=[]) (hy:0<k→eG pre=(y.company,y.holder)):(!ig (eG pre) c h)=yL k y c h:=by
 unfold yL
 rcases Nat.eq_zero_or_pos k with rfl | hp
 ·rw [hk rfl]
  unfold ig eG
  have:decide (c > -1)=true:=decide_eq_true (by omega)
  simp [this]
 ·rw [hy hp,decide_eq_true (by omega:(k:Int)>0),Bool.true_and]
  unfold ig
  rw [Bool.eq_iff_iff]
  simp only [Bool.not_eq_true',Bool.or_eq_false_iff,Bool.and_eq_false_iff,decide_eq_false_iff_not,Bool.or_eq_true,Bool.and_eq_true,decide_eq_true_eq]
  omega
end Rg
namespace Av
attribute [local irreducible] AW aL aH
open Nt Rg
section
variable (base:World)
set_option maxRecDepth 100000 in
set_option maxHeartbeats 16000000 in
theorem rt (n:Nat) (l:List Lk) (hn:n≤1000000) (hl:l.length≤1000000) (hsz:∀x∈l,x.part.num.size≤1000000∧x.part.den.size≤1000000) :
  aI Tryz.prog base 43 [iA n,.d (js l)] (boA (eR n l)):=by
 refine aC af Tryz.call43 Tryz.func43 rfl fun H hB hb hF => ?_
 rw [Tryz.results43,Tryz.ntmps43]
 simp only [aA,List.length_cons,List.length_nil,List.replicate,List.cons_append,List.nil_append,Nat.reduceAdd,Nat.reduceSub]
 clear hF hb
 have la:(l.map lkP).length=l.length:=by simp
 simp only [js,iA]
 obtain ⟨P,hP⟩:∃P,eR n l=P:=⟨_,rfl⟩
 rw [hP]
 have c1:(0:Int)≤(n:Int):=by omega
 have c2:(n:Int)≤9223372036854775807:=by omega
 have c3:(8:Int) * (n:Int)≤281474976710656:=by omega
 repeat' (first | (refine aa ?_;first | (refine zg rfl ?_;first | refine ah ?_ | refine zo ?_ | (refine zs ?_ ?_<;>intro hb<;>((try simp only [bn] at hb);first | subst hb | simp only [hb]))) | (apply ai;rfl;simp only [aj,avs,tts,seval,la,c1,c2,c3,Int.le_refl]<;>exact rr)) | refine ae ?_ | (refine ak ?_;first | (refine yg rfl ?_;first | refine ar ?_ | refine yo ?_ | (refine ys ?_ ?_<;>intro hb<;>((try simp only [bn] at hb);first | subst hb | simp only [hb]))) | (apply au;rfl;simp only [aB,avs,tts,seval,la,c1,c2,c3,Int.le_refl]<;>exact rr;first | trivial | omega)) | refine al ?_ | refine ag ?_ | refine zr af ?_ | refine zQ 0 af mixed ?_ | refine zQ 1 af mixed ?_ | refine zQ 2 af mixed ?_ | refine zQ 3 af mixed ?_ | refine zf rfl rfl ?_ | refine zt rfl rfl ?_ | (refine am rfl rfl ?_ ?_<;>intro hb<;>((try simp only [bn] at hb);first | subst hb | simp only [hb])) | refine ap ?_ | refine aq ?_ | refine an ?_)
 refine aZ (H0:=H++[.row 3 1 0 (List.replicate n [.d (.v (.int .i64 0))])]) (fun r env K=>∃k,r=l.length - k∧k≤l.length∧(∀i (hi:i<l.length),i<k→iG n (l.take i) l[i]=false)∧(∀c,du (l.take k) c≤6000)∧K=H++[.row 3 1 0 (jE n (l.take k))]∧env=(.d (.v (.int .i64 (n:Int))) :: .d (.sl 5 (l.map lkP)) :: .undef :: .undef :: .undef :: .ms H.length 0 n :: .d (.v (.int .i64 (k:Int)))::List.replicate 97 .undef)) ?_ ⟨0,rfl,Nat.zero_le _,fun i _ h=>by omega,fun c=>by simp [du,bB],by rw [List.take_zero,xK],rfl⟩ ?_
 ·exact ⟨by (try simp only [rp]);(repeat (first | exact trivial | refine ⟨.inr rfl,?_⟩ | refine ⟨.inl rfl,?_⟩)),.inl rfl⟩
 rintro r env K ⟨k,rfl,hk,hok,htot,rfl,rfl⟩ hN
 simp only [rp]
 obtain ⟨c1,g1⟩:∃c1,decide ((k:Int)<(l.length:Int))=c1:=⟨_,rfl⟩
 cases c1 with
 | false =>
  have hka:k=l.length:=by
                 have:¬k<l.length:=by simpa using g1
                 omega
  have hp:P=true:=by rw [←hP];exact jY.2 fun i hi=>hok i hi (by omega)
  repeat' (first | (refine aa ?_;first | (refine zg rfl ?_;first | refine ah ?_ | refine zo ?_ | (refine zs ?_ ?_<;>intro hb<;>((try simp only [bn] at hb);first | subst hb | simp only [hb]))) | (apply ai;rfl;simp only [aj,avs,tts,seval,g1,la]<;>exact rr)) | refine ae ?_ | (refine ak ?_;first | (refine yg rfl ?_;first | refine ar ?_ | refine yo ?_ | (refine ys ?_ ?_<;>intro hb<;>((try simp only [bn] at hb);first | subst hb | simp only [hb]))) | (apply au;rfl;simp only [aB,avs,tts,seval,g1,la]<;>exact rr;first | trivial | omega)) | refine al ?_ | refine ag ?_ | refine zr af ?_ | refine zQ 0 af mixed ?_ | refine zQ 1 af mixed ?_ | refine zQ 2 af mixed ?_ | refine zQ 3 af mixed ?_ | refine zf rfl rfl ?_ | refine zt rfl rfl ?_ | (refine am rfl rfl ?_ ?_<;>intro hb<;>((try simp only [bn] at hb);first | subst hb | simp only [hb])) | refine ap ?_ | refine aq ?_ | refine an ?_)
  rw [hp]
  exact aw ⟨_,rfl,_,rfl,rfl⟩
 | true =>
  have hlt:k<l.length:=by simpa using g1
  have hix:(0:Int)≤(k:Int):=by omega
  have ga:=jt hlt
  have w1:IntKind.i64.wrap ((k:Int)+1)=((k+1:Nat):Int):=aP hlt (by omega)
  have hsn:l.take (k+1)=l.take k++[l[k]]:=by rw [List.take_add_one,List.getElem?_eq_getElem hlt];rfl
  have hszk:=hsz _ (List.getElem_mem hlt)
  have hno:=fun hb=>sa (n:=(n:Int)) hlt hb
  have hoks:iG n (l.take k) l[k]=false→∀i (hi:i<l.length),i<k+1→iG n (l.take i) l[i]=false:=fun h i hi h2=>by
   rcases Nat.lt_succ_iff_lt_or_eq.1 h2 with h3 | h3
   ·exact hok i hi h3
   ·subst h3;exact h
  have hub:=mI l[k].part
  have cu:=x4 base l[k].part hszk.1 hszk.2
  have hlt3:k - 1<l.length:=by omega
  have ga3:=jt hlt3
  have hk0:k=0→l.take k=[]:=fun e=>by rw [e];rfl
  have hk1:0<k→eG (l.take k)=(l[k - 1].company,l[k - 1].holder):=fun hp=>by
   have:=nu hlt3
   rw [show k - 1+1=k by omega] at this
   exact this
  obtain ⟨x,hx⟩:∃x,l[k]=x:=⟨_,rfl⟩
  obtain ⟨y,hy⟩:∃y,l[k - 1]=y:=⟨_,rfl⟩
  simp only [hx] at ga hsn hno hoks hub cu
  rw [hy] at ga3 hk1
  obtain ⟨pre,hpre⟩:∃p,l.take k=p:=⟨_,rfl⟩
  rw [hpre] at hsn htot hno hoks hk0 hk1 ⊢
  have t4:=fP pre x
  have t5:=ly pre x.company
  have t6:=htot x.company
  have hbad:iG n pre x=(decide (x.company<0)||(decide (x.company≥(n:Int))||(decide (x.holder<0)||(decide (x.holder≥(n:Int))||(decide (x.company=x.holder)||(!ig (eG pre) x.company x.holder||(decide (cZ x.part=0)||decide (du (pre++[x]) x.company>6000)))))))):=rfl
  have hnext:iG n pre x=false→∀c,du (pre++[x]) c≤6000:=fun hb c=>by
   by_cases hc:x.company=c
   ·subst hc
    rw [hbad] at hb
    simp only [Bool.or_eq_false_iff,decide_eq_false_iff_not] at hb
    omega
   ·rw [t4,if_neg hc];have:=htot c;omega
  have hneg:decide (x.company<0)=true→iG n pre x=true:=fun h=>by rw [hbad,h];rfl
  have hset:=fun (c:Nat) (h:c<n) (hc:x.company=c)=>xJ h pre x hc
  have hrl:=fun (h:0≤x.company)=>v6 (pre:=pre) (y:=y) (k:=k) (c:=x.company) (h:=x.holder) h hk0 hk1
  obtain ⟨u,hu⟩:∃u,cZ x.part=u:=⟨_,rfl⟩
  rw [hu] at cu hub hbad hset
  obtain ⟨xc,xh,xp⟩:=x
  obtain ⟨rn,ru,rd⟩:=xp
  obtain ⟨yc,yh,yp⟩:=y
  obtain ⟨sn,su,sd⟩:=yp
  simp only [fF,tA,iA] at cu
  simp only [lkP] at ga ga3
  simp only at hbad hneg hset hrl t4 t5 t6
  rw [Bool.or_left_comm (!ig (eG pre) xc xh)] at hbad
  obtain ⟨e1,f1⟩:∃c,decide (xc<0)=c:=⟨_,rfl⟩
  obtain ⟨e2,f2⟩:∃c,decide (xc≥(n:Int))=c:=⟨_,rfl⟩
  obtain ⟨e3,f3⟩:∃c,decide (xh<0)=c:=⟨_,rfl⟩
  obtain ⟨e4,f4⟩:∃c,decide (xh≥(n:Int))=c:=⟨_,rfl⟩
  obtain ⟨e5,f5⟩:∃c,decide (xc=xh)=c:=⟨_,rfl⟩
  obtain ⟨e9,f9⟩:∃c,decide (u=0)=c:=⟨_,rfl⟩
  rw [f1,f2,f3,f4,f5,f9] at hbad
  by_cases hxc:0≤xc∧xc<(n:Int)
  ·obtain ⟨c,rfl⟩:∃c:Nat,xc=c:=⟨xc.toNat,by omega⟩
   have h1:e1=false:=by rw [←f1];exact decide_eq_false (by omega)
   have h2:e2=false:=by rw [←f2];exact decide_eq_false (by omega)
   subst h1 h2
   have hcn:c<n:=by omega
   have hc0:(0:Int)≤(c:Int):=by omega
   have hset:=hset c hcn rfl
   have hgS:=re hcn pre
   have hlS:=rc n pre
   have hlS2:=rc n (pre++[⟨(c:Int),xh,⟨rn,ru,rd⟩⟩])
   have hgS2:=re hcn (pre++[⟨(c:Int),xh,⟨rn,ru,rd⟩⟩])
   have ht':du (pre++[⟨(c:Int),xh,⟨rn,ru,rd⟩⟩]) (c:Int)=du pre (c:Int)+u:=by rw [t4,if_pos rfl,hu]
   rw [ht'] at hgS2 hbad
   rw [hrl hc0] at hbad
   unfold yL at hbad
   simp only at hbad
   generalize du pre (c:Int)=t at *
   obtain ⟨e10,f10⟩:∃c,decide (t+u>6000)=c:=⟨_,rfl⟩
   obtain ⟨ek,fk⟩:∃c,decide ((k:Int)>0)=c:=⟨_,rfl⟩
   obtain ⟨q1,p1⟩:∃b,decide ((c:Int)<yc)=b:=⟨_,rfl⟩
   obtain ⟨q2,p2⟩:∃b,decide ((c:Int)=yc)=b:=⟨_,rfl⟩
   obtain ⟨q3,p3⟩:∃b,decide (xh≤yh)=b:=⟨_,rfl⟩
   rw [f10,fk,p1,p2,p3] at hbad
   have w2:IntKind.i64.wrap (t+u)=t+u:=by rw [IntKind.wrap_i64];omega
   have hS2b:=fun m=>Ad m n (pre++[⟨(c:Int),xh,⟨rn,ru,rd⟩⟩])
   obtain ⟨S2,hS2⟩:∃S,jE n (pre++[⟨(c:Int),xh,⟨rn,ru,rd⟩⟩])=S:=⟨_,rfl⟩
   rw [hS2] at hset hlS2 hgS2 hS2b
   clear t4 ht' hrl hk0 hk1 htot hok hneg
   cases ek with
   | false =>
    repeat' (first | (refine aa ?_;first | (refine zg rfl ?_;first | refine ah ?_ | refine zo ?_ | (refine zs ?_ ?_<;>intro hb<;>((try simp only [bn] at hb);first | subst hb | simp only [hb]))) | (apply ai;rfl;simp only [aj,avs,tts,seval,hix,hlt,ga,la,g1,w1,w2,hc0,hcn,hlS,hlS2,hgS,hgS2,hset,fk,f1,f2,f3,f4,f5,f9,f10,Bool.not_true,Bool.not_false]<;>exact rr) | (refine za rfl ?_;refine zp (cu) ?_)) | refine ae ?_ | (refine ak ?_;first | (refine yg rfl ?_;first | refine ar ?_ | refine yo ?_ | (refine ys ?_ ?_<;>intro hb<;>((try simp only [bn] at hb);first | subst hb | simp only [hb]))) | (apply au;rfl;simp only [aB,avs,tts,seval,hix,hlt,ga,la,g1,w1,w2,hc0,hcn,hlS,hlS2,hgS,hgS2,hset,fk,f1,f2,f3,f4,f5,f9,f10,Bool.not_true,Bool.not_false]<;>exact rr;first | trivial | omega) | (refine ya rfl ?_;refine yp (cu) ?_)) | refine al ?_ | refine ag ?_ | refine zr af ?_ | refine zQ 0 af mixed ?_ | refine zQ 1 af mixed ?_ | refine zQ 2 af mixed ?_ | refine zQ 3 af mixed ?_ | refine zf rfl rfl ?_ | refine zt rfl rfl ?_ | (refine am rfl rfl ?_ ?_<;>intro hb<;>((try simp only [bn] at hb);first | subst hb | simp only [hb])) | refine ap ?_ | refine aq ?_ | refine an ?_)
    all_goals first
     | (have hp:P=false:=(by rw [←hP];exact hno (by rw [hbad];rfl));subst hp;show AW _ _ _ _ _;refine aw ⟨_,rfl,_,rfl,?_⟩;rfl)
     | (refine ⟨l.length - (k+1),_,H++[.row 3 1 0 S2],by omega,⟨?_,.inr ⟨by simp,?_,.more hB (.cons (hS2b _) .nil),_,by simp only [List.append_assoc,List.cons_append,List.nil_append];rfl⟩⟩,k+1,rfl,hlt,hoks (by rw [hbad];rfl),by rw [hsn];exact hnext (by rw [hbad];rfl),by rw [hsn,hS2],rfl⟩;(· (try simp only [rp]);(repeat (first | exact trivial | refine ⟨.inr rfl,?_⟩ | refine ⟨.inl rfl,?_⟩)));(· simp [aS,AV.bel,List.replicate]))
   | true =>
    have hk1:0<k:=by have:=of_decide_eq_true fk;omega
    have w3:IntKind.i64.wrap ((k:Int) - 1)=((k - 1:Nat):Int):=by rw [IntKind.wrap_i64];omega
    have hix3:(0:Int)≤((k - 1:Nat):Int):=by omega
    repeat' (first | (refine aa ?_;first | (refine zg rfl ?_;first | refine ah ?_ | refine zo ?_ | (refine zs ?_ ?_<;>intro hb<;>((try simp only [bn] at hb);first | subst hb | simp only [hb]))) | (apply ai;rfl;simp only [aj,avs,tts,seval,hix,hlt,ga,la,g1,w1,w2,w3,hix3,hlt3,ga3,p1,p2,p3,hc0,hcn,hlS,hlS2,hgS,hgS2,hset,fk,f1,f2,f3,f4,f5,f9,f10,Bool.not_true,Bool.not_false]<;>exact rr) | (refine za rfl ?_;refine zp (cu) ?_)) | refine ae ?_ | (refine ak ?_;first | (refine yg rfl ?_;first | refine ar ?_ | refine yo ?_ | (refine ys ?_ ?_<;>intro hb<;>((try simp only [bn] at hb);first | subst hb | simp only [hb]))) | (apply au;rfl;simp only [aB,avs,tts,seval,hix,hlt,ga,la,g1,w1,w2,w3,hix3,hlt3,ga3,p1,p2,p3,hc0,hcn,hlS,hlS2,hgS,hgS2,hset,fk,f1,f2,f3,f4,f5,f9,f10,Bool.not_true,Bool.not_false]<;>exact rr;first | trivial | omega) | (refine ya rfl ?_;refine yp (cu) ?_)) | refine al ?_ | refine ag ?_ | refine zr af ?_ | refine zQ 0 af mixed ?_ | refine zQ 1 af mixed ?_ | refine zQ 2 af mixed ?_ | refine zQ 3 af mixed ?_ | refine zf rfl rfl ?_ | refine zt rfl rfl ?_ | (refine am rfl rfl ?_ ?_<;>intro hb<;>((try simp only [bn] at hb);first | subst hb | simp only [hb])) | refine ap ?_ | refine aq ?_ | refine an ?_)
    all_goals first
     | (have hp:P=false:=(by rw [←hP];exact hno (by rw [hbad];rfl));subst hp;show AW _ _ _ _ _;refine aw ⟨_,rfl,_,rfl,?_⟩;rfl)
     | (refine ⟨l.length - (k+1),_,H++[.row 3 1 0 S2],by omega,⟨?_,.inr ⟨by simp,?_,.more hB (.cons (hS2b _) .nil),_,by simp only [List.append_assoc,List.cons_append,List.nil_append];rfl⟩⟩,k+1,rfl,hlt,hoks (by rw [hbad];rfl),by rw [hsn];exact hnext (by rw [hbad];rfl),by rw [hsn,hS2],rfl⟩;(· (try simp only [rp]);(repeat (first | exact trivial | refine ⟨.inr rfl,?_⟩ | refine ⟨.inl rfl,?_⟩)));(· simp [aS,AV.bel,List.replicate]))
  ·have hor:e1=true∨e2=true:=by
    rw [←f1,←f2,decide_eq_true_eq,decide_eq_true_eq];omega
   clear hset hrl t4 t5 t6
   cases e1<;>cases e2
   all_goals first | (exfalso;rcases hor with h | h<;>cases h;done) | skip
   all_goals (have hp:P=false:=(by rw [←hP];exact hno (by rw [hbad];rfl));subst hp)
   ·repeat' (first | (refine aa ?_;first | (refine zg rfl ?_;first | refine ah ?_ | refine zo ?_ | (refine zs ?_ ?_<;>intro hb<;>((try simp only [bn] at hb);first | subst hb | simp only [hb]))) | (apply ai;rfl;simp only [aj,avs,tts,seval,hix,hlt,ga,la,g1,f1,f2,Bool.not_true,Bool.not_false]<;>exact rr)) | refine ae ?_ | (refine ak ?_;first | (refine yg rfl ?_;first | refine ar ?_ | refine yo ?_ | (refine ys ?_ ?_<;>intro hb<;>((try simp only [bn] at hb);first | subst hb | simp only [hb]))) | (apply au;rfl;simp only [aB,avs,tts,seval,hix,hlt,ga,la,g1,f1,f2,Bool.not_true,Bool.not_false]<;>exact rr;first | trivial | omega)) | refine al ?_ | refine ag ?_ | refine zr af ?_ | refine zQ 0 af mixed ?_ | refine zQ 1 af mixed ?_ | refine zQ 2 af mixed ?_ | refine zQ 3 af mixed ?_ | refine zf rfl rfl ?_ | refine zt rfl rfl ?_ | (refine am rfl rfl ?_ ?_<;>intro hb<;>((try simp only [bn] at hb);first | subst hb | simp only [hb])) | refine ap ?_ | refine aq ?_ | refine an ?_)
    all_goals exact aw ⟨_,rfl,_,rfl,rfl⟩
   ·repeat' (first | (refine aa ?_;first | (refine zg rfl ?_;first | refine ah ?_ | refine zo ?_ | (refine zs ?_ ?_<;>intro hb<;>((try simp only [bn] at hb);first | subst hb | simp only [hb]))) | (apply ai;rfl;simp only [aj,avs,tts,seval,hix,hlt,ga,la,g1,f1,f2,Bool.not_true,Bool.not_false]<;>exact rr)) | refine ae ?_ | (refine ak ?_;first | (refine yg rfl ?_;first | refine ar ?_ | refine yo ?_ | (refine ys ?_ ?_<;>intro hb<;>((try simp only [bn] at hb);first | subst hb | simp only [hb]))) | (apply au;rfl;simp only [aB,avs,tts,seval,hix,hlt,ga,la,g1,f1,f2,Bool.not_true,Bool.not_false]<;>exact rr;first | trivial | omega)) | refine al ?_ | refine ag ?_ | refine zr af ?_ | refine zQ 0 af mixed ?_ | refine zQ 1 af mixed ?_ | refine zQ 2 af mixed ?_ | refine zQ 3 af mixed ?_ | refine zf rfl rfl ?_ | refine zt rfl rfl ?_ | (refine am rfl rfl ?_ ?_<;>intro hb<;>((try simp only [bn] at hb);first | subst hb | simp only [hb])) | refine ap ?_ | refine aq ?_ | refine an ?_)
    all_goals exact aw ⟨_,rfl,_,rfl,rfl⟩
   ·repeat' (first | (refine aa ?_;first | (refine zg rfl ?_;first | refine ah ?_ | refine zo ?_ | (refine zs ?_ ?_<;>intro hb<;>((try simp only [bn] at hb);first | subst hb | simp only [hb]))) | (apply ai;rfl;simp only [aj,avs,tts,seval,hix,hlt,ga,la,g1,f1,f2,Bool.not_true,Bool.not_false]<;>exact rr)) | refine ae ?_ | (refine ak ?_;first | (refine yg rfl ?_;first | refine ar ?_ | refine yo ?_ | (refine ys ?_ ?_<;>intro hb<;>((try simp only [bn] at hb);first | subst hb | simp only [hb]))) | (apply au;rfl;simp only [aB,avs,tts,seval,hix,hlt,ga,la,g1,f1,f2,Bool.not_true,Bool.not_false]<;>exact rr;first | trivial | omega)) | refine al ?_ | refine ag ?_ | refine zr af ?_ | refine zQ 0 af mixed ?_ | refine zQ 1 af mixed ?_ | refine zQ 2 af mixed ?_ | refine zQ 3 af mixed ?_ | refine zf rfl rfl ?_ | refine zt rfl rfl ?_ | (refine am rfl rfl ?_ ?_<;>intro hb<;>((try simp only [bn] at hb);first | subst hb | simp only [hb])) | refine ap ?_ | refine aq ?_ | refine an ?_)
    all_goals exact aw ⟨_,rfl,_,rfl,rfl⟩
end
end Av
end Go.Proofs.YtdekcppfpgeneaaGreatDoor
namespace Go.Proofs.YtdekcppfpgeneaaGreatDoor
open Go Go.RowKit
namespace Rg
open Av Nt
def rtC (r:Rt):List PD:=[.v (.bool r.neg),.v (.string r.num),.v (.string r.den)]
def dd (r:Rt):Bool:=decide (r.num.size≤30)&&decide (r.den.size≤30)
def mR (s:Str):Bool:=(decide (s.parties.length≤70)&&(decide (s.capital.length≤30)&&decide (s.votes.length≤30)))&&(s.parties.all (fun t=>decide (t.size≤60))&&(s.capital.all (fun x=>dd x.part)&&s.votes.all fun x=>dd x.part))
theorem Cw {l:List Rt} {k:Nat} (h:k<l.length):(l.map rtC).getD k []=rtC l[k]:=by simp [h]
theorem qG {α:Type} {p:α→Bool} {l:List α} {k:Nat} (h:k<l.length) (hp:p l[k]=false):l.all p=false:=by
 cases e:l.all p with
 | false=>rfl
 | true=>rw [List.all_eq_true.1 e _ (List.getElem_mem h)] at hp;cases hp
theorem gy {α:Type} {p:α→Bool} {l:List α} {k:Nat} (h:k<l.length) (hp:p l[k]=true) (hk:(l.take k).all p=true):(l.take (k+1)).all p=true:=by
 rw [List.take_add_one,List.getElem?_eq_getElem h,List.all_append,hk]
 simpa using hp
theorem mQ (t:ByteArray) (n:Nat):decide ((t.size:Int)>(n:Int)) = !decide (t.size≤n):=by
 rw [←decide_not];exact decide_eq_decide.2 (by omega)
end Rg
namespace Av
attribute [local irreducible] AW aL aH
open Nt Rg
section
variable (base:World)
set_option maxRecDepth 100000 in
set_option maxHeartbeats 4000000 in
theorem x6 (l:List Rt) (hl:l.length≤1000000):aI Tryz.prog base 30 [iA 30,.d (.sl 3 (l.map rtC))] (boA (l.all dd)):=by
 refine aC af Tryz.call30 Tryz.func30 rfl fun H hB hb hF => ?_
 rw [Tryz.results30,Tryz.ntmps30]
 simp only [aA,List.length_cons,List.length_nil,List.replicate,List.cons_append,List.nil_append,Nat.reduceAdd,Nat.reduceSub]
 clear hF hb
 have la:(l.map rtC).length=l.length:=by simp
 obtain ⟨P,hP⟩:∃P,l.all dd=P:=⟨_,rfl⟩
 rw [hP]
 simp only [iA]
 repeat' (first | (refine aa ?_;first | (refine zg rfl ?_;first | refine ah ?_ | refine zo ?_ | (refine zs ?_ ?_<;>intro hb<;>((try simp only [bn] at hb);first | subst hb | simp only [hb]))) | (apply ai;rfl;simp only [aj,avs,tts,seval,la]<;>exact rr)) | refine ae ?_ | (refine ak ?_;first | (refine yg rfl ?_;first | refine ar ?_ | refine yo ?_ | (refine ys ?_ ?_<;>intro hb<;>((try simp only [bn] at hb);first | subst hb | simp only [hb]))) | (apply au;rfl;simp only [aB,avs,tts,seval,la]<;>exact rr;first | trivial | omega)) | refine al ?_ | refine ag ?_ | refine zr af ?_ | refine zQ 0 af mixed ?_ | refine zQ 1 af mixed ?_ | refine zQ 2 af mixed ?_ | refine zQ 3 af mixed ?_ | refine zf rfl rfl ?_ | refine zt rfl rfl ?_ | (refine am rfl rfl ?_ ?_<;>intro hb<;>((try simp only [bn] at hb);first | subst hb | simp only [hb])) | refine ap ?_ | refine aq ?_ | refine an ?_)
 refine aZ (H0:=H) (fun r env K=>∃k,r=l.length - k∧k≤l.length∧(l.take k).all dd=true∧K=H∧env=(.d (.v (.int .i64 30)) :: .d (.sl 3 (l.map rtC)) :: .undef :: .undef :: .undef :: .d (.v (.int .i64 (k:Int)))::List.replicate 24 .undef)) ?_ ⟨0,rfl,Nat.zero_le _,rfl,rfl,rfl⟩ ?_
 ·exact ⟨by (try simp only [rp]);(repeat (first | exact trivial | refine ⟨.inr rfl,?_⟩ | refine ⟨.inl rfl,?_⟩)),.inl rfl⟩
 rintro r env K ⟨k,rfl,hk,hok,rfl,rfl⟩ hN
 simp only [rp]
 obtain ⟨c0,g0⟩:∃c,decide ((k:Int)<(l.length:Int))=c:=⟨_,rfl⟩
 cases c0 with
 | false =>
  have hnk:¬k<l.length:=by simpa using g0
  have hka:k=l.length:=by omega
  rw [hka,List.take_length,hP] at hok
  subst hok
  repeat' (first | (refine aa ?_;first | (refine zg rfl ?_;first | refine ah ?_ | refine zo ?_ | (refine zs ?_ ?_<;>intro hb<;>((try simp only [bn] at hb);first | subst hb | simp only [hb]))) | (apply ai;rfl;simp only [aj,avs,tts,seval,g0,la]<;>exact rr)) | refine ae ?_ | (refine ak ?_;first | (refine yg rfl ?_;first | refine ar ?_ | refine yo ?_ | (refine ys ?_ ?_<;>intro hb<;>((try simp only [bn] at hb);first | subst hb | simp only [hb]))) | (apply au;rfl;simp only [aB,avs,tts,seval,g0,la]<;>exact rr;first | trivial | omega)) | refine al ?_ | refine ag ?_ | refine zr af ?_ | refine zQ 0 af mixed ?_ | refine zQ 1 af mixed ?_ | refine zQ 2 af mixed ?_ | refine zQ 3 af mixed ?_ | refine zf rfl rfl ?_ | refine zt rfl rfl ?_ | (refine am rfl rfl ?_ ?_<;>intro hb<;>((try simp only [bn] at hb);first | subst hb | simp only [hb])) | refine ap ?_ | refine aq ?_ | refine an ?_)
  exact aw ⟨_,rfl,[],by simp,rfl⟩
 | true =>
  have hlt:k<l.length:=by simpa using g0
  have hix:(0:Int)≤(k:Int):=by omega
  have w1:IntKind.i64.wrap ((k:Int)+1)=((k+1:Nat):Int):=aP hlt (by omega)
  have ga:=Cw hlt
  have hno:=qG (p:=dd) hlt
  have hyes:=fun h=>gy (p:=dd) hlt h hok
  generalize l[k]=r at *
  obtain ⟨neg,num,den⟩:=r
  simp only [rtC] at ga
  unfold dd at hno hyes
  simp only at hno hyes
  have f1:decide ((num.size:Int)>30) = !decide (num.size≤30):=mQ num 30
  have f2:decide ((den.size:Int)>30) = !decide (den.size≤30):=mQ den 30
  generalize decide (num.size≤30)=b1 at *
  generalize decide (den.size≤30)=b2 at *
  repeat' (first | (refine aa ?_;first | (refine zg rfl ?_;first | refine ah ?_ | refine zo ?_ | (refine zs ?_ ?_<;>intro hb<;>((try simp only [bn] at hb);first | subst hb | simp only [hb]))) | (apply ai;rfl;simp only [aj,avs,tts,seval,g0,la,hix,hlt,ga,f1,f2,w1,Bool.not_true,Bool.not_false]<;>exact rr)) | refine ae ?_ | (refine ak ?_;first | (refine yg rfl ?_;first | refine ar ?_ | refine yo ?_ | (refine ys ?_ ?_<;>intro hb<;>((try simp only [bn] at hb);first | subst hb | simp only [hb]))) | (apply au;rfl;simp only [aB,avs,tts,seval,g0,la,hix,hlt,ga,f1,f2,w1,Bool.not_true,Bool.not_false]<;>exact rr;first | trivial | omega)) | refine al ?_ | refine ag ?_ | refine zr af ?_ | refine zQ 0 af mixed ?_ | refine zQ 1 af mixed ?_ | refine zQ 2 af mixed ?_ | refine zQ 3 af mixed ?_ | refine zf rfl rfl ?_ | refine zt rfl rfl ?_ | (refine am rfl rfl ?_ ?_<;>intro hb<;>((try simp only [bn] at hb);first | subst hb | simp only [hb])) | refine ap ?_ | refine aq ?_ | refine an ?_)
  all_goals first
   | (have hp:P=false:=(by rw [←hP];exact hno (by rfl));subst hp;show AW _ _ _ _ _;exact aw ⟨_,rfl,[],by simp,rfl⟩)
   | exact ⟨l.length - (k+1),_,_,by omega,⟨by (try simp only [rp]);(repeat (first | exact trivial | refine ⟨.inr rfl,?_⟩ | refine ⟨.inl rfl,?_⟩)),.inl rfl⟩,k+1,rfl,hlt,hyes (by rfl),rfl,rfl⟩
set_option maxRecDepth 100000 in
set_option maxHeartbeats 8000000 in
theorem vX (s:Str):aI Tryz.prog base 11 [hZ s,iA 70] (boA (mR s)):=by
 have cs1:=fun r=>x6 base [r] (by simp)
 obtain ⟨ps,cs,vs⟩:=s
 refine aC af Tryz.call11 Tryz.func11 rfl fun H hB hb hF => ?_
 rw [Tryz.results11,Tryz.ntmps11]
 simp only [aA,List.length_cons,List.length_nil,List.replicate,List.cons_append,List.nil_append,Nat.reduceAdd,Nat.reduceSub]
 clear hF hb
 have la:(ps.map fun s=>[PD.v (.string s)]).length=ps.length:=by simp
 have lb:(cs.map lkP).length=cs.length:=by simp
 have lc:(vs.map lkP).length=vs.length:=by simp
 obtain ⟨P,hP⟩:∃P,mR ⟨ps,cs,vs⟩=P:=⟨_,rfl⟩
 rw [hP]
 unfold mR at hP
 simp only at hP
 simp only [hZ,pM,bq,js,iA]
 have f1:decide ((ps.length:Int)>70) = !decide (ps.length≤70):=by rw [←decide_not];exact decide_eq_decide.2 (by omega)
 have f2:decide ((cs.length:Int)>30) = !decide (cs.length≤30):=by rw [←decide_not];exact decide_eq_decide.2 (by omega)
 have f3:decide ((vs.length:Int)>30) = !decide (vs.length≤30):=by rw [←decide_not];exact decide_eq_decide.2 (by omega)
 obtain ⟨b1,e1⟩:∃b,decide (ps.length≤70)=b:=⟨_,rfl⟩
 obtain ⟨b2,e2⟩:∃b,decide (cs.length≤30)=b:=⟨_,rfl⟩
 obtain ⟨b3,e3⟩:∃b,decide (vs.length≤30)=b:=⟨_,rfl⟩
 rw [e1] at f1 hP
 rw [e2] at f2 hP
 rw [e3] at f3 hP
 by_cases hall:(b1&&(b2&&b3))=false
 ·rw [hall,Bool.false_and] at hP
  subst hP
  clear e1 e2 e3
  cases b1<;>cases b2<;>cases b3
  all_goals first | (exfalso;revert hall;decide) | skip
  all_goals (
   clear hall)
  ·repeat' (first | (refine aa ?_;first | (refine zg rfl ?_;first | refine ah ?_ | refine zo ?_ | (refine zs ?_ ?_<;>intro hb<;>((try simp only [bn] at hb);first | subst hb | simp only [hb]))) | (apply ai;rfl;simp only [aj,avs,tts,seval,la,lb,lc,f1,f2,f3,Bool.not_true,Bool.not_false]<;>exact rr)) | refine ae ?_ | (refine ak ?_;first | (refine yg rfl ?_;first | refine ar ?_ | refine yo ?_ | (refine ys ?_ ?_<;>intro hb<;>((try simp only [bn] at hb);first | subst hb | simp only [hb]))) | (apply au;rfl;simp only [aB,avs,tts,seval,la,lb,lc,f1,f2,f3,Bool.not_true,Bool.not_false]<;>exact rr;first | trivial | omega)) | refine al ?_ | refine ag ?_ | refine zr af ?_ | refine zQ 0 af mixed ?_ | refine zQ 1 af mixed ?_ | refine zQ 2 af mixed ?_ | refine zQ 3 af mixed ?_ | refine zf rfl rfl ?_ | refine zt rfl rfl ?_ | (refine am rfl rfl ?_ ?_<;>intro hb<;>((try simp only [bn] at hb);first | subst hb | simp only [hb])) | refine ap ?_ | refine aq ?_ | refine an ?_)
   exact aw ⟨_,rfl,_,rfl,rfl⟩
  ·repeat' (first | (refine aa ?_;first | (refine zg rfl ?_;first | refine ah ?_ | refine zo ?_ | (refine zs ?_ ?_<;>intro hb<;>((try simp only [bn] at hb);first | subst hb | simp only [hb]))) | (apply ai;rfl;simp only [aj,avs,tts,seval,la,lb,lc,f1,f2,f3,Bool.not_true,Bool.not_false]<;>exact rr)) | refine ae ?_ | (refine ak ?_;first | (refine yg rfl ?_;first | refine ar ?_ | refine yo ?_ | (refine ys ?_ ?_<;>intro hb<;>((try simp only [bn] at hb);first | subst hb | simp only [hb]))) | (apply au;rfl;simp only [aB,avs,tts,seval,la,lb,lc,f1,f2,f3,Bool.not_true,Bool.not_false]<;>exact rr;first | trivial | omega)) | refine al ?_ | refine ag ?_ | refine zr af ?_ | refine zQ 0 af mixed ?_ | refine zQ 1 af mixed ?_ | refine zQ 2 af mixed ?_ | refine zQ 3 af mixed ?_ | refine zf rfl rfl ?_ | refine zt rfl rfl ?_ | (refine am rfl rfl ?_ ?_<;>intro hb<;>((try simp only [bn] at hb);first | subst hb | simp only [hb])) | refine ap ?_ | refine aq ?_ | refine an ?_)
   exact aw ⟨_,rfl,_,rfl,rfl⟩
  ·repeat' (first | (refine aa ?_;first | (refine zg rfl ?_;first | refine ah ?_ | refine zo ?_ | (refine zs ?_ ?_<;>intro hb<;>((try simp only [bn] at hb);first | subst hb | simp only [hb]))) | (apply ai;rfl;simp only [aj,avs,tts,seval,la,lb,lc,f1,f2,f3,Bool.not_true,Bool.not_false]<;>exact rr)) | refine ae ?_ | (refine ak ?_;first | (refine yg rfl ?_;first | refine ar ?_ | refine yo ?_ | (refine ys ?_ ?_<;>intro hb<;>((try simp only [bn] at hb);first | subst hb | simp only [hb]))) | (apply au;rfl;simp only [aB,avs,tts,seval,la,lb,lc,f1,f2,f3,Bool.not_true,Bool.not_false]<;>exact rr;first | trivial | omega)) | refine al ?_ | refine ag ?_ | refine zr af ?_ | refine zQ 0 af mixed ?_ | refine zQ 1 af mixed ?_ | refine zQ 2 af mixed ?_ | refine zQ 3 af mixed ?_ | refine zf rfl rfl ?_ | refine zt rfl rfl ?_ | (refine am rfl rfl ?_ ?_<;>intro hb<;>((try simp only [bn] at hb);first | subst hb | simp only [hb])) | refine ap ?_ | refine aq ?_ | refine an ?_)
   exact aw ⟨_,rfl,_,rfl,rfl⟩
  ·repeat' (first | (refine aa ?_;first | (refine zg rfl ?_;first | refine ah ?_ | refine zo ?_ | (refine zs ?_ ?_<;>intro hb<;>((try simp only [bn] at hb);first | subst hb | simp only [hb]))) | (apply ai;rfl;simp only [aj,avs,tts,seval,la,lb,lc,f1,f2,f3,Bool.not_true,Bool.not_false]<;>exact rr)) | refine ae ?_ | (refine ak ?_;first | (refine yg rfl ?_;first | refine ar ?_ | refine yo ?_ | (refine ys ?_ ?_<;>intro hb<;>((try simp only [bn] at hb);first | subst hb | simp only [hb]))) | (apply au;rfl;simp only [aB,avs,tts,seval,la,lb,lc,f1,f2,f3,Bool.not_true,Bool.not_false]<;>exact rr;first | trivial | omega)) | refine al ?_ | refine ag ?_ | refine zr af ?_ | refine zQ 0 af mixed ?_ | refine zQ 1 af mixed ?_ | refine zQ 2 af mixed ?_ | refine zQ 3 af mixed ?_ | refine zf rfl rfl ?_ | refine zt rfl rfl ?_ | (refine am rfl rfl ?_ ?_<;>intro hb<;>((try simp only [bn] at hb);first | subst hb | simp only [hb])) | refine ap ?_ | refine aq ?_ | refine an ?_)
   exact aw ⟨_,rfl,_,rfl,rfl⟩
  ·repeat' (first | (refine aa ?_;first | (refine zg rfl ?_;first | refine ah ?_ | refine zo ?_ | (refine zs ?_ ?_<;>intro hb<;>((try simp only [bn] at hb);first | subst hb | simp only [hb]))) | (apply ai;rfl;simp only [aj,avs,tts,seval,la,lb,lc,f1,f2,f3,Bool.not_true,Bool.not_false]<;>exact rr)) | refine ae ?_ | (refine ak ?_;first | (refine yg rfl ?_;first | refine ar ?_ | refine yo ?_ | (refine ys ?_ ?_<;>intro hb<;>((try simp only [bn] at hb);first | subst hb | simp only [hb]))) | (apply au;rfl;simp only [aB,avs,tts,seval,la,lb,lc,f1,f2,f3,Bool.not_true,Bool.not_false]<;>exact rr;first | trivial | omega)) | refine al ?_ | refine ag ?_ | refine zr af ?_ | refine zQ 0 af mixed ?_ | refine zQ 1 af mixed ?_ | refine zQ 2 af mixed ?_ | refine zQ 3 af mixed ?_ | refine zf rfl rfl ?_ | refine zt rfl rfl ?_ | (refine am rfl rfl ?_ ?_<;>intro hb<;>((try simp only [bn] at hb);first | subst hb | simp only [hb])) | refine ap ?_ | refine aq ?_ | refine an ?_)
   exact aw ⟨_,rfl,_,rfl,rfl⟩
  ·repeat' (first | (refine aa ?_;first | (refine zg rfl ?_;first | refine ah ?_ | refine zo ?_ | (refine zs ?_ ?_<;>intro hb<;>((try simp only [bn] at hb);first | subst hb | simp only [hb]))) | (apply ai;rfl;simp only [aj,avs,tts,seval,la,lb,lc,f1,f2,f3,Bool.not_true,Bool.not_false]<;>exact rr)) | refine ae ?_ | (refine ak ?_;first | (refine yg rfl ?_;first | refine ar ?_ | refine yo ?_ | (refine ys ?_ ?_<;>intro hb<;>((try simp only [bn] at hb);first | subst hb | simp only [hb]))) | (apply au;rfl;simp only [aB,avs,tts,seval,la,lb,lc,f1,f2,f3,Bool.not_true,Bool.not_false]<;>exact rr;first | trivial | omega)) | refine al ?_ | refine ag ?_ | refine zr af ?_ | refine zQ 0 af mixed ?_ | refine zQ 1 af mixed ?_ | refine zQ 2 af mixed ?_ | refine zQ 3 af mixed ?_ | refine zf rfl rfl ?_ | refine zt rfl rfl ?_ | (refine am rfl rfl ?_ ?_<;>intro hb<;>((try simp only [bn] at hb);first | subst hb | simp only [hb])) | refine ap ?_ | refine aq ?_ | refine an ?_)
   exact aw ⟨_,rfl,_,rfl,rfl⟩
  ·repeat' (first | (refine aa ?_;first | (refine zg rfl ?_;first | refine ah ?_ | refine zo ?_ | (refine zs ?_ ?_<;>intro hb<;>((try simp only [bn] at hb);first | subst hb | simp only [hb]))) | (apply ai;rfl;simp only [aj,avs,tts,seval,la,lb,lc,f1,f2,f3,Bool.not_true,Bool.not_false]<;>exact rr)) | refine ae ?_ | (refine ak ?_;first | (refine yg rfl ?_;first | refine ar ?_ | refine yo ?_ | (refine ys ?_ ?_<;>intro hb<;>((try simp only [bn] at hb);first | subst hb | simp only [hb]))) | (apply au;rfl;simp only [aB,avs,tts,seval,la,lb,lc,f1,f2,f3,Bool.not_true,Bool.not_false]<;>exact rr;first | trivial | omega)) | refine al ?_ | refine ag ?_ | refine zr af ?_ | refine zQ 0 af mixed ?_ | refine zQ 1 af mixed ?_ | refine zQ 2 af mixed ?_ | refine zQ 3 af mixed ?_ | refine zf rfl rfl ?_ | refine zt rfl rfl ?_ | (refine am rfl rfl ?_ ?_<;>intro hb<;>((try simp only [bn] at hb);first | subst hb | simp only [hb])) | refine ap ?_ | refine aq ?_ | refine an ?_)
   exact aw ⟨_,rfl,_,rfl,rfl⟩
 ·obtain ⟨rfl,rfl,rfl⟩:b1=true∧b2=true∧b3=true:=by
   revert hall;cases b1<;>cases b2<;>cases b3<;>decide
  have h1:=of_decide_eq_true e1
  have h2:=of_decide_eq_true e2
  have h3:=of_decide_eq_true e3
  simp only [Bool.and_true,Bool.true_and] at hP
  clear hall e1 e2 e3
  repeat' (first | (refine aa ?_;first | (refine zg rfl ?_;first | refine ah ?_ | refine zo ?_ | (refine zs ?_ ?_<;>intro hb<;>((try simp only [bn] at hb);first | subst hb | simp only [hb]))) | (apply ai;rfl;simp only [aj,avs,tts,seval,la,lb,lc,f1,f2,f3,Bool.not_true,Bool.not_false]<;>exact rr)) | refine ae ?_ | (refine ak ?_;first | (refine yg rfl ?_;first | refine ar ?_ | refine yo ?_ | (refine ys ?_ ?_<;>intro hb<;>((try simp only [bn] at hb);first | subst hb | simp only [hb]))) | (apply au;rfl;simp only [aB,avs,tts,seval,la,lb,lc,f1,f2,f3,Bool.not_true,Bool.not_false]<;>exact rr;first | trivial | omega)) | refine al ?_ | refine ag ?_ | refine zr af ?_ | refine zQ 0 af mixed ?_ | refine zQ 1 af mixed ?_ | refine zQ 2 af mixed ?_ | refine zQ 3 af mixed ?_ | refine zf rfl rfl ?_ | refine zt rfl rfl ?_ | (refine am rfl rfl ?_ ?_<;>intro hb<;>((try simp only [bn] at hb);first | subst hb | simp only [hb])) | refine ap ?_ | refine aq ?_ | refine an ?_)
  refine aZ (H0:=H++[.box 25 [.d (.sl 1 (ps.map fun s=>[PD.v (.string s)])),.d (.sl 5 (cs.map lkP)),.d (.sl 5 (vs.map lkP))]]) (fun r env K=>∃k,r=ps.length - k∧k≤ps.length∧(ps.take k).all (fun t=>decide (t.size≤60))=true∧K=H++[.box 25 [.d (.sl 1 (ps.map fun s=>[PD.v (.string s)])),.d (.sl 5 (cs.map lkP)),.d (.sl 5 (vs.map lkP))]]∧env=(.undef :: .undef :: .ptr H.length 0 :: .undef :: .undef :: .d (.v (.int .i64 (k:Int)))::List.replicate 65 .undef)) ?_ ⟨0,rfl,Nat.zero_le _,rfl,rfl,rfl⟩ ?_
  ·exact ⟨by (try simp only [rp]);(repeat (first | exact trivial | refine ⟨.inr rfl,?_⟩ | refine ⟨.inl rfl,?_⟩)),.inl rfl⟩
  rintro r env K ⟨k,rfl,hk,hok,rfl,rfl⟩ hN
  simp only [rp]
  obtain ⟨c0,g0⟩:∃c,decide ((k:Int)<(ps.length:Int))=c:=⟨_,rfl⟩
  cases c0 with
  | true =>
   have hlt:k<ps.length:=by simpa using g0
   have hix:(0:Int)≤(k:Int):=by omega
   have w1:IntKind.i64.wrap ((k:Int)+1)=((k+1:Nat):Int):=aP hlt (by omega)
   have ga:=cI hlt
   have hno:=qG (p:=fun t:ByteArray=>decide (t.size≤60)) hlt
   have hyes:=fun h=>gy (p:=fun t:ByteArray=>decide (t.size≤60)) hlt h hok
   have g1:decide ((ps[k].size:Int)>60) = !decide (ps[k].size≤60):=mQ ps[k] 60
   generalize ps[k]=x at *
   generalize decide (x.size≤60)=b at *
   cases b with
   | false =>
    rw [hno rfl,Bool.false_and] at hP
    subst hP
    repeat' (first | (refine aa ?_;first | (refine zg rfl ?_;first | refine ah ?_ | refine zo ?_ | (refine zs ?_ ?_<;>intro hb<;>((try simp only [bn] at hb);first | subst hb | simp only [hb]))) | (apply ai;rfl;simp only [aj,avs,tts,seval,la,g0,g1,hix,hlt,ga,Bool.not_false]<;>exact rr)) | refine ae ?_ | (refine ak ?_;first | (refine yg rfl ?_;first | refine ar ?_ | refine yo ?_ | (refine ys ?_ ?_<;>intro hb<;>((try simp only [bn] at hb);first | subst hb | simp only [hb]))) | (apply au;rfl;simp only [aB,avs,tts,seval,la,g0,g1,hix,hlt,ga,Bool.not_false]<;>exact rr;first | trivial | omega)) | refine al ?_ | refine ag ?_ | refine zr af ?_ | refine zQ 0 af mixed ?_ | refine zQ 1 af mixed ?_ | refine zQ 2 af mixed ?_ | refine zQ 3 af mixed ?_ | refine zf rfl rfl ?_ | refine zt rfl rfl ?_ | (refine am rfl rfl ?_ ?_<;>intro hb<;>((try simp only [bn] at hb);first | subst hb | simp only [hb])) | refine ap ?_ | refine aq ?_ | refine an ?_)
    exact aw ⟨_,rfl,_,rfl,rfl⟩
   | true =>
    repeat' (first | (refine aa ?_;first | (refine zg rfl ?_;first | refine ah ?_ | refine zo ?_ | (refine zs ?_ ?_<;>intro hb<;>((try simp only [bn] at hb);first | subst hb | simp only [hb]))) | (apply ai;rfl;simp only [aj,avs,tts,seval,la,g0,g1,hix,hlt,ga,w1,Bool.not_true]<;>exact rr)) | refine ae ?_ | (refine ak ?_;first | (refine yg rfl ?_;first | refine ar ?_ | refine yo ?_ | (refine ys ?_ ?_<;>intro hb<;>((try simp only [bn] at hb);first | subst hb | simp only [hb]))) | (apply au;rfl;simp only [aB,avs,tts,seval,la,g0,g1,hix,hlt,ga,w1,Bool.not_true]<;>exact rr;first | trivial | omega)) | refine al ?_ | refine ag ?_ | refine zr af ?_ | refine zQ 0 af mixed ?_ | refine zQ 1 af mixed ?_ | refine zQ 2 af mixed ?_ | refine zQ 3 af mixed ?_ | refine zf rfl rfl ?_ | refine zt rfl rfl ?_ | (refine am rfl rfl ?_ ?_<;>intro hb<;>((try simp only [bn] at hb);first | subst hb | simp only [hb])) | refine ap ?_ | refine aq ?_ | refine an ?_)
    exact ⟨ps.length - (k+1),_,_,by omega,⟨by (try simp only [rp]);(repeat (first | exact trivial | refine ⟨.inr rfl,?_⟩ | refine ⟨.inl rfl,?_⟩)),.inl rfl⟩,k+1,rfl,hlt,hyes rfl,rfl,rfl⟩
  | false =>
   have hnk:¬k<ps.length:=by simpa using g0
   have hka:k=ps.length:=by omega
   rw [hka,List.take_length] at hok
   rw [hok,Bool.true_and] at hP
   clear hok
   repeat' (first | (refine aa ?_;first | (refine zg rfl ?_;first | refine ah ?_ | refine zo ?_ | (refine zs ?_ ?_<;>intro hb<;>((try simp only [bn] at hb);first | subst hb | simp only [hb]))) | (apply ai;rfl;simp only [aj,avs,tts,seval,la,g0]<;>exact rr)) | refine ae ?_ | (refine ak ?_;first | (refine yg rfl ?_;first | refine ar ?_ | refine yo ?_ | (refine ys ?_ ?_<;>intro hb<;>((try simp only [bn] at hb);first | subst hb | simp only [hb]))) | (apply au;rfl;simp only [aB,avs,tts,seval,la,g0]<;>exact rr;first | trivial | omega)) | refine al ?_ | refine ag ?_ | refine zr af ?_ | refine zQ 0 af mixed ?_ | refine zQ 1 af mixed ?_ | refine zQ 2 af mixed ?_ | refine zQ 3 af mixed ?_ | refine zf rfl rfl ?_ | refine zt rfl rfl ?_ | (refine am rfl rfl ?_ ?_<;>intro hb<;>((try simp only [bn] at hb);first | subst hb | simp only [hb])) | refine ap ?_ | refine aq ?_ | refine an ?_)
   refine aZ (H0:=H++[.box 25 [.d (.sl 1 (ps.map fun s=>[PD.v (.string s)])),.d (.sl 5 (cs.map lkP)),.d (.sl 5 (vs.map lkP))]]) (fun r env K=>∃k,r=cs.length - k∧k≤cs.length∧(cs.take k).all (fun x=>dd x.part)=true∧K=H++[.box 25 [.d (.sl 1 (ps.map fun s=>[PD.v (.string s)])),.d (.sl 5 (cs.map lkP)),.d (.sl 5 (vs.map lkP))]]∧env=(.undef :: .undef :: .ptr H.length 0 :: .undef :: .undef :: .undef :: .d (.v (.int .i64 (k:Int)))::List.replicate 64 .undef)) ?_ ⟨0,rfl,Nat.zero_le _,rfl,rfl,rfl⟩ ?_
   ·exact ⟨by (try simp only [rp]);(repeat (first | exact trivial | refine ⟨.inr rfl,?_⟩ | refine ⟨.inl rfl,?_⟩)),.inl rfl⟩
   rintro r env K ⟨k,rfl,hk,hok,rfl,rfl⟩ hN
   simp only [rp]
   obtain ⟨c0,g0⟩:∃c,decide ((k:Int)<(cs.length:Int))=c:=⟨_,rfl⟩
   cases c0 with
   | true =>
    have hlt:k<cs.length:=by simpa using g0
    have hix:(0:Int)≤(k:Int):=by omega
    have w1:IntKind.i64.wrap ((k:Int)+1)=((k+1:Nat):Int):=aP hlt (by omega)
    have ga:=jt hlt
    have hno:=qG (p:=fun x:Lk=>dd x.part) hlt
    have hyes:=fun h=>gy (p:=fun x:Lk=>dd x.part) hlt h hok
    generalize cs[k]=x at *
    obtain ⟨xc,xh,xp⟩:=x
    have cs1:=cs1 xp
    rw [List.all_cons,List.all_nil,Bool.and_true] at cs1
    simp only at hno hyes
    generalize dd xp=b at *
    obtain ⟨rn,ru,rd⟩:=xp
    simp only [lkP] at ga
    simp only [rtC,iA,boA,List.map_cons,List.map_nil] at cs1
    cases b with
    | false =>
     rw [hno rfl] at hP
     rw [Bool.false_and] at hP
     subst hP
     repeat' (first | (refine aa ?_;first | (refine zg rfl ?_;first | refine ah ?_ | refine zo ?_ | (refine zs ?_ ?_<;>intro hb<;>((try simp only [bn] at hb);first | subst hb | simp only [hb]))) | (apply ai;rfl;simp only [aj,avs,tts,seval,lb,g0,hix,hlt,ga,Bool.not_false]<;>exact rr)) | refine ae ?_ | (refine ak ?_;first | (refine yg rfl ?_;first | refine ar ?_ | refine yo ?_ | (refine ys ?_ ?_<;>intro hb<;>((try simp only [bn] at hb);first | subst hb | simp only [hb]))) | (apply au;rfl;simp only [aB,avs,tts,seval,lb,g0,hix,hlt,ga,Bool.not_false]<;>exact rr;first | trivial | omega)) | refine al ?_ | refine ag ?_ | refine zr af ?_ | refine zQ 0 af mixed ?_ | refine zQ 1 af mixed ?_ | refine zQ 2 af mixed ?_ | refine zQ 3 af mixed ?_ | refine zf rfl rfl ?_ | refine zt rfl rfl ?_ | (refine am rfl rfl ?_ ?_<;>intro hb<;>((try simp only [bn] at hb);first | subst hb | simp only [hb])) | refine ap ?_ | refine aq ?_ | refine an ?_)
     refine aa ?_
     refine eF rfl (by simp only [avs]<;>rfl) ?_
     refine sT ((H.length+1)) (by simp only [avs,tts,seval,bU,bY,cP,bh,bc,unI,unL,Nat.add_eq_left,Nat.left_eq_add,Nat.one_ne_zero]<;>rfl) (by simp only [avs,tts,seval,bU,bY,cP,bh,bc,unI,unL,Nat.add_eq_left,Nat.left_eq_add,Nat.one_ne_zero]<;>rfl) (cs1) (by simp only [avs]<;>rfl) ?_
     repeat' (first | (refine aa ?_;first | (refine zg rfl ?_;first | refine ah ?_ | refine zo ?_ | (refine zs ?_ ?_<;>intro hb<;>((try simp only [bn] at hb);first | subst hb | simp only [hb]))) | (apply ai;rfl;simp only [aj,avs,tts,seval,lb,g0,hix,hlt,ga,Bool.not_false]<;>exact rr)) | refine ae ?_ | (refine ak ?_;first | (refine yg rfl ?_;first | refine ar ?_ | refine yo ?_ | (refine ys ?_ ?_<;>intro hb<;>((try simp only [bn] at hb);first | subst hb | simp only [hb]))) | (apply au;rfl;simp only [aB,avs,tts,seval,lb,g0,hix,hlt,ga,Bool.not_false]<;>exact rr;first | trivial | omega)) | refine al ?_ | refine ag ?_ | refine zr af ?_ | refine zQ 0 af mixed ?_ | refine zQ 1 af mixed ?_ | refine zQ 2 af mixed ?_ | refine zQ 3 af mixed ?_ | refine zf rfl rfl ?_ | refine zt rfl rfl ?_ | (refine am rfl rfl ?_ ?_<;>intro hb<;>((try simp only [bn] at hb);first | subst hb | simp only [hb])) | refine ap ?_ | refine aq ?_ | refine an ?_)
     exact aw ⟨_,rfl,_,rfl,rfl⟩
    | true =>
     repeat' (first | (refine aa ?_;first | (refine zg rfl ?_;first | refine ah ?_ | refine zo ?_ | (refine zs ?_ ?_<;>intro hb<;>((try simp only [bn] at hb);first | subst hb | simp only [hb]))) | (apply ai;rfl;simp only [aj,avs,tts,seval,lb,g0,hix,hlt,ga,Bool.not_true]<;>exact rr)) | refine ae ?_ | (refine ak ?_;first | (refine yg rfl ?_;first | refine ar ?_ | refine yo ?_ | (refine ys ?_ ?_<;>intro hb<;>((try simp only [bn] at hb);first | subst hb | simp only [hb]))) | (apply au;rfl;simp only [aB,avs,tts,seval,lb,g0,hix,hlt,ga,Bool.not_true]<;>exact rr;first | trivial | omega)) | refine al ?_ | refine ag ?_ | refine zr af ?_ | refine zQ 0 af mixed ?_ | refine zQ 1 af mixed ?_ | refine zQ 2 af mixed ?_ | refine zQ 3 af mixed ?_ | refine zf rfl rfl ?_ | refine zt rfl rfl ?_ | (refine am rfl rfl ?_ ?_<;>intro hb<;>((try simp only [bn] at hb);first | subst hb | simp only [hb])) | refine ap ?_ | refine aq ?_ | refine an ?_)
     refine aa ?_
     refine eF rfl (by simp only [avs]<;>rfl) ?_
     refine sT ((H.length+1)) (by simp only [avs,tts,seval,bU,bY,cP,bh,bc,unI,unL,Nat.add_eq_left,Nat.left_eq_add,Nat.one_ne_zero]<;>rfl) (by simp only [avs,tts,seval,bU,bY,cP,bh,bc,unI,unL,Nat.add_eq_left,Nat.left_eq_add,Nat.one_ne_zero]<;>rfl) (cs1) (by simp only [avs]<;>rfl) ?_
     repeat' (first | (refine aa ?_;first | (refine zg rfl ?_;first | refine ah ?_ | refine zo ?_ | (refine zs ?_ ?_<;>intro hb<;>((try simp only [bn] at hb);first | subst hb | simp only [hb]))) | (apply ai;rfl;simp only [aj,avs,tts,seval,lb,g0,hix,hlt,ga,w1,Bool.not_true]<;>exact rr)) | refine ae ?_ | (refine ak ?_;first | (refine yg rfl ?_;first | refine ar ?_ | refine yo ?_ | (refine ys ?_ ?_<;>intro hb<;>((try simp only [bn] at hb);first | subst hb | simp only [hb]))) | (apply au;rfl;simp only [aB,avs,tts,seval,lb,g0,hix,hlt,ga,w1,Bool.not_true]<;>exact rr;first | trivial | omega)) | refine al ?_ | refine ag ?_ | refine zr af ?_ | refine zQ 0 af mixed ?_ | refine zQ 1 af mixed ?_ | refine zQ 2 af mixed ?_ | refine zQ 3 af mixed ?_ | refine zf rfl rfl ?_ | refine zt rfl rfl ?_ | (refine am rfl rfl ?_ ?_<;>intro hb<;>((try simp only [bn] at hb);first | subst hb | simp only [hb])) | refine ap ?_ | refine aq ?_ | refine an ?_)
     refine ⟨cs.length - (k+1),_,H++[.box 25 [.d (.sl 1 (ps.map fun s=>[PD.v (.string s)])),.d (.sl 5 (cs.map lkP)),.d (.sl 5 (vs.map lkP))]],by omega,⟨?_,.inr ⟨by simp,?_,.more hB (.cons (by simp [aN.bel,aS,AV.bel]) .nil),[.dead],by simp only [List.append_assoc,List.cons_append,List.nil_append]⟩⟩,k+1,rfl,hlt,hyes rfl,rfl,rfl⟩
     ·(try simp only [rp]);(repeat (first | exact trivial | refine ⟨.inr rfl,?_⟩ | refine ⟨.inl rfl,?_⟩))
     ·simp [aS,AV.bel,List.replicate]
   | false =>
    have hnk:¬k<cs.length:=by simpa using g0
    have hka:k=cs.length:=by omega
    rw [hka,List.take_length] at hok
    rw [hok,Bool.true_and] at hP
    clear hok
    skip
    repeat' (first | (refine aa ?_;first | (refine zg rfl ?_;first | refine ah ?_ | refine zo ?_ | (refine zs ?_ ?_<;>intro hb<;>((try simp only [bn] at hb);first | subst hb | simp only [hb]))) | (apply ai;rfl;simp only [aj,avs,tts,seval,lb,g0]<;>exact rr)) | refine ae ?_ | (refine ak ?_;first | (refine yg rfl ?_;first | refine ar ?_ | refine yo ?_ | (refine ys ?_ ?_<;>intro hb<;>((try simp only [bn] at hb);first | subst hb | simp only [hb]))) | (apply au;rfl;simp only [aB,avs,tts,seval,lb,g0]<;>exact rr;first | trivial | omega)) | refine al ?_ | refine ag ?_ | refine zr af ?_ | refine zQ 0 af mixed ?_ | refine zQ 1 af mixed ?_ | refine zQ 2 af mixed ?_ | refine zQ 3 af mixed ?_ | refine zf rfl rfl ?_ | refine zt rfl rfl ?_ | (refine am rfl rfl ?_ ?_<;>intro hb<;>((try simp only [bn] at hb);first | subst hb | simp only [hb])) | refine ap ?_ | refine aq ?_ | refine an ?_)
    refine aZ (H0:=H++[.box 25 [.d (.sl 1 (ps.map fun s=>[PD.v (.string s)])),.d (.sl 5 (cs.map lkP)),.d (.sl 5 (vs.map lkP))]]) (fun r env K=>∃k,r=vs.length - k∧k≤vs.length∧(vs.take k).all (fun x=>dd x.part)=true∧K=H++[.box 25 [.d (.sl 1 (ps.map fun s=>[PD.v (.string s)])),.d (.sl 5 (cs.map lkP)),.d (.sl 5 (vs.map lkP))]]∧env=(.undef :: .undef :: .ptr H.length 0 :: .undef :: .undef :: .undef :: .undef :: .d (.v (.int .i64 (k:Int)))::List.replicate 63 .undef)) ?_ ⟨0,rfl,Nat.zero_le _,rfl,rfl,rfl⟩ ?_
    ·exact ⟨by (try simp only [rp]);(repeat (first | exact trivial | refine ⟨.inr rfl,?_⟩ | refine ⟨.inl rfl,?_⟩)),.inl rfl⟩
    rintro r env K ⟨k,rfl,hk,hok,rfl,rfl⟩ hN
    simp only [rp]
    obtain ⟨c0,g0⟩:∃c,decide ((k:Int)<(vs.length:Int))=c:=⟨_,rfl⟩
    cases c0 with
    | true =>
     have hlt:k<vs.length:=by simpa using g0
     have hix:(0:Int)≤(k:Int):=by omega
     have w1:IntKind.i64.wrap ((k:Int)+1)=((k+1:Nat):Int):=aP hlt (by omega)
     have ga:=jt hlt
     have hno:=qG (p:=fun x:Lk=>dd x.part) hlt
     have hyes:=fun h=>gy (p:=fun x:Lk=>dd x.part) hlt h hok
     generalize vs[k]=x at *
     obtain ⟨xc,xh,xp⟩:=x
     have cs1:=cs1 xp
     rw [List.all_cons,List.all_nil,Bool.and_true] at cs1
     simp only at hno hyes
     generalize dd xp=b at *
     obtain ⟨rn,ru,rd⟩:=xp
     simp only [lkP] at ga
     simp only [rtC,iA,boA,List.map_cons,List.map_nil] at cs1
     cases b with
     | false =>
      rw [hno rfl] at hP
      subst hP
      repeat' (first | (refine aa ?_;first | (refine zg rfl ?_;first | refine ah ?_ | refine zo ?_ | (refine zs ?_ ?_<;>intro hb<;>((try simp only [bn] at hb);first | subst hb | simp only [hb]))) | (apply ai;rfl;simp only [aj,avs,tts,seval,lc,g0,hix,hlt,ga,Bool.not_false]<;>exact rr)) | refine ae ?_ | (refine ak ?_;first | (refine yg rfl ?_;first | refine ar ?_ | refine yo ?_ | (refine ys ?_ ?_<;>intro hb<;>((try simp only [bn] at hb);first | subst hb | simp only [hb]))) | (apply au;rfl;simp only [aB,avs,tts,seval,lc,g0,hix,hlt,ga,Bool.not_false]<;>exact rr;first | trivial | omega)) | refine al ?_ | refine ag ?_ | refine zr af ?_ | refine zQ 0 af mixed ?_ | refine zQ 1 af mixed ?_ | refine zQ 2 af mixed ?_ | refine zQ 3 af mixed ?_ | refine zf rfl rfl ?_ | refine zt rfl rfl ?_ | (refine am rfl rfl ?_ ?_<;>intro hb<;>((try simp only [bn] at hb);first | subst hb | simp only [hb])) | refine ap ?_ | refine aq ?_ | refine an ?_)
      refine aa ?_
      refine eF rfl (by simp only [avs]<;>rfl) ?_
      refine sT ((H.length+1)) (by simp only [avs,tts,seval,bU,bY,cP,bh,bc,unI,unL,Nat.add_eq_left,Nat.left_eq_add,Nat.one_ne_zero]<;>rfl) (by simp only [avs,tts,seval,bU,bY,cP,bh,bc,unI,unL,Nat.add_eq_left,Nat.left_eq_add,Nat.one_ne_zero]<;>rfl) (cs1) (by simp only [avs]<;>rfl) ?_
      repeat' (first | (refine aa ?_;first | (refine zg rfl ?_;first | refine ah ?_ | refine zo ?_ | (refine zs ?_ ?_<;>intro hb<;>((try simp only [bn] at hb);first | subst hb | simp only [hb]))) | (apply ai;rfl;simp only [aj,avs,tts,seval,lc,g0,hix,hlt,ga,Bool.not_false]<;>exact rr)) | refine ae ?_ | (refine ak ?_;first | (refine yg rfl ?_;first | refine ar ?_ | refine yo ?_ | (refine ys ?_ ?_<;>intro hb<;>((try simp only [bn] at hb);first | subst hb | simp only [hb]))) | (apply au;rfl;simp only [aB,avs,tts,seval,lc,g0,hix,hlt,ga,Bool.not_false]<;>exact rr;first | trivial | omega)) | refine al ?_ | refine ag ?_ | refine zr af ?_ | refine zQ 0 af mixed ?_ | refine zQ 1 af mixed ?_ | refine zQ 2 af mixed ?_ | refine zQ 3 af mixed ?_ | refine zf rfl rfl ?_ | refine zt rfl rfl ?_ | (refine am rfl rfl ?_ ?_<;>intro hb<;>((try simp only [bn] at hb);first | subst hb | simp only [hb])) | refine ap ?_ | refine aq ?_ | refine an ?_)
      exact aw ⟨_,rfl,_,rfl,rfl⟩
     | true =>
      repeat' (first | (refine aa ?_;first | (refine zg rfl ?_;first | refine ah ?_ | refine zo ?_ | (refine zs ?_ ?_<;>intro hb<;>((try simp only [bn] at hb);first | subst hb | simp only [hb]))) | (apply ai;rfl;simp only [aj,avs,tts,seval,lc,g0,hix,hlt,ga,Bool.not_true]<;>exact rr)) | refine ae ?_ | (refine ak ?_;first | (refine yg rfl ?_;first | refine ar ?_ | refine yo ?_ | (refine ys ?_ ?_<;>intro hb<;>((try simp only [bn] at hb);first | subst hb | simp only [hb]))) | (apply au;rfl;simp only [aB,avs,tts,seval,lc,g0,hix,hlt,ga,Bool.not_true]<;>exact rr;first | trivial | omega)) | refine al ?_ | refine ag ?_ | refine zr af ?_ | refine zQ 0 af mixed ?_ | refine zQ 1 af mixed ?_ | refine zQ 2 af mixed ?_ | refine zQ 3 af mixed ?_ | refine zf rfl rfl ?_ | refine zt rfl rfl ?_ | (refine am rfl rfl ?_ ?_<;>intro hb<;>((try simp only [bn] at hb);first | subst hb | simp only [hb])) | refine ap ?_ | refine aq ?_ | refine an ?_)
      refine aa ?_
      refine eF rfl (by simp only [avs]<;>rfl) ?_
      refine sT ((H.length+1)) (by simp only [avs,tts,seval,bU,bY,cP,bh,bc,unI,unL,Nat.add_eq_left,Nat.left_eq_add,Nat.one_ne_zero]<;>rfl) (by simp only [avs,tts,seval,bU,bY,cP,bh,bc,unI,unL,Nat.add_eq_left,Nat.left_eq_add,Nat.one_ne_zero]<;>rfl) (cs1) (by simp only [avs]<;>rfl) ?_
      repeat' (first | (refine aa ?_;first | (refine zg rfl ?_;first | refine ah ?_ | refine zo ?_ | (refine zs ?_ ?_<;>intro hb<;>((try simp only [bn] at hb);first | subst hb | simp only [hb]))) | (apply ai;rfl;simp only [aj,avs,tts,seval,lc,g0,hix,hlt,ga,w1,Bool.not_true]<;>exact rr)) | refine ae ?_ | (refine ak ?_;first | (refine yg rfl ?_;first | refine ar ?_ | refine yo ?_ | (refine ys ?_ ?_<;>intro hb<;>((try simp only [bn] at hb);first | subst hb | simp only [hb]))) | (apply au;rfl;simp only [aB,avs,tts,seval,lc,g0,hix,hlt,ga,w1,Bool.not_true]<;>exact rr;first | trivial | omega)) | refine al ?_ | refine ag ?_ | refine zr af ?_ | refine zQ 0 af mixed ?_ | refine zQ 1 af mixed ?_ | refine zQ 2 af mixed ?_ | refine zQ 3 af mixed ?_ | refine zf rfl rfl ?_ | refine zt rfl rfl ?_ | (refine am rfl rfl ?_ ?_<;>intro hb<;>((try simp only [bn] at hb);first | subst hb | simp only [hb])) | refine ap ?_ | refine aq ?_ | refine an ?_)
      refine ⟨vs.length - (k+1),_,H++[.box 25 [.d (.sl 1 (ps.map fun s=>[PD.v (.string s)])),.d (.sl 5 (cs.map lkP)),.d (.sl 5 (vs.map lkP))]],by omega,⟨?_,.inr ⟨by simp,?_,.more hB (.cons (by simp [aN.bel,aS,AV.bel]) .nil),[.dead],by simp only [List.append_assoc,List.cons_append,List.nil_append]⟩⟩,k+1,rfl,hlt,hyes rfl,rfl,rfl⟩
      ·(try simp only [rp]);(repeat (first | exact trivial | refine ⟨.inr rfl,?_⟩ | refine ⟨.inl rfl,?_⟩))
      ·simp [aS,AV.bel,List.replicate]
    | false =>
     have hnk:¬k<vs.length:=by simpa using g0
     have hka:k=vs.length:=by omega
     rw [hka,List.take_length] at hok
     rw [hok] at hP
     clear hok
     subst hP
     repeat' (first | (refine aa ?_;first | (refine zg rfl ?_;first | refine ah ?_ | refine zo ?_ | (refine zs ?_ ?_<;>intro hb<;>((try simp only [bn] at hb);first | subst hb | simp only [hb]))) | (apply ai;rfl;simp only [aj,avs,tts,seval,lc,g0]<;>exact rr)) | refine ae ?_ | (refine ak ?_;first | (refine yg rfl ?_;first | refine ar ?_ | refine yo ?_ | (refine ys ?_ ?_<;>intro hb<;>((try simp only [bn] at hb);first | subst hb | simp only [hb]))) | (apply au;rfl;simp only [aB,avs,tts,seval,lc,g0]<;>exact rr;first | trivial | omega)) | refine al ?_ | refine ag ?_ | refine zr af ?_ | refine zQ 0 af mixed ?_ | refine zQ 1 af mixed ?_ | refine zQ 2 af mixed ?_ | refine zQ 3 af mixed ?_ | refine zf rfl rfl ?_ | refine zt rfl rfl ?_ | (refine am rfl rfl ?_ ?_<;>intro hb<;>((try simp only [bn] at hb);first | subst hb | simp only [hb])) | refine ap ?_ | refine aq ?_ | refine an ?_)
     exact aw ⟨_,rfl,_,rfl,rfl⟩
end
end Av
end Go.Proofs.YtdekcppfpgeneaaGreatDoor
namespace Go.Proofs.YtdekcppfpgeneaaGreatDoor
open Go Go.RowKit
namespace Av
open Nt Rg
end Av
end Go.Proofs.YtdekcppfpgeneaaGreatDoor
