import Derived.Test.YtdekcppfpgeneaaGreatDoorW3
import Derived.Test.YtdekcppfpgeneaaGreatDoorW2
import Derived.Sort.Walk0
import Derived.RangeFuncSeq
import Derived.DeepKeys4
import Derived.Sort.MapsRangeIn
import Derived.TacticsInMore
import Derived.RegionIn
import Derived.LoopNIn
import Derived.LoopIn
import Derived.OwnWalkIn
import Derived.WalkKit
import Derived.Shelf.SlSortCmp.WholeK
import Derived.StillTailTactics
import Derived.LoopN
import Derived.Test.YtdekcppfpgeneaaGreatDoorProg
import Derived.Shelf.SlSortCmp.NoneTotal
set_option linter.unusedVariables false
set_option linter.unusedSimpArgs false
namespace Go.Proofs.YtdekcppfpgeneaaGreatDoor
open Go Go.RowKit
namespace Av
attribute [local irreducible] AW aL aH
open Nt Rg
theorem q8 (a:ByteArray):a.toList=a.data.toList:=Lib.toList_data a
theorem mw (a b:ByteArray):Op.bytesLess a.toList b.toList=ltT a b:=by
 rw [bytesLess_eq,q8,q8];rfl
section
variable (base:World)
theorem B4 (s:ByteArray):aI Tryz.prog base 92 [tA s] (boA false):=by
 refine aC af Tryz.call92 Tryz.func92 rfl fun H hB hb hF => ?_
 rw [Tryz.results92,Tryz.ntmps92]
 simp only [aA,List.length_cons,List.length_nil,List.replicate,List.cons_append,List.nil_append,Nat.reduceAdd,Nat.reduceSub]
 clear hF hb
 simp only [tA]
 repeat' (first | (refine aa ?_;first | (refine zg rfl ?_;first | refine ah ?_ | refine zo ?_ | (refine zs ?_ ?_<;>intro hb<;>((try simp only [bn] at hb);first | subst hb | simp only [hb]))) | (apply ai;rfl;simp only [aj,avs,tts,seval,Bool.not_true,decide_true]<;>exact rr)) | refine ae ?_ | (refine ak ?_;first | (refine yg rfl ?_;first | refine ar ?_ | refine yo ?_ | (refine ys ?_ ?_<;>intro hb<;>((try simp only [bn] at hb);first | subst hb | simp only [hb]))) | (apply au;rfl;simp only [aB,avs,tts,seval,Bool.not_true,decide_true]<;>exact rr;first | trivial | omega)) | refine al ?_ | refine ag ?_ | refine zr af ?_ | refine zR 0 af mixed ?_ | refine zR 1 af mixed ?_ | refine zR 2 af mixed ?_ | refine zR 3 af mixed ?_ | refine zf rfl rfl ?_ | refine zt rfl rfl ?_ | (refine am rfl rfl ?_ ?_<;>intro hb<;>((try simp only [bn] at hb);first | subst hb | simp only [hb])) | refine ap ?_ | refine aq ?_ | refine an ?_)
 exact aw ⟨_,rfl,[],by simp,by simp [cM]⟩
theorem yE (s:ByteArray):aI Tryz.prog base 63 [tA s] (boA false):=by
 refine aC af Tryz.call63 Tryz.func63 rfl fun H hB hb hF => ?_
 rw [Tryz.results63,Tryz.ntmps63]
 simp only [aA,List.length_cons,List.length_nil,List.replicate,List.cons_append,List.nil_append,Nat.reduceAdd,Nat.reduceSub]
 clear hF hb
 simp only [tA]
 repeat' (first | (refine aa ?_;first | (refine zg rfl ?_;first | refine ah ?_ | refine zo ?_ | (refine zs ?_ ?_<;>intro hb<;>((try simp only [bn] at hb);first | subst hb | simp only [hb]))) | (apply ai;rfl;simp only [aj,avs,tts,seval,Bool.not_true,decide_true]<;>exact rr)) | refine ae ?_ | (refine ak ?_;first | (refine yg rfl ?_;first | refine ar ?_ | refine yo ?_ | (refine ys ?_ ?_<;>intro hb<;>((try simp only [bn] at hb);first | subst hb | simp only [hb]))) | (apply au;rfl;simp only [aB,avs,tts,seval,Bool.not_true,decide_true]<;>exact rr;first | trivial | omega)) | refine al ?_ | refine ag ?_ | refine zr af ?_ | refine zR 0 af mixed ?_ | refine zR 1 af mixed ?_ | refine zR 2 af mixed ?_ | refine zR 3 af mixed ?_ | refine zf rfl rfl ?_ | refine zt rfl rfl ?_ | (refine am rfl rfl ?_ ?_<;>intro hb<;>((try simp only [bn] at hb);first | subst hb | simp only [hb])) | refine ap ?_ | refine aq ?_ | refine an ?_)
 exact aw ⟨_,rfl,[],by simp,by simp [cM]⟩
theorem CE (a b:ByteArray):aI Tryz.prog base 62 [tA a,tA b] (boA (ltT a b)):=by
 have n1:=B4 base a
 have n2:=B4 base b
 have hl:=mw a b
 refine aC af Tryz.call62 Tryz.func62 rfl fun H hB hb hF => ?_
 rw [Tryz.results62,Tryz.ntmps62]
 simp only [aA,List.length_cons,List.length_nil,List.replicate,List.cons_append,List.nil_append,Nat.reduceAdd,Nat.reduceSub]
 clear hF hb
 simp only [tA] at n1 n2 ⊢
 generalize ltT a b=c at hl ⊢
 repeat' (first | (refine aa ?_;first | (refine zg rfl ?_;first | refine ah ?_ | refine zo ?_ | (refine zs ?_ ?_<;>intro hb<;>((try simp only [bn] at hb);first | subst hb | simp only [hb]))) | (apply ai;rfl;simp only [aj,avs,tts,seval,hl]<;>exact rr) | (refine za rfl ?_;first | refine zp (n1) ?_ | refine zp (n2) ?_)) | refine ae ?_ | (refine ak ?_;first | (refine yg rfl ?_;first | refine ar ?_ | refine yo ?_ | (refine ys ?_ ?_<;>intro hb<;>((try simp only [bn] at hb);first | subst hb | simp only [hb]))) | (apply au;rfl;simp only [aB,avs,tts,seval,hl]<;>exact rr;first | trivial | omega) | (refine ya rfl ?_;first | refine yp (n1) ?_ | refine yp (n2) ?_)) | refine al ?_ | refine ag ?_ | refine zr af ?_ | refine zR 0 af mixed ?_ | refine zR 1 af mixed ?_ | refine zR 2 af mixed ?_ | refine zR 3 af mixed ?_ | refine zf rfl rfl ?_ | refine zt rfl rfl ?_ | (refine am rfl rfl ?_ ?_<;>intro hb<;>((try simp only [bn] at hb);first | subst hb | simp only [hb])) | refine ap ?_ | refine aq ?_ | refine an ?_)
 all_goals exact aw ⟨_,rfl,[],by simp,rfl⟩
set_option maxRecDepth 100000 in
set_option maxHeartbeats 4000000 in
theorem xf (l:List ByteArray) (x:ByteArray) (hl:l.length≤1000000) (i:Nat) (hi:i<l.length) (hx:l[i]=x) (h0:∀j (hj:j<l.length),j<i→ltT l[j] x=true) (h1:∀j (hj:j<l.length),i≤j→ltT l[j] x=false):aI Tryz.prog base 35 [.d (bq l),tA x] (.tup [iA i,boA true]):=by
 refine aC af Tryz.call35 Tryz.func35 rfl fun H hB hb hF => ?_
 rw [Tryz.results35,Tryz.ntmps35]
 simp only [aA,List.length_cons,List.length_nil,List.replicate,List.cons_append,List.nil_append,Nat.reduceAdd,Nat.reduceSub]
 clear hF hb
 have hln:(l.map fun s=>[PD.v (.string s)]).length=l.length:=by simp
 have hgx:=cI hi
 rw [hx] at hgx
 have hlI:((i:Int)<(l.length:Int)):=by omega
 have dI1:decide ((i:Int)<(l.length:Int))=true:=decide_eq_true hlI
 have i0:(0:Int)≤(i:Int):=by omega
 simp only [tA,iA,bq]
 repeat' (first | (refine aa ?_;first | (refine zg rfl ?_;first | refine ah ?_ | refine zo ?_ | (refine zs ?_ ?_<;>intro hb<;>((try simp only [bn] at hb);first | subst hb | simp only [hb]))) | (apply ai;rfl;simp only [aj,avs,tts,seval,hln]<;>exact rr)) | refine ae ?_ | (refine ak ?_;first | (refine yg rfl ?_;first | refine ar ?_ | refine yo ?_ | (refine ys ?_ ?_<;>intro hb<;>((try simp only [bn] at hb);first | subst hb | simp only [hb]))) | (apply au;rfl;simp only [aB,avs,tts,seval,hln]<;>exact rr;first | trivial | omega)) | refine al ?_ | refine ag ?_ | refine zr af ?_ | refine zR 0 af mixed ?_ | refine zR 1 af mixed ?_ | refine zR 2 af mixed ?_ | refine zR 3 af mixed ?_ | refine zf rfl rfl ?_ | refine zt rfl rfl ?_ | (refine am rfl rfl ?_ ?_<;>intro hb<;>((try simp only [bn] at hb);first | subst hb | simp only [hb])) | refine ap ?_ | refine aq ?_ | refine an ?_)
 refine aZ (H0:=H) (fun r env K'=>∃a b:Nat,r=b - a∧a≤i∧i≤b∧b≤l.length∧K'=H∧env=(.d (.sl 1 (l.map fun s=>[PD.v (.string s)])) :: .d (.v (.string x)) :: .undef :: .undef :: .d (.v (.int .i64 0)) :: .d (.v (.bool false)) :: .d (.v (.int .i64 (l.length:Int))) :: .d (.v (.int .i64 (a:Int))) :: .d (.v (.int .i64 (b:Int)))::List.replicate 45 .undef)) ?_ ⟨0,l.length,rfl,Nat.zero_le _,Nat.le_of_lt hi,Nat.le_refl _,rfl,rfl⟩ ?_
 ·exact ⟨by simp [aJ,List.replicate],.inl rfl⟩
 rintro r env K' ⟨a,b,rfl,ha,hbi,hbn,rfl,rfl⟩ hN
 simp only [rp]
 obtain ⟨c0,g0⟩:∃c0,decide ((a:Int)<(b:Int))=c0:=⟨_,rfl⟩
 repeat refine ag ?_
 refine zr af ?_
 repeat (refine aa ?_;first | (apply ai;rfl;simp only [aj,avs,tts,seval,g0]<;>exact rr) | (refine zg rfl ?_;first | refine ah ?_ | refine zo ?_))
 refine ae ?_
 cases c0 with
 | false =>
  have hab:¬a<b:=by simpa using g0
  have e1:a=i:=by omega
  have e2:b=i:=by omega
  subst e1
  repeat' (first | (refine aa ?_;first | (refine zg rfl ?_;first | refine ah ?_ | refine zo ?_ | (refine zs ?_ ?_<;>intro hb<;>((try simp only [bn] at hb);first | subst hb | simp only [hb]))) | (apply ai;rfl;simp only [aj,avs,tts,seval,hln,i0,hi,hgx,dI1,decide_true]<;>exact rr) | (refine za rfl ?_;refine zp (yE base _) ?_)) | refine ae ?_ | (refine ak ?_;first | (refine yg rfl ?_;first | refine ar ?_ | refine yo ?_ | (refine ys ?_ ?_<;>intro hb<;>((try simp only [bn] at hb);first | subst hb | simp only [hb]))) | (apply au;rfl;simp only [aB,avs,tts,seval,hln,i0,hi,hgx,dI1,decide_true]<;>exact rr;first | trivial | omega) | (refine ya rfl ?_;refine yp (yE base _) ?_)) | refine al ?_ | refine ag ?_ | refine zr af ?_ | refine zR 0 af mixed ?_ | refine zR 1 af mixed ?_ | refine zR 2 af mixed ?_ | refine zR 3 af mixed ?_ | refine zf rfl rfl ?_ | refine zt rfl rfl ?_ | (refine am rfl rfl ?_ ?_<;>intro hb<;>((try simp only [bn] at hb);first | subst hb | simp only [hb])) | refine ap ?_ | refine aq ?_ | refine an ?_)
  refine aw ⟨_,(by simp only [bk,cN,er,avs,tts]<;>rfl),[],by simp,?_⟩
  simp [cM]
  rfl
 | true =>
  have hab:a<b:=by simpa using g0
  obtain ⟨m,hm⟩:∃m,m=(a+b) / 2:=⟨_,rfl⟩
  have hmn:m<l.length:=by omega
  have w1:=gX (a:=a) (b:=b) (by omega)
  have w2:IntKind.u64.wrap ((a+b:Nat):Int)=((a+b:Nat):Int):=by rw [IntKind.wrap_u64];omega
  have w3:((a+b:Nat):Int).fdiv (2 ^ Nat.min 1 IntKind.u64.bits)=(m:Int):=by
   have e:(2 ^ Nat.min 1 IntKind.u64.bits:Int)=2:=by decide
   rw [e,Int.fdiv_eq_ediv_of_nonneg _ (by omega)]
   omega
  have w4:IntKind.i64.wrap (m:Int)=(m:Int):=ut (by omega) (by omega)
  have w5:=aP hmn (by omega)
  have hgm:=cI hmn
  have m0:(0:Int)≤(m:Int):=by omega
  have cl:=CE base l[m] x
  have hlm:ltT l[m] x=decide (m<i):=by
   by_cases h:m<i
   ·rw [h0 m hmn h,decide_eq_true h]
   ·rw [h1 m hmn (by omega),decide_eq_false h]
  rw [hlm] at cl
  obtain ⟨c1,h1c⟩:∃c1,decide (m<i)=c1:=⟨_,rfl⟩
  rw [h1c] at cl
  simp only [tA] at cl
  generalize l[m]=y at hgm cl
  cases c1 with
  | true =>
   have hmi:=of_decide_eq_true h1c
   repeat' (first | (refine aa ?_;first | (refine zg rfl ?_;first | refine ah ?_ | refine zo ?_ | (refine zs ?_ ?_<;>intro hb<;>((try simp only [bn] at hb);first | subst hb | simp only [hb]))) | (apply ai;rfl;simp only [aj,avs,tts,seval,w1,w2,w3,w4,w5,Int.one_nonneg,hln,hgm,m0,hmn]<;>exact rr) | (refine za rfl ?_;refine zp (cl) ?_)) | refine ae ?_ | (refine ak ?_;first | (refine yg rfl ?_;first | refine ar ?_ | refine yo ?_ | (refine ys ?_ ?_<;>intro hb<;>((try simp only [bn] at hb);first | subst hb | simp only [hb]))) | (apply au;rfl;simp only [aB,avs,tts,seval,w1,w2,w3,w4,w5,Int.one_nonneg,hln,hgm,m0,hmn]<;>exact rr;first | trivial | omega) | (refine ya rfl ?_;refine yp (cl) ?_)) | refine al ?_ | refine ag ?_ | refine zr af ?_ | refine zR 0 af mixed ?_ | refine zR 1 af mixed ?_ | refine zR 2 af mixed ?_ | refine zR 3 af mixed ?_ | refine zf rfl rfl ?_ | refine zt rfl rfl ?_ | (refine am rfl rfl ?_ ?_<;>intro hb<;>((try simp only [bn] at hb);first | subst hb | simp only [hb])) | refine ap ?_ | refine aq ?_ | refine an ?_)
   refine ⟨b - (m+1),_,_,by omega,⟨?_,.inl rfl⟩,m+1,b,rfl,by omega,hbi,hbn,rfl,rfl⟩
   simp [aJ,List.replicate]
  | false =>
   have hmi:=of_decide_eq_false h1c
   repeat' (first | (refine aa ?_;first | (refine zg rfl ?_;first | refine ah ?_ | refine zo ?_ | (refine zs ?_ ?_<;>intro hb<;>((try simp only [bn] at hb);first | subst hb | simp only [hb]))) | (apply ai;rfl;simp only [aj,avs,tts,seval,w1,w2,w3,w4,w5,Int.one_nonneg,hln,hgm,m0,hmn]<;>exact rr) | (refine za rfl ?_;refine zp (cl) ?_)) | refine ae ?_ | (refine ak ?_;first | (refine yg rfl ?_;first | refine ar ?_ | refine yo ?_ | (refine ys ?_ ?_<;>intro hb<;>((try simp only [bn] at hb);first | subst hb | simp only [hb]))) | (apply au;rfl;simp only [aB,avs,tts,seval,w1,w2,w3,w4,w5,Int.one_nonneg,hln,hgm,m0,hmn]<;>exact rr;first | trivial | omega) | (refine ya rfl ?_;refine yp (cl) ?_)) | refine al ?_ | refine ag ?_ | refine zr af ?_ | refine zR 0 af mixed ?_ | refine zR 1 af mixed ?_ | refine zR 2 af mixed ?_ | refine zR 3 af mixed ?_ | refine zf rfl rfl ?_ | refine zt rfl rfl ?_ | (refine am rfl rfl ?_ ?_<;>intro hb<;>((try simp only [bn] at hb);first | subst hb | simp only [hb])) | refine ap ?_ | refine aq ?_ | refine an ?_)
   refine ⟨m - a,_,_,by omega,⟨?_,.inl rfl⟩,a,m,rfl,ha,by omega,by omega,rfl,rfl⟩
   simp [aJ,List.replicate]
theorem AR {H:av} (l:List ByteArray) (x:ByteArray) {lb:Nat} {c v:AV} (hbx:H[lb]?=some (.box 25 [.d (bq l),c,v])) (hl:l.length≤1000000) (i:Nat) (hi:i<l.length) (hx:l[i]=x) (h0:∀j (hj:j<l.length),j<i→ltT l[j] x=true) (h1:∀j (hj:j<l.length),i≤j→ltT l[j] x=false):da Tryz.prog base 34 [tA x,.ptr lb 0] H (iA i):=by
 have cb:=xf base l x hl i hi hx h0 h1
 have hbx2:=fun G=>got hbx G
 refine cC af Tryz.call34 Tryz.func34 rfl fun hB hb hF => ?_
 rw [Tryz.results34,Tryz.ntmps34]
 simp only [aA,List.length_cons,List.length_nil,List.replicate,List.cons_append,List.nil_append,Nat.reduceAdd,Nat.reduceSub]
 clear hF hb
 simp only [tA,iA,boA] at cb ⊢
 repeat' (first | (refine aa ?_;first | (refine zg rfl ?_;first | refine ah ?_ | refine zo ?_ | (refine zs ?_ ?_<;>intro hb<;>((try simp only [bn] at hb);first | subst hb | simp only [hb]))) | (apply ai;rfl;simp only [aj,avs,tts,seval,hbx,hbx2]<;>exact rr) | (refine za rfl ?_;refine zp (cb) ?_)) | refine ae ?_ | (refine ak ?_;first | (refine yg rfl ?_;first | refine ar ?_ | refine yo ?_ | (refine ys ?_ ?_<;>intro hb<;>((try simp only [bn] at hb);first | subst hb | simp only [hb]))) | (apply au;rfl;simp only [aB,avs,tts,seval,hbx,hbx2]<;>exact rr;first | trivial | omega) | (refine ya rfl ?_;refine yp (cb) ?_)) | refine al ?_ | refine ag ?_ | refine zr af ?_ | refine zR 0 af mixed ?_ | refine zR 1 af mixed ?_ | refine zR 2 af mixed ?_ | refine zR 3 af mixed ?_ | refine zf rfl rfl ?_ | refine zt rfl rfl ?_ | (refine am rfl rfl ?_ ?_<;>intro hb<;>((try simp only [bn] at hb);first | subst hb | simp only [hb])) | refine ap ?_ | refine aq ?_ | refine an ?_)
 exact aw ⟨_,rfl,[],by simp,rfl⟩
end
end Av
end Go.Proofs.YtdekcppfpgeneaaGreatDoor
namespace Go.Proofs.YtdekcppfpgeneaaGreatDoor
open Go Go.RowKit
namespace Nt
open Rg Av
theorem ju:∀{l m:List UInt8},l.length=m.length→l.all aM=true→m.all aM=true→(l<m↔aG l<aG m)
 | [],[],_,_,_=>by simp [aG]
 | [],_::_,h,_,_=>by simp at h
 | _::_,[],h,_,_=>by simp at h
 | a::l,b::m,h,hl,hm=>by
  simp only [List.length_cons,Nat.add_right_cancel_iff] at h
  simp only [List.all_cons,Bool.and_eq_true] at hl hm
  have ih:=ju h hl.2 hm.2
  have hx:=cA hl.2
  have hy:=cA hm.2
  have ha:48≤a.toNat∧a.toNat≤57:=by have:=hl.1;simp [aM] at this;exact this
  have hb:48≤b.toNat∧b.toNat≤57:=by have:=hm.1;simp [aM] at this;exact this
  rw [iC,iC,h]
  rw [h] at hx
  rw [List.cons_lt_cons_iff]
  generalize aG l=x at *
  generalize aG m=y at *
  generalize 10 ^ m.length=q at *
  have hab:a=b↔a.toNat=b.toNat:=UInt8.toNat_inj.symm
  have hlt:a<b↔a.toNat<b.toNat:=UInt8.lt_iff_toNat_lt
  rw [hab,hlt,ih]
  rcases Nat.lt_trichotomy a.toNat b.toNat with h1 | h1 | h1
  ·have:(a.toNat - 48+1) * q≤(b.toNat - 48) * q:=Nat.mul_le_mul_right _ (by omega)
   rw [Nat.add_mul] at this
   constructor
   ·intro _;omega
   ·intro _;exact .inl h1
  ·rw [h1]
   constructor
   ·rintro (h2 | ⟨_,h2⟩)<;>omega
   ·intro h2;exact .inr ⟨rfl,by omega⟩
  ·have:(b.toNat - 48+1) * q≤(a.toNat - 48) * q:=Nat.mul_le_mul_right _ (by omega)
   rw [Nat.add_mul] at this
   constructor
   ·rintro (h2 | ⟨h2,_⟩)<;>omega
   ·intro h2;omega
theorem zJ (a b:Nat):(decide ((aD a).size<(aD b).size)||(decide ((aD a).size=(aD b).size)&&ltT (aD a) (aD b)))=decide (a<b):=by
 rw [Bool.eq_iff_iff]
 simp only [Bool.or_eq_true,Bool.and_eq_true,decide_eq_true_eq,aX]
 unfold ltT
 rw [decide_eq_true_eq,dx,dx]
 constructor
 ·rintro (h | ⟨h,h2⟩)
  ·exact fi h
  ·have:=(ju h (bK a) (bK b)).1 h2
   rw [cK,cK] at this
   exact this
 ·intro h
  rcases Nat.lt_trichotomy (Lib.decDigits a).length (Lib.decDigits b).length with h1 | h1 | h1
  ·exact .inl h1
  ·refine .inr ⟨h1,(ju h1 (bK a) (bK b)).2 ?_⟩
   rw [cK,cK];exact h
  ·have:=fi h1;omega
theorem zL {n:Nat} (h:n<10 ^ 18):(aD n).size≤18:=by rw [aX];exact gO 17 n h
end Nt
namespace Av
attribute [local irreducible] AW aL aH
open Nt Rg
section
variable (base:World)
theorem yl (n:Nat) (hn:n≤9223372036854775807):aI Tryz.prog base 135 [iA n] (tA (aD n)) :=
 dN Tryz.call135 (by have:=rS n hn;show (lI n).size≤_;omega) fun s vs hs ha=>by
  have e:vs = #[.int .i64 n]:=by
   obtain ⟨l⟩:=vs
   simp only [ax,iA,Rep,aQ] at ha
   obtain ⟨x,t,e,⟨h1,_⟩,rfl⟩:=ha
   rw [e,h1]
  rw [e]
  exact (oy n hn s.w).mono fun e w' ⟨h1,h2⟩=>⟨h1,by rw [h2];exact Below.refl _ _⟩
set_option maxRecDepth 100000 in
set_option maxHeartbeats 4000000 in
theorem xZ (t:ByteArray) (hd:t.data.toList.all aM=true) (ht:t.size≤18):aI Tryz.prog base 173 [tA t] (iA (bj t)):=by
 refine aC af Tryz.call173 Tryz.func173 rfl fun H hB hb hF => ?_
 rw [Tryz.results173,Tryz.ntmps173]
 simp only [aA,List.length_cons,List.length_nil,List.replicate,List.cons_append,List.nil_append,Nat.reduceAdd,Nat.reduceSub]
 clear hF hb
 have hsz:t.size=t.data.toList.length:=Lib.size_eq t
 simp only [tA,iA]
 repeat' (first | (refine aa ?_;first | (refine zg rfl ?_;first | refine ah ?_ | refine zo ?_ | (refine zs ?_ ?_<;>intro hb<;>((try simp only [bn] at hb);first | subst hb | simp only [hb]))) | (apply ai;rfl;simp only [aj,avs,tts,seval]<;>exact rr)) | refine ae ?_ | (refine ak ?_;first | (refine yg rfl ?_;first | refine ar ?_ | refine yo ?_ | (refine ys ?_ ?_<;>intro hb<;>((try simp only [bn] at hb);first | subst hb | simp only [hb]))) | (apply au;rfl;simp only [aB,avs,tts,seval]<;>exact rr;first | trivial | omega)) | refine al ?_ | refine ag ?_ | refine zr af ?_ | refine zQ 0 af mixed ?_ | refine zQ 1 af mixed ?_ | refine zQ 2 af mixed ?_ | refine zQ 3 af mixed ?_ | refine zf rfl rfl ?_ | refine zt rfl rfl ?_ | (refine am rfl rfl ?_ ?_<;>intro hb<;>((try simp only [bn] at hb);first | subst hb | simp only [hb])) | refine ap ?_ | refine aq ?_ | refine an ?_)
 refine aZ (H0:=H) (fun r env K=>∃k,r=t.size - k∧k≤t.size∧K=H∧env=(.d (.v (.string t)) :: .undef :: .undef :: .d (.v (.int .i64 (aG (t.data.toList.take k):Int))) :: .d (.v (.int .i64 (k:Int)))::List.replicate 15 .undef)) ?_ ⟨0,rfl,Nat.zero_le _,rfl,rfl⟩ ?_
 ·exact ⟨by simp [aJ,List.replicate,aG],.inl rfl⟩
 rintro r env K ⟨k,rfl,hk,rfl,rfl⟩ hN
 simp only [rp]
 obtain ⟨c0,g0⟩:∃c,decide ((k:Int)<(t.size:Int))=c:=⟨_,rfl⟩
 cases c0 with
 | false =>
  have hka:k=t.size:=by
                have:¬k<t.size:=by simpa using g0
                omega
  have e:t.data.toList.take k=t.data.toList:=by rw [hka,hsz,List.take_length]
  rw [e]
  repeat' (first | (refine aa ?_;first | (refine zg rfl ?_;first | refine ah ?_ | refine zo ?_ | (refine zs ?_ ?_<;>intro hb<;>((try simp only [bn] at hb);first | subst hb | simp only [hb]))) | (apply ai;rfl;simp only [aj,avs,tts,seval,g0]<;>exact rr)) | refine ae ?_ | (refine ak ?_;first | (refine yg rfl ?_;first | refine ar ?_ | refine yo ?_ | (refine ys ?_ ?_<;>intro hb<;>((try simp only [bn] at hb);first | subst hb | simp only [hb]))) | (apply au;rfl;simp only [aB,avs,tts,seval,g0]<;>exact rr;first | trivial | omega)) | refine al ?_ | refine ag ?_ | refine zr af ?_ | refine zQ 0 af mixed ?_ | refine zQ 1 af mixed ?_ | refine zQ 2 af mixed ?_ | refine zQ 3 af mixed ?_ | refine zf rfl rfl ?_ | refine zt rfl rfl ?_ | (refine am rfl rfl ?_ ?_<;>intro hb<;>((try simp only [bn] at hb);first | subst hb | simp only [hb])) | refine ap ?_ | refine aq ?_ | refine an ?_)
  exact aw ⟨_,rfl,[],by simp,rfl⟩
 | true =>
  have hlt:k<t.size:=by simpa using g0
  have hlt2:k<t.data.toList.length:=by omega
  have hix:(0:Int)≤(k:Int):=by omega
  have w1:IntKind.i64.wrap ((k:Int)+1)=((k+1:Nat):Int):=aP hlt (by omega)
  have hbt:t.data.toList.getD k 0=t.data.toList[k]:=by rw [List.getD_eq_getElem?_getD,List.getElem?_eq_getElem hlt2];rfl
  have hdg:=nG hd hlt2
  have htk:=lQ hlt2
  have hlim:aG (t.data.toList.take k)<10 ^ 17:=by
   have h1:=cA (l:=t.data.toList.take k) (List.all_eq_true.2 fun x hx=>List.all_eq_true.1 hd x (List.mem_of_mem_take hx))
   rw [List.length_take] at h1
   exact Nat.lt_of_lt_of_le h1 (Nat.pow_le_pow_right (by decide) (by omega))
  generalize aG (t.data.toList.take k)=v at *
  generalize t.data.toList[k]=c at *
  have w2:IntKind.i64.wrap ((v:Int) * 10)=((v * 10:Nat):Int):=by rw [IntKind.wrap_i64];omega
  have w3:IntKind.u8.wrap ((c.toNat:Int) - 48)=((c.toNat - 48:Nat):Int):=by
   rw [IntKind.wrap_u8];omega
  have w4:IntKind.i64.wrap ((c.toNat - 48:Nat):Int)=((c.toNat - 48:Nat):Int):=by rw [IntKind.wrap_i64];omega
  have w5:IntKind.i64.wrap (((v * 10:Nat):Int)+((c.toNat - 48:Nat):Int))=((v * 10+(c.toNat - 48):Nat):Int):=by rw [IntKind.wrap_i64];omega
  repeat' (first | (refine aa ?_;first | (refine zg rfl ?_;first | refine ah ?_ | refine zo ?_ | (refine zs ?_ ?_<;>intro hb<;>((try simp only [bn] at hb);first | subst hb | simp only [hb]))) | (apply ai;rfl;simp only [aj,avs,tts,seval,g0,hix,hlt,hbt,w1,w2,w3,w4,w5]<;>exact rr)) | refine ae ?_ | (refine ak ?_;first | (refine yg rfl ?_;first | refine ar ?_ | refine yo ?_ | (refine ys ?_ ?_<;>intro hb<;>((try simp only [bn] at hb);first | subst hb | simp only [hb]))) | (apply au;rfl;simp only [aB,avs,tts,seval,g0,hix,hlt,hbt,w1,w2,w3,w4,w5]<;>exact rr;first | trivial | omega)) | refine al ?_ | refine ag ?_ | refine zr af ?_ | refine zQ 0 af mixed ?_ | refine zQ 1 af mixed ?_ | refine zQ 2 af mixed ?_ | refine zQ 3 af mixed ?_ | refine zf rfl rfl ?_ | refine zt rfl rfl ?_ | (refine am rfl rfl ?_ ?_<;>intro hb<;>((try simp only [bn] at hb);first | subst hb | simp only [hb])) | refine ap ?_ | refine aq ?_ | refine an ?_)
  exact ⟨t.size - (k+1),_,_,by omega,⟨by rw [htk];(try simp only [rp]);(repeat (first | exact trivial | refine ⟨.inr rfl,?_⟩ | refine ⟨.inl rfl,?_⟩)),.inl rfl⟩,k+1,rfl,hlt,rfl,rfl⟩
def eI (a b:Nat):Int:=if a<b then -1 else if a=b then 0 else 1
set_option maxRecDepth 100000 in
theorem jK (a b:Nat):aI Tryz.prog base 139 [tA (aD a),tA (aD b)] (iA (eI a b)):=by
 have hl:=zJ a b
 have he:decide (aD a=aD b)=decide (a=b):=decide_eq_decide.2 ⟨j9,fun h=>by rw [h]⟩
 refine aC af Tryz.call139 Tryz.func139 rfl fun H hB hb hF => ?_
 rw [Tryz.results139,Tryz.ntmps139]
 simp only [aA,List.length_cons,List.length_nil,List.replicate,List.cons_append,List.nil_append,Nat.reduceAdd,Nat.reduceSub]
 clear hF hb
 have hls:=mw (aD a) (aD b)
 unfold eI
 simp only [tA,iA]
 obtain ⟨c1,g1⟩:∃c,decide (a<b)=c:=⟨_,rfl⟩
 obtain ⟨c2,g2⟩:∃c,decide (a=b)=c:=⟨_,rfl⟩
 rw [g1] at hl
 rw [g2] at he
 simp only [show (a<b)=(c1=true) by rw [←g1];simp,show (a=b)=(c2=true) by rw [←g2];simp]
 clear g1 g2
 generalize aD a=x at *
 generalize aD b=y at *
 obtain ⟨e1,f1⟩:∃c,decide (x.size<y.size)=c:=⟨_,rfl⟩
 obtain ⟨e2,f2⟩:∃c,decide (x.size=y.size)=c:=⟨_,rfl⟩
 have n1:decide ((x.size:Int)<(y.size:Int))=e1:=by rw [←f1];exact decide_eq_decide.2 (by omega)
 have n2:decide ((x.size:Int)=(y.size:Int))=e2:=by rw [←f2];exact decide_eq_decide.2 (by omega)
 rw [f1,f2] at hl
 generalize ltT x y=e3 at *
 clear f1 f2
 subst hl
 repeat' (first | (refine aa ?_;first | (refine zg rfl ?_;first | refine ah ?_ | refine zo ?_ | (refine zs ?_ ?_<;>intro hb<;>((try simp only [bn] at hb);first | subst hb | simp only [hb]))) | (apply ai;rfl;simp only [aj,avs,tts,seval,n1,n2,hls,he]<;>exact rr)) | refine ae ?_ | (refine ak ?_;first | (refine yg rfl ?_;first | refine ar ?_ | refine yo ?_ | (refine ys ?_ ?_<;>intro hb<;>((try simp only [bn] at hb);first | subst hb | simp only [hb]))) | (apply au;rfl;simp only [aB,avs,tts,seval,n1,n2,hls,he]<;>exact rr;first | trivial | omega)) | refine al ?_ | refine ag ?_ | refine zr af ?_ | refine zQ 0 af mixed ?_ | refine zQ 1 af mixed ?_ | refine zQ 2 af mixed ?_ | refine zQ 3 af mixed ?_ | refine zf rfl rfl ?_ | refine zt rfl rfl ?_ | (refine am rfl rfl ?_ ?_<;>intro hb<;>((try simp only [bn] at hb);first | subst hb | simp only [hb])) | refine ap ?_ | refine aq ?_ | refine an ?_)
 all_goals exact aw ⟨_,rfl,[],by simp,rfl⟩
end
end Av
end Go.Proofs.YtdekcppfpgeneaaGreatDoor
namespace Go.Proofs.YtdekcppfpgeneaaGreatDoor
open Go Go.RowKit
namespace Av
attribute [local irreducible] AW aL aH
open Nt Rg
section
variable (base:World)
set_option maxRecDepth 100000 in
theorem uJ (t:ByteArray) (ht:t.size≤1000000):aI Tryz.prog base 132 [tA t] (boA (isN t)):=by
 have cn:=yz base t ht
 unfold isN
 generalize (!decide (t=⟨#[]⟩))=b1 at *
 generalize (t.data.toList.all aM&&(decide (t.size=1) || !decide (gi t=48)))=b2 at *
 obtain ⟨b3,g3⟩:∃c,decide (t.size≤300)=c:=⟨_,rfl⟩
 have f3:decide ((t.size:Int)≤300)=b3:=by rw [←g3];exact decide_eq_decide.2 (by omega)
 rw [g3]
 clear g3
 refine aC af Tryz.call132 Tryz.func132 rfl fun H hB hb hF => ?_
 rw [Tryz.results132,Tryz.ntmps132]
 simp only [aA,List.length_cons,List.length_nil,List.replicate,List.cons_append,List.nil_append,Nat.reduceAdd,Nat.reduceSub]
 clear hF hb
 simp only [tA,boA] at cn ⊢
 repeat' (first | (refine aa ?_;first | (refine zg rfl ?_;first | refine ah ?_ | refine zo ?_ | (refine zs ?_ ?_<;>intro hb<;>((try simp only [bn] at hb);first | subst hb | simp only [hb]))) | (apply ai;rfl;simp only [aj,avs,tts,seval,f3]<;>exact rr) | (refine za rfl ?_;refine zp (cn) ?_)) | refine ae ?_ | (refine ak ?_;first | (refine yg rfl ?_;first | refine ar ?_ | refine yo ?_ | (refine ys ?_ ?_<;>intro hb<;>((try simp only [bn] at hb);first | subst hb | simp only [hb]))) | (apply au;rfl;simp only [aB,avs,tts,seval,f3]<;>exact rr;first | trivial | omega) | (refine ya rfl ?_;refine yp (cn) ?_)) | refine al ?_ | refine ag ?_ | refine zr af ?_ | refine zQ 0 af mixed ?_ | refine zQ 1 af mixed ?_ | refine zQ 2 af mixed ?_ | refine zQ 3 af mixed ?_ | refine zf rfl rfl ?_ | refine zt rfl rfl ?_ | (refine am rfl rfl ?_ ?_<;>intro hb<;>((try simp only [bn] at hb);first | subst hb | simp only [hb])) | refine ap ?_ | refine aq ?_ | refine an ?_)
 all_goals (show AW _ _ _ _ _;first | exact aw ⟨_,rfl,[],by simp,rfl⟩ | (cases b1<;>cases b2<;>exact aw ⟨_,rfl,[],by simp,rfl⟩))
theorem uH {n:Nat} (hn:n<10 ^ 18):aI Tryz.prog base 173 [tA (aD n)] (iA n):=by
 have h:=xZ base (aD n) (by rw [dx];exact bK n) (zL hn)
 rwa [cz] at h
set_option maxRecDepth 100000 in
theorem AM {n m:Nat} (hn:n<10 ^ 18) (hm:m<10 ^ 18) (h0:m≠0):aI Tryz.prog base 134 [tA (aD n),tA (aD m)] (.tup [tA (aD (n / m)),tA (aD (n % m))]):=by
 have co:=jK base n m
 have q1:n / m≤n:=Nat.div_le_self _ _
 have q2:n % m≤n:=Nat.mod_le _ _
 have d1:=yl base (n / m) (by omega)
 have d2:=yl base (n % m) (by omega)
 have v1:=uH base hn
 have v2:=uH base hm
 have s1:=zL hn
 have z1:((m:Int)=0)=False:=eq_false (by omega)
 obtain ⟨q,hq⟩:∃q,n / m=q:=⟨_,rfl⟩
 obtain ⟨r,hr⟩:∃r,n % m=r:=⟨_,rfl⟩
 have z2:(n:Int).tmod (m:Int)=(r:Int):=by rw [←hr];rfl
 have z3:(n:Int).tdiv (m:Int)=(q:Int):=by rw [←hq];rfl
 have z4:IntKind.i64.wrap (q:Int)=(q:Int):=by rw [IntKind.wrap_i64];omega
 have z5:IntKind.i64.wrap (r:Int)=(r:Int):=by rw [IntKind.wrap_i64];omega
 have hlow:n<m→aD q=⟨#[48]⟩∧aD r=aD n:=fun h=>⟨by rw [←hq,Nat.div_eq_of_lt h];exact kZ,by rw [←hr,Nat.mod_eq_of_lt h]⟩
 rw [hq] at d1 ⊢
 rw [hr] at d2 ⊢
 clear hq hr q1 q2
 have f1:decide (eI n m<0)=decide (n<m):=by
  refine decide_eq_decide.2 ?_
  unfold eI
  split
  ·rename_i h;exact ⟨fun _=>h,fun _=>by decide⟩
  ·rename_i h
   split<;>exact ⟨fun h2=>absurd h2 (by decide),fun h2=>absurd h2 h⟩
 obtain ⟨b,hb2⟩:∃b,decide (n<m)=b:=⟨_,rfl⟩
 rw [hb2] at f1
 have hlow2:b=true→aD q=⟨#[48]⟩∧aD r=aD n:=fun h=>hlow (by subst h;exact of_decide_eq_true hb2)
 clear hlow hb2
 have f0:decide (((aD n).size:Int)≤18)=true:=decide_eq_true (by omega)
 generalize eI n m=c at *
 generalize aD n=t at *
 generalize aD m=u at *
 generalize aD q=tq at *
 generalize aD r=tr at *
 refine aC af Tryz.call134 Tryz.func134 rfl fun H hB hb hF => ?_
 rw [Tryz.results134,Tryz.ntmps134]
 simp only [aA,List.length_cons,List.length_nil,List.replicate,List.cons_append,List.nil_append,Nat.reduceAdd,Nat.reduceSub]
 clear hF hb
 simp only [tA,iA] at co d1 d2 v1 v2 ⊢
 repeat' (first | (refine aa ?_;first | (refine zg rfl ?_;first | refine ah ?_ | refine zo ?_ | (refine zs ?_ ?_<;>intro hb<;>((try simp only [bn] at hb);first | subst hb | simp only [hb]))) | (apply ai;rfl;simp only [aj,avs,tts,seval,f0,f1,z1,z2,z3,z4,z5]<;>exact rr) | (refine za rfl ?_;first | refine zp (co) ?_ | refine zp (v1) ?_ | refine zp (v2) ?_ | refine zp (d1) ?_ | refine zp (d2) ?_)) | refine ae ?_ | (refine ak ?_;first | (refine yg rfl ?_;first | refine ar ?_ | refine yo ?_ | (refine ys ?_ ?_<;>intro hb<;>((try simp only [bn] at hb);first | subst hb | simp only [hb]))) | (apply au;rfl;simp only [aB,avs,tts,seval,f0,f1,z1,z2,z3,z4,z5]<;>exact rr;first | trivial | omega) | (refine ya rfl ?_;first | refine yp (co) ?_ | refine yp (v1) ?_ | refine yp (v2) ?_ | refine yp (d1) ?_ | refine yp (d2) ?_)) | refine al ?_ | refine ag ?_ | refine zr af ?_ | refine zQ 0 af mixed ?_ | refine zQ 1 af mixed ?_ | refine zQ 2 af mixed ?_ | refine zQ 3 af mixed ?_ | refine zf rfl rfl ?_ | refine zt rfl rfl ?_ | (refine am rfl rfl ?_ ?_<;>intro hb<;>((try simp only [bn] at hb);first | subst hb | simp only [hb])) | refine ap ?_ | refine aq ?_ | refine an ?_)
 all_goals (show AW _ _ _ _ _;first | exact aw ⟨_,rfl,[],by simp,rfl⟩ | (obtain ⟨e1,e2⟩:=hlow2 rfl;subst e1 e2;exact aw ⟨_,rfl,[],by simp,rfl⟩))
end
end Av
end Go.Proofs.YtdekcppfpgeneaaGreatDoor
namespace Go.Proofs.YtdekcppfpgeneaaGreatDoor
open Go Go.RowKit
namespace Nt
open Rg Av
theorem j8 {a b:Nat} (h:a≤b):(aD a).size≤(aD b).size:=by
 rw [aX,aX]
 rcases Nat.lt_or_ge (Lib.decDigits b).length (Lib.decDigits a).length with h1 | h1
 ·have:=fi h1;omega
 ·exact h1
structure s5 (n m i:Nat) (q:List Nat) (R:ByteArray):Prop where
 ten:∀x∈q,x<10
 len:q.length=i+1 - (aD m).size
 val:fO q.reverse=n / 10 ^ ((aD n).size - i) / m
 digits:R.data.toList.all aM=true
 small:R.size≤(aD n).size
 rest:bj R=n / 10 ^ ((aD n).size - i) % m
 can:(aD m).size≤i→R=aD (bj R)
theorem we {n m:Nat} (hm:(aD m).size≤(aD n).size) (h0:0<(aD m).size) (hlt:∀k,k<(aD m).size→n / 10 ^ ((aD n).size - k)<m):s5 n m ((aD m).size - 1) [] ((aD n).extract 0 ((aD m).size - 1)):=by
 have hl:((aD n).extract 0 ((aD m).size - 1)).data.toList=(Lib.decDigits n).take ((aD m).size - 1):=by
  rw [fK _ (by omega),dx,List.drop_zero]
 have hv:bj ((aD n).extract 0 ((aD m).size - 1))=n / 10 ^ ((aD n).size - ((aD m).size - 1)):=by
  unfold bj
  rw [hl,zH n (by have:=aX n;omega),aX n]
 have hs:=hlt ((aD m).size - 1) (by omega)
 refine ⟨by simp,by show 0=_;omega,?_,?_,?_,?_,fun h=>by omega⟩
 ·rw [Nat.div_eq_of_lt hs];rfl
 ·rw [hl,List.all_eq_true]
  exact fun x hx=>List.all_eq_true.1 (bK n) x (List.mem_of_mem_take hx)
 ·have h1:=aX n
  rw [Lib.size_eq,hl,List.length_take];omega
 ·rw [hv,Nat.mod_eq_of_lt hs]
theorem wd {n m i:Nat} {q:List Nat} {R:ByteArray} (h:s5 n m i q R) (hm:0<m) (h1:(aD m).size≤i+1) (hi:i<(aD n).size) :
  ∃X:Nat,X≤n∧X / m<10∧(R++(aD n).extract i (i+1)).data.toList.all aM=true∧0<(R++(aD n).extract i (i+1)).size∧(R++(aD n).extract i (i+1)).size≤(aD n).size+1∧bj (R++(aD n).extract i (i+1))=X∧s5 n m (i+1) (q++[X / m]) (aD (X % m)):=by
 have hdl:i<(Lib.decDigits n).length:=by rw [←aX];exact hi
 have hl:((aD n).extract i (i+1)).data.toList=[(Lib.decDigits n)[i]]:=by
  rw [fK _ (by omega),dx,List.drop_take,show i+1 - i=1 by omega,List.drop_eq_getElem_cons hdl]
  rfl
 have hdig:=zF ((Lib.decDigits n).length - 1 - i) n (by omega)
 have hidx:(Lib.decDigits n).length - 1 - ((Lib.decDigits n).length - 1 - i)=i:=by omega
 simp only [hidx] at hdig
 obtain ⟨d,hd⟩:∃d,de n ((Lib.decDigits n).length - 1 - i)=d:=⟨_,rfl⟩
 have hd10:d<10:=hd ▸ kX _ _
 rw [hd] at hdig
 have happ:(R++(aD n).extract i (i+1)).data.toList=R.data.toList++[(Lib.decDigits n)[i]]:=by rw [←hl];simp
 have hP:=yq (n:=n) hi
 rw [aX,hd,←aX] at hP
 obtain ⟨P,hPe⟩:∃P,n / 10 ^ ((aD n).size - i)=P:=⟨_,rfl⟩
 have hval:=h.val
 have hrest:=h.rest
 rw [hPe] at hP hval hrest
 have aB:=wb (p:=P) (m:=m) (d:=d) hm
 refine ⟨P % m * 10+d,?_,uK hm hd10,?_,?_,?_,?_,?_⟩
 ·have a1:=Nat.mod_le P m
  have a2:=Nat.div_le_self n (10 ^ ((aD n).size - (i+1)))
  omega
 ·rw [happ,List.all_append,h.digits]
  simp only [List.all_cons,List.all_nil,Bool.and_true,Bool.true_and]
  exact List.all_eq_true.1 (bK n) _ (List.getElem_mem hdl)
 ·rw [Lib.size_eq,happ];simp
 ·have a1:=h.small
  rw [Lib.size_eq,happ,List.length_append,←Lib.size_eq];simp;exact a1
 ·unfold bj
  rw [happ,iB,hdig]
  have:aG R.data.toList=P % m:=hrest
  rw [this];omega
 ·have hlen:=h.len
  refine ⟨fun x hx => ?_,by simp [hlen];omega,?_,?_,?_,?_,fun _=>by rw [cz]⟩
  ·rcases List.mem_append.1 hx with hx | hx
   ·exact h.ten x hx
   ·rw [List.mem_singleton] at hx;rw [hx];exact uK hm hd10
  ·rw [List.reverse_append,List.reverse_cons,List.reverse_nil,List.nil_append,List.cons_append,List.nil_append]
   simp only [fO]
   rw [hval,hP,aB.1];omega
  ·rw [dx];exact bK _
  ·refine j8 ?_
   have a0:=Nat.mod_le (P % m * 10+d) m
   have a1:=Nat.mod_le P m
   have a2:=Nat.div_le_self n (10 ^ ((aD n).size - (i+1)))
   omega
  ·rw [cz,hP,aB.2]
end Nt
namespace Av
attribute [local irreducible] AW aL aH
open Nt Rg
theorem pU (a b:Nat):decide (eI a b<0)=decide (a<b):=by
 refine decide_eq_decide.2 ?_
 unfold eI
 split
 ·rename_i h;exact ⟨fun _=>h,fun _=>by decide⟩
 ·rename_i h
  split<;>exact ⟨fun h2=>absurd h2 (by decide),fun h2=>absurd h2 h⟩
theorem AO (a b:Nat):decide (0≤eI a b) = !decide (a<b):=by
 rw [←pU,←decide_not]
 exact decide_eq_decide.2 (by omega)
theorem Bs (q:List Nat) (d:Nat):bI (d8 q)++[[.d (.v (.int .u8 ((48+d:Nat):Int)))]]=bI (d8 (q++[d])):=by
 unfold bI d8
 simp
theorem Eg (l:List Int):bI l=dI (l.map fun n=>[PD.v (.int .u8 n)]):=by
 unfold bI dI
 simp [dL]
theorem C0 (n:Nat) (l:List Int):(aN.row 5 1 0 (bI l)).bel n:=by
 rw [Eg];exact fM _
section
variable (base:World)
set_option maxRecDepth 100000 in
set_option maxHeartbeats 8000000 in
theorem AL {n m:Nat} (h0:m≠0) (hnm:m≤n) (h18:18<(aD n).size) (hs:(aD n).size≤1000):aI Tryz.prog base 134 [tA (aD n),tA (aD m)] (.tup [tA (aD (n / m)),tA (aD (n % m))]):=by
 have hms:=j8 hnm
 have hm0:0<(aD m).size:=by rw [aX];exact dec_pos m
 have hinit:=we hms hm0 fun k hk=>by
  have h1:(aD (n / 10 ^ ((aD n).size - k))).size≤k∨n / 10 ^ ((aD n).size - k)=0:=by
   by_cases hz:n / 10 ^ ((aD n).size - k)=0
   ·exact .inr hz
   ·refine .inl ?_
    have hlt:n<10 ^ (aD n).size:=by
     have:=cA (bK n)
     rw [cK,←aX] at this
     exact this
    have hk0:k≠0:=fun e=>by
     subst e
     rw [Nat.sub_zero,Nat.div_eq_of_lt hlt] at hz
     exact hz rfl
    rw [aX]
    have h2:n / 10 ^ ((aD n).size - k)<10 ^ (k - 1+1):=by
     rw [Nat.div_lt_iff_lt_mul (Nat.pow_pos (by decide)),←Nat.pow_add]
     rw [show k - 1+1+((aD n).size - k)=(aD n).size by omega]
     exact hlt
    have:=gO (k - 1) _ h2
    omega
  rcases h1 with h1 | h1
  ·have:=fi (a:=n / 10 ^ ((aD n).size - k)) (b:=m) (by rw [←aX,←aX];omega)
   exact this
  ·rw [h1];omega
 have co:=jK base n m
 have f1:decide (eI n m<0)=false:=by rw [pU];exact decide_eq_false (by omega)
 have f0:decide (((aD n).size:Int)≤18)=false:=decide_eq_false (by omega)
 have hnext:=fun i q R (h:s5 n m i q R) h1 hi=>wd h (by omega) h1 hi
 have cm:=fun (Y:Nat) (hX:Y≤n) (hj:m≤Y)=>yi base Y m hj (by have:=j8 (a:=Y) (b:=n) hX;omega)
 have ck:=fun Y=>jK base Y m
 have cq:=fun (q:List Nat) (h:∀x∈q,x<10) (h1:0<q.length) (h2:q.length≤1000)=>pS base (qr q.reverse) (lP fun x hx=>h x (List.mem_reverse.1 hx)) (by rw [Lib.size_eq,eC];simpa using h1) (by rw [Lib.size_eq,eC];simp;omega)
 generalize hta:aD n=ta at *
 generalize htb:aD m=tb at *
 refine aC af Tryz.call134 Tryz.func134 rfl fun H hB hb hF => ?_
 rw [Tryz.results134,Tryz.ntmps134]
 simp only [aA,List.length_cons,List.length_nil,List.replicate,List.cons_append,List.nil_append,Nat.reduceAdd,Nat.reduceSub]
 clear hF hb
 simp only [tA,iA] at co cm ck cq ⊢
 have c1:(0:Int)≤(ta.size:Int):=by omega
 have c2:(ta.size:Int)≤9223372036854775807:=by omega
 have c3:(1:Int) * (ta.size:Int)≤281474976710656:=by omega
 have w0:IntKind.i64.wrap ((tb.size:Int) - 1)=((tb.size - 1:Nat):Int):=by rw [IntKind.wrap_i64];omega
 have c4:(0:Int)≤((tb.size - 1:Nat):Int):=by omega
 have c5:tb.size - 1≤ta.size:=by omega
 repeat' (first | (refine aa ?_;first | (refine zg rfl ?_;first | refine ah ?_ | refine zo ?_ | (refine zs ?_ ?_<;>intro hb<;>((try simp only [bn] at hb);first | subst hb | simp only [hb]))) | (apply ai;rfl;simp only [aj,avs,tts,seval,f0,f1,c1,c2,c3,w0,c4,c5,Int.le_refl,Nat.zero_le]<;>exact rr) | (refine za rfl ?_;refine zp (co) ?_)) | refine ae ?_ | (refine ak ?_;first | (refine yg rfl ?_;first | refine ar ?_ | refine yo ?_ | (refine ys ?_ ?_<;>intro hb<;>((try simp only [bn] at hb);first | subst hb | simp only [hb]))) | (apply au;rfl;simp only [aB,avs,tts,seval,f0,f1,c1,c2,c3,w0,c4,c5,Int.le_refl,Nat.zero_le]<;>exact rr;first | trivial | omega) | (refine ya rfl ?_;refine yp (co) ?_)) | refine al ?_ | refine ag ?_ | refine zr af ?_ | refine zQ 0 af mixed ?_ | refine zQ 1 af mixed ?_ | refine zQ 2 af mixed ?_ | refine zQ 3 af mixed ?_ | refine zf rfl rfl ?_ | refine zt rfl rfl ?_ | (refine am rfl rfl ?_ ?_<;>intro hb<;>((try simp only [bn] at hb);first | subst hb | simp only [hb])) | refine ap ?_ | refine aq ?_ | refine an ?_)
 refine aZ (H0:=H++[.row 5 1 0 []]) (fun r env K=>∃i q R,r=ta.size - i∧tb.size≤i+1∧i≤ta.size∧s5 n m i q R∧K=H++[.row 5 1 0 (bI (d8 q))]∧env=(.d (.v (.string ta)) :: .d (.v (.string tb)) :: .undef :: .undef :: .undef :: .undef :: .ms H.length 0 q.length :: .d (.v (.string R)) :: .d (.v (.int .i64 (i:Int)))::List.replicate 63 .undef)) ?_ ⟨tb.size - 1,[],_,rfl,by omega,by omega,hinit,rfl,rfl⟩ ?_
 ·exact ⟨by (try simp only [rp]);(repeat (first | exact trivial | refine ⟨.inr rfl,?_⟩ | refine ⟨.inl rfl,?_⟩)),.inl rfl⟩
 rintro r env K ⟨i,q,R,rfl,h1i,hi,hO,rfl,rfl⟩ hN
 simp only [rp]
 clear f1 f0 co c1 c2 c3 c4 c5 w0 hinit
 have hql:=hO.len
 rw [htb] at hql
 have e1:(bI (d8 q)).length=q.length:=by rw [uj];simp [d8]
 obtain ⟨c0,g0⟩:∃c,decide ((i:Int)<(ta.size:Int))=c:=⟨_,rfl⟩
 cases c0 with
 | false =>
  have hie:i=ta.size:=by
                 have:¬i<ta.size:=by simpa using g0
                 omega
  have e2:=ld (d8 q)
  have e3:strOf (d8 q)=qr q.reverse:=by have:=rh q.reverse;rw [List.reverse_reverse] at this;exact this
  have e4:q.length≤9223372036854775807:=by omega
  have ct:=cq q hO.ten (by omega) (by omega)
  rw [sC fun x hx=>hO.ten x (List.mem_reverse.1 hx),hO.val,hie,hta,Nat.sub_self,Nat.pow_zero,Nat.div_one] at ct
  have hR:=hO.can (by rw [htb];omega)
  rw [hO.rest,hie,hta,Nat.sub_self,Nat.pow_zero,Nat.div_one] at hR
  subst hR
  repeat' (first | (refine aa ?_;first | (refine zg rfl ?_;first | refine ah ?_ | refine zo ?_ | (refine zs ?_ ?_<;>intro hb<;>((try simp only [bn] at hb);first | subst hb | simp only [hb]))) | (apply ai;rfl;simp only [aj,avs,tts,seval,g0,e1,e2,e3,e4]<;>exact rr) | (refine za rfl ?_;refine zp (ct) ?_)) | refine ae ?_ | (refine ak ?_;first | (refine yg rfl ?_;first | refine ar ?_ | refine yo ?_ | (refine ys ?_ ?_<;>intro hb<;>((try simp only [bn] at hb);first | subst hb | simp only [hb]))) | (apply au;rfl;simp only [aB,avs,tts,seval,g0,e1,e2,e3,e4]<;>exact rr;first | trivial | omega) | (refine ya rfl ?_;refine yp (ct) ?_)) | refine al ?_ | refine ag ?_ | refine zr af ?_ | refine zQ 0 af mixed ?_ | refine zQ 1 af mixed ?_ | refine zQ 2 af mixed ?_ | refine zQ 3 af mixed ?_ | refine zf rfl rfl ?_ | refine zt rfl rfl ?_ | (refine am rfl rfl ?_ ?_<;>intro hb<;>((try simp only [bn] at hb);first | subst hb | simp only [hb])) | refine ap ?_ | refine aq ?_ | refine an ?_)
  exact aw ⟨_,rfl,_,rfl,rfl⟩
 | true =>
  have hlt:i<ta.size:=by simpa using g0
  have hix:(0:Int)≤(i:Int):=by omega
  have hix1:(0:Int)≤((i+1:Nat):Int):=by omega
  have hle1:i≤i+1:=by omega
  have hle2:i+1≤ta.size:=hlt
  have w1:IntKind.i64.wrap ((i:Int)+1)=((i+1:Nat):Int):=aP hlt (by omega)
  obtain ⟨X,hXn,hX10,hEd,hEp,hEs,hEv,hO2⟩:=hnext i q R hO (by omega) hlt
  have hsm:R.size+(ta.extract i (i+1)).size≤9223372036854775807:=by
   rw [ByteArray.size_append] at hEs;omega
  have ct:=pS base (R++ta.extract i (i+1)) hEd hEp (by omega)
  rw [hEv] at ct
  simp only [tA] at ct
  obtain ⟨EE,hEE⟩:∃e,R++ta.extract i (i+1)=e:=⟨_,rfl⟩
  rw [hEE] at ct
  repeat' (first | (refine aa ?_;first | (refine zg rfl ?_;first | refine ah ?_ | refine zo ?_ | (refine zs ?_ ?_<;>intro hb<;>((try simp only [bn] at hb);first | subst hb | simp only [hb]))) | (apply ai;rfl;simp only [aj,avs,tts,seval,g0,w1,hix,hix1,hle1,hle2,hsm,hEE]<;>exact rr) | (refine za rfl ?_;refine zp (ct) ?_)) | refine ae ?_ | (refine ak ?_;first | (refine yg rfl ?_;first | refine ar ?_ | refine yo ?_ | (refine ys ?_ ?_<;>intro hb<;>((try simp only [bn] at hb);first | subst hb | simp only [hb]))) | (apply au;rfl;simp only [aB,avs,tts,seval,g0,w1,hix,hix1,hle1,hle2,hsm,hEE]<;>exact rr;first | trivial | omega) | (refine ya rfl ?_;refine yp (ct) ?_)) | refine al ?_ | refine ag ?_ | refine zr af ?_ | refine zQ 0 af mixed ?_ | refine zQ 1 af mixed ?_ | refine zQ 2 af mixed ?_ | refine zQ 3 af mixed ?_ | refine zf rfl rfl ?_ | refine zt rfl rfl ?_ | (refine am rfl rfl ?_ ?_<;>intro hb<;>((try simp only [bn] at hb);first | subst hb | simp only [hb])) | refine ap ?_ | refine aq ?_ | refine an ?_)
  refine aZ (H0:=H++[.row 5 1 0 (bI (d8 q))]) (fun r env K=>∃j,r=X / m - j∧j≤X / m∧K=H++[.row 5 1 0 (bI (d8 q))]∧env=(.d (.v (.string ta)) :: .d (.v (.string tb)) :: .undef :: .undef :: .undef :: .undef :: .ms H.length 0 q.length :: .d (.v (.string (aD (X - m * j)))) :: .d (.v (.int .i64 (i:Int))) :: .d (.v (.int .u8 ((48+j:Nat):Int)))::List.replicate 62 .undef)) ?_ ⟨0,rfl,Nat.zero_le _,rfl,rfl⟩ ?_
  ·exact ⟨by (try simp only [rp]);(repeat (first | exact trivial | refine ⟨.inr rfl,?_⟩ | refine ⟨.inl rfl,?_⟩)),.inl rfl⟩
  rintro r env K ⟨j,rfl,hj,rfl,rfl⟩ hN2
  simp only [rp]
  have ck:=ck (X - m * j)
  have hmj:m * j≤X:=Nat.le_trans (Nat.mul_le_mul_left _ hj) (Nat.mul_div_le _ _)
  have gq:=AO (X - m * j) m
  obtain ⟨c1,g1⟩:∃c,decide (X - m * j<m)=c:=⟨_,rfl⟩
  rw [g1] at gq
  generalize eI (X - m * j) m=cc at *
  cases c1 with
  | false =>
   have hge:m≤X - m * j:=Nat.le_of_not_lt (of_decide_eq_false g1)
   have cm:=cm (X - m * j) (by omega) hge
   rw [Nat.sub_sub,←Nat.mul_succ] at cm
   have hj1:j+1≤X / m:=(Nat.le_div_iff_mul_le (by omega)).2 (by rw [Nat.mul_comm,Nat.mul_succ];omega)
   have w2:IntKind.u8.wrap (((48+j:Nat):Int)+1)=((48+(j+1):Nat):Int):=by rw [IntKind.wrap_u8];omega
   repeat' (first | (refine aa ?_;first | (refine zg rfl ?_;first | refine ah ?_ | refine zo ?_ | (refine zs ?_ ?_<;>intro hb<;>((try simp only [bn] at hb);first | subst hb | simp only [hb]))) | (apply ai;rfl;simp only [aj,avs,tts,seval,gq,ge_iff_le,Bool.not_false,w2]<;>exact rr) | (refine za rfl ?_;first | refine zp (ck) ?_ | refine zp (cm) ?_)) | refine ae ?_ | (refine ak ?_;first | (refine yg rfl ?_;first | refine ar ?_ | refine yo ?_ | (refine ys ?_ ?_<;>intro hb<;>((try simp only [bn] at hb);first | subst hb | simp only [hb]))) | (apply au;rfl;simp only [aB,avs,tts,seval,gq,ge_iff_le,Bool.not_false,w2]<;>exact rr;first | trivial | omega) | (refine ya rfl ?_;first | refine yp (ck) ?_ | refine yp (cm) ?_)) | refine al ?_ | refine ag ?_ | refine zr af ?_ | refine zQ 0 af mixed ?_ | refine zQ 1 af mixed ?_ | refine zQ 2 af mixed ?_ | refine zQ 3 af mixed ?_ | refine zf rfl rfl ?_ | refine zt rfl rfl ?_ | (refine am rfl rfl ?_ ?_<;>intro hb<;>((try simp only [bn] at hb);first | subst hb | simp only [hb])) | refine ap ?_ | refine aq ?_ | refine an ?_)
   exact ⟨X / m - (j+1),_,_,by omega,⟨by (try simp only [rp]);(repeat (first | exact trivial | refine ⟨.inr rfl,?_⟩ | refine ⟨.inl rfl,?_⟩)),.inl rfl⟩,j+1,rfl,hj1,rfl,rfl⟩
  | true =>
   have hlt3:X - m * j<m:=of_decide_eq_true g1
   have hje:j=X / m:=by
    rcases Nat.lt_or_ge j (X / m) with h | h
    ·have h2:m * (j+1)≤m * (X / m):=Nat.mul_le_mul_left _ h
     have h3:=Nat.mul_div_le X m
     rw [Nat.mul_succ] at h2
     omega
    ·omega
   have hre:X - m * j=X % m:=by
    have:=Nat.div_add_mod X m
    rw [←hje] at this
    omega
   rw [hre]
   rw [←hje] at hO2
   have hsn:=Bs q j
   have d1:q.length+1≤9223372036854775807:=by omega
   have d2:(q.length+1) * 1≤140737488355328:=by omega
   rw [hre] at ck
   repeat' (first | (refine aa ?_;first | (refine zg rfl ?_;first | refine ah ?_ | refine zo ?_ | (refine zs ?_ ?_<;>intro hb<;>((try simp only [bn] at hb);first | subst hb | simp only [hb]))) | (apply ai;rfl;simp only [aj,avs,tts,seval,gq,ge_iff_le,Bool.not_true,w1,e1,d1,d2]<;>exact rr) | (refine za rfl ?_;refine zp (ck) ?_)) | refine ae ?_ | (refine ak ?_;first | (refine yg rfl ?_;first | refine ar ?_ | refine yo ?_ | (refine ys ?_ ?_<;>intro hb<;>((try simp only [bn] at hb);first | subst hb | simp only [hb]))) | (apply au;rfl;simp only [aB,avs,tts,seval,gq,ge_iff_le,Bool.not_true,w1,e1,d1,d2]<;>exact rr;first | trivial | omega) | (refine ya rfl ?_;refine yp (ck) ?_)) | refine al ?_ | refine ag ?_ | refine zr af ?_ | refine zQ 0 af mixed ?_ | refine zQ 1 af mixed ?_ | refine zQ 2 af mixed ?_ | refine zQ 3 af mixed ?_ | refine zf rfl rfl ?_ | refine zt rfl rfl ?_ | (refine am rfl rfl ?_ ?_<;>intro hb<;>((try simp only [bn] at hb);first | subst hb | simp only [hb])) | refine ap ?_ | refine aq ?_ | refine an ?_)
   refine ⟨ta.size - (i+1),_,H++[.row 5 1 0 (bI (d8 (q++[j])))],by omega,⟨?_,.inr ⟨by simp,?_,.more hB (.cons (C0 _ _) .nil),?_⟩⟩,i+1,q++[j],aD (X % m),rfl,by omega,hlt,hO2,rfl,rfl⟩
   ·rw [List.length_append];(try simp only [rp]);(repeat (first | exact trivial | refine ⟨.inr rfl,?_⟩ | refine ⟨.inl rfl,?_⟩))
   ·simp [aS,AV.bel,List.replicate]
   ·rw [←hsn];exact ⟨_,by simp only [List.append_assoc,List.cons_append,List.nil_append];rfl⟩
set_option maxRecDepth 100000 in
theorem AK {n m:Nat} (h0:m≠0) (hn:(aD n).size≤1000) (hm:(aD m).size≤1000):aI Tryz.prog base 134 [tA (aD n),tA (aD m)] (.tup [tA (aD (n / m)),tA (aD (n % m))]):=by
 rcases Nat.lt_or_ge n m with hlt | hge
 ·have co:=jK base n m
  have f1:decide (eI n m<0)=true:=by rw [pU];exact decide_eq_true hlt
  rw [Nat.div_eq_of_lt hlt,Nat.mod_eq_of_lt hlt,kZ]
  generalize aD n=t at *
  generalize aD m=u at *
  refine aC af Tryz.call134 Tryz.func134 rfl fun H hB hb hF => ?_
  rw [Tryz.results134,Tryz.ntmps134]
  simp only [aA,List.length_cons,List.length_nil,List.replicate,List.cons_append,List.nil_append,Nat.reduceAdd,Nat.reduceSub]
  clear hF hb
  simp only [tA,iA] at co ⊢
  repeat' (first | (refine aa ?_;first | (refine zg rfl ?_;first | refine ah ?_ | refine zo ?_ | (refine zs ?_ ?_<;>intro hb<;>((try simp only [bn] at hb);first | subst hb | simp only [hb]))) | (apply ai;rfl;simp only [aj,avs,tts,seval,f1]<;>exact rr) | (refine za rfl ?_;refine zp (co) ?_)) | refine ae ?_ | (refine ak ?_;first | (refine yg rfl ?_;first | refine ar ?_ | refine yo ?_ | (refine ys ?_ ?_<;>intro hb<;>((try simp only [bn] at hb);first | subst hb | simp only [hb]))) | (apply au;rfl;simp only [aB,avs,tts,seval,f1]<;>exact rr;first | trivial | omega) | (refine ya rfl ?_;refine yp (co) ?_)) | refine al ?_ | refine ag ?_ | refine zr af ?_ | refine zQ 0 af mixed ?_ | refine zQ 1 af mixed ?_ | refine zQ 2 af mixed ?_ | refine zQ 3 af mixed ?_ | refine zf rfl rfl ?_ | refine zt rfl rfl ?_ | (refine am rfl rfl ?_ ?_<;>intro hb<;>((try simp only [bn] at hb);first | subst hb | simp only [hb])) | refine ap ?_ | refine aq ?_ | refine an ?_)
  exact aw ⟨_,rfl,[],by simp,rfl⟩
 ·by_cases h:18<(aD n).size
  ·exact AL base h0 hge h hn
  ·have h18:n<10 ^ 18:=by
    have:=cA (bK n)
    rw [cK,←aX] at this
    exact Nat.lt_of_lt_of_le this (Nat.pow_le_pow_right (by decide) (by omega))
   exact AM base h18 (by omega) h0
set_option maxRecDepth 100000 in
theorem v8 {n m:Nat} (hn:(aD n).size≤300) (hm:(aD m).size≤300):aI Tryz.prog base 133 [tA (aD n),tA (aD m)] (tA (aD (Nat.gcd n m))):=by
 refine aC af Tryz.call133 Tryz.func133 rfl fun H hB hb hF => ?_
 rw [Tryz.results133,Tryz.ntmps133]
 simp only [aA,List.length_cons,List.length_nil,List.replicate,List.cons_append,List.nil_append,Nat.reduceAdd,Nat.reduceSub]
 clear hF hb
 simp only [tA]
 repeat' (first | (refine aa ?_;first | (refine zg rfl ?_;first | refine ah ?_ | refine zo ?_ | (refine zs ?_ ?_<;>intro hb<;>((try simp only [bn] at hb);first | subst hb | simp only [hb]))) | (apply ai;rfl;simp only [aj,avs,tts,seval]<;>exact rr)) | refine ae ?_ | (refine ak ?_;first | (refine yg rfl ?_;first | refine ar ?_ | refine yo ?_ | (refine ys ?_ ?_<;>intro hb<;>((try simp only [bn] at hb);first | subst hb | simp only [hb]))) | (apply au;rfl;simp only [aB,avs,tts,seval]<;>exact rr;first | trivial | omega)) | refine al ?_ | refine ag ?_ | refine zr af ?_ | refine zQ 0 af mixed ?_ | refine zQ 1 af mixed ?_ | refine zQ 2 af mixed ?_ | refine zQ 3 af mixed ?_ | refine zf rfl rfl ?_ | refine zt rfl rfl ?_ | (refine am rfl rfl ?_ ?_<;>intro hb<;>((try simp only [bn] at hb);first | subst hb | simp only [hb])) | refine ap ?_ | refine aq ?_ | refine an ?_)
 refine aZ (H0:=H) (fun r env K=>∃a b:Nat,r=b∧(aD a).size≤300∧(aD b).size≤300∧Nat.gcd a b=Nat.gcd n m∧K=H∧env=(.d (.v (.string (aD a))) :: .d (.v (.string (aD b)))::List.replicate 16 .undef)) ?_ ⟨n,m,rfl,hn,hm,rfl,rfl,rfl⟩ ?_
 ·exact ⟨by simp [aJ,List.replicate],.inl rfl⟩
 rintro b env K ⟨a,_,rfl,ha,hb,hg,rfl,rfl⟩ hN
 simp only [rp]
 have hz:=kY b
 obtain ⟨c0,g0⟩:∃c,decide (b=0)=c:=⟨_,rfl⟩
 rw [g0] at hz
 cases c0 with
 | true =>
  have hb0:b=0:=of_decide_eq_true g0
  have e:Nat.gcd n m=a:=by rw [←hg,hb0,Nat.gcd_zero_right]
  rw [e]
  repeat' (first | (refine aa ?_;first | (refine zg rfl ?_;first | refine ah ?_ | refine zo ?_ | (refine zs ?_ ?_<;>intro hb<;>((try simp only [bn] at hb);first | subst hb | simp only [hb]))) | (apply ai;rfl;simp only [aj,avs,tts,seval,hz]<;>exact rr)) | refine ae ?_ | (refine ak ?_;first | (refine yg rfl ?_;first | refine ar ?_ | refine yo ?_ | (refine ys ?_ ?_<;>intro hb<;>((try simp only [bn] at hb);first | subst hb | simp only [hb]))) | (apply au;rfl;simp only [aB,avs,tts,seval,hz]<;>exact rr;first | trivial | omega)) | refine al ?_ | refine ag ?_ | refine zr af ?_ | refine zQ 0 af mixed ?_ | refine zQ 1 af mixed ?_ | refine zQ 2 af mixed ?_ | refine zQ 3 af mixed ?_ | refine zf rfl rfl ?_ | refine zt rfl rfl ?_ | (refine am rfl rfl ?_ ?_<;>intro hb<;>((try simp only [bn] at hb);first | subst hb | simp only [hb])) | refine ap ?_ | refine aq ?_ | refine an ?_)
  exact aw ⟨_,rfl,[],by simp,rfl⟩
 | false =>
  have hb0:b≠0:=of_decide_eq_false g0
  have co:=AK base hb0 (n:=a) (m:=b) (by omega) (by omega)
  have hlt:a % b<b:=Nat.mod_lt _ (by omega)
  have hsz:=j8 (Nat.le_of_lt hlt)
  have hg2:Nat.gcd b (a % b)=Nat.gcd n m:=by rw [←hg,Nat.gcd_comm a b,Nat.gcd_rec b a,Nat.gcd_comm]
  simp only [tA] at co
  repeat' (first | (refine aa ?_;first | (refine zg rfl ?_;first | refine ah ?_ | refine zo ?_ | (refine zs ?_ ?_<;>intro hb<;>((try simp only [bn] at hb);first | subst hb | simp only [hb]))) | (apply ai;rfl;simp only [aj,avs,tts,seval,hz]<;>exact rr) | (refine za rfl ?_;refine zp (co) ?_)) | refine ae ?_ | (refine ak ?_;first | (refine yg rfl ?_;first | refine ar ?_ | refine yo ?_ | (refine ys ?_ ?_<;>intro hb<;>((try simp only [bn] at hb);first | subst hb | simp only [hb]))) | (apply au;rfl;simp only [aB,avs,tts,seval,hz]<;>exact rr;first | trivial | omega) | (refine ya rfl ?_;refine yp (co) ?_)) | refine al ?_ | refine ag ?_ | refine zr af ?_ | refine zQ 0 af mixed ?_ | refine zQ 1 af mixed ?_ | refine zQ 2 af mixed ?_ | refine zQ 3 af mixed ?_ | refine zf rfl rfl ?_ | refine zt rfl rfl ?_ | (refine am rfl rfl ?_ ?_<;>intro hb<;>((try simp only [bn] at hb);first | subst hb | simp only [hb])) | refine ap ?_ | refine aq ?_ | refine an ?_)
  exact ⟨a % b,_,_,hlt,⟨by simp [aJ,List.replicate],.inl rfl⟩,b,a % b,rfl,hb,by omega,hg2,rfl,rfl⟩
set_option maxRecDepth 100000 in
theorem Cx {n m:Nat} (hn:(aD n).size≤300) (hm:(aD m).size≤300):aI Tryz.prog base 103 [tA (aD n),tA (aD m)] (.tup [tA (aD (Nat.gcd n m)),iA 0]):=by
 have c1:=uJ base (aD n) (by omega)
 have c2:=uJ base (aD m) (by omega)
 rw [iu (by rw [←aX];exact hn)] at c1
 rw [iu (by rw [←aX];exact hm)] at c2
 have c3:=v8 base hn hm
 generalize aD n=t at *
 generalize aD m=u at *
 generalize aD (Nat.gcd n m)=w at *
 refine aC af Tryz.call103 Tryz.func103 rfl fun H hB hb hF => ?_
 rw [Tryz.results103,Tryz.ntmps103]
 simp only [aA,List.length_cons,List.length_nil,List.replicate,List.cons_append,List.nil_append,Nat.reduceAdd,Nat.reduceSub]
 clear hF hb
 simp only [tA,iA,boA] at c1 c2 c3 ⊢
 repeat' (first | (refine aa ?_;first | (refine zg rfl ?_;first | refine ah ?_ | refine zo ?_ | (refine zs ?_ ?_<;>intro hb<;>((try simp only [bn] at hb);first | subst hb | simp only [hb]))) | (apply ai;rfl;simp only [aj,avs,tts,seval]<;>exact rr) | (refine za rfl ?_;first | refine zp (c1) ?_ | refine zp (c2) ?_ | refine zp (c3) ?_)) | refine ae ?_ | (refine ak ?_;first | (refine yg rfl ?_;first | refine ar ?_ | refine yo ?_ | (refine ys ?_ ?_<;>intro hb<;>((try simp only [bn] at hb);first | subst hb | simp only [hb]))) | (apply au;rfl;simp only [aB,avs,tts,seval]<;>exact rr;first | trivial | omega) | (refine ya rfl ?_;first | refine yp (c1) ?_ | refine yp (c2) ?_ | refine yp (c3) ?_)) | refine al ?_ | refine ag ?_ | refine zr af ?_ | refine zQ 0 af mixed ?_ | refine zQ 1 af mixed ?_ | refine zQ 2 af mixed ?_ | refine zQ 3 af mixed ?_ | refine zf rfl rfl ?_ | refine zt rfl rfl ?_ | (refine am rfl rfl ?_ ?_<;>intro hb<;>((try simp only [bn] at hb);first | subst hb | simp only [hb])) | refine ap ?_ | refine aq ?_ | refine an ?_)
 exact aw ⟨_,rfl,[],by simp,rfl⟩
end
end Av
end Go.Proofs.YtdekcppfpgeneaaGreatDoor
namespace Go.Proofs.YtdekcppfpgeneaaGreatDoor
open Go Go.RowKit
namespace Av
theorem E5 {P:Program} {tt:aY} {base:World} {ops:Array Oper} {rest:List Oper} {env env':List AV} {H:av} {K:List AV→av→Prop} {dst:Option Tmp} {f:FuncId} {args args':List AV} {r:AV} (h:aI P base f args' r) (hv:jB H args=some args') (hf:fg r=true) (he:ba env dst r=env') (k:aL P tt base ops rest env' H K):AtC P tt base ops dst rest env H K f args :=
 Bu (C:=fun r H=>aL P tt base ops rest (ba env dst r) H K) h hv hf (he.symm ▸ k)
theorem sT (l:Nat) {P:Program} {tt:aY} {base:World} {ops:Array Oper} {rest:List Oper} {env env':List AV} {H H':av} {K:List AV→av→Prop} {dst:Option Tmp} {f:FuncId} {args args':List AV} {r:AV} (ha:bU H[l]? l args=args') (hH:H.set l .dead=H') (h:aI P base f args' r) (he:ba env dst r=env') (k:aL P tt base ops rest env' H' K):AtC P tt base ops dst rest env H K f args :=
 ⟨_,pu l ha hH (h H'),fun r0 H0 ⟨e1,e2⟩ _=>by subst e1 e2 he;exact k⟩
end Av
end Go.Proofs.YtdekcppfpgeneaaGreatDoor
namespace Go.Proofs.YtdekcppfpgeneaaGreatDoor
open Go Go.RowKit
namespace Av
attribute [local irreducible] AW aL aH
open Nt Rg
section
variable {base:World} (hT:dt base)
include hT
end
end Av
end Go.Proofs.YtdekcppfpgeneaaGreatDoor
namespace Go.Proofs.YtdekcppfpgeneaaGreatDoor
open Go Go.RowKit
namespace Av
def o9:aN→Bool
 | .mp _ _ _ _=>true
 | _=>false
def Eo {α:Type} (P:Program) (gf:Nat) (lb:Array Value) (enc:α→Array Value) (all:List α) (s:St):Prop :=
 ∀(l:Nat) (J:List α→World→Prop) (Jx:World→Prop) (W:World),s.w.heap.size≤W.heap.size→(∀k W1,J k W1→∀b,s.imm b→W1.heap[b]?=s.w.heap[b]?) →
  (∀pre W1 W2 row,J pre W1→W1.grownBy W2 row→(∀r,row=some r→s.w.heap.size≤r∧(∃o:Obj,W1.heap[r]?=some o∧o.isWalk=true)∧∃o:Obj,W2.heap[r]?=some o∧o.isWalk=true)→J pre W2) →
  (∀pre x W1,x∈all→¬x∈pre→J pre W1→YieldAt Fence.wide 7 P l (enc x) W1 fun e W'=>KeepsWalks W1 W'∧((e = .returned (.bool true)∧J (pre++[x]) W')∨(e = .returned (.bool false)∧Jx W'))) →
  J [] W→CallsIn Fence.wide 8 P gf (#[.func (.yield l) #[] #[]]++lb) W fun e W'=>(∃v,e = .returned v)∧((∃pre,pre.Perm all∧J pre W')∨Jx W')
def Ew {α:Type} (J:List α→av→Prop) (Jx:Code→av→Prop) (pre:List α):Exit→List AV→av→Prop
 | .normal,_,H=>J pre H
 | .ret,_,H=>Jx .ret H
 | .exit id,_,H=>Jx (.exit id) H
 | .goto t,_,H=>Jx (.goto t) H
 | _,_,_=>False
theorem kH {base:World} {s:St} (hs:Sim base s) {D:Nat} {x:Obj} (hx:s.w.heap[D]?=some x) (h1:∀arr ty fr,x ≠ .cells arr ty fr) (h2:∀(l:Nat) (o:aN),s.H[l]?=some o→o9 o=false):¬s.live D:=by
 rintro ⟨l,o,k1,k2,k3⟩
 have ho:=hs.obj l o k1
 cases o with
 | free=>cases k2
 | dead=>cases k2
 | box ty cells =>
  obtain ⟨b,arr,q1,q2,q3,q4⟩:=ho
  rw [k3] at q1;cases q1
  rw [hx] at q3;exact h1 _ _ _ (Option.some.inj q3)
 | row ty k ver items =>
  rcases ho.2.2 with ⟨q1,_⟩ | ⟨b,arr,f,r,q1,q2,q3,q4,q5⟩
  ·rw [k3] at q1;cases q1
  ·rw [k3] at q1;cases q1
   rw [hx] at q3;exact h1 _ _ _ (Option.some.inj q3)
 | mp kt et ks es=>cases h2 l _ k1
theorem jA {o:Obj} (h:o.isWalk=true):∀arr ty fr,o ≠ .cells arr ty fr:=fun arr ty fr e=>by subst e;cases h
set_option maxHeartbeats 1000000 in
theorem xi {α:Type} {P:Program} {tt:aY} {base:World} {N:Nat} {Q:Exit→List AV→av→Prop} {env:List AV} {H:av} {g:Operand} {ps:Array Tmp} {assign body:Code} {gf:Nat} {caps:List AV} (all:List α) (elem:α→List AV)
  (hg:bV env g = .fn (.func gf) [] caps) (hgo:d9 g=true) (eg:∀args w,(callFunc gf args).run P w = .ok (.enter gf args) w)
  (hseq:∀μ w (lb:Array Value),Sim base ⟨μ,H,w⟩→ax ⟨μ,H,w⟩ caps lb.toList→∃enc:α→Array Value,Eo P gf lb enc all ⟨μ,H,w⟩∧∀x,x∈all→(enc x).size=ps.size∧ax ⟨μ,H,w⟩ (elem x) (enc x).toList)
  (J:List α→av→Prop) (Jx:Code→av→Prop) (hM:∀pre H',J pre H'→∀(l:Nat) (o:aN),H'[l]?=some o→o9 o=false) (h0:J [] H)
  (hround:∀l pre x H',x∈all→¬x∈pre→J pre H'→H.length≤H'.length→AW ⟨P,tt,base,H.length,some l⟩ assign (fun e env1 H1=>e = .normal∧AW ⟨P,tt,base,H.length,some l⟩ body (Ew J Jx (pre++[x])) env1 H1) (gS env ps.toList (elem x)) H')
  (hdone:∀pre H',pre.Perm all→J pre H'→H.length≤H'.length→Q .normal env H')
  (hstop:∀c H',Jx c H'→H.length≤H'.length→AW ⟨P,tt,base,N,none⟩ c Q env H'):AW ⟨P,tt,base,N,none⟩ (.rangeFunc g ps assign body) Q env H:=by
 intro s0 μ a w hN hs he hev
 have hge:=he.eval hgo
 rw [hg] at hge
 simp only [Rep] at hge
 obtain ⟨vf,lb,hgv,hf1,hcaps⟩:=hge
 simp only [ax] at hf1
 obtain rfl:vf = #[]:=Array.toList_eq_nil_iff.1 hf1
 obtain ⟨enc,hsw,helem⟩:=hseq μ w lb hs hcaps
 refine wpIn_rangeFunc (F:=FR none) ?_
 intro fn hfn
 obtain ⟨rec,hrec⟩:∃rec:LoopState→Option Code→Loop,rec=fun st pe=>{ state:=st,pending:=pe,fn,tmps:=a.tmps,params:=ps,assign,body,defers:=w.heap.size }:=⟨_,rfl⟩
 obtain ⟨W1,hW1⟩:∃W1,(w.alloc (.deferred (some []))).alloc (.loop (rec .ready none))=W1:=⟨_,rfl⟩
 have hL1:W1.heap[w.heap.size+1]?=some (.loop (rec .ready none)):=by
  rw [←hW1];have:=World.alloc_heap_new (w.alloc (.deferred (some []))) (.loop (rec .ready none));rwa [World.size_alloc] at this
 have hK1:W1.heap[w.heap.size]?=some (.deferred (some [])):=by
  rw [←hW1];exact (Below.heap_alloc _ _ _ (by simp)).trans (World.alloc_heap_new w _)
 have hb1:Below w.heap.size w W1:=by
  rw [←hW1];exact ((Below.refl _ w).alloc (Nat.le_refl _) _).alloc (by simp) _
 obtain ⟨hs1,hev1⟩:=Sim.below' (s:=⟨μ,H,w⟩) hs hb1
 let core:av→World→Loop→Prop:=fun H' W r=>∃μ',H.length≤H'.length∧Sim base ⟨μ',H',W⟩∧Evo H.length ⟨μ,H,w⟩ ⟨μ',H',W⟩∧W.heap[w.heap.size+1]?=some (.loop r)∧W.heap[w.heap.size]?=some (.deferred (some []))
 have turn:∀{H' W r} (r':Loop),core H' W r→core H' (W.putObj (w.heap.size+1) (.loop r')) r':=by
  rintro H' W r r' ⟨μ',c1,c2,c3,c4,c5⟩
  have ho:Oth ⟨μ',H',W⟩ (w.heap.size+1) (W.putObj (w.heap.size+1) (.loop r')):=jM (s:=⟨μ',H',W⟩) c4 (fun _ _ _ e=>by cases e) (fun _ _ _ e=>by cases e) (dB c2 c4 (fun _ _ _ e=>by cases e) fun _ _ e=>by cases e)
  have hbs:=hs.below.size
  exact ⟨μ',c1,c2.oth ho (by simp only at hbs;omega) rfl rfl rfl,c3.oth c2 ho (by simp only;omega),World.putObj_heap_same (Array.getElem?_eq_some_iff.1 c4).1,(World.putObj_heap_other (by omega)).trans c5⟩
 have hcore1:core H W1 (rec .ready none):=⟨μ,Nat.le_refl _,hs1,hev1,hL1,hK1⟩
 refine ⟨w.heap.size+1,[fG w.heap.size],W1,{ target := .fn (.func gf) lb,args := #[.func (.yield (w.heap.size+1)) #[] #[]] },W1,gf,#[.func (.yield (w.heap.size+1)) #[] #[]]++lb,W1,?_,?_,?_,?_,fun _=>by omega,?_⟩
 ·rw [←hW1,hrec];exact run_enterLoop_outer _ _ _ _ _
 ·simp only [resolve,rangeCall,hgv]
  simp [go_sem]
 ·intro f' hf';trivial
 ·simp [invoke,go_sem,eg]
 have hafter:∀{H' W r},core H' W r→bz (flr none s0) ⟨μ,H,w⟩ env a∧∃μ',N≤H'.length∧Sim base ⟨μ',H',W⟩∧bz (flr none s0) ⟨μ',H',W⟩ env { a with defers:=[fG w.heap.size]++a.defers }∧Evo N s0 ⟨μ',H',W⟩:=by
  rintro H' W r ⟨μ',c1,c2,c3,c4,c5⟩
  refine ⟨he,μ',Nat.le_trans hN c1,c2,⟨?_,ax.evo c3 _ _ he.rep⟩,hev.trans (c3.mono hN)⟩
  obtain ⟨Ds,e1,e2,e3⟩:=he.defers.keeps c3.keeps
  obtain ⟨Ds',e1',e2',e3'⟩:=he.defers
  have hsz:=hev.keeps.size
  have eq:Ds'=Ds:=by
   have:Ds'.map fG=Ds.map fG:=e1'.symm.trans e1
   exact (List.map_inj_right fun x y h=>by cases h;rfl).1 this
  subst eq
  refine ⟨w.heap.size::Ds',by rw [List.map_cons,←e1];rfl,List.nodup_cons.2 ⟨fun hm => ?_,e2⟩,fun D hD => ?_⟩
  ·have:=(e3' _ hm).2.1.1
   simp only at this
   omega
  ·rcases List.mem_cons.1 hD with rfl | hD
   ·exact ⟨hsz,⟨(Array.getElem?_eq_some_iff.1 c5).1,dB c2 c5 (fun _ _ _ e=>by cases e) fun _ _ e=>by cases e⟩,c5⟩
   ·exact e3 D hD
 refine (hsw (w.heap.size+1) (fun pre W=>∃H',J pre H'∧core H' W (rec .ready none)) (fun W=>∃c H',Jx c H'∧core H' W (rec .done (some c))) W1 hb1.size
  (fun k W ⟨H',_,μ',_,_,c3,_⟩ b hb=>c3.keeps.heap b hb) ?_ ?_ ⟨H,h0,hcore1⟩).mono ?_
 ·-- the iterator's own steps
  rintro pre Wa Wb row ⟨H',hJ,μ',c1,c2,c3,c4,c5⟩ hg hrow
  have hbs:=hs.below.size
  have hwa:=c3.keeps.size
  simp only at hbs hwa
  cases row with
  | none =>
   have ho:Oth ⟨μ',H',Wa⟩ Wb.heap.size Wb:=⟨fun _ _ _ e=>by
     have:=(Array.getElem?_eq_some_iff.1 e).1
     have hh:=hg.size
     simp only at this
     omega,fun _ _ _ e=>by
     have:=(Array.getElem?_eq_some_iff.1 e).1
     omega,fun hl=>by have:=(c2.live_ge hl).2;have hh:=hg.size;simp only at this;omega,hg.size,fun b hb hlt=>hg.block b hlt (by simp)⟩
   have hh:=hg.size
   have keep:∀{D:Nat} {x:Obj},Wa.heap[D]?=some x→Wb.heap[D]?=some x:=fun {D x} hx=>(hg.block D (Array.getElem?_eq_some_iff.1 hx).1 (by simp)).trans hx
   exact ⟨H',hJ,μ',c1,c2.oth ho (by omega) hg.os hg.tape hg.output,c3.oth c2 ho (by simp only;omega),keep c4,keep c5⟩
  | some r =>
   obtain ⟨hr,⟨o1,ho1,hw1⟩,o2,ho2,hw2⟩:=hrow r rfl
   simp only at hr
   have ho:Oth ⟨μ',H',Wa⟩ r Wb:=⟨fun arr ty fr e=>jA hw1 arr ty fr (Option.some.inj (ho1.symm.trans e)),fun arr ty fr e=>jA hw2 arr ty fr (Option.some.inj (ho2.symm.trans e)),kH c2 ho1 (jA hw1) (hM pre H' hJ),hg.size,fun b hb hlt=>hg.block b hlt (by simpa using hb)⟩
   have keep:∀{D:Nat} {x:Obj},Wa.heap[D]?=some x→x.isWalk=false→Wb.heap[D]?=some x:=fun {D x} hx hxw=>(hg.block D (Array.getElem?_eq_some_iff.1 hx).1 (fun e=>by
    cases e;rw [ho1] at hx;cases hx;rw [hw1] at hxw;cases hxw)).trans hx
   exact ⟨H',hJ,μ',c1,c2.oth ho (by omega) hg.os hg.tape hg.output,c3.oth c2 ho hr,keep c4 rfl,keep c5 rfl⟩
 ·-- one round
  rintro pre x W hx hxp ⟨H',hJ,hcore⟩
  obtain ⟨μ',c1,c2,c3,c4,c5⟩:=hcore
  obtain ⟨hsz,hel⟩:=helem x hx
  have hkw:∀{μ1:Nat→Option Nat} {H1:av} {w1:World} {M:Nat},Evo M ⟨μ',H',W⟩ ⟨μ1,H1,w1⟩→KeepsWalks W w1:=fun {μ1 H1 w1 M} e=>⟨e.keeps.size,fun k o hk ho=>(e.keeps.heap k ⟨(Array.getElem?_eq_some_iff.1 hk).1,kH c2 hk (jA ho) (hM pre H' hJ)⟩).trans hk⟩
  have hy:=run_yield (P:=P) (args:=enc x) c4 (by rw [hrec];exact hsz)
  rw [hrec] at hy
  refine ⟨fn,_,assign,body,hy,roundIn_of_wpIn hfn ?_⟩
  have henv:bz 0 ⟨μ',H',W⟩ (gS env ps.toList (elem x)) { tmps:=(ps.zip (enc x)).foldl (fun t (p,v)=>t.setIfInBounds p v) a.tmps,defers:=[] }:=by
   refine ⟨dg.nil _ _,?_⟩
   have:=kB ps.toList (elem x) (enc x).toList env a.tmps (ax.evo c3 _ _ he.rep) (ax.evo c3 _ _ hel)
   rw [←Array.toList_zip,Array.foldl_toList] at this
   exact this
  have ha:=hround (w.heap.size+1) pre x H' hx hxp hJ c1 ⟨μ',H',W⟩ μ' _ W c1 c2 henv (.refl _ _)
  refine jy (m:=7) (wpIn_mono ha ?_)
  rintro e a1 w1 ⟨μ1,env1,H1,⟨rfl,hbd⟩,g1,g2,g3,g4⟩
  have im:∀{D:Nat} {x:Obj},W.heap[D]?=some x→(∀arr ty fr,x ≠ .cells arr ty fr)→(∀e c,x ≠ .map e c)→w1.heap[D]?=some x:=fun {D x} hx n1 n2=>(g4.keeps.heap D ⟨(Array.getElem?_eq_some_iff.1 hx).1,dB c2 hx n1 n2⟩).trans hx
  have i1:=im c4 (fun _ _ _ e=>by cases e) fun _ _ e=>by cases e
  have i2:=im c5 (fun _ _ _ e=>by cases e) fun _ _ e=>by cases e
  refine ⟨_,run_beginRound i1 (by rw [hrec]),?_⟩
  have ho:Oth ⟨μ1,H1,w1⟩ (w.heap.size+1) (w1.putObj (w.heap.size+1) (.loop { rec .ready none with state := .busy })):=jM (s:=⟨μ1,H1,w1⟩) i1 (fun _ _ _ e=>by cases e) (fun _ _ _ e=>by cases e) (dB g2 i1 (fun _ _ _ e=>by cases e) fun _ _ e=>by cases e)
  have hbs:=hs.below.size
  have j2:=g2.oth ho (show base.heap.size≤w.heap.size+1 from Nat.le_succ_of_le hbs) rfl rfl rfl
  have hlp:∀{lp:Loop} {v:World} {r':Loop},v.heap[w.heap.size+1]?=some (.loop lp)→KeepsWalks v (v.putObj (w.heap.size+1) (.loop r')):=fun {lp v r'} hv=>⟨by simp,fun k o hk ho=>(World.putObj_heap_other (fun e=>by subst e;rw [hv] at hk;cases hk;cases ho)).trans hk⟩
  have hkW2:∀k o,W.heap[k]?=some o→o.isWalk=true→St.imm ⟨μ1,H1,w1.putObj (w.heap.size+1) (.loop { rec .ready none with state := .busy })⟩ k∧(w1.putObj (w.heap.size+1) (.loop { rec .ready none with state := .busy })).heap[k]?=some o:=fun k o hk ho'=>by
   have i0:St.imm ⟨μ',H',W⟩ k:=⟨(Array.getElem?_eq_some_iff.1 hk).1,kH c2 hk (jA ho') (hM pre H' hJ)⟩
   have e1:w1.heap[k]?=some o:=(g4.keeps.heap k i0).trans hk
   exact ⟨ho.imm (g4.keeps.imm k i0),(hlp i1).same k o e1 ho'⟩
  have hszW2:W.heap.size≤(w1.putObj (w.heap.size+1) (.loop { rec .ready none with state := .busy })).heap.size:=Nat.le_trans g4.keeps.size (by simp)
  have j1:(w1.putObj (w.heap.size+1) (.loop { rec .ready none with state := .busy })).heap[w.heap.size+1]?=some (.loop { rec .ready none with state := .busy }):=World.putObj_heap_same (Array.getElem?_eq_some_iff.1 i1).1
  have j3:(w1.putObj (w.heap.size+1) (.loop { rec .ready none with state := .busy })).heap[w.heap.size]?=some (.deferred (some [])):=(World.putObj_heap_other (by omega)).trans i2
  have j4:Evo H.length ⟨μ,H,w⟩ ⟨μ1,H1,w1.putObj (w.heap.size+1) (.loop { rec .ready none with state := .busy })⟩:=(c3.trans g4).oth g2 ho (by simp only;omega)
  generalize w1.putObj (w.heap.size+1) (.loop { rec .ready none with state := .busy })=w2 at *
  have hm2:bz 0 ⟨μ1,H1,w2⟩ env1 a1:=by
   refine ⟨?_,ax.oth g2 ho _ _ g3.rep⟩
   obtain ⟨Ds,e1,e2,e3⟩:=g3.defers
   refine ⟨Ds,e1,e2,fun D hD => ?_⟩
   obtain ⟨d1,d2,d3⟩:=e3 D hD
   have hne:D≠w.heap.size+1:=fun e=>by
    subst e
    simp only at d3
    rw [i1] at d3;cases d3
   exact ⟨d1,ho.imm d2,(ho.same D hne d2.1).trans d3⟩
  have hbd':=hbd ⟨μ1,H1,w2⟩ μ1 a1 w2 g1 j2 hm2 (.refl _ _)
  refine jy (m:=7) (wpIn_mono hbd' ?_)
  rintro e a3 w3 ⟨μ3,env3,H3,r1,r2,r3,r4,r5⟩
  have im2:∀{D:Nat} {x:Obj},w2.heap[D]?=some x→(∀arr ty fr,x ≠ .cells arr ty fr)→(∀e c,x ≠ .map e c)→w3.heap[D]?=some x:=fun {D x} hx n1 n2=>(r5.keeps.heap D ⟨(Array.getElem?_eq_some_iff.1 hx).1,dB j2 hx n1 n2⟩).trans hx
  have k1:=im2 j1 (fun _ _ _ e=>by cases e) fun _ _ e=>by cases e
  have k2:=im2 j3 (fun _ _ _ e=>by cases e) fun _ _ e=>by cases e
  have core3:core H3 w3 { rec .ready none with state := .busy }:=⟨μ3,r2,r3,j4.trans r5,k1,k2⟩
  have kw3:KeepsWalks W w3:=⟨Nat.le_trans hszW2 r5.keeps.size,fun k o hk ho'=>(r5.keeps.heap k (hkW2 k o hk ho').1).trans (hkW2 k o hk ho').2⟩
  have kw4:∀r':Loop,KeepsWalks W (w3.putObj (w.heap.size+1) (.loop r')):=fun r'=>kw3.trans (hlp k1)
  cases e with
  | normal=>exact ⟨_,_,run_endRound none k1,kw4 _,.inl ⟨rfl,H3,r1,by have:=turn { rec .ready none with state := .ready,pending:=none } core3;rw [hrec] at this ⊢;exact this⟩⟩
  | ret=>exact ⟨_,_,run_endRound (some .ret) k1,kw4 _,.inr ⟨rfl,.ret,H3,r1,by have:=turn { rec .ready none with state := .done,pending:=some .ret } core3;rw [hrec] at this ⊢;exact this⟩⟩
  | exit id=>exact ⟨_,_,run_endRound (some (.exit id)) k1,kw4 _,.inr ⟨rfl,.exit id,H3,r1,by have:=turn { rec .ready none with state := .done,pending:=some (.exit id) } core3;rw [hrec] at this ⊢;exact this⟩⟩
  | goto t=>exact ⟨_,_,run_endRound (some (.goto t)) k1,kw4 _,.inr ⟨rfl,.goto t,H3,r1,by have:=turn { rec .ready none with state := .done,pending:=some (.goto t) } core3;rw [hrec] at this ⊢;exact this⟩⟩
  | panic ch=>exact r1.elim
  | outgrown=>exact r1.elim
 ·-- behind it
  rintro e W2 ⟨⟨v,rfl⟩,(⟨pre,hpm,H',hJ,hc⟩ | ⟨c,H',hJ,hc⟩)⟩
  ·obtain ⟨μ0,c1,c2,c3,c4,c5⟩:=hc
   have hc2:=turn { rec .ready none with state := .exhausted } ⟨μ0,c1,c2,c3,c4,c5⟩
   obtain ⟨_,μ',q1,q2,q3,q4⟩:=hafter hc2
   exact ⟨none,_,by have:=run_endLoop (P:=P) c4 (by rw [hrec];simp);rw [hrec] at this ⊢;exact this,μ',env,H',hdone pre H' hpm hJ c1,q1,q2,q3,q4⟩
  ·obtain ⟨μ0,c1,c2,c3,c4,c5⟩:=hc
   have hc2:=turn { rec .done (some c) with state := .exhausted } ⟨μ0,c1,c2,c3,c4,c5⟩
   obtain ⟨_,μ',q1,q2,q3,q4⟩:=hafter hc2
   exact ⟨some c,_,by have:=run_endLoop (P:=P) c4 (by rw [hrec];simp);rw [hrec] at this ⊢;exact this,hstop c H' hJ c1 s0 μ' _ _ q1 q2 q3 q4⟩
end Av
end Go.Proofs.YtdekcppfpgeneaaGreatDoor
namespace Go.Proofs.YtdekcppfpgeneaaGreatDoor
open Go Go.RowKit
namespace Rg
def encK (p:Int × Int):Value := .agg #[.int .i64 p.1,.int .i64 p.2]
def okK (p:Int × Int):Prop:=(-9223372036854775808≤p.1∧p.1≤9223372036854775807)∧(-9223372036854775808≤p.2∧p.2≤9223372036854775807)
theorem sB {a b:Int × Int} (h:encK a=encK b):a=b:=by
 unfold encK at h
 simp at h
 exact Prod.ext h.1 h.2
theorem rR (a b:Int × Int):Av.keyEq (encK a) (encK b)=decide (a=b):=by
 unfold encK Av.keyEq
 simp only [Av.eqL,Av.eqV,Bool.and_true]
 obtain ⟨a1,a2⟩:=a
 obtain ⟨b1,b2⟩:=b
 simp only [Prod.mk.injEq,BEq.rfl,true_and,decide_true,Bool.true_and]
 rw [Bool.decide_and]
end Rg
namespace Av
open Nt Rg
attribute [local go_sem] Oper.semAt_some
theorem yZ:(match Tryz.prog.underlying 63 with | some (.array _ _) | some (.struct _)=>true | _=>false)=true:=by kernel_rfl
theorem u5:(63:TypeId)<Tryz.prog.types.size:=of_decide_eq_true (by kernel_rfl)
theorem y4:laidOutB Tryz.prog=true:=by kernel_rfl
set_option maxRecDepth 1000000 in
theorem gc:Maps.Keyed Tryz.prog 63 := .of_law (deep_law_laid y4 (m:=2) (by omega) u5 (by kernel_rfl) yZ)
theorem rN:Tryz.prog.keyType 63=true:=by kernel_rfl
theorem kP:Tryz.prog.cellsOf 63=2:=by kernel_rfl
theorem wG:Tryz.prog.cellsOf 3=1:=by kernel_rfl
theorem A7:Tryz.prog.underlying 3=some (.int .i64):=by kernel_rfl
theorem rO:∃n,Tryz.prog.types.size+1=n+2:=⟨Tryz.prog.types.size - 1,by have h:63<Tryz.prog.types.size:=u5;generalize Tryz.prog.types.size=m at h ⊢;omega⟩
theorem jR (n:Nat) (v:Value):Tryz.prog.keyLits (n+1) 3 [v]=match v with
  | .int q' m=>if q' = .i64∧(Lit.int .i64 m).wf=true then some [.int .i64 m] else none
  | _=>none:=by
 unfold Program.keyLits
 simp only [A7]
 cases v<;>rfl
theorem rI (n:Nat) (a b:Value):Tryz.prog.keyLits (n+2) 63 [a,b]=(Tryz.prog.keyLits (n+1) 3 [a]).bind fun x=>(Tryz.prog.keyLits (n+1) 3 [b]).map fun y=>x++y:=by
 conv=>lhs;unfold Program.keyLits
 simp only [Tryz.underlying63]
 simp [kP,wG,List.mapM_cons,List.mapM_nil]
 cases Tryz.prog.keyLits (n+1) 3 [a]<;>cases Tryz.prog.keyLits (n+1) 3 [b]<;>simp
theorem nz {p:Int × Int} (h:okK p):keyOf Tryz.prog 63 (encK p)=some (.string (keyBytes [.int .i64 p.1,.int .i64 p.2])):=by
 obtain ⟨n,hn⟩:=rO
 have w1:(Lit.int .i64 p.1).wf=true:=by simp [Lit.wf,IntKind.min,IntKind.max,IntKind.signed,IntKind.bits];exact h.1
 have w2:(Lit.int .i64 p.2).wf=true:=by simp [Lit.wf,IntKind.min,IntKind.max,IntKind.signed,IntKind.bits];exact h.2
 have hf:(encK p).formed Tryz.prog 63=true:=by simp [Value.formed,encK,Tryz.underlying63,kP]
 unfold keyOf
 simp only [Tryz.underlying63]
 rw [rN,hf,hn]
 simp only [Bool.and_self,if_true]
 have hc:(encK p).cells.toList=[.int .i64 p.1,.int .i64 p.2]:=rfl
 rw [hc,rI,jR,jR]
 simp [w1,w2]
set_option maxRecDepth 100000 in
theorem A4 {key:Value} {kl:Lit} (h:keyOf Tryz.prog 63 key=some kl):∃p,key=encK p:=by
 obtain ⟨n,hn⟩:=rO
 unfold keyOf at h
 simp only [Tryz.underlying63] at h
 rw [rN,hn] at h
 cases hf:key.formed Tryz.prog 63 with
 | false=>rw [hf] at h;simp at h
 | true =>
  rw [hf] at h
  simp only [Bool.and_self,if_true] at h
  unfold Value.formed at hf
  cases key with
  | agg cs =>
   simp only [Tryz.underlying63,kP,beq_iff_eq] at hf
   obtain ⟨l⟩:=cs
   match l,hf with
   | [a,b],_ =>
    have hc:(Value.agg #[a,b]).cells.toList=[a,b]:=rfl
    rw [hc,rI,jR,jR] at h
    cases a with
    | int q1 m1 =>
     cases b with
     | int q2 m2 =>
      simp only at h
      by_cases h1:q1 = .i64∧(Lit.int .i64 m1).wf=true
      ·by_cases h2:q2 = .i64∧(Lit.int .i64 m2).wf=true
       ·exact ⟨(m1,m2),by rw [h1.1,h2.1];rfl⟩
       ·rw [if_neg h2] at h;simp at h
      ·rw [if_neg h1] at h;simp at h
     | _=>simp at h
    | _=>simp at h
  | _=>simp [Tryz.underlying63] at hf
theorem tL {p q:Int × Int} (hp:okK p) (hq:okK q) (h:keyOf Tryz.prog 63 (encK p)=keyOf Tryz.prog 63 (encK q)):p=q:=by
 have h1:=nz hp
 exact sB (gc.inj h1 (by rw [←h];exact h1))
def iq (p:Int × Int):Lit := .string (keyBytes [.int .i64 p.1,.int .i64 p.2])
theorem yI {p q:Int × Int} (hp:okK p) (hq:okK q) (h:iq p=iq q):p=q:=tL hp hq (by rw [nz hp,nz hq];exact congrArg some h)
theorem wx {p q:Int × Int} (hp:okK p) (hq:okK q):(iq p).sameKey (iq q)=decide (p=q):=by
 by_cases h:p=q
 ·subst h;simp [iq,Lit.sameKey]
 ·rw [decide_eq_false h]
  cases hs:(iq p).sameKey (iq q) with
  | false=>rfl
  | true=>exact absurd (yI hp hq (by simp [iq,Lit.sameKey] at hs;unfold iq;rw [hs])) h
structure ma (ks:List (Int × Int)) (b:Nat) (es:Array MapEntry) (clock:Nat) (w:World):Prop where
 nd:ks.Nodup
 ok:∀p∈ks,okK p
 hb:w.heap[b]?=some (.map es clock)
 st:Go.MapKept.Stamped es clock
 hk:es.toList.map (·.key)=ks.map encK
 len:ks.length≤1000000000
section
variable {ks:List (Int × Int)} {b:Nat} {es:Array MapEntry} {clock:Nat} {w:World} (hm:ma ks b es clock w)
include hm
theorem ma.key {x:MapEntry} (hx:x∈es.toList):∃p∈ks,x.key=encK p:=by
 have:x.key∈ks.map encK:=by rw [←hm.hk];exact List.mem_map.2 ⟨x,hx,rfl⟩
 obtain ⟨k,h1,h2⟩:=List.mem_map.1 this
 exact ⟨k,h1,h2.symm⟩
theorem ma.ent {p:Int × Int} (hp:p∈ks):∃x∈es.toList,x.key=encK p:=by
 have:encK p∈es.toList.map (·.key):=by rw [hm.hk];exact List.mem_map.2 ⟨p,hp,rfl⟩
 obtain ⟨x,h1,h2⟩:=List.mem_map.1 this
 exact ⟨x,h1,h2⟩
theorem ma.rd {x:MapEntry} {p:Int × Int} (hp:p∈ks) (e:x.key=encK p):Go.WideElems.rd Tryz.prog 63 jh x=some (iq p,.nil):=by
 unfold Go.WideElems.rd
 rw [e,nz (hm.ok p hp)]
 rfl
theorem ma.owns:∃D:DataW Unit,w.ownsMap Tryz.prog 63 jh b ks.length D∧(∀p∈ks,Maps.has D (iq p)=true)∧∀kl,Maps.has D kl=true→∃p∈ks,(iq p).sameKey kl=true:=by
 have hsize:es.size=ks.length:=by have:=congrArg List.length hm.hk;simpa using this
 refine ⟨_,⟨es,clock,hm.hb,⟨by rw [hsize];have:=hm.len;unfold maxLen;omega,hm.st,fun x hx => ?_⟩,by omega,rfl⟩,fun p hp => ?_,fun kl h => ?_⟩
 ·obtain ⟨p,h1,h2⟩:=hm.key hx
  exact ⟨_,hm.rd h1 h2⟩
 ·obtain ⟨x,h1,h2⟩:=hm.ent hp
  rw [Maps.has_eq,List.any_eq_true]
  refine ⟨Go.WideElems.rg Tryz.prog 63 jh x,(Go.WideShapes.sorted_perm _).mem_iff.2 (List.mem_map.2 ⟨x,h1,rfl⟩),?_⟩
  unfold Go.WideElems.rg
  rw [hm.rd hp h2]
  simp [iq,Lit.sameKey]
 ·rw [Maps.has_eq,List.any_eq_true] at h
  obtain ⟨y,h1,h2⟩:=h
  obtain ⟨x,h3,rfl⟩:=List.mem_map.1 ((Go.WideShapes.sorted_perm _).mem_iff.1 h1)
  obtain ⟨p,h4,h5⟩:=hm.key h3
  refine ⟨p,h4,?_⟩
  unfold Go.WideElems.rg at h2
  rw [hm.rd h4 h5] at h2
  exact h2
end
theorem yJ {H:Type} {P:Program} {k:TypeId} {R:Value→Option (DataW H × List MemPlace)} {w:World} {b r n:Nat} {D:DataW H} {left:Lit→Bool} {cnt:Nat} (h:w.ranges P k R b r n D left cnt) {s:List UInt8} (hl:left (.string s)=true):Maps.has D (.string s)=true:=by
 obtain ⟨es,clock,since,seen,c0,hb,F,hs,hD,hr,h1,h2,h3,h4,h5⟩:=h
 obtain ⟨x,hx,hk⟩:=h4 _ hl
 subst hD
 rw [Maps.has_eq,List.any_eq_true]
 refine ⟨Go.WideElems.rg P k R x,(Go.WideShapes.sorted_perm _).mem_iff.2 (List.mem_map.2 ⟨x,hx,rfl⟩),?_⟩
 rw [hk]
 simp [Lit.sameKey]
theorem A3 {key:Value} {kl:Lit} (h:keyOf Tryz.prog 63 key=some kl):∃s,kl = .string s:=gc.key h |> fun hk=>by
 unfold keyOf at h
 simp only [Tryz.underlying63] at h
 split at h
 ·obtain ⟨ls,_,e⟩:=Option.map_eq_some_iff.1 h
  exact ⟨_,e.symm⟩
 ·cases h
set_option maxRecDepth 100000 in
set_option maxHeartbeats 4000000 in
theorem wD {ks:List (Int × Int)} {b B o:Nat} {es:Array MapEntry} {clock:Nat} (l0:Nat) (J:List (Int × Int)→World→Prop) (Jx:World→Prop) (W:World) (hm:ma ks b es clock W)
  (hc:∀pre W1,J pre W1→W1.cell? ⟨B,o,none⟩=some (.map (some b)))
  (hJ:∀pre W1 W2 row,J pre W1→W1.grownBy W2 row→(∀r,row=some r→W.heap.size≤r∧(∃o:Obj,W1.heap[r]?=some o∧o.isWalk=true)∧∃o:Obj,W2.heap[r]?=some o∧o.isWalk=true)→J pre W2)
  (hY:∀pre x W1,x∈ks→¬x∈pre→J pre W1→YieldAt Fence.wide 7 Tryz.prog l0 #[encK x] W1 fun e W'=>KeepsWalks W1 W'∧((e = .returned (.bool true)∧J (pre++[x]) W')∨(e = .returned (.bool false)∧Jx W'))) (h0:J [] W) :
  CallsIn Fence.wide 8 Tryz.prog 95 #[.func (.yield l0) #[] #[],.pointer (some ⟨B,o,none⟩)] W fun e W'=>(∃v,e = .returned v)∧((∃pre,pre.Perm ks∧J pre W')∨Jx W'):=by
 obtain ⟨D0,hown,hhas,hof⟩:=hm.owns
 have hcb:=hc [] W h0
 refine callsIn_of_wp Tryz.func95 rfl trivial ?_ rfl
 simp only [Tryz.ntmps95,List.size_toArray,List.length_cons,List.length_nil,Nat.reduceAdd,Nat.reduceSub,Array.replicate_succ,Array.replicate_zero,List.push_toArray,List.append_toArray,List.nil_append,List.cons_append]
 gi_wp2_with (first
  | (gi_at_range;refine wpListIn_range_own _ rfl _ 58 rfl 63 3 gc (Tryz.underlying58) _ b ks.length _ rfl hown ?_;intro w0 hrg0 hg0 hs0)
  | gi_in)
 go_frame
 gi_loopw [3] (fun _ wr=>∃(left:Lit→Bool) (cnt:Nat) (pre:List (Int × Int)),wr.ranges Tryz.prog 63 jh b W.heap.size ks.length D0 left cnt∧(∀x∈ks,left (iq x) = !decide (x∈pre))∧pre.Nodup∧(∀x∈pre,x∈ks)∧J pre wr)
  (fun _ wr=>wr.rangeLeft b W.heap.size)
 case atStart =>
  exact ⟨_,_,[],hrg0,fun x hx=>by rw [hhas x hx];simp,List.nodup_nil,(fun x hx=>nomatch hx),hJ [] W w0 none h0 hg0 (fun r e=>by cases e)⟩
 case round =>
  obtain ⟨left,cnt,pre,hrg,hlf,hpn,hpk,hJs⟩:=hrel
  gi_wp2_with (first
   | (gi_at_next;refine wpListIn_next_ranges _ rfl _ rfl 63 gc jh encK id (fun key kl hk=>A4 hk) (fun v _ _=>⟨v,rfl⟩) b W.heap.size ks.length _ _ _ rfl hrg ?_ ?_)
   | gi_in)
  ·intro hc0 hl0
   gi_wp2
   go_end0
   refine ⟨⟨_,rfl⟩,.inl ⟨pre,?_,hJs⟩⟩
   refine (List.perm_ext_iff_of_nodup hpn hm.nd).2 fun x=>⟨hpk x,fun hx => ?_⟩
   have:=hlf x hx
   rw [hl0] at this
   simpa using this
  ·intro x1 x2 c kl yd yp w2 cnt2 hkey hlk hv hat hrg2 hlt hg2 hs2 hen
   obtain ⟨x,hx12⟩:∃x:Int × Int,x=(x1,x2):=⟨_,rfl⟩
   rw [←hx12] at hkey hen ⊢
   obtain ⟨s,rfl⟩:=A3 hkey
   obtain ⟨p,hp,hps⟩:=hof _ (yJ hrg hlk)
   have hpe:iq p = .string s:=by simp [iq,Lit.sameKey] at hps;unfold iq;rw [hps]
   obtain rfl:p=x:=(sB (gc.inj hkey (by rw [nz (hm.ok p hp)];exact congrArg some hpe))).symm
   have hxp:¬p∈pre:=fun h=>by
    have:=hlf p hp
    rw [hpe,hlk] at this
    simp [h] at this
   have hJ2:J pre w2:=hJ pre wr w2 (some W.heap.size) hJs hg2 (fun r e=>by cases e;exact ⟨Nat.le_refl _,hrg.iter_walk,hrg2.iter_walk⟩)
   clear hs2
   subst hx12
   have hJ3:J pre (w2.alloc (.cells #[.int .i64 x1,.int .i64 x2] 63)):=hJ pre w2 _ none hJ2 (World.grownBy_alloc _ _ none) (fun r e=>by cases e)
   have hrg3:=hrg2.alloc (.cells #[.int .i64 x1,.int .i64 x2] 63)
   obtain ⟨fn,tmps,assign,body,hy,hR⟩:=hY pre (x1,x2) _ hp hxp hJ3
   unfold encK at hen hy ⊢
   simp only at hen hy ⊢
   gi_wp2
   refine hR.mono ?_
   rintro e W4 ⟨hk4,(⟨rfl,hJ4⟩ | ⟨rfl,hJx4⟩)⟩
   ·have hrg4:=hrg3.of_walks hk4
    gi_wp2
    go_roundw
    case rel =>
     refine ⟨_,cnt2,pre++[(x1,x2)],hrg4,fun y hy => ?_,?_,fun y hy => ?_,hJ4⟩
     ·rw [hlf y hy,←hpe,wx (hm.ok y hy) (hm.ok _ hp)]
      by_cases e1:y∈pre<;>by_cases e2:y=(x1,x2)<;>simp [e1,e2]
     ·rw [List.nodup_append]
      refine ⟨hpn,by simp,?_⟩
      intro a ha c hc e
      simp only [List.mem_singleton] at hc
      subst hc e
      exact hxp ha
     ·rcases List.mem_append.1 hy with h | h
      ·exact hpk y h
      ·simp only [List.mem_singleton] at h;subst h;exact hp
    case measure=>rw [hrg4.left_eq,hrg.left_eq];exact hlt
   ·gi_wp2
    refine bodyPost_ret (results_none rfl _ _ _) rfl ?_
    exact ⟨⟨_,rfl⟩,.inr hJx4⟩
end Av
end Go.Proofs.YtdekcppfpgeneaaGreatDoor
namespace Go.Proofs.YtdekcppfpgeneaaGreatDoor
open Go Go.RowKit
namespace Av
attribute [local irreducible] AW aL aH
open Nt Rg
def itK (p:Int × Int):List AV:=[.d (.v (.int .i64 p.1)),.d (.v (.int .i64 p.2))]
def isK (ps:List (Int × Int)):List (List AV):=ps.map itK
theorem A6 (ps:List (Int × Int)) (x:Int × Int):isK (ps++[x])=isK ps++[itK x]:=by simp [isK]
theorem jX (ps:List (Int × Int)):(isK ps).length=ps.length:=by simp [isK]
theorem oW {α:Type} [DecidableEq α]:∀{l m:List α},l.Nodup→(∀x∈l,x∈m)→l.length≤m.length
 | [],m,_,_=>by simp
 | a::l,m,hn,h=>by
  have ha:=h a (List.mem_cons_self ..)
  rw [List.nodup_cons] at hn
  have h1:=oW (l:=l) (m:=m.erase a) hn.2 (fun x hx=>(List.mem_erase_of_ne (fun e=>by subst e;exact hn.1 hx)).2 (h x (List.mem_cons_of_mem _ hx)))
  rw [List.length_erase_of_mem ha] at h1
  have h2:=List.length_pos_of_mem ha
  simp only [List.length_cons];omega
theorem wE {base:World} {ks:List (Int × Int)} {b:Nat} {es:Array MapEntry} {clock:Nat} (hm:ma ks b es clock base) {H:av} (μ:Nat→Option Nat) (w:World) (lb:Array Value) (hs:Sim base ⟨μ,H,w⟩) (hr:ax ⟨μ,H,w⟩ [.rp [PD.v (.map (some b))]] lb.toList) :
  ∃enc:(Int × Int)→Array Value,Eo Tryz.prog 95 lb enc ks ⟨μ,H,w⟩∧∀x,x∈ks→(enc x).size=1∧ax ⟨μ,H,w⟩ [.agg (itK x)] (enc x).toList:=by
 simp only [ax] at hr
 obtain ⟨v,r,e1,hv,rfl⟩:=hr
 simp only [Rep] at hv
 obtain ⟨B,o,rfl,him,hc⟩:=hv
 simp only [aK,aQ] at hc
 obtain ⟨⟨_,c,h1,h2,_⟩,_⟩:=hc
 subst h2
 obtain rfl:lb = #[.pointer (some ⟨B,o,none⟩)]:=Array.toList_inj.1 (by simpa using e1)
 have hbb:b<base.heap.size:=(Array.getElem?_eq_some_iff.1 hm.hb).1
 have himb:St.imm ⟨μ,H,w⟩ b:=⟨Nat.lt_of_lt_of_le hbb hs.below.size,fun hl=>by have:=(hs.live_ge hl).1;omega⟩
 have hwb:w.heap[b]?=some (.map es clock):=(hs.below.block b hbb).trans hm.hb
 refine ⟨fun x => #[encK x],?_,fun x hx=>⟨rfl,?_⟩⟩
 ·intro l0 J Jx W hsz himm hJ hY h0
  have hW:ma ks b es clock W:=⟨hm.nd,hm.ok,(himm [] W h0 b himb).trans hwb,hm.st,hm.hk,hm.len⟩
  refine wD l0 J Jx W hW (fun pre W1 hJ1 => ?_) (fun pre W1 W2 row h1 h2 h3=>hJ pre W1 W2 row h1 h2 fun r e=>⟨Nat.le_trans hsz (h3 r e).1,(h3 r e).2⟩) hY h0
  rw [ja (himm pre W1 hJ1 B him)]
  exact h1
 ·have hok:=hm.ok x hx
  simp only [ax,itK,encK]
  refine ⟨_,_,rfl,?_,rfl⟩
  simp only [Rep]
  refine ⟨_,rfl,?_⟩
  have m1:IntKind.i64.min = -9223372036854775808:=by decide
  have m2:IntKind.i64.max=9223372036854775807:=by decide
  simp only [ax,Rep,aQ,small,m1,m2,true_and]
  exact ⟨_,_,rfl,⟨rfl,hok.1⟩,_,_,rfl,⟨rfl,hok.2⟩,rfl⟩
section
variable {base:World}
set_option maxRecDepth 100000 in
set_option maxHeartbeats 4000000 in
theorem uk {ks:List (Int × Int)} {b:Nat} {es:Array MapEntry} {clock:Nat} (hm:ma ks b es clock base) (hl:ks.length≤1000000) {H:av} (hH:∀o∈H,o9 o=false) :
  bR Tryz.prog base 121 [.d (.v (.slice none 0 0)),.fn (.func 95) [] [.rp [PD.v (.map (some b))]]] H fun r H'=>∃pre G,pre.Perm ks∧r = .ms H.length 0 pre.length∧H'=H ++ .row 63 2 0 (isK pre)::G:=by
 refine b9 af Tryz.call121 Tryz.func121 rfl fun hB hb hF => ?_
 rw [Tryz.results121,Tryz.ntmps121]
 simp only [aA,List.length_cons,List.length_nil,List.replicate,List.cons_append,List.nil_append,Nat.reduceAdd,Nat.reduceSub]
 clear hF hb
 refine gv 0 63 2 rfl (by simp only [bx,bw]<;>rfl) ?_
 repeat' (first | (refine aa ?_;first | (refine zg rfl ?_;first | refine ah ?_ | refine zo ?_ | (refine zs ?_ ?_<;>intro hb<;>((try simp only [bn] at hb);first | subst hb | simp only [hb]))) | (apply ai;rfl;simp only [aj,avs,tts,seval]<;>exact rr)) | refine ae ?_ | (refine ak ?_;first | (refine yg rfl ?_;first | refine ar ?_ | refine yo ?_ | (refine ys ?_ ?_<;>intro hb<;>((try simp only [bn] at hb);first | subst hb | simp only [hb]))) | (apply au;rfl;simp only [aB,avs,tts,seval]<;>exact rr;first | trivial | omega)) | refine al ?_ | refine ag ?_ | refine zr af ?_ | refine zR 0 af mixed ?_ | refine zR 1 af mixed ?_ | refine zR 2 af mixed ?_ | refine zR 3 af mixed ?_ | refine zf rfl rfl ?_ | refine zt rfl rfl ?_ | (refine am rfl rfl ?_ ?_<;>intro hb<;>((try simp only [bn] at hb);first | subst hb | simp only [hb])) | refine ap ?_ | refine aq ?_ | refine an ?_)
 refine xi (gf:=95) (caps:=[.rp [PD.v (.map (some b))]]) ks (fun x=>[.agg (itK x)]) rfl rfl Tryz.call95 (fun μ w lb hs hr=>wE hm μ w lb hs hr)
  (fun pre K=>pre.Nodup∧(∀x∈pre,x∈ks)∧∃G,(∀o∈G,o9 o=false)∧K=H ++ .row 63 2 0 (isK pre) :: .box 86 [.ms H.length 0 pre.length]::G)
  (fun c K=>False) ?_ ?_ ?_ ?_ ?_
 ·rintro pre K ⟨_,_,G,hG,rfl⟩ l o h
  have hm:=List.mem_of_getElem? h
  simp only [List.mem_append,List.mem_cons] at hm
  rcases hm with h1 | rfl | rfl | h1
  ·exact hH o h1
  ·rfl
  ·rfl
  ·exact hG o h1
 ·exact ⟨List.nodup_nil,(fun x hx=>nomatch hx),[],(fun o ho=>nomatch ho),rfl⟩
 ·rintro l pre x K hx hxp ⟨hnd,hpk,G,hG,rfl⟩ hN
  have hnd2:(pre++[x]).Nodup:=by
   rw [List.nodup_append]
   refine ⟨hnd,by simp,?_⟩
   intro a ha c hc e
   simp only [List.mem_singleton] at hc
   subst hc e
   exact hxp ha
  have hpk2:∀y∈pre++[x],y∈ks:=fun y hy=>by
   rcases List.mem_append.1 hy with h | h
   ·exact hpk y h
   ·simp only [List.mem_singleton] at h;subst h;exact hx
  have hln:=oW hnd2 hpk2
  simp only [List.length_append,List.length_cons,List.length_nil] at hln
  have hil:=jX pre
  have d1:pre.length+1≤9223372036854775807:=by omega
  have d2:(pre.length+1) * 16≤140737488355328:=by omega
  have hap:isK pre++[[AV.d (.v (.int .i64 x.1)),.d (.v (.int .i64 x.2))]]=isK (pre++[x]):=(A6 pre x).symm
  simp only [gS,aA,List.zip_cons_cons,List.zip_nil_left,List.foldl_cons,List.foldl_nil,List.set_cons_succ,List.set_cons_zero,itK]
  clear hN hm
  repeat refine ag ?_
  refine zr af ?_
  repeat (refine aa ?_;first | (apply ai;rfl;simp only [aj,avs,tts,seval]<;>exact rr) | (refine zg rfl ?_;first | refine ah ?_ | refine zo ?_))
  refine ae ?_
  refine ⟨rfl,?_⟩
  repeat' (first | (refine aa ?_;first | (refine zg rfl ?_;first | refine ah ?_ | refine zo ?_ | (refine zs ?_ ?_<;>intro hb<;>((try simp only [bn] at hb);first | subst hb | simp only [hb]))) | (apply ai;rfl;simp only [aj,avs,tts,seval,hil,d1,d2,hap]<;>exact rr)) | refine ae ?_ | (refine ak ?_;first | (refine yg rfl ?_;first | refine ar ?_ | refine yo ?_ | (refine ys ?_ ?_<;>intro hb<;>((try simp only [bn] at hb);first | subst hb | simp only [hb]))) | (apply au;rfl;simp only [aB,avs,tts,seval,hil,d1,d2,hap]<;>exact rr;first | trivial | omega)) | refine al ?_ | refine ag ?_ | refine zr af ?_ | refine zR 0 af mixed ?_ | refine zR 1 af mixed ?_ | refine zR 2 af mixed ?_ | refine zR 3 af mixed ?_ | refine zf rfl rfl ?_ | refine zt rfl rfl ?_ | (refine am rfl rfl ?_ ?_<;>intro hb<;>((try simp only [bn] at hb);first | subst hb | simp only [hb])) | refine ap ?_ | refine aq ?_ | refine an ?_)
  refine ⟨hnd2,hpk2,G++[.box 63 [.d (.v (.int .i64 x.1)),.d (.v (.int .i64 x.2))],.row 63 2 0 [[.d (.v (.int .i64 x.1)),.d (.v (.int .i64 x.2))]]],fun o ho => ?_,by simp⟩
  rcases List.mem_append.1 ho with h | h
  ·exact hG o h
  ·simp only [List.mem_cons,List.mem_nil_iff,or_false] at h;rcases h with rfl | rfl<;>rfl
 ·rintro pre K hpm ⟨_,_,G,hG,rfl⟩ hN
  show AW _ _ _ _ _
  repeat' (first | (refine aa ?_;first | (refine zg rfl ?_;first | refine ah ?_ | refine zo ?_ | (refine zs ?_ ?_<;>intro hb<;>((try simp only [bn] at hb);first | subst hb | simp only [hb]))) | (apply ai;rfl;simp only [aj,avs,tts,seval]<;>exact rr)) | refine ae ?_ | (refine ak ?_;first | (refine yg rfl ?_;first | refine ar ?_ | refine yo ?_ | (refine ys ?_ ?_<;>intro hb<;>((try simp only [bn] at hb);first | subst hb | simp only [hb]))) | (apply au;rfl;simp only [aB,avs,tts,seval]<;>exact rr;first | trivial | omega)) | refine al ?_ | refine ag ?_ | refine zr af ?_ | refine zR 0 af mixed ?_ | refine zR 1 af mixed ?_ | refine zR 2 af mixed ?_ | refine zR 3 af mixed ?_ | refine zf rfl rfl ?_ | refine zt rfl rfl ?_ | (refine am rfl rfl ?_ ?_<;>intro hb<;>((try simp only [bn] at hb);first | subst hb | simp only [hb])) | refine ap ?_ | refine aq ?_ | refine an ?_)
  exact aw ⟨_,(by simp only [bk,cN,er,avs,tts]<;>rfl),pre,_,hpm,rfl,rfl⟩
 ·intro c K h
  exact h.elim
end
end Av
end Go.Proofs.YtdekcppfpgeneaaGreatDoor
namespace Go.Proofs.YtdekcppfpgeneaaGreatDoor
open Go Go.RowKit Go.Sort Go.Shelf Go.Lib
namespace Av
open Nt Rg
def fy (a b:Int):Int:=if a<b then -1 else if b<a then 1 else 0
def iD (p q:Int × Int):Int:=if fy p.1 q.1≠0 then fy p.1 q.1 else fy p.2 q.2
theorem m9 (a:Int) (W:World):Calls Tryz.prog 96 #[.int .i64 a] W fun e w'=>e = .returned (.bool false)∧w'=W:=by
 go_enter Tryz.func96,Tryz.ntmps96
 go_wp2_with fail
 go_ret
 exact ⟨by simp,rfl⟩
theorem nJ (a b:Int) (W:World):Calls Tryz.prog 68 #[.int .i64 a,.int .i64 b] W fun e w'=>e = .returned (.int .i64 (fy a b))∧w'=W:=by
 have n1:=m9 a
 have n2:=m9 b
 go_enter Tryz.func68,Tryz.ntmps68
 go_wp2_with fail
 refine (n1 _).mono ?_
 rintro e w' ⟨rfl,rfl⟩
 go_wp2_with fail
 refine (n2 _).mono ?_
 rintro e w' ⟨rfl,rfl⟩
 by_cases h1:a<b
 ·go_wp2
  go_ret
  exact ⟨by simp [fy,h1],rfl⟩
 ·by_cases h2:b<a
  ·go_wp2
   go_ret
   exact ⟨by simp [fy,h1,h2],rfl⟩
  ·go_wp2
   go_ret
   have e1:¬a<b:=by omega
   have e2:¬b<a:=by omega
   exact ⟨by simp [fy,e1,e2],rfl⟩
theorem yw (a b:Int) (g cap:Nat) (W:World) (h0:W.cell? ⟨g,0,none⟩=some (.int .i64 a)) (h1:W.cell? ⟨g,1,none⟩=some (.int .i64 b)):Calls Tryz.prog 67 #[.slice (some ⟨g,0,none⟩) 2 cap] W fun e w'=>e = .returned (.int .i64 (if a≠0 then a else b))∧w'=W:=by
 refine (callsIn_wide (n:=6)).1 ?_
 refine callsIn_of_wp Tryz.func67 rfl trivial ?_ rfl
 simp only [Tryz.ntmps67,List.size_toArray,List.length_cons,List.length_nil,Nat.reduceAdd,Nat.reduceSub,Array.replicate_succ,Array.replicate_zero,List.push_toArray,List.append_toArray,List.nil_append,List.cons_append]
 gi_wp2
 gi_loopw [8] (fun i wr=>∃k:Nat,i = .int .i64 k∧wr=W∧k≤2∧(1≤k→a=0)∧(2≤k→b=0)) (fun i _=>(2 - intOf i).toNat)
 case atStart=>exact ⟨0,rfl,rfl,by omega,fun h=>by omega,fun h=>by omega⟩
 case round =>
  obtain ⟨k,rfl,rfl,hk,ha,hb⟩:=hrel
  by_cases a0:a=0
  ·subst a0
   by_cases b0:b=0
   ·subst b0
    match k,hk with
    | 0,_ =>
     gi_wp2
     go_roundw
     case rel=>refine ⟨1,rfl,?_⟩;simp
     case measure=>simp [intOf]
    | 1,_ =>
     gi_wp2
     go_roundw
     case rel=>refine ⟨2,rfl,?_⟩;simp
     case measure=>simp [intOf]
    | 2,_ =>
     gi_wp2
     go_ret
     exact ⟨by simp,rfl⟩
   ·match k,hk with
    | 0,_ =>
     gi_wp2
     go_roundw
     case rel=>refine ⟨1,rfl,?_⟩;simp
     case measure=>simp [intOf]
    | 1,_ =>
     gi_wp2
     go_ret
     exact ⟨by simp,rfl⟩
    | 2,_=>exact absurd (hb (by omega)) b0
  ·match k,hk with
   | 0,_ =>
    gi_wp2
    go_ret
    exact ⟨by simp [a0],rfl⟩
   | 1,_=>exact absurd (ha (by omega)) a0
   | 2,_=>exact absurd (ha (by omega)) a0
set_option maxRecDepth 100000 in
set_option maxHeartbeats 16000000 in
theorem ua (x y:Int × Int) (W:World):Calls Tryz.prog 66 #[.agg #[.int .i64 x.1,.int .i64 x.2],.agg #[.int .i64 y.1,.int .i64 y.2]] W fun e w'=>e = .returned (.int .i64 (iD x y))∧∃q os',w'=grow (W.drewN q) os':=by
 have c1:=nJ x.1 y.1
 have c2:=nJ x.2 y.2
 unfold iD
 generalize fy x.1 y.1=r1 at c1 ⊢
 generalize fy x.2 y.2=r2 at c2 ⊢
 obtain ⟨x1,x2⟩:=x
 obtain ⟨y1,y2⟩:=y
 simp only at c1 c2 ⊢
 go_enter Tryz.func66,Tryz.ntmps66
 go_wp2_with fail
 refine wp_region_still_tail 10 mixed (by kernel_rfl) ?_
 simp only [List.take_succ_cons,List.take_zero,List.drop_succ_cons,List.drop_zero]
 show wpStill _ _ (World.drew ((W.alloc (.cells #[.int .i64 x1,.int .i64 x2] 63)).alloc (.cells #[.int .i64 y1,.int .i64 y2] 63))) (fun a'=>wpList _ _ _ _ a' (World.drew ((W.alloc (.cells #[.int .i64 x1,.int .i64 x2] 63)).alloc (.cells #[.int .i64 y1,.int .i64 y2] 63)))) _ _
 have hg:∃os,World.drew ((W.alloc (.cells #[.int .i64 x1,.int .i64 x2] 63)).alloc (.cells #[.int .i64 y1,.int .i64 y2] 63))=grow (W.drewN 1) os:=⟨_,by rw [alloc_eq_grow,alloc_eq_grow,grow_grow];rfl⟩
 have hh1:(World.drew ((W.alloc (.cells #[.int .i64 x1,.int .i64 x2] 63)).alloc (.cells #[.int .i64 y1,.int .i64 y2] 63))).heap[W.heap.size]?=some (.cells #[.int .i64 x1,.int .i64 x2] 63):=(Below.heap_alloc _ _ _ (by simp)).trans (World.alloc_heap_new W _)
 have hh2:(World.drew ((W.alloc (.cells #[.int .i64 x1,.int .i64 x2] 63)).alloc (.cells #[.int .i64 y1,.int .i64 y2] 63))).heap[W.heap.size+1]?=some (.cells #[.int .i64 y1,.int .i64 y2] 63):=by
  have:=World.alloc_heap_new (W.alloc (.cells #[.int .i64 x1,.int .i64 x2] 63)) (.cells #[.int .i64 y1,.int .i64 y2] 63)
  rwa [World.size_alloc] at this
 generalize World.drew ((W.alloc (.cells #[.int .i64 x1,.int .i64 x2] 63)).alloc (.cells #[.int .i64 y1,.int .i64 y2] 63))=W2 at *
 have k1:W2.cell? ⟨W.heap.size,0,none⟩=some (.int .i64 x1):=by unfold World.cell?;rw [hh1];rfl
 have k2:W2.cell? ⟨W.heap.size,1,none⟩=some (.int .i64 x2):=by unfold World.cell?;rw [hh1];rfl
 have k3:W2.cell? ⟨W.heap.size+1,0,none⟩=some (.int .i64 y1):=by unfold World.cell?;rw [hh2];rfl
 have k4:W2.cell? ⟨W.heap.size+1,1,none⟩=some (.int .i64 y2):=by unfold World.cell?;rw [hh2];rfl
 repeat still_step
 still_call (c1 _)
 repeat still_step
 still_call (c2 _)
 refine wpStill_nil ?_
 obtain ⟨os,hg⟩:=hg
 go_wp2_with fail
 have hsz:W.heap.size+os.size=(grow (W.drewN 1) os).heap.size:=by simp [grow,World.drewN]
 have hnew:=World.alloc_heap_new (grow (W.drewN 1) os) (.cells #[.int .i64 r1,.int .i64 r2] 3)
 rw [←hsz] at hnew
 refine (yw r1 r2 _ _ _ (by unfold World.cell?;rw [hnew];rfl) (by unfold World.cell?;rw [hnew];rfl)).mono ?_
 rintro e w' ⟨rfl,rfl⟩
 have hfin:∃os',(grow (W.drewN 1) os).alloc (.cells #[.int .i64 r1,.int .i64 r2] 3)=grow (W.drewN 1) os':=⟨_,by rw [alloc_eq_grow,grow_grow]⟩
 generalize (grow (W.drewN 1) os).alloc (.cells #[.int .i64 r1,.int .i64 r2] 3)=W3 at *
 obtain ⟨os',hfin⟩:=hfin
 clear hnew hsz hh1 hh2 k1 k2 k3 k4 c1 c2
 go_wp2
 all_goals go_ret
 all_goals exact ⟨rfl,1,os',rfl⟩
end Av
end Go.Proofs.YtdekcppfpgeneaaGreatDoor
namespace Go.Proofs
open Go.Shelf
def Tryz.sort94_ren:Go.Shelf.Ren:=⟨fun | 6=>94 | 15=>123 | 14=>122 | 28=>160 | 29=>161 | 20=>152 | 21=>153 | 22=>154 | 23=>155 | 24=>156 | 25=>157 | 26=>158 | 27=>159 | 46=>202 | 47=>203 | 48=>204 | 49=>205 | 50=>206 | 57=>227 | n=>n,fun | 22=>86 | 24=>63 | 25=>93 | 3=>3 | 39=>84 | 0=>0 | 53=>165 | 55=>167 | 4=>4 | 46=>159 | 45=>158 | 50=>59 | 5=>5 | 9=>9 | 66=>206 | 70=>210 | 76=>232 | 77=>233 | n=>n,fun | n=>n⟩
theorem Tryz.sort94:Go.Proofs.SlLaysF0.n6 Tryz.prog Tryz.sort94_ren:={
 mixed:=by kernel_rfl
 f6:=⟨Tryz.f94.name,by decide,Tryz.func94.trans (congrArg some (by kernel_rfl))⟩
 f14:=⟨Tryz.f122.name,by decide,Tryz.func122.trans (congrArg some (by kernel_rfl))⟩
 f15:=Tryz.func123.trans (congrArg some (by kernel_rfl))
 f20:=⟨Tryz.f152.name,by decide,Tryz.func152.trans (congrArg some (by kernel_rfl))⟩
 f21:=⟨Tryz.f153.name,by decide,Tryz.func153.trans (congrArg some (by kernel_rfl))⟩
 f22:=⟨Tryz.f154.name,by decide,Tryz.func154.trans (congrArg some (by kernel_rfl))⟩
 f23:=⟨Tryz.f155.name,by decide,Tryz.func155.trans (congrArg some (by kernel_rfl))⟩
 f24:=⟨Tryz.f156.name,by decide,Tryz.func156.trans (congrArg some (by kernel_rfl))⟩
 f25:=⟨Tryz.f157.name,by decide,Tryz.func157.trans (congrArg some (by kernel_rfl))⟩
 f26:=⟨Tryz.f158.name,by decide,Tryz.func158.trans (congrArg some (by kernel_rfl))⟩
 f27:=⟨Tryz.f159.name,by decide,Tryz.func159.trans (congrArg some (by kernel_rfl))⟩
 f28:=Tryz.func160.trans (congrArg some (by kernel_rfl))
 f29:=Tryz.func161.trans (congrArg some (by kernel_rfl))
 f46:=⟨Tryz.f202.name,by decide,Tryz.func202.trans (congrArg some (by kernel_rfl))⟩
 f47:=Tryz.func203.trans (congrArg some (by kernel_rfl))
 f48:=Tryz.func204.trans (congrArg some (by kernel_rfl))
 f49:=⟨Tryz.f205.name,by decide,Tryz.func205.trans (congrArg some (by kernel_rfl))⟩
 f50:=⟨Tryz.f206.name,by decide,Tryz.func206.trans (congrArg some (by kernel_rfl))⟩
 f57:=⟨Tryz.f227.name,by decide,Tryz.func227.trans (congrArg some (by kernel_rfl))⟩
 t0:=Tryz.underlying0
 a0:=Tryz.isAgg0
 z0:=Tryz.sizeOf0
 v0:=Tryz.zeroValue0
 t3:=Tryz.underlying3
 a3:=Tryz.isAgg3
 z3:=Tryz.sizeOf3
 v3:=Tryz.zeroValue3
 t4:=Tryz.underlying4
 a4:=Tryz.isAgg4
 z4:=Tryz.sizeOf4
 v4:=Tryz.zeroValue4
 t5:=Tryz.underlying5
 a5:=Tryz.isAgg5
 z5:=Tryz.sizeOf5
 v5:=Tryz.zeroValue5
 t9:=Tryz.underlying9
 a9:=Tryz.isAgg9
 z9:=Tryz.sizeOf9
 v9:=Tryz.zeroValue9
 t22:=Tryz.underlying86
 a22:=Tryz.isAgg86
 z22:=Tryz.sizeOf86
 v22:=Tryz.zeroValue86
 t25:=Tryz.underlying93
 a25:=Tryz.isAgg93
 z25:=Tryz.sizeOf93
 v25:=Tryz.zeroValue93
 t39:=Tryz.underlying84
 a39:=Tryz.isAgg84
 z39:=Tryz.sizeOf84
 v39:=Tryz.zeroValue84
 t45:=Tryz.underlying158
 a45:=Tryz.isAgg158
 z45:=Tryz.sizeOf158
 v45:=Tryz.zeroValue158
 t46:=Tryz.underlying159
 a46:=Tryz.isAgg159
 z46:=Tryz.sizeOf159
 v46:=Tryz.zeroValue159
 t50:=Tryz.underlying59
 a50:=Tryz.isAgg59
 z50:=Tryz.sizeOf59
 v50:=Tryz.zeroValue59
 t53:=Tryz.underlying165
 a53:=Tryz.isAgg165
 z53:=Tryz.sizeOf165
 v53:=Tryz.zeroValue165
 t55:=Tryz.underlying167
 a55:=Tryz.isAgg167
 z55:=Tryz.sizeOf167
 v55:=Tryz.zeroValue167
 t66:=Tryz.underlying206
 a66:=Tryz.isAgg206
 z66:=Tryz.sizeOf206
 v66:=Tryz.zeroValue206
 t70:=Tryz.underlying210
 a70:=Tryz.isAgg210
 z70:=Tryz.sizeOf210
 v70:=Tryz.zeroValue210
 t76:=Tryz.underlying232
 a76:=Tryz.isAgg232
 z76:=Tryz.sizeOf232
 v76:=Tryz.zeroValue232
 t77:=Tryz.underlying233
 a77:=Tryz.isAgg233
 z77:=Tryz.sizeOf233
 v77:=Tryz.zeroValue233 }
end Go.Proofs
namespace Go.Proofs.YtdekcppfpgeneaaGreatDoor
open Go Go.RowKit Go.Sort Go.Shelf Go.Lib
namespace Av
open Nt Rg
theorem pp {a b:Int}:fy a b<0↔a<b:=by
 unfold fy
 by_cases h1:a<b
 ·simp [h1]
 ·by_cases h2:b<a<;>simp [h1,h2]
theorem nK {a b:Int}:fy a b=0↔a=b:=by
 unfold fy
 by_cases h1:a<b
 ·rw [if_pos h1];constructor<;>intro h<;>omega
 ·by_cases h2:b<a
  ·rw [if_neg h1,if_pos h2];constructor<;>intro h<;>omega
  ·rw [if_neg h1,if_neg h2];constructor<;>intro h<;>omega
theorem ltK (x y:Int × Int):ltOf iD x y=true↔x.1<y.1∨(x.1=y.1∧x.2<y.2):=by
 unfold ltOf iD
 rw [decide_eq_true_iff]
 by_cases h:fy x.1 y.1=0
 ·have h':=nK.1 h
  simp only [h,ne_eq,not_true_eq_false,if_false,pp];omega
 ·have h':x.1≠y.1:=fun e=>h (nK.2 e)
  simp only [h,ne_eq,not_false_eq_true,if_true,pp];omega
theorem dw (x y:Int × Int):ltOf iD x y=false↔¬(x.1<y.1∨(x.1=y.1∧x.2<y.2)):=by
 rw [←ltK];simp
theorem Dz:SWO (ltOf iD) where
 irrefl x:=by rw [dw];omega
 trans x y z h1 h2:=by rw [ltK] at *;omega
 ntrans x y z h1 h2:=by rw [dw] at *;omega
def aT (l:List (Int × Int)):List (Int × Int):=l.mergeSort fun x y => !ltOf iD y x
def encK (p:Int × Int):List Value:=[.int .i64 p.1,.int .i64 p.2]
def fx (l:List (Int × Int)):List Value:=l.flatMap encK
theorem i6 (l:List (Int × Int)):(fx l).length=l.length * 2:=by
 induction l with
 | nil=>rfl
 | cons x r ih=>simp only [fx,List.flatMap_cons,List.length_append,List.length_cons] at ih ⊢;rw [ih];simp [encK];omega
theorem kS:∀(l:List (Int × Int)) (i c:Nat),c<2→(fx l)[i * 2+c]?=l[i]?.bind fun p=>(encK p)[c]?
 | [],i,c,h=>by simp [fx]
 | x::r,0,c,h=>by
  simp only [fx,List.flatMap_cons,Nat.zero_mul,Nat.zero_add,List.getElem?_cons_zero,Option.bind_some]
  rw [List.getElem?_append_left (by simpa [encK] using h)]
 | x::r,i+1,c,h=>by
  have:=kS r i c h
  simp only [fx,List.flatMap_cons,List.getElem?_cons_succ] at this ⊢
  rw [List.getElem?_append_right (by simp [encK];omega),←this]
  congr 1
  simp [encK];omega
theorem nD (d:Array (Int × Int)):(flatK encK 2 d).toList=fx d.toList:=by
 refine List.ext_getElem (by rw [i6];simp) fun t h1 h2 => ?_
 have ht:t<d.size * 2:=by simpa using h1
 have e:=kS d.toList (t / 2) (t % 2) (Nat.mod_lt _ (by omega))
 have ed:t / 2 * 2+t % 2=t:=by omega
 rw [ed,List.getElem?_eq_getElem h2] at e
 have hi:t / 2<d.size:=by omega
 have hg:=get_flatK encK 2 d t ht
 rw [getElem!_pos (flatK encK 2 d) t (by simpa using ht)] at hg
 rw [Array.getElem_toList,hg,getElem!_pos d (t / 2) hi]
 have e3:d.toList[t / 2]?=some d[t / 2]:=by rw [List.getElem?_eq_getElem (by simpa using hi),Array.getElem_toList]
 rw [e3,Option.bind_some] at e
 have hc:t % 2<(encK d[t / 2]).length:=by simp [encK];omega
 rw [List.getElem?_eq_getElem hc] at e
 rw [getElem!_pos (encK d[t / 2]) (t % 2) hc]
 exact (Option.some.inj e).symm
theorem jL {s:St}:∀{l:List (Int × Int)} {fr:List Value},ax s (isK l).flatten fr↔fr=fx l∧∀p∈l,small (.int .i64 p.1)∧small (.int .i64 p.2)
 | [],fr=>by simp [isK,fx,ax]
 | x::r,fr=>by
  have ih:=fun fr=>jL (s:=s) (l:=r) (fr:=fr)
  constructor
  ·intro h
   simp only [isK,itK,List.map_cons,List.flatten_cons,List.cons_append,List.nil_append,ax,Rep,aQ] at h
   obtain ⟨a,t,rfl,⟨rfl,h1⟩,b,t2,rfl,⟨rfl,h2⟩,h3⟩:=h
   obtain ⟨rfl,h4⟩:=(ih t2).1 h3
   exact ⟨rfl,fun p hp=>by rcases List.mem_cons.1 hp with rfl | hp;exact ⟨h1,h2⟩;exact h4 p hp⟩
  ·rintro ⟨rfl,h⟩
   simp only [isK,itK,List.map_cons,List.flatten_cons,List.cons_append,List.nil_append,ax,Rep,aQ]
   exact ⟨_,_,rfl,⟨rfl,(h x (by simp)).1⟩,_,_,rfl,⟨rfl,(h x (by simp)).2⟩,(ih _).2 ⟨rfl,fun p hp=>h p (by simp [hp])⟩⟩
theorem om {F arr:Array Value} {fr rest:List Value} (h:arr.toList=fr++rest) (hs:F.size=fr.length):(putCells id 0 F arr).toList=F.toList++rest:=by
 have hsz:arr.size=fr.length+rest.length:=by have:=congrArg List.length h;simpa using this
 refine List.ext_getElem (by simp [putCells,hsz,hs]) fun t h1 h2 => ?_
 have ht:t<arr.size:=by simpa [putCells] using h1
 simp only [putCells,Array.getElem_toList,Array.getElem_mapIdx,Nat.zero_le,true_and,Nat.zero_add,Nat.sub_zero,id]
 by_cases hc:t<F.size
 ·rw [if_pos hc,List.getElem_append_left (by simpa using hc),getElem!_pos F t hc,Array.getElem_toList]
 ·rw [if_neg hc,List.getElem_append_right (by simpa using hc)]
  have:arr.toList[t]'(by simpa using ht)=(fr++rest)[t]'(by simp;omega):=by simp only [h]
  rw [Array.getElem_toList] at this
  rw [this,List.getElem_append_right (by omega)]
  simp [hs]
theorem DI {d d':Array (Int × Int)} (h:PermIn 0 d.size d d'):d'.size=d.size∧d'.toList.Perm d.toList:=by
 obtain ⟨h1,h2,h3⟩:=h
 refine ⟨h1,?_⟩
 have e1:d.extract 0 d.size=d:=by simp
 have e2:d'.extract 0 d.size=d':=by rw [←h1];simp
 rwa [e1,e2] at h3
theorem zT (blk off size:Nat) (w:World):CmpLays Tryz.prog 66 #[] encK 2 iD blk off size w:=fun m os dk hdk x y=>by
 have:=ua x y (sortWorldK encK 2 w blk off m dk os)
 simpa [encK] using this
theorem tw {base:World} {s:St} {l ty ver:Nat} {ps:List (Int × Int)} (hs:Sim base s) (hl:s.H[l]?=some (.row ty 2 ver (isK ps))) (hlen:ps.length≤1000000) {b cap:Nat} (hb:s.μ l=some b) :
  Calls Tryz.prog 94 #[.slice (some ⟨b,0,none⟩) ps.length cap,.func (.func 66) #[] #[]] s.w fun e w'=>e = .returned (.tuple #[])∧Sim base ⟨upd s.μ l (some b),s.H.set l (.row ty 2 ver (isK (aT ps))),w'⟩∧Evo s.H.length s ⟨upd s.μ l (some b),s.H.set l (.row ty 2 ver (isK (aT ps))),w'⟩:=by
 have ho:=hs.obj l _ hl
 obtain ⟨h0,h9,h⟩:=ho
 rcases h with ⟨h1,_⟩ | ⟨b',arr,fr,rest,h1,h2,h3,h4,h5⟩
 ·rw [hb] at h1;cases h1
 rw [hb] at h1
 obtain rfl:b'=b:=(Option.some.inj h1).symm
 obtain ⟨rfl,hsm⟩:=jL.1 h5
 have hblk:b'<s.w.heap.size:=(Array.getElem?_eq_some_iff.1 h3).1
 have hsz:(flatK encK 2 ps.toArray).size=(fx ps).length:=by rw [i6];simp
 have hH:HoldsK encK 2 s.w b' 0 ps.toArray:=fun j hj=>by
  have hj':j<(fx ps).length:=by rw [←hsz];exact hj
  have hja:j<arr.size:=by have:=congrArg List.length h4;simp at this;omega
  refine ⟨?_,by simp [World.frozen?,h3]⟩
  unfold World.cell?
  simp only [h3,Nat.zero_add,id]
  rw [getElem!_pos _ j hj]
  have e1:arr.toList[j]?=(fx ps)[j]?:=by rw [h4,List.getElem?_append_left hj']
  have e2:(flatK encK 2 ps.toArray).toList[j]?=(fx ps)[j]?:=by rw [nD]
  rw [←e2,List.getElem?_eq_getElem (by simpa using hja),List.getElem?_eq_getElem (by simpa using hj)] at e1
  simp only [Array.getElem_toList,Option.some.injEq] at e1
  rw [←e1]
  simp [hja]
 have hcon:=AnyQ.slices_SortFunc Tryz.sort94 2 Tryz.isAgg63 Tryz.sizeOf63 encK (fun _=>rfl) (fun x v hv=>by simp [encK] at hv;rcases hv with rfl | rfl<;>rfl) iD Dz 66 #[] b' 0 cap ps.toArray s.w (enters_of Tryz.func66 (by kernel_rfl) rfl) (zT b' 0 _ s.w) hH hblk (by simp;omega)
 refine Calls.mono hcon ?_
 rintro e w' ⟨rfl,d',n,os,hp,hso,rfl⟩
 have hp':d'.size=ps.length∧d'.toList.Perm ps:=DI (d:=ps.toArray) hp
 have hd:d'.toList=aT ps:=by
  have:=sorted_unique_holds Dz (fun x y h1 h2=>by rw [dw] at h1 h2;exact Prod.ext (by omega) (by omega)) ps.toArray d' hp hso
  simpa [aT] using this
 refine ⟨rfl,?_⟩
 have hb2:(sortWorldK encK 2 s.w b' 0 n d' os).heap[b']?=some (.cells (putCells id 0 (flatK encK 2 d') arr) ty (0,0)):=by
  unfold sortWorldK
  rw [Go.Sort.heap_grow_old _ _ (by rw [size_putRowK];exact hblk)]
  unfold putRowK putRow mapBlock
  simp only [Array.getElem?_modify,if_true]
  show Option.map _ (s.w.heap[b']?)=_
  rw [h3]
  rfl
 have hl2:=om (F:=flatK encK 2 d') h4 (by simp [i6,hp'.1])
 rw [nD,hd] at hl2
 have hlen2:(aT ps).length=ps.length:=by rw [←hd];simpa using hp'.1
 refine hs.upd hl rfl rfl rfl ?_ (fun c hc hlt => ?_) (.inr ⟨rfl,hb⟩) ?_ ?_
 ·exact size_sortWorldK_c encK 2 s.w b' 0 n d' os
 ·unfold sortWorldK
  rw [Go.Sort.heap_grow_old _ _ (by rw [size_putRowK];exact hlt)]
  unfold putRowK putRow mapBlock
  simp only [Array.getElem?_modify,if_neg (Ne.symm hc)]
  rfl
 ·refine ⟨fun it hit => ?_,fun it hit => ?_,_,_,rest,hb2,hl2,jL.2 ⟨rfl,fun p hp=>hsm p ?_⟩⟩
  ·obtain ⟨p,_,rfl⟩:=List.mem_map.1 hit;rfl
  ·obtain ⟨p,_,rfl⟩:=List.mem_map.1 hit;rfl
  ·exact (List.mergeSort_perm _ _).mem_iff.1 hp
 ·unfold aW
  rw [hl]
  refine .inr ⟨ver,_,aE (aF hl),?_,fun _ _=>⟨(upd_same _ _ _).trans hb.symm,fun b2 hb3 => ?_⟩⟩
  ·rw [jX,jX,hlen2];exact cG.refl _ _
  ·rw [hb] at hb3
   obtain rfl:b2=b':=(Option.some.inj hb3).symm
   unfold eS
   simp only [hb2,h3]
   simp [putCells]
end Av
end Go.Proofs.YtdekcppfpgeneaaGreatDoor
namespace Go.Proofs.YtdekcppfpgeneaaGreatDoor
open Go Go.RowKit
namespace Av
attribute [local irreducible] AW aL aH
open Nt Rg
theorem xN {base:World} {H:av} {l ty ver n:Nat} {ps:List (Int × Int)} (hl:H[l]?=some (.row ty 2 ver (isK ps))) (hn:n=ps.length) (hlen:ps.length≤1000000) :
  bR Tryz.prog base 94 [.ms l ver n,.fn (.func 66) [] []] H fun r H'=>r = .tup []∧H'=H.set l (.row ty 2 ver (isK (aT ps))):=by
 subst hn
 refine ⟨Tryz.call94,fun μ w vs hs ha => ?_⟩
 simp only [ax,Rep] at ha
 obtain ⟨x,t,h1,⟨⟨a,c,rfl⟩,hm⟩,y,t2,rfl,⟨a2,c2,rfl,h3,h4⟩,rfl⟩:=ha
 have e2:a2 = #[]:=Array.toList_eq_nil_iff.1 h3
 have e3:c2 = #[]:=Array.toList_eq_nil_iff.1 h4
 subst e2 e3
 have hvs:vs = #[.slice a ps.length c,.func (.func 66) #[] #[]]:=Array.ext' h1
 subst hvs
 unfold cB at hm
 simp only [hl] at hm
 rcases hm.2 trivial (jX ps).symm with ⟨m1,m2,m3⟩ | ⟨b,cap,m1,m2,m3,m4,m5⟩
 ·obtain rfl:ps=[]:=List.eq_nil_of_length_eq_zero m3
  have hset:H.set l (.row ty 2 ver (isK (aT [])))=H:=by
   have:isK (aT [])=isK []:=by simp [aT]
   rw [this]
   exact (List.ext_getElem? fun i=>by
    by_cases e:i=l
    ·subst e;rw [List.getElem?_set_self (aF hl),hl]
    ·rw [List.getElem?_set_ne (Ne.symm e)])
  refine (AnyF.slices_SortFunc_none Tryz.sort94 a c _ w).mono ?_
  rintro e w' ⟨rfl,rfl⟩
  exact ⟨_,_,H,μ,rfl,⟨rfl,hset.symm⟩,Nat.le_refl _,hs,by simp only [Rep,ax];exact ⟨#[],rfl,rfl⟩,.refl _ _⟩
 ·cases m2
  refine (tw hs hl hlen m1).mono ?_
  rintro e w' ⟨rfl,hs',he⟩
  exact ⟨_,_,_,_,rfl,⟨rfl,rfl⟩,by simp,hs',by simp only [Rep,ax];exact ⟨#[],rfl,rfl⟩,he⟩
theorem ew {l m:List (Int × Int)} (h:l.Perm m):aT l=aT m:=by
 have tr:∀a b c:Int × Int,(!Go.Proofs.ltOf iD b a)=true→(!Go.Proofs.ltOf iD c b)=true→(!Go.Proofs.ltOf iD c a)=true:=fun a b c h1 h2=>by
  simp only [Bool.not_eq_true',dw] at *;omega
 have tot:∀a b:Int × Int,((!Go.Proofs.ltOf iD b a) || !Go.Proofs.ltOf iD a b)=true:=fun a b=>by
  simp only [Bool.or_eq_true,Bool.not_eq_true',dw];omega
 refine List.Perm.eq_of_pairwise (le:=fun x y=>(!Go.Proofs.ltOf iD y x)=true) ?_ (List.pairwise_mergeSort tr tot l) (List.pairwise_mergeSort tr tot m) ((List.mergeSort_perm l _).trans (h.trans (List.mergeSort_perm m _).symm))
 intro a b _ _ h1 h2
 simp only [Bool.not_eq_true',dw] at h1 h2
 exact Prod.ext (by omega) (by omega)
section
variable {base:World}
set_option maxHeartbeats 2000000
theorem w8 {ks:List (Int × Int)} {b:Nat} {es:Array MapEntry} {clock:Nat} (hm:ma ks b es clock base) (hlen:ks.length≤1000000) {H:av} (hH:∀o∈H,o9 o=false) :
  bR Tryz.prog base 93 [.fn (.func 95) [] [.rp [PD.v (.map (some b))]]] H fun r H'=>∃pre G,pre.Perm ks∧r = .ms H.length 0 pre.length∧H'=H ++ .row 63 2 0 (isK pre)::G:=by
 refine b9 af Tryz.call93 Tryz.func93 rfl fun hB hb hF => ?_
 rw [Tryz.results93,Tryz.ntmps93]
 simp only [aA,List.length_cons,List.length_nil,List.replicate,List.cons_append,List.nil_append,Nat.reduceAdd,Nat.reduceSub]
 repeat refine ag ?_
 refine dQ af (by kernel_rfl) ?_
 repeat (first | refine ej rfl rfl (by simp only [avs,tts,seval]<;>(first | with_reducible rfl | rfl)) (by simp only [ba.eq_def,bx,bw]<;>with_reducible rfl) ?_ | refine ei rfl rfl (by simp only [avs,tts,seval]<;>(first | with_reducible rfl | rfl)) rfl (by simp only [avs,tts,seval]<;>(first | with_reducible rfl | rfl)) (by simp only [ba.eq_def,bx,bw]<;>with_reducible rfl) ?_ | refine eV rfl (by simp only [avs,tts,seval]<;>(first | with_reducible rfl | rfl)) rfl (by simp only [ba.eq_def,bx,bw]<;>with_reducible rfl) ?_)
 refine ae ?_
 repeat refine ag ?_
 refine dQ af (by kernel_rfl) ?_
 repeat (first | refine ej rfl rfl (by simp only [avs,tts,seval]<;>(first | with_reducible rfl | rfl)) (by simp only [ba.eq_def,bx,bw]<;>with_reducible rfl) ?_ | refine ei rfl rfl (by simp only [avs,tts,seval]<;>(first | with_reducible rfl | rfl)) rfl (by simp only [avs,tts,seval]<;>(first | with_reducible rfl | rfl)) (by simp only [ba.eq_def,bx,bw]<;>with_reducible rfl) ?_ | refine eV rfl (by simp only [avs,tts,seval]<;>(first | with_reducible rfl | rfl)) rfl (by simp only [ba.eq_def,bx,bw]<;>with_reducible rfl) ?_)
 refine bZ rfl (by simp only [avs]<;>rfl) (⟨_,uk hm hlen hH,?_⟩)
 rintro r H' ⟨pre,G,hp,rfl,rfl⟩ hle
 repeat (first | refine ej rfl rfl (by simp only [avs,tts,seval]<;>(first | with_reducible rfl | rfl)) (by simp only [ba.eq_def,bx,bw]<;>with_reducible rfl) ?_ | refine ei rfl rfl (by simp only [avs,tts,seval]<;>(first | with_reducible rfl | rfl)) rfl (by simp only [avs,tts,seval]<;>(first | with_reducible rfl | rfl)) (by simp only [ba.eq_def,bx,bw]<;>with_reducible rfl) ?_ | refine eV rfl (by simp only [avs,tts,seval]<;>(first | with_reducible rfl | rfl)) rfl (by simp only [ba.eq_def,bx,bw]<;>with_reducible rfl) ?_)
 refine ae ?_
 repeat' (first | (refine aa ?_;first | (refine sW rfl (by simp only [avs]<;>rfl) (by rfl) ?_;first | refine ah ?_ | refine vh (by simp only [avs]<;>rfl) ?_ | (refine pa (by simp only [avs]<;>rfl) ?_ ?_<;>intro hb<;>((try simp only [Bool.not_eq_true',Bool.not_eq_false',Bool.not_eq_true,Bool.not_eq_false,Bool.not_not,Bool.not_true,Bool.not_false] at hb);first | subst hb | simp only [hb]))) | (apply ai;rfl;simp only [aj,avs,tts,seval]<;>(first | with_reducible rfl | rfl))) | refine ae ?_ | (refine ak ?_;first | (refine pE rfl (by simp only [avs]<;>rfl) (by rfl) ?_;first | refine ar ?_ | refine rX (by simp only [avs]<;>rfl) ?_ | (refine nC (by simp only [avs]<;>rfl) ?_ ?_<;>intro hb<;>((try simp only [Bool.not_eq_true',Bool.not_eq_false',Bool.not_eq_true,Bool.not_eq_false,Bool.not_not,Bool.not_true,Bool.not_false] at hb);first | subst hb | simp only [hb]))) | (apply au;rfl;simp only [aB,avs,tts,seval]<;>(first | with_reducible rfl | rfl);first | trivial | omega)) | refine al ?_ | refine ag ?_ | refine dQ af (by kernel_rfl) ?_  | refine gx 0 af mixed (by kernel_rfl) (by kernel_rfl) (by kernel_rfl) (by rfl) ?_ | refine gx 1 af mixed (by kernel_rfl) (by kernel_rfl) (by kernel_rfl) (by rfl) ?_ | refine gx 2 af mixed (by kernel_rfl) (by kernel_rfl) (by kernel_rfl) (by rfl) ?_ | refine gx 3 af mixed (by kernel_rfl) (by kernel_rfl) (by kernel_rfl) (by rfl) ?_ | refine am rfl rfl (fun hb=>absurd hb (by decide)) fun _ => ?_ | refine am rfl rfl (fun _ => ?_) fun hb=>absurd hb (by decide) | (refine am rfl rfl ?_ ?_<;>intro hb<;>((try simp only [Bool.not_eq_true',Bool.not_eq_false',Bool.not_eq_true,Bool.not_eq_false,Bool.not_not,Bool.not_true,Bool.not_false] at hb);first | subst hb | simp only [hb])) | refine ap ?_ | refine aq ?_ | refine an ?_)
 exact aw ⟨_,rfl,pre,G,hp,rfl,rfl⟩
theorem xO {ks:List (Int × Int)} {b:Nat} {es:Array MapEntry} {clock:Nat} (hm:ma ks b es clock base) (hlen:ks.length≤1000000) {H:av} (hH:∀o∈H,o9 o=false) :
  bR Tryz.prog base 64 [.fn (.func 95) [] [.rp [PD.v (.map (some b))]],.fn (.func 66) [] []] H fun r H'=>∃G,r = .ms H.length 0 ks.length∧H'=H ++ .row 63 2 0 (isK (aT ks))::G:=by
 refine b9 af Tryz.call64 Tryz.func64 rfl fun hB hb hF => ?_
 rw [Tryz.results64,Tryz.ntmps64]
 simp only [aA,List.length_cons,List.length_nil,List.replicate,List.cons_append,List.nil_append,Nat.reduceAdd,Nat.reduceSub]
 repeat refine ag ?_
 refine dQ af (by kernel_rfl) ?_
 repeat (first | refine ej rfl rfl (by simp only [avs,tts,seval]<;>(first | with_reducible rfl | rfl)) (by simp only [ba.eq_def,bx,bw]<;>with_reducible rfl) ?_ | refine ei rfl rfl (by simp only [avs,tts,seval]<;>(first | with_reducible rfl | rfl)) rfl (by simp only [avs,tts,seval]<;>(first | with_reducible rfl | rfl)) (by simp only [ba.eq_def,bx,bw]<;>with_reducible rfl) ?_ | refine eV rfl (by simp only [avs,tts,seval]<;>(first | with_reducible rfl | rfl)) rfl (by simp only [ba.eq_def,bx,bw]<;>with_reducible rfl) ?_)
 refine ae ?_
 repeat refine ag ?_
 refine dQ af (by kernel_rfl) ?_
 repeat (first | refine ej rfl rfl (by simp only [avs,tts,seval]<;>(first | with_reducible rfl | rfl)) (by simp only [ba.eq_def,bx,bw]<;>with_reducible rfl) ?_ | refine ei rfl rfl (by simp only [avs,tts,seval]<;>(first | with_reducible rfl | rfl)) rfl (by simp only [avs,tts,seval]<;>(first | with_reducible rfl | rfl)) (by simp only [ba.eq_def,bx,bw]<;>with_reducible rfl) ?_ | refine eV rfl (by simp only [avs,tts,seval]<;>(first | with_reducible rfl | rfl)) rfl (by simp only [ba.eq_def,bx,bw]<;>with_reducible rfl) ?_)
 refine bZ rfl (by simp only [avs]<;>rfl) (⟨_,w8 hm hlen hH,?_⟩)
 rintro r H' ⟨pre,G,hp,rfl,rfl⟩ hle
 have hpl:=hp.length_eq
 repeat (first | refine ej rfl rfl (by simp only [avs,tts,seval]<;>(first | with_reducible rfl | rfl)) (by simp only [ba.eq_def,bx,bw]<;>with_reducible rfl) ?_ | refine ei rfl rfl (by simp only [avs,tts,seval]<;>(first | with_reducible rfl | rfl)) rfl (by simp only [avs,tts,seval]<;>(first | with_reducible rfl | rfl)) (by simp only [ba.eq_def,bx,bw]<;>with_reducible rfl) ?_ | refine eV rfl (by simp only [avs,tts,seval]<;>(first | with_reducible rfl | rfl)) rfl (by simp only [ba.eq_def,bx,bw]<;>with_reducible rfl) ?_)
 refine ae ?_
 repeat refine ag ?_
 refine dQ af (by kernel_rfl) ?_
 repeat (first | refine ej rfl rfl (by simp only [avs,tts,seval]<;>(first | with_reducible rfl | rfl)) (by simp only [ba.eq_def,bx,bw]<;>with_reducible rfl) ?_ | refine ei rfl rfl (by simp only [avs,tts,seval]<;>(first | with_reducible rfl | rfl)) rfl (by simp only [avs,tts,seval]<;>(first | with_reducible rfl | rfl)) (by simp only [ba.eq_def,bx,bw]<;>with_reducible rfl) ?_ | refine eV rfl (by simp only [avs,tts,seval]<;>(first | with_reducible rfl | rfl)) rfl (by simp only [ba.eq_def,bx,bw]<;>with_reducible rfl) ?_)
 refine bZ rfl (by simp only [avs]<;>rfl) (⟨_,xN (ty:=63) (ver:=0) (ps:=pre) (by simp) rfl (by omega),?_⟩)
 rintro r H' ⟨rfl,hH'⟩ hle2
 have hset:H'=H ++ .row 63 2 0 (isK (aT pre))::G:=by rw [hH'];simp
 subst hset
 clear hH'
 have hsk:aT pre=aT ks:=ew hp
 rw [hsk,hpl]
 repeat (first | refine ej rfl rfl (by simp only [avs,tts,seval]<;>(first | with_reducible rfl | rfl)) (by simp only [ba.eq_def,bx,bw]<;>with_reducible rfl) ?_ | refine ei rfl rfl (by simp only [avs,tts,seval]<;>(first | with_reducible rfl | rfl)) rfl (by simp only [avs,tts,seval]<;>(first | with_reducible rfl | rfl)) (by simp only [ba.eq_def,bx,bw]<;>with_reducible rfl) ?_ | refine eV rfl (by simp only [avs,tts,seval]<;>(first | with_reducible rfl | rfl)) rfl (by simp only [ba.eq_def,bx,bw]<;>with_reducible rfl) ?_)
 refine ae ?_
 repeat refine ag ?_
 refine dQ af (by kernel_rfl) ?_
 repeat (first | refine ej rfl rfl (by simp only [avs,tts,seval]<;>(first | with_reducible rfl | rfl)) (by simp only [ba.eq_def,bx,bw]<;>with_reducible rfl) ?_ | refine ei rfl rfl (by simp only [avs,tts,seval]<;>(first | with_reducible rfl | rfl)) rfl (by simp only [avs,tts,seval]<;>(first | with_reducible rfl | rfl)) (by simp only [ba.eq_def,bx,bw]<;>with_reducible rfl) ?_ | refine eV rfl (by simp only [avs,tts,seval]<;>(first | with_reducible rfl | rfl)) rfl (by simp only [ba.eq_def,bx,bw]<;>with_reducible rfl) ?_)
 refine ae ?_
 exact aw ⟨_,rfl,G,rfl,rfl⟩
end
end Av
end Go.Proofs.YtdekcppfpgeneaaGreatDoor
namespace Go.Proofs.YtdekcppfpgeneaaGreatDoor
open Go Go.RowKit
namespace Rg
open Av Nt
section
variable {κ:Type} [DecidableEq κ] {enc:κ→Value}
theorem nf {ks:List κ} (hn:ks.Nodup) (f:κ→AV) {k:κ} {i:Nat} (h2:ks[i]?=some k) (v:AV):(mpE enc ks f).modify i (fun p=>(p.1,v))=mpE enc ks (g9 f k v):=by
 unfold mpE
 apply List.ext_getElem?
 intro j
 rw [List.getElem?_modify,List.getElem?_map,List.getElem?_map]
 cases hj:ks[j]? with
 | none=>by_cases e:i=j<;>simp [e]
 | some x =>
  by_cases e:i=j
  ·subst e
   rw [h2] at hj
   cases hj
   simp [g9]
  ·have hx:x≠k:=fun ex=>by
    subst ex
    obtain ⟨l1,g1⟩:=List.getElem?_eq_some_iff.1 h2
    obtain ⟨l2,g2⟩:=List.getElem?_eq_some_iff.1 hj
    have hp:=List.pairwise_iff_getElem.1 hn
    rcases Nat.lt_or_gt_of_ne e with h | h
    ·exact hp i j l1 l2 h (g1.trans g2.symm)
    ·exact hp j i l2 l1 h (g2.trans g1.symm)
   simp [e,g9,hx]
theorem w6 (hk:∀a b,keyEq (enc a) (enc b)=decide (a=b)) {ks:List κ} (hn:ks.Nodup) (f:κ→AV) (k:κ) {z:AV} (hz:¬k∈ks→f k=z) :
  ∃j,tX (mpE enc ks f) (enc k)=j∧nj (mpE enc ks f) (enc k) z=mpE enc (cD ks k) f∧j<(cD ks k).length∧j≤ks.length∧∀v,(mpE enc (cD ks k) f).modify j (fun p=>(p.1,v))=mpE enc (cD ks k) (g9 f k v):=by
 by_cases h:k∈ks
 ·obtain ⟨i,h1,h2⟩:=nh hk (f:=f) h
  have hi:=(List.getElem?_eq_some_iff.1 h2).1
  refine ⟨i,by rw [tX,h1];rfl,by rw [nj,h1,cD,if_pos h],by rw [cD,if_pos h];exact hi,by omega,fun v => ?_⟩
  rw [cD,if_pos h]
  exact nf hn f h2 v
 ·have h1:=kM hk (f:=f) h
  refine ⟨ks.length,by rw [tX,h1];simp [mpE],?_,by rw [cD,if_neg h];simp,Nat.le_refl _,fun v => ?_⟩
  ·rw [nj,h1,cD,if_neg h]
   simp [mpE,hz h]
  ·refine nf (dJ hn k) f ?_ v
   rw [cD,if_neg h];simp
end
abbrev KSt:=List (Int × Int) × ((Int × Int)→Int)
def kh (s:KSt) (k:Int × Int) (v:Int):KSt:=(cD s.1 k,fun x=>if x=k then s.2 k+v else s.2 x)
structure KOk (s:KSt) (M:Int):Prop where
 nd:s.1.Nodup
 out:∀k,¬k∈s.1→s.2 k=0
 lo:∀k,0≤s.2 k
 hi:∀k,s.2 k≤M
def kV (s:KSt) (k:Int × Int):AV := .d (.v (.int .i64 (s.2 k)))
def kE (s:KSt):List (Value × AV):=mpE Rg.encK s.1 (kV s)
theorem By {s:KSt} {M:Int} (h:KOk s M) (k:Int × Int) {v d:Int} (h0:0≤v) (h1:v≤d):KOk (kh s k v) (M+d):=by
 refine ⟨dJ h.nd k,fun x hx => ?_,fun x => ?_,fun x => ?_⟩
 ·have h1:x≠k:=fun e=>hx (fb.2 (.inr e))
  have h2:¬x∈s.1:=fun e=>hx (fb.2 (.inl e))
  simp [kh,h1,h.out x h2]
 ·have a:=h.lo x;have b:=h.lo k
  simp only [kh];split<;>omega
 ·have a:=h.hi x;have b:=h.hi k
  simp only [kh];split<;>omega
theorem An (s:KSt) (k:Int × Int) (v:Int):(kh s k v).1.length≤s.1.length+1:=by
 simp only [kh,cD];split<;>simp
theorem Bz (s:KSt) (k:Int × Int) (v:Int):mpE Rg.encK (cD s.1 k) (g9 (kV s) k (.d (.v (.int .i64 (s.2 k+v)))))=kE (kh s k v):=by
 unfold kE
 congr 1
 funext x
 simp only [g9,kV,kh]
 split<;>rfl
end Rg
namespace Av
attribute [local irreducible] AW aL aH
open Nt Rg
def cQ (ix:ByteArray→Int) (company:ByteArray) (pc:Int) (n:Nat) (s:KSt) (x:ByteArray):KSt:=if pc>0∧x≠company then kh s (ix company,ix x) ((pc * 60).tdiv n) else s
def fE (ix:ByteArray→Int) (company:ByteArray) (pc:Int) (who:List ByteArray) (s:KSt):KSt:=who.foldl (cQ ix company pc who.length) s
theorem Cz {pc:Int} (h0:0≤pc) (h1:pc≤100) {n:Nat} (hn:0<n):0≤(pc * 60).tdiv n∧(pc * 60).tdiv n≤6000:=by
 have e:(pc * 60).tdiv (n:Int)=(pc * 60) / (n:Int):=Int.tdiv_eq_ediv_of_nonneg (by omega)
 rw [e]
 refine ⟨Int.ediv_nonneg (by omega) (by omega),?_⟩
 have h:=Int.ediv_le_self (a:=pc * 60) (n:Int) (by omega)
 omega
theorem mP {ix:ByteArray→Int} {company x:ByteArray} {pc:Int} (h0:0≤pc) (h1:pc≤100) {n:Nat} (hn:0<n) {s:KSt} {M:Int} (h:KOk s M):KOk (cQ ix company pc n s x) (M+6000):=by
 unfold cQ
 split
 ·exact By h _ (Cz h0 h1 hn).1 (Cz h0 h1 hn).2
 ·exact ⟨h.nd,h.out,h.lo,fun k=>by have:=h.hi k;omega⟩
theorem oN (ix:ByteArray→Int) (company x:ByteArray) (pc:Int) (n:Nat) (s:KSt):(cQ ix company pc n s x).1.length≤s.1.length+1:=by
 unfold cQ
 split
 ·exact An ..
 ·omega
section
variable {base:World}
set_option maxRecDepth 100000 in
set_option maxHeartbeats 16000000 in
theorem uE {H:av} {lm lc ls:Nat} (ix:ByteArray→Int) (company:ByteArray) (pc:Int) (who:List ByteArray) (s:KSt) (M:Int)
  (hlm:H[lm]?=some (.mp 63 3 (.flat [.int .i64,.int .i64]) (kE s))) (hlc:H[lc]?=some (.box 61 [.fn (.func 34) [] [.ptr ls 0]])) (hne:lc≠lm) (hne2:ls≠lm) (hok:KOk s M) (hM:M+6000 * who.length≤1000000000000000) (hks:s.1.length+who.length≤1000000000)
  (hlsl:ls<H.length) (hpl:∀x,(x=company∨x∈who)→∀K:av,K[ls]?=H[ls]?→da Tryz.prog base 34 [tA x,.ptr ls 0] K (iA (ix x)))
  (hpc0:0≤pc) (hpc1:pc≤100) (hm1:who.length≤1000000) :
  bR Tryz.prog base 36 [.mp lm,tA company,iA pc,.d (bq who),.ptr lc 0] H fun r H'=>H'=H.set lm (.mp 63 3 (.flat [.int .i64,.int .i64]) (kE (fE ix company pc who s))):=by
 refine b9 af Tryz.call36 Tryz.func36 rfl fun hB hb hF => ?_
 rw [Tryz.results36,Tryz.ntmps36]
 simp only [aA,List.length_cons,List.length_nil,List.replicate,List.cons_append,List.nil_append,Nat.reduceAdd,Nat.reduceSub]
 clear hF hb
 have hll:=aF hlm
 have hln:(who.map fun s=>[PD.v (.string s)]).length=who.length:=by simp
 simp only [tA,iA,bq]
 repeat' (first | (refine aa ?_;first | (refine zg rfl ?_;first | refine ah ?_ | refine zo ?_ | (refine zs ?_ ?_<;>intro hb<;>((try simp only [bn] at hb);first | subst hb | simp only [hb]))) | (apply ai;rfl;simp only [aj,avs,tts,seval,hln]<;>exact rr)) | refine ae ?_ | (refine ak ?_;first | (refine yg rfl ?_;first | refine ar ?_ | refine yo ?_ | (refine ys ?_ ?_<;>intro hb<;>((try simp only [bn] at hb);first | subst hb | simp only [hb]))) | (apply au;rfl;simp only [aB,avs,tts,seval,hln]<;>exact rr;first | trivial | omega)) | refine al ?_ | refine ag ?_ | refine zr af ?_ | refine zR 0 af mixed ?_ | refine zR 1 af mixed ?_ | refine zR 2 af mixed ?_ | refine zR 3 af mixed ?_ | refine zf rfl rfl ?_ | refine zt rfl rfl ?_ | (refine am rfl rfl ?_ ?_<;>intro hb<;>((try simp only [bn] at hb);first | subst hb | simp only [hb])) | refine ap ?_ | refine aq ?_ | refine an ?_)
 refine aZ (H0:=H.set lm (.mp 63 3 (.flat [.int .i64,.int .i64]) (kE s))) (fun n env K=>∃k st,n=who.length - k∧k≤who.length∧st=(who.take k).foldl (cQ ix company pc who.length) s∧KOk st (M+6000 * k)∧st.1.length≤s.1.length+k∧K=H.set lm (.mp 63 3 (.flat [.int .i64,.int .i64]) (kE st))∧env=(.mp lm :: .d (.v (.string company)) :: .d (.v (.int .i64 pc)) :: .d (.sl 1 (who.map fun s=>[PD.v (.string s)])) :: .ptr lc 0 :: .undef :: .undef :: .undef :: .undef :: .undef :: .undef :: .d (.sl 1 (who.map fun s=>[PD.v (.string s)])) :: .d (.v (.int .i64 (who.length:Int))) :: .d (.v (.int .i64 (k:Int)))::List.replicate 28 .undef)) ?_ ⟨0,s,rfl,Nat.zero_le _,rfl,⟨hok.nd,hok.out,hok.lo,fun k=>by have:=hok.hi k;omega⟩,by omega,rfl,rfl⟩ ?_
 ·refine ⟨by simp [aJ,List.replicate],.inl ?_⟩
  exact (xW hlm).symm
 rintro n env K ⟨k,st,rfl,hk,hst,hkok,hlen,rfl,rfl⟩ hN
 simp only [rp]
 obtain ⟨c0,g0⟩:∃c0,decide ((k:Int)<(who.length:Int))=c0:=⟨_,rfl⟩
 repeat refine ag ?_
 refine zr af ?_
 repeat (refine aa ?_;first | (apply ai;rfl;simp only [aj,avs,tts,seval,g0]<;>exact rr) | (refine zg rfl ?_;first | refine ah ?_ | refine zo ?_))
 refine ae ?_
 cases c0 with
 | false =>
  have hkl:k=who.length:=by
                  have:¬k<who.length:=by simpa using g0
                  omega
  rw [hkl,List.take_length] at hst
  repeat' (first | (refine aa ?_;first | (refine zg rfl ?_;first | refine ah ?_ | refine zo ?_ | (refine zs ?_ ?_<;>intro hb<;>((try simp only [bn] at hb);first | subst hb | simp only [hb]))) | (apply ai;rfl;simp only [aj,avs,tts,seval]<;>exact rr)) | refine ae ?_ | (refine ak ?_;first | (refine yg rfl ?_;first | refine ar ?_ | refine yo ?_ | (refine ys ?_ ?_<;>intro hb<;>((try simp only [bn] at hb);first | subst hb | simp only [hb]))) | (apply au;rfl;simp only [aB,avs,tts,seval]<;>exact rr;first | trivial | omega)) | refine al ?_ | refine ag ?_ | refine zr af ?_ | refine zR 0 af mixed ?_ | refine zR 1 af mixed ?_ | refine zR 2 af mixed ?_ | refine zR 3 af mixed ?_ | refine zf rfl rfl ?_ | refine zt rfl rfl ?_ | (refine am rfl rfl ?_ ?_<;>intro hb<;>((try simp only [bn] at hb);first | subst hb | simp only [hb])) | refine ap ?_ | refine aq ?_ | refine an ?_)
  refine ⟨_,(by simp only [bk,cN,er,avs,tts]<;>rfl),?_⟩
  rw [hst];rfl
 | true =>
  have hlt:k<who.length:=by simpa using g0
  have hix:(0:Int)≤(k:Int):=by omega
  have hgd:=cI hlt
  have w1:IntKind.i64.wrap ((k:Int)+1)=((k+1:Nat):Int):=aP hlt (by omega)
  have hpn:=hpl who[k] (.inr (List.getElem_mem hlt))
  have hpc:=hpl company (.inl rfl)
  have hnext:(who.take (k+1)).foldl (cQ ix company pc who.length) s=cQ ix company pc who.length st who[k]:=by
   rw [List.take_add_one,List.getElem?_eq_getElem hlt,List.foldl_append,←hst];rfl
  have hok2:=mP (ix:=ix) (company:=company) (x:=who[k]) hpc0 hpc1 (n:=who.length) (by omega) hkok
  have hlen2:=oN ix company who[k] pc who.length st
  generalize who[k]=x at hgd hpn hnext hok2 hlen2
  obtain ⟨K,hK⟩:∃K,K=H.set lm (.mp 63 3 (.flat [.int .i64,.int .i64]) (kE st)):=⟨_,rfl⟩
  have hKm:K[lm]?=some (.mp 63 3 (.flat [.int .i64,.int .i64]) (kE st)):=by rw [hK];exact aE hll
  have hKc:K[lc]?=some (.box 61 [.fn (.func 34) [] [.ptr ls 0]]):=by rw [hK,aV hne];exact hlc
  have hKs:K[ls]?=H[ls]?:=by rw [hK,aV hne2]
  have hKset:∀o,K.set lm o=H.set lm o:=fun o=>by rw [hK,List.set_set]
  rw [←hK]
  have hKl:K.length=H.length:=by rw [hK];simp
  obtain ⟨b1,hb1⟩:∃b,decide (pc>0)=b:=⟨_,rfl⟩
  obtain ⟨b2,hb2⟩:∃b,decide (x=company)=b:=⟨_,rfl⟩
  cases b1 with
  | false =>
   have aB:cQ ix company pc who.length st x=st:=by
    unfold cQ
    rw [if_neg fun h=>absurd h.1 (of_decide_eq_false hb1)]
   rw [aB] at hnext
   repeat' (first | (refine aa ?_;first | (refine zg rfl ?_;first | refine ah ?_ | refine zo ?_ | (refine zs ?_ ?_<;>intro hb<;>((try simp only [bn] at hb);first | subst hb | simp only [hb]))) | (apply ai;rfl;simp only [aj,avs,tts,seval,hix,hlt,hgd,hln,hb1,hb2,w1]<;>exact rr)) | refine ae ?_ | (refine ak ?_;first | (refine yg rfl ?_;first | refine ar ?_ | refine yo ?_ | (refine ys ?_ ?_<;>intro hb<;>((try simp only [bn] at hb);first | subst hb | simp only [hb]))) | (apply au;rfl;simp only [aB,avs,tts,seval,hix,hlt,hgd,hln,hb1,hb2,w1]<;>exact rr;first | trivial | omega)) | refine al ?_ | refine ag ?_ | refine zr af ?_ | refine zR 0 af mixed ?_ | refine zR 1 af mixed ?_ | refine zR 2 af mixed ?_ | refine zR 3 af mixed ?_ | refine zf rfl rfl ?_ | refine zt rfl rfl ?_ | (refine am rfl rfl ?_ ?_<;>intro hb<;>((try simp only [bn] at hb);first | subst hb | simp only [hb])) | refine ap ?_ | refine aq ?_ | refine an ?_)
   refine ⟨who.length - (k+1),_,_,by omega,⟨?_,.inl rfl⟩,k+1,_,rfl,hlt,rfl,?_,?_,?_,rfl⟩
   ·simp [aJ,List.replicate]
   ·rw [hnext]
    refine ⟨hkok.nd,hkok.out,hkok.lo,fun y => ?_⟩
    have:=hkok.hi y
    omega
   ·rw [hnext];omega
   ·rw [hnext,hK]
  | true =>
   cases b2 with
   | true =>
    have aB:cQ ix company pc who.length st x=st:=by
     unfold cQ
     rw [if_neg fun h=>h.2 (of_decide_eq_true hb2)]
    rw [aB] at hnext
    repeat' (first | (refine aa ?_;first | (refine zg rfl ?_;first | refine ah ?_ | refine zo ?_ | (refine zs ?_ ?_<;>intro hb<;>((try simp only [bn] at hb);first | subst hb | simp only [hb]))) | (apply ai;rfl;simp only [aj,avs,tts,seval,hix,hlt,hgd,hln,hb1,hb2,w1,Bool.not_true]<;>exact rr)) | refine ae ?_ | (refine ak ?_;first | (refine yg rfl ?_;first | refine ar ?_ | refine yo ?_ | (refine ys ?_ ?_<;>intro hb<;>((try simp only [bn] at hb);first | subst hb | simp only [hb]))) | (apply au;rfl;simp only [aB,avs,tts,seval,hix,hlt,hgd,hln,hb1,hb2,w1,Bool.not_true]<;>exact rr;first | trivial | omega)) | refine al ?_ | refine ag ?_ | refine zr af ?_ | refine zR 0 af mixed ?_ | refine zR 1 af mixed ?_ | refine zR 2 af mixed ?_ | refine zR 3 af mixed ?_ | refine zf rfl rfl ?_ | refine zt rfl rfl ?_ | (refine am rfl rfl ?_ ?_<;>intro hb<;>((try simp only [bn] at hb);first | subst hb | simp only [hb])) | refine ap ?_ | refine aq ?_ | refine an ?_)
    refine ⟨who.length - (k+1),_,_,by omega,⟨?_,.inl rfl⟩,k+1,_,rfl,hlt,rfl,?_,?_,?_,rfl⟩
    ·simp [aJ,List.replicate]
    ·rw [hnext]
     refine ⟨hkok.nd,hkok.out,hkok.lo,fun y => ?_⟩
     have:=hkok.hi y
     omega
    ·rw [hnext];omega
    ·rw [hnext,hK]
   | false =>
    repeat refine ag ?_
    refine am rfl rfl (fun hb => ?_) fun hb => ?_
    rotate_left
    ·cases hb
    refine ap ?_
    repeat refine ag ?_
    refine an ?_
    repeat refine ag ?_
    refine zr af ?_
    repeat (refine aa ?_;first | (apply ai;rfl;simp only [aj,avs,tts,seval,hix,hlt,hgd,hln]<;>exact rr) | (refine zg rfl ?_;first | refine ah ?_ | refine zo ?_))
    refine ae ?_
    repeat refine ag ?_
    refine zr af ?_
    repeat (refine aa ?_;first | (apply ai;rfl;simp only [aj,avs,tts,seval,hb1,hb2,Bool.not_false,Bool.not_true]<;>exact rr) | (refine zg rfl ?_;first | refine ah ?_ | refine zo ?_))
    refine ae ?_
    repeat refine ag ?_
    refine am rfl rfl (fun hb => ?_) fun hb => ?_
    rotate_left
    ·cases hb
    obtain ⟨ci,hci⟩:∃ci,ci=ix company:=⟨_,rfl⟩
    obtain ⟨ni,hni⟩:∃ni,ni=ix x:=⟨_,rfl⟩
    obtain ⟨u,hu⟩:∃u,u=st.2 (ci,ni):=⟨_,rfl⟩
    obtain ⟨q,hq⟩:∃q,q=(pc * 60).tdiv who.length:=⟨_,rfl⟩
    obtain ⟨j,hj1,hj2,hj3,hj4,hj5⟩:=w6 rR hkok.nd (kV st) (ci,ni) (z := .d (.v (.int .i64 0))) (fun h=>by simp [kV,hkok.out _ h])
    rw [←hci] at hpc
    rw [←hni] at hpn
    simp only [tA,iA] at hpc hpn
    obtain ⟨K1,hK1⟩:∃K1,K1=K.set lm (.mp 63 3 (.flat [.int .i64,.int .i64]) (mpE Rg.encK (cD st.1 (ci,ni)) (kV st))):=⟨_,rfl⟩
    obtain ⟨K2,hK2⟩:∃K2,K2=K.set lm (.mp 63 3 (.flat [.int .i64,.int .i64]) (kE (kh st (ci,ni) q))):=⟨_,rfl⟩
    have hKll:lm<K.length:=aF hKm
    have q1:tX (kE st) (.agg #[.int .i64 ci,.int .i64 ni])=j:=hj1
    have q2:nj (kE st) (.agg #[.int .i64 ci,.int .i64 ni]) (.d (.v (.int .i64 0)))=mpE Rg.encK (cD st.1 (ci,ni)) (kV st):=hj2
    have q3:(io (kE st) (.agg #[.int .i64 ci,.int .i64 ni])).getD (.d (.v (.int .i64 0))) = .d (.v (.int .i64 u)):=by
     have huv:kV st (ci,ni) = .d (.v (.int .i64 u)):=by rw [hu];rfl
     rw [←huv];exact fY rR (k:=(ci,ni)) fun h=>by rw [huv,hu,hkok.out _ h]
    have q4:((kE st).length≤9223372036854775807)=True:=eq_true (by unfold kE;rw [pX];omega)
    have hK1m:K1[lm]?=some (.mp 63 3 (.flat [.int .i64,.int .i64]) (mpE Rg.encK (cD st.1 (ci,ni)) (kV st))):=by rw [hK1];exact aE hKll
    have q5:((0:Int)≤(j:Int))=True:=eq_true (by omega)
    have q6:(j<(mpE Rg.encK (cD st.1 (ci,ni)) (kV st)).length)=True:=eq_true (by rw [pX];exact hj3)
    have q7:K1.set lm (.mp 63 3 (.flat [.int .i64,.int .i64]) ((mpE Rg.encK (cD st.1 (ci,ni)) (kV st)).modify j fun p=>(p.1,.d (.v (.int .i64 (u+q))))))=K2:=by
     rw [hj5,hu,Bz,hK1,List.set_set,hK2]
    have ksh:bo (.flat [.int .i64,.int .i64]) (.agg #[.int .i64 ci,.int .i64 ni])=true:=rfl
    have hwpos:0<who.length:=by omega
    have hqb:=Cz hpc0 hpc1 hwpos
    have hub:=hkok.hi (ci,ni)
    have hul:=hkok.lo (ci,ni)
    rw [←hu] at hub hul
    rw [←hq] at hqb
    have wm:IntKind.i64.wrap (pc * 60)=pc * 60:=by rw [IntKind.wrap_i64];omega
    have wu:IntKind.i64.wrap (u+q)=u+q:=by rw [IntKind.wrap_i64];omega
    have hwl:((who.length:Int)=0)=False:=eq_false (by omega)
    have wq:IntKind.i64.wrap ((pc * 60).tdiv (who.length:Int))=q:=by rw [←hq,IntKind.wrap_i64];omega
    refine li af mixed (by kernel_rfl) (by kernel_rfl) (fun β env KK=>(β 17=true→β 15=true)∧(β 17=true→β 8=true)∧KK=(if β 17=true then K2 else if β 15=true then K1 else K)∧env=(.mp lm :: .d (.v (.string company)) :: .d (.v (.int .i64 pc)) :: .d (.sl 1 (who.map fun s=>[PD.v (.string s)])) :: .ptr lc 0 :: .undef :: .undef :: .undef :: .undef :: .undef :: .d (.v (.string x)) :: .d (.sl 1 (who.map fun s=>[PD.v (.string s)])) :: .d (.v (.int .i64 (who.length:Int))) :: .d (.v (.int .i64 (k:Int)))::List.replicate 10 .undef++(if β 0=true then .mp lm else .undef)::(if β 1=true then .fn (.func 34) [] [.ptr ls 0] else .undef)::(if β 2=true then .d (.v (.string company)) else .undef)::(if β 3=true then .d (.v (.int .i64 ci)) else .undef)::(if β 4=true then .fn (.func 34) [] [.ptr ls 0] else .undef)::(if β 5=true then .d (.v (.string x)) else .undef)::(if β 6=true then .d (.v (.int .i64 ni)) else .undef)::(if β 7=true then .agg [.d (.v (.int .i64 ci)),.d (.v (.int .i64 ni))] else .undef)::(if β 8=true then .d (.v (.int .i64 u)) else .undef)::(if β 9=true then .d (.v (.int .i64 pc)) else .undef)::(if β 10=true then .d (.v (.int .i64 (pc * 60))) else .undef)::(if β 11=true then .d (.sl 1 (who.map fun s=>[PD.v (.string s)])) else .undef)::(if β 12=true then .d (.v (.int .i64 (who.length:Int))) else .undef)::(if β 13=true then .d (.v (.int .i64 q)) else .undef)::(if β 14=true then .d (.v (.int .i64 (u+q))) else .undef)::(if β 15=true then .tup [.d (.v (.int .i64 u)),.d (.v (.int .i64 (j:Int)))] else .undef)::(if β 16=true then .d (.v (.int .i64 (j:Int))) else .undef) :: .undef::[])) (H0:=K) (env0:=(.mp lm :: .d (.v (.string company)) :: .d (.v (.int .i64 pc)) :: .d (.sl 1 (who.map fun s=>[PD.v (.string s)])) :: .ptr lc 0 :: .undef :: .undef :: .undef :: .undef :: .undef :: .d (.v (.string x)) :: .d (.sl 1 (who.map fun s=>[PD.v (.string s)])) :: .d (.v (.int .i64 (who.length:Int))) :: .d (.v (.int .i64 (k:Int)))::List.replicate 28 .undef)) ⟨by simp [aJ,List.replicate],.inl rfl⟩ ⟨by simp,by simp,by simp,by simp⟩ ?_ ?_
    ·rintro β env KK ⟨h1715,h178,hKK,rfl⟩ hN2 i o hget hβ hr
     simp only [rp]
     simp only [aA] at hget
     have hKKc:KK[lc]?=some (.box 61 [.fn (.func 34) [] [.ptr ls 0]]):=by
      rw [hKK];split
      ·rw [hK2,aV hne];exact hKc
      ·split
       ·rw [hK1,aV hne];exact hKc
       ·exact hKc
     have hKKs:KK[ls]?=H[ls]?:=by
      rw [hKK];split
      ·rw [hK2,aV hne2];exact hKs
      ·split
       ·rw [hK1,aV hne2];exact hKs
       ·exact hKs
     have hKKm:β 17=false→∃es,KK[lm]?=some (.mp 63 3 (.flat [.int .i64,.int .i64]) es)∧(io es (.agg #[.int .i64 ci,.int .i64 ni])).getD (.d (.v (.int .i64 0))) = .d (.v (.int .i64 u)):=fun h17=>by
      have huv:kV st (ci,ni) = .d (.v (.int .i64 u)):=by rw [hu];rfl
      rw [hKK,h17]
      cases h15:β 15 with
      | true=>exact ⟨_,by simp only [hK1,Bool.false_eq_true,if_false,if_true];exact aE hKll,by rw [←huv];exact fY rR (k:=(ci,ni)) fun h=>absurd (fb.2 (.inr rfl)) h⟩
      | false=>exact ⟨_,by simp only [Bool.false_eq_true,if_false];exact hKm,by rw [←huv];exact fY rR (k:=(ci,ni)) fun h=>by rw [huv,hu,hkok.out _ h]⟩
     rcases i with _ | _ | _ | _ | _ | _ | _ | _ | _ | _ | _ | _ | _ | _ | _ | _ | _ | _ | i
     all_goals (try simp only [nw,nv,Option.some.injEq,List.getElem?_nil,reduceCtorEq] at hget)
     all_goals (try subst hget)
     all_goals (simp [mZ,Region.binds] at hr)
     all_goals try (simp only [Nat.zero_add,Nat.reduceAdd] at hβ)
     ·simp only [be,bP,bH,avs,tts,Nat.reduceAdd,Nat.reduceSub,reduceCtorEq,hr,hKKc]
      exact ⟨by simpa using h1715,by simpa using h178,by simpa using hKK,by simp⟩
     ·simp only [be,bP,bH,avs,tts,Nat.reduceAdd,Nat.reduceSub,reduceCtorEq,hr,hKKc]
      exact ⟨by simpa using h1715,by simpa using h178,by simpa using hKK,by simp⟩
     ·simp only [be,bP,bH,avs,tts,Nat.reduceAdd,Nat.reduceSub,reduceCtorEq,hr,hKKc]
      exact ⟨by simpa using h1715,by simpa using h178,by simpa using hKK,by simp⟩
     ·simp only [be,bP,bH,avs,tts,Nat.reduceAdd,Nat.reduceSub,reduceCtorEq,hr,hKKc]
      refine ⟨_,hpc KK hKKs,?_⟩
      rintro r H' ⟨rfl,rfl⟩ _
      exact ⟨by simpa using h1715,by simpa using h178,by simpa using hKK,by simp⟩
     ·simp only [be,bP,bH,avs,tts,Nat.reduceAdd,Nat.reduceSub,reduceCtorEq,hr,hKKc]
      exact ⟨by simpa using h1715,by simpa using h178,by simpa using hKK,by simp⟩
     ·simp only [be,bP,bH,avs,tts,Nat.reduceAdd,Nat.reduceSub,reduceCtorEq,hr,hKKc]
      exact ⟨by simpa using h1715,by simpa using h178,by simpa using hKK,by simp⟩
     ·simp only [be,bP,bH,avs,tts,Nat.reduceAdd,Nat.reduceSub,reduceCtorEq,hr,hKKc]
      refine ⟨_,hpn KK hKKs,?_⟩
      rintro r H' ⟨rfl,rfl⟩ _
      exact ⟨by simpa using h1715,by simpa using h178,by simpa using hKK,by simp⟩
     ·simp only [be,bP,bH,avs,tts,Nat.reduceAdd,Nat.reduceSub,reduceCtorEq,hr,hKKc]
      exact ⟨by simpa using h1715,by simpa using h178,by simpa using hKK,by simp⟩
     ·have h17:β 17=false:=by cases h:β 17 with
       | false=>rfl
       | true=>rw [h178 h] at hβ;cases hβ
      obtain ⟨es,he1,he2⟩:=hKKm h17
      simp only [be,bP,bH,avs,tts,Nat.reduceAdd,Nat.reduceSub,reduceCtorEq,hr,hKKc,he1,he2,ksh]
      exact ⟨by simpa using h1715,by simp,by simpa using hKK,by simp⟩
     ·simp only [be,bP,bH,avs,tts,Nat.reduceAdd,Nat.reduceSub,reduceCtorEq,hr,hKKc]
      exact ⟨by simpa using h1715,by simpa using h178,by simpa using hKK,by simp⟩
     ·simp only [be,bP,bH,avs,tts,Nat.reduceAdd,Nat.reduceSub,reduceCtorEq,hr,hKKc,wm]
      exact ⟨by simpa using h1715,by simpa using h178,by simpa using hKK,by simp⟩
     ·simp only [be,bP,bH,avs,tts,Nat.reduceAdd,Nat.reduceSub,reduceCtorEq,hr,hKKc]
      exact ⟨by simpa using h1715,by simpa using h178,by simpa using hKK,by simp⟩
     ·simp only [be,bP,bH,avs,tts,Nat.reduceAdd,Nat.reduceSub,reduceCtorEq,hr,hKKc,hln]
      exact ⟨by simpa using h1715,by simpa using h178,by simpa using hKK,by simp⟩
     ·simp only [be,bP,bH,avs,tts,Nat.reduceAdd,Nat.reduceSub,reduceCtorEq,hr,hKKc,hwl,wq]
      exact ⟨by simpa using h1715,by simpa using h178,by simpa using hKK,by simp⟩
     ·simp only [be,bP,bH,avs,tts,Nat.reduceAdd,Nat.reduceSub,reduceCtorEq,hr,hKKc,wu]
      exact ⟨by simpa using h1715,by simp,by simpa using hKK,by simp⟩
     ·have h17:β 17=false:=by cases h:β 17 with
       | false=>rfl
       | true=>rw [h1715 h] at hβ;cases hβ
      have hKe:KK=K:=by rw [hKK,h17,hβ];simp
      subst hKe
      simp only [be,bP,bH,avs,tts,Nat.reduceAdd,Nat.reduceSub,reduceCtorEq,hr,hKm,ksh,q1,q2,q3,q4,hK1.symm]
      exact ⟨by simp,by simp [h17],by simp [h17],by simp⟩
     ·simp only [be,bP,bH,avs,tts,Nat.reduceAdd,Nat.reduceSub,reduceCtorEq,hr,hKKc]
      exact ⟨by simp,by simpa using h178,by simpa [hr] using hKK,by simp⟩
     ·have hKe:KK=K1:=by rw [hKK,hβ];simp [hr]
      subst hKe
      simp only [be,bP,bH,avs,tts,Nat.reduceAdd,Nat.reduceSub,reduceCtorEq,hr,hK1m,q5,q6,q7,Int.toNat_natCast,and_self,if_true]
      exact ⟨by simp,by simp,by simp,by simp⟩
    ·rintro β env KK ⟨h1715,h178,hKK,rfl⟩ hall
     have a15:=hall 15 (by decide)
     have a17:=hall 17 (by decide)
     rw [a17] at hKK
     simp only [if_true] at hKK
     subst hKK
     simp only [List.replicate,List.cons_append,List.nil_append,hall 0 (by decide),hall 1 (by decide),hall 2 (by decide),hall 3 (by decide),hall 4 (by decide),hall 5 (by decide),hall 6 (by decide),hall 7 (by decide),hall 8 (by decide),hall 9 (by decide),hall 10 (by decide),hall 11 (by decide),hall 12 (by decide),hall 13 (by decide),hall 14 (by decide),a15,hall 16 (by decide),a17,bH]
     clear hall h1715 h178
     have aB:cQ ix company pc who.length st x=kh st (ci,ni) q:=by
      unfold cQ
      rw [if_pos ⟨of_decide_eq_true hb1,of_decide_eq_false hb2⟩,←hci,←hni,←hq]
     rw [aB] at hnext hok2 hlen2
     show AW _ _ _ _ _
     repeat' (first | (refine aa ?_;first | (refine zg rfl ?_;first | refine ah ?_ | refine zo ?_ | (refine zs ?_ ?_<;>intro hb<;>((try simp only [bn] at hb);first | subst hb | simp only [hb]))) | (apply ai;rfl;simp only [aj,avs,tts,seval,w1]<;>exact rr)) | refine ae ?_ | (refine ak ?_;first | (refine yg rfl ?_;first | refine ar ?_ | refine yo ?_ | (refine ys ?_ ?_<;>intro hb<;>((try simp only [bn] at hb);first | subst hb | simp only [hb]))) | (apply au;rfl;simp only [aB,avs,tts,seval,w1]<;>exact rr;first | trivial | omega)) | refine al ?_ | refine ag ?_ | refine zr af ?_ | refine zR 0 af mixed ?_ | refine zR 1 af mixed ?_ | refine zR 2 af mixed ?_ | refine zR 3 af mixed ?_ | refine zf rfl rfl ?_ | refine zt rfl rfl ?_ | (refine am rfl rfl ?_ ?_<;>intro hb<;>((try simp only [bn] at hb);first | subst hb | simp only [hb])) | refine ap ?_ | refine aq ?_ | refine an ?_)
     refine ⟨who.length - (k+1),_,_,by omega,⟨?_,.inl rfl⟩,k+1,_,rfl,hlt,rfl,?_,?_,?_,rfl⟩
     ·simp [aJ,List.replicate]
     ·rw [hnext]
      refine ⟨hok2.nd,hok2.out,hok2.lo,fun y => ?_⟩
      have:=hok2.hi y
      omega
     ·rw [hnext];omega
     ·rw [hnext,hK2,hKset]
end
end Av
end Go.Proofs.YtdekcppfpgeneaaGreatDoor
namespace Go.Proofs.YtdekcppfpgeneaaGreatDoor
open Go Go.RowKit
namespace Av
attribute [local irreducible] AW aL aH
open Nt Rg
def prP (p:Int × Int):List PD:=[.v (.int .i64 p.1),.v (.int .i64 p.2)]
def AQ (ps:List (Int × Int)):PD := .sl 2 (ps.map prP)
theorem xV (w:World):Sim w ⟨fun _=>none,[],w⟩:=⟨Below.refl _ w,fun l o h=>by simp at h,fun l l' o o' b h=>by simp at h⟩
theorem vV {base:World} {H:av} {l lb tb kt et:Nat} {ks0:KS} (s0:KSt) (hl:H[l]?=some (.mp kt et ks0 (kE s0))) (hlb:H[lb]?=some (.box tb [.mp l])) (hnd:s0.1.Nodup) (hok:∀p∈s0.1,okK p) (hlen:s0.1.length≤1000000) :
  da Tryz.prog base 64 [.fn (.func 95) [] [.ptr lb 0],.fn (.func 66) [] []] H (.d (AQ (aT s0.1))) :=
 lC Tryz.call64 fun s vs hH hs ha=>by
  subst hH
  simp only [ax,Rep,cE,hlb] at ha
  obtain ⟨v,t,e1,⟨a,c,rfl,ha1,pv,pt,hc1,⟨_,bb,hμb,rfl⟩,rfl⟩,v2,t2,rfl,⟨a2,c2,rfl,ha2,hc2⟩,rfl⟩:=ha
  have ea:a = #[]:=Array.toList_eq_nil_iff.1 ha1
  have ea2:a2 = #[]:=Array.toList_eq_nil_iff.1 ha2
  have ec2:c2 = #[]:=Array.toList_eq_nil_iff.1 hc2
  have ec:c = #[.pointer (some ⟨bb,0,none⟩)]:=Array.ext' hc1
  subst ea ea2 ec2 ec
  obtain ⟨b',arr,h1,h2,h3,h4⟩:=hs.obj lb _ hlb
  rw [hμb] at h1;cases h1
  simp only [ax,Rep,dD,hl] at h4
  obtain ⟨mv,mt,e4,⟨_,b,hμ,rfl⟩,rfl⟩:=h4
  obtain ⟨_,b',ents,clock,m1,m2,m3,m4,m5⟩:=hs.obj l _ hl
  rw [hμ] at m1;cases m1
  have hk:=ip m4
  have hk2:(kE s0).map (·.1)=s0.1.map Rg.encK:=by unfold kE mpE;rw [List.map_map];rfl
  have hm:ma s0.1 b ents clock s.w:=⟨hnd,hok,m3,m5.st,hk.trans hk2,by omega⟩
  have hbb:bb<s.w.heap.size:=(Array.getElem?_eq_some_iff.1 h3).1
  have hin:=(xO hm hlen (H:=[]) (fun o ho=>nomatch ho)).run (fun _=>none) s.w vs (xV s.w) (by
   rw [e1]
   simp only [ax,Rep,aK,aQ,small,and_true]
   refine ⟨_,_,rfl,⟨_,_,rfl,rfl,_,_,rfl,⟨bb,0,rfl,⟨hbb,?_⟩,rfl,.map (some b),?_,rfl⟩,rfl⟩,_,_,rfl,⟨_,_,rfl,rfl,rfl⟩,rfl⟩
   ·rintro ⟨l',o',q,_⟩;simp at q
   ·unfold World.cell?
    simp only [h3]
    have:=congrArg (fun z=>z[0]?) e4
    simpa using this)
  refine hin.mono ?_
  rintro e w' ⟨v,r,H',μ',rfl,⟨G,rfl,rfl⟩,_,hs',hr,_⟩
  refine ⟨v,rfl,hs'.below,fun s' hw hi => ?_⟩
  have hg:(([]:av) ++ .row 63 2 0 (isK (aT s0.1))::G)[0]?=some (.row 63 2 0 (isK (aT s0.1))):=rfl
  have hsl:(aT s0.1).length=s0.1.length:=List.length_mergeSort _
  simp only [Rep,cB,List.length_nil,hg] at hr
  rcases hr.2.2 trivial (by rw [jX,hsl]) with ⟨q1,rfl,q3⟩ | ⟨b2,cap,q1,rfl,q3,q4,q5⟩
  ·have e0:aT s0.1=[]:=List.eq_nil_of_length_eq_zero (by omega)
   simp only [Rep,AQ,aQ,e0,List.map_nil,List.length_nil]
   exact ⟨none,0,rfl,Nat.le_refl _,by unfold maxLen;omega,.inl trivial⟩
  ·obtain ⟨_,_,hh⟩:=hs'.obj 0 _ hg
   rcases hh with ⟨z1,_⟩ | ⟨b3,arr3,fr,rest,z1,z2,z3,z4,z5⟩
   ·simp only at z1 q1;rw [q1] at z1;cases z1
   simp only at z1 q1
   rw [q1] at z1;cases z1
   obtain ⟨rfl,hsm⟩:=jL.1 z5
   simp only [Rep,AQ,aQ,List.length_map]
   refine ⟨_,cap,by rw [hsl],by rw [hsl];exact q3,q4,.inr ⟨b2,0,rfl,hi b2 (Array.getElem?_eq_some_iff.1 z3).1 z2,?_⟩⟩
   refine mi fun i hi' => ?_
   have hi2:i<(aT s0.1).length:=by simpa using hi'
   have e5:((aT s0.1).map prP).getD i []=prP (aT s0.1)[i]:=by
    rw [List.getD_eq_getElem?_getD,List.getElem?_map,List.getElem?_eq_getElem hi2];rfl
   have cell:∀c,c<2→s'.w.cell? ⟨b2,0+i * 2+c,none⟩=(encK (aT s0.1)[i])[c]?:=fun c hc=>by
    rw [hw]
    unfold World.cell?
    simp only [z3,Nat.zero_add]
    have hlt:i * 2+c<(fx (aT s0.1)).length:=by rw [i6];omega
    rw [←Array.getElem?_toList,z4,List.getElem?_append_left hlt,kS _ _ _ hc,List.getElem?_eq_getElem hi2]
    rfl
   have sm:=hsm _ (List.getElem_mem hi2)
   rw [e5]
   refine ⟨rfl,?_⟩
   simp only [prP,aK,aQ,and_true]
   exact ⟨⟨rfl,_,cell 0 (by omega),rfl,sm.1⟩,rfl,_,cell 1 (by omega),rfl,sm.2⟩
end Av
end Go.Proofs.YtdekcppfpgeneaaGreatDoor
namespace Go.Proofs.YtdekcppfpgeneaaGreatDoor
open Go Go.RowKit
namespace Av
attribute [local irreducible] AW aL aH
open Nt Rg
theorem A2 {base:World} {H:av} {l:Nat}:bR Tryz.prog base 65 [.mp l] H fun r H'=>r = .fn (.func 95) [] [.ptr H.length 0]∧∃tb,H'=H++[.box tb [.mp l]]:=by
 refine b9 af Tryz.call65 Tryz.func65 rfl fun hB hb hF => ?_
 rw [Tryz.results65,Tryz.ntmps65]
 simp only [aA,List.length_cons,List.length_nil,List.replicate,List.cons_append,List.nil_append,Nat.reduceAdd,Nat.reduceSub]
 repeat' (first | (refine aa ?_;first | (refine zg rfl ?_;first | refine ah ?_ | refine zo ?_ | (refine zs ?_ ?_<;>intro hb<;>((try simp only [bn] at hb);first | subst hb | simp only [hb]))) | (apply ai;rfl;simp only [aj,avs,tts,seval]<;>exact rr)) | refine ae ?_ | (refine ak ?_;first | (refine yg rfl ?_;first | refine ar ?_ | refine yo ?_ | (refine ys ?_ ?_<;>intro hb<;>((try simp only [bn] at hb);first | subst hb | simp only [hb]))) | (apply au;rfl;simp only [aB,avs,tts,seval]<;>exact rr;first | trivial | omega)) | refine al ?_ | refine ag ?_ | refine zr af ?_ | refine zR 0 af mixed ?_ | refine zR 1 af mixed ?_ | refine zR 2 af mixed ?_ | refine zR 3 af mixed ?_ | refine zf rfl rfl ?_ | refine zt rfl rfl ?_ | (refine am rfl rfl ?_ ?_<;>intro hb<;>((try simp only [bn] at hb);first | subst hb | simp only [hb])) | refine ap ?_ | refine aq ?_ | refine an ?_)
 exact aw ⟨_,rfl,rfl,_,rfl⟩
def lkC (s:KSt) (p:Int × Int):List PD:=[.v (.int .i64 p.1),.v (.int .i64 p.2),.v (.bool (ofR (s.2 p) 6000).neg),.v (.string (ofR (s.2 p) 6000).num),.v (.string (ofR (s.2 p) 6000).den)]
def tJ (s:KSt) (ks:List (Int × Int)):PD := .sl 5 (ks.map (lkC s))
theorem uI (s:KSt) (l:List (Int × Int)):(l.map fun p=>(lkC s p).map AV.d)=dI (l.map (lkC s)):=by rw [dI,List.map_map];rfl
section
variable {base:World} (hT:dt base)
include hT
set_option maxRecDepth 100000 in
set_option maxHeartbeats 4000000 in
theorem uR {H:av} {l:Nat} (s:KSt) {M:Int} (hl:H[l]?=some (.mp 63 3 (.flat [.int .i64,.int .i64]) (kE s))) (hk:KOk s M) (hM:M≤1000000000000000) (hok:∀p∈s.1,okK p) (hlen:s.1.length≤1000000) :
  da Tryz.prog base 38 [.mp l] H (.d (tJ s (aT s.1))):=by
 refine cC af Tryz.call38 Tryz.func38 rfl fun hB hb hF => ?_
 rw [Tryz.results38,Tryz.ntmps38]
 simp only [aA,List.length_cons,List.length_nil,List.replicate,List.cons_append,List.nil_append,Nat.reduceAdd,Nat.reduceSub]
 clear hF hb
 repeat refine ag ?_
 refine zr af ?_
 repeat (refine aa ?_;first | (apply ai;rfl;simp only [aj,avs,tts,seval]<;>exact rr) | (refine zg rfl ?_;first | refine ah ?_ | refine zo ?_))
 refine ae ?_
 repeat refine ag ?_
 refine zr af ?_
 repeat (refine aa ?_;first | (apply ai;rfl;simp only [aj,avs,tts,seval]<;>exact rr) | (refine zg rfl ?_;first | refine ah ?_ | refine zo ?_))
 refine bZ rfl (by simp only [avs]<;>rfl) (⟨_,A2,?_⟩)
 rintro r H' ⟨rfl,tb,rfl⟩ hle
 have cs:=vV (base:=base) (H:=H++[.box tb [.mp l]]) (lb:=H.length) (tb:=tb) s (by rw [List.getElem?_append_left (aF hl)];exact hl) (by simp) hk.nd hok hlen
 simp only [AQ] at cs
 repeat (refine aa ?_;first | (apply ai;rfl;simp only [aj,avs,tts,seval]<;>exact rr) | (refine zg rfl ?_;first | refine ah ?_ | refine zo ?_))
 refine zD rfl (cs) ?_
 repeat (refine aa ?_;first | (apply ai;rfl;simp only [aj,avs,tts,seval]<;>exact rr) | (refine zg rfl ?_;first | refine ah ?_ | refine zo ?_))
 refine ae ?_
 repeat refine ag ?_
 refine zr af ?_
 repeat (refine aa ?_;first | (apply ai;rfl;simp only [aj,avs,tts,seval]<;>exact rr) | (refine zg rfl ?_;first | refine ah ?_ | refine zo ?_))
 refine ae ?_
 obtain ⟨ks,hks⟩:∃ks,aT s.1=ks:=⟨_,rfl⟩
 have hkl:ks.length≤1000000:=by rw [←hks,aT,List.length_mergeSort];exact hlen
 rw [hks]
 have hpl:(ks.map prP).length=ks.length:=by simp
 have hperm:∀p∈ks,p∈s.1:=fun p hp=>(List.mergeSort_perm s.1 _).mem_iff.1 (by rw [←hks] at hp;exact hp)
 clear hks cs hle
 show AW _ _ _ _ _
 refine gv 4 42 5 rfl (by simp only [bx,bw]<;>rfl) ?_
 repeat' (first | (refine aa ?_;first | (refine zg rfl ?_;first | refine ah ?_ | refine zo ?_ | (refine zs ?_ ?_<;>intro hb<;>((try simp only [bn] at hb);first | subst hb | simp only [hb]))) | (apply ai;rfl;simp only [aj,avs,tts,seval,hpl]<;>exact rr)) | refine ae ?_ | (refine ak ?_;first | (refine yg rfl ?_;first | refine ar ?_ | refine yo ?_ | (refine ys ?_ ?_<;>intro hb<;>((try simp only [bn] at hb);first | subst hb | simp only [hb]))) | (apply au;rfl;simp only [aB,avs,tts,seval,hpl]<;>exact rr;first | trivial | omega)) | refine al ?_ | refine ag ?_ | refine zr af ?_ | refine zR 0 af mixed ?_ | refine zR 1 af mixed ?_ | refine zR 2 af mixed ?_ | refine zR 3 af mixed ?_ | refine zf rfl rfl ?_ | refine zt rfl rfl ?_ | (refine am rfl rfl ?_ ?_<;>intro hb<;>((try simp only [bn] at hb);first | subst hb | simp only [hb])) | refine ap ?_ | refine aq ?_ | refine an ?_)
 refine aZ (H0:=H++[.box tb [.mp l],.row 42 5 0 []]) (fun n env H'=>∃k,n=ks.length - k∧k≤ks.length∧H'=H++[.box tb [.mp l],.row 42 5 0 ((ks.take k).map fun p=>(lkC s p).map AV.d)]∧env=(.mp l :: .undef :: .undef :: .undef :: .ms (H.length+1) 0 k::List.replicate 7 .undef ++ .d (.sl 2 (ks.map prP)) :: .d (.v (.int .i64 (ks.length:Int))) :: .d (.v (.int .i64 (k:Int)))::List.replicate 21 .undef)) ?_ ⟨0,rfl,Nat.zero_le _,by simp,rfl⟩ ?_
 ·exact ⟨by simp [aJ,List.replicate],.inl (by simp)⟩
 rintro n env H' ⟨k,rfl,hk2,rfl,rfl⟩ hN
 simp only [rp]
 obtain ⟨c0,g0⟩:∃c0,decide ((k:Int)<(ks.length:Int))=c0:=⟨_,rfl⟩
 repeat refine ag ?_
 refine zr af ?_
 repeat (refine aa ?_;first | (apply ai;rfl;simp only [aj,avs,tts,seval,g0]<;>exact rr) | (refine zg rfl ?_;first | refine ah ?_ | refine zo ?_))
 refine ae ?_
 cases c0 with
 | true =>
  have hlt:k<ks.length:=by simpa using g0
  have hix:(0:Int)≤(k:Int):=by omega
  have hgd:(ks.map prP).getD k []=[.v (.int .i64 ks[k].1),.v (.int .i64 ks[k].2)]:=by
   rw [List.getD_eq_getElem?_getD,List.getElem?_map,List.getElem?_eq_getElem hlt];rfl
  have hin:ks[k]∈s.1:=hperm _ (List.getElem_mem hlt)
  have hgt:(io (kE s) (.agg #[.int .i64 ks[k].1,.int .i64 ks[k].2])).getD (.d (.v (.int .i64 0))) = .d (.v (.int .i64 (s.2 ks[k]))):=fY rR (k:=ks[k]) fun h=>absurd hin h
  have hlo:=hk.lo ks[k]
  have hhi:=hk.hi ks[k]
  have co:=DY (base:=base) hT (s.2 ks[k]) 6000 (by omega) (by omega) (by omega) (by omega)
  have hsn:((ks.take k).map fun p=>(lkC s p).map AV.d)++[(lkC s ks[k]).map AV.d]=(ks.take (k+1)).map fun p=>(lkC s p).map AV.d:=by
   rw [List.take_add_one,List.getElem?_eq_getElem hlt,List.map_append];rfl
  have hln:((ks.take k).map fun p=>(lkC s p).map AV.d).length=k:=by simp;omega
  have w1:IntKind.i64.wrap ((k:Int)+1)=((k+1:Nat):Int):=aP hlt (by omega)
  have d1:k+1≤9223372036854775807:=by omega
  have d2:(k+1) * 56≤140737488355328:=by omega
  have hl2:∀G:av,(H++G)[l]?=some (.mp 63 3 (.flat [.int .i64,.int .i64]) (kE s)):=fun G=>by rw [List.getElem?_append_left (aF hl)];exact hl
  have ksh:bo (.flat [.int .i64,.int .i64]) (.agg #[.int .i64 ks[k].1,.int .i64 ks[k].2])=true:=rfl
  obtain ⟨r,hr⟩:∃r,ofR (s.2 ks[k]) 6000=r:=⟨_,rfl⟩
  rw [hr] at co
  have hbl:∀n,(aN.row 42 5 0 ((ks.take (k+1)).map fun p=>(lkC s p).map AV.d)).bel n:=fun n=>by rw [uI];exact fM _
  generalize ((ks.take k).map fun p=>(lkC s p).map AV.d)=rows at hsn hln ⊢
  obtain ⟨rows2,hr2⟩:∃rows2,((ks.take (k+1)).map fun p=>(lkC s p).map AV.d)=rows2:=⟨_,rfl⟩
  rw [hr2] at hsn hbl
  simp only [lkC,hr,List.map_cons,List.map_nil] at hsn
  obtain ⟨x,hx⟩:∃x,ks[k]=x:=⟨_,rfl⟩
  rw [hx] at hgd hgt co hsn ksh
  obtain ⟨x1,x2⟩:=x
  obtain ⟨rn,ru,rd⟩:=r
  simp only [fF,tA,iA] at co hgd hgt hsn ksh
  repeat' (first | (refine aa ?_;first | (refine zg rfl ?_;first | refine ah ?_ | refine zo ?_ | (refine zs ?_ ?_<;>intro hb<;>((try simp only [bn] at hb);first | subst hb | simp only [hb]))) | (apply ai;rfl;simp only [aj,avs,tts,seval,hix,hlt,hgd,hpl,hgt,hln,w1,d1,d2,ksh,got hl]<;>exact rr) | (refine za rfl ?_;refine zp (co) ?_)) | refine ae ?_ | (refine ak ?_;first | (refine yg rfl ?_;first | refine ar ?_ | refine yo ?_ | (refine ys ?_ ?_<;>intro hb<;>((try simp only [bn] at hb);first | subst hb | simp only [hb]))) | (apply au;rfl;simp only [aB,avs,tts,seval,hix,hlt,hgd,hpl,hgt,hln,w1,d1,d2,ksh,got hl]<;>exact rr;first | trivial | omega) | (refine ya rfl ?_;refine yp (co) ?_)) | refine al ?_ | refine ag ?_ | refine zr af ?_ | refine zR 0 af mixed ?_ | refine zR 1 af mixed ?_ | refine zR 2 af mixed ?_ | refine zR 3 af mixed ?_ | refine zf rfl rfl ?_ | refine zt rfl rfl ?_ | (refine am rfl rfl ?_ ?_<;>intro hb<;>((try simp only [bn] at hb);first | subst hb | simp only [hb])) | refine ap ?_ | refine aq ?_ | refine an ?_)
  rw [hsn]
  refine ⟨ks.length - (k+1),_,H++[.box tb [.mp l],.row 42 5 0 rows2],by omega,⟨?_,.inr ⟨by simp,?_,.more hB (.cons ?_ (.cons (hbl _) .nil)),[.box 63 [.d (.v (.int .i64 x1)),.d (.v (.int .i64 x2))],.box 40 [.d (.v (.bool rn)),.d (.v (.string ru)),.d (.v (.string rd))],.row 42 5 0 [[.d (.v (.int .i64 x1)),.d (.v (.int .i64 x2)),.d (.v (.bool rn)),.d (.v (.string ru)),.d (.v (.string rd))]]],by simp⟩⟩,k+1,rfl,hlt,by rw [hr2],rfl⟩
  ·simp [aJ,List.replicate]
  ·have:=aF hl
   simp [aS,AV.bel,List.replicate];omega
  ·have:=aF hl
   simp [aN.bel,aS,AV.bel];omega
 | false =>
  have he:k=ks.length:=by
                 have:¬k<ks.length:=by simpa using g0
                 omega
  subst he
  rw [List.take_length]
  repeat' (first | (refine aa ?_;first | (refine zg rfl ?_;first | refine ah ?_ | refine zo ?_ | (refine zs ?_ ?_<;>intro hb<;>((try simp only [bn] at hb);first | subst hb | simp only [hb]))) | (apply ai;rfl;simp only [aj,avs,tts,seval]<;>exact rr)) | refine ae ?_ | (refine ak ?_;first | (refine yg rfl ?_;first | refine ar ?_ | refine yo ?_ | (refine ys ?_ ?_<;>intro hb<;>((try simp only [bn] at hb);first | subst hb | simp only [hb]))) | (apply au;rfl;simp only [aB,avs,tts,seval]<;>exact rr;first | trivial | omega)) | refine al ?_ | refine ag ?_ | refine zr af ?_ | refine zR 0 af mixed ?_ | refine zR 1 af mixed ?_ | refine zR 2 af mixed ?_ | refine zR 3 af mixed ?_ | refine zf rfl rfl ?_ | refine zt rfl rfl ?_ | (refine am rfl rfl ?_ ?_<;>intro hb<;>((try simp only [bn] at hb);first | subst hb | simp only [hb])) | refine ap ?_ | refine aq ?_ | refine an ?_)
  refine aw ⟨_,rfl,_,rfl,?_⟩
  have hu:unI (ks.map fun p=>(lkC s p).map AV.d)=some (ks.map (lkC s)):=by rw [uI];exact bh _
  simp [cM,hu,tJ]
end
end Av
end Go.Proofs.YtdekcppfpgeneaaGreatDoor
namespace Go.Proofs.YtdekcppfpgeneaaGreatDoor
open Go Go.RowKit
namespace Av
open Nt Rg
theorem ib {ix:ByteArray→Int} {company:ByteArray} {pc:Int} (h0:0≤pc) (h1:pc≤100) {n:Nat}:∀(who:List ByteArray),(0<n∨who=[])→∀{s:KSt} {M:Int},KOk s M→KOk (who.foldl (cQ ix company pc n) s) (M+6000 * who.length)
 | [],_,s,M,h=>by simpa using h
 | x::r,hn,s,M,h=>by
  have hn':0<n:=by rcases hn with h | h;exact h;cases h
  have:=ib (ix:=ix) (company:=company) h0 h1 r (.inl hn') (mP (ix:=ix) (company:=company) (x:=x) h0 h1 hn' h)
  rw [List.foldl_cons]
  have e:M+6000 * ((x::r).length:Int)=M+6000+6000 * (r.length:Int):=by simp;omega
  rw [e];exact this
theorem kA {ix:ByteArray→Int} {company:ByteArray} {pc:Int} (h0:0≤pc) (h1:pc≤100) (who:List ByteArray) {s:KSt} {M:Int} (h:KOk s M):KOk (fE ix company pc who s) (M+6000 * who.length) :=
 ib h0 h1 who (by cases who with | nil=>exact .inr rfl | cons a r=>exact .inl (by simp)) h
theorem jp (ix:ByteArray→Int) (company:ByteArray) (pc:Int) (who:List ByteArray) (s:KSt):(fE ix company pc who s).1.length≤s.1.length+who.length:=by
 have main:∀(n:Nat) (l:List ByteArray) (s:KSt),(l.foldl (cQ ix company pc n) s).1.length≤s.1.length+l.length:=fun n l=>by
  induction l with
  | nil=>intro s;simp
  | cons x r ih =>
   intro s
   rw [List.foldl_cons]
   have h1:=ih (cQ ix company pc n s x)
   have h2:=oN ix company x pc n s
   rw [List.length_cons];omega
 exact main _ who s
def ev (h:Hd):List ByteArray:=if h.nominee=emp then h.holder::h.joint else [h.nominee]
def eK (h:Hd):List ByteArray:=if h.pledged=emp then ev h else [h.pledged]
def stC (ix:ByteArray→Int) (day:Int) (s:KSt) (h:Hd):KSt:=if cF h day=true then fE ix h.company h.capital (ev h) s else s
def stV (ix:ByteArray→Int) (day:Int) (s:KSt) (h:Hd):KSt:=if cF h day=true then fE ix h.company h.votes (eK h) s else s
def eU:KSt:=([],fun _=>0)
theorem mq:KOk eU 0:=⟨List.nodup_nil,fun _ _=>rfl,fun _=>Int.le_refl _,fun _=>Int.le_refl _⟩
def dA (ix:ByteArray→Int) (day:Int) (l:List Hd):KSt:=l.foldl (stC ix day) eU
def dE (ix:ByteArray→Int) (day:Int) (l:List Hd):KSt:=l.foldl (stV ix day) eU
theorem pq (ix:ByteArray→Int) (day:Int) (l:List Hd) (h:Hd):dA ix day (l++[h])=stC ix day (dA ix day l) h:=by simp [dA]
theorem oH (ix:ByteArray→Int) (day:Int) (l:List Hd) (h:Hd):dE ix day (l++[h])=stV ix day (dE ix day l) h:=by simp [dE]
theorem jz {h:Hd} (hj:h.joint.length≤1000):(ev h).length≤1001:=by
 unfold ev;split<;>simp;omega
theorem mD {h:Hd} (hj:h.joint.length≤1000):(eK h).length≤1001:=by
 unfold eK;split
 ·exact jz hj
 ·simp
theorem jU {s:KSt} {M M':Int} (h:KOk s M) (hM:M≤M'):KOk s M':=⟨h.nd,h.out,h.lo,fun k=>Int.le_trans (h.hi k) hM⟩
theorem vl (ix:ByteArray→Int) (day:Int) (l:List Hd) (hp:∀h∈l,0≤h.capital∧h.capital≤100) (hj:∀h∈l,h.joint.length≤1000) (n:Nat) (hn:n≤l.length):KOk (dA ix day (l.take n)) (6006000 * n)∧(dA ix day (l.take n)).1.length≤1001 * n:=by
 induction n with
 | zero=>exact ⟨by simpa [dA] using mq,by simp [dA,eU]⟩
 | succ n ih =>
  obtain ⟨h1,h2⟩:=ih (by omega)
  have hm:=List.getElem_mem (show n<l.length by omega)
  have hw:=jz (hj _ hm)
  rw [List.take_add_one,List.getElem?_eq_getElem (show n<l.length by omega),Option.toList_some,pq]
  unfold stC
  split
  ·have k1:=kA (ix:=ix) (company:=l[n].company) (hp _ hm).1 (hp _ hm).2 (ev l[n]) h1
   have k2:=jp ix l[n].company l[n].capital (ev l[n]) (dA ix day (l.take n))
   exact ⟨jU k1 (by omega),by omega⟩
  ·exact ⟨jU h1 (by omega),by omega⟩
theorem uu (ix:ByteArray→Int) (day:Int) (l:List Hd) (hp:∀h∈l,0≤h.votes∧h.votes≤100) (hj:∀h∈l,h.joint.length≤1000) (n:Nat) (hn:n≤l.length):KOk (dE ix day (l.take n)) (6006000 * n)∧(dE ix day (l.take n)).1.length≤1001 * n:=by
 induction n with
 | zero=>exact ⟨by simpa [dE] using mq,by simp [dE,eU]⟩
 | succ n ih =>
  obtain ⟨h1,h2⟩:=ih (by omega)
  have hm:=List.getElem_mem (show n<l.length by omega)
  have hw:=mD (hj _ hm)
  rw [List.take_add_one,List.getElem?_eq_getElem (show n<l.length by omega),Option.toList_some,oH]
  unfold stV
  split
  ·have k1:=kA (ix:=ix) (company:=l[n].company) (hp _ hm).1 (hp _ hm).2 (eK l[n]) h1
   have k2:=jp ix l[n].company l[n].votes (eK l[n]) (dE ix day (l.take n))
   exact ⟨jU k1 (by omega),by omega⟩
  ·exact ⟨jU h1 (by omega),by omega⟩
def ixS (l:List ByteArray) (x:ByteArray):Int:=((l.findIdx fun y=>decide (y=x)):Nat)
theorem rA {base:World} {H:av} (ps:List ByteArray) (hp:ps.Pairwise fun a b=>leT a b=true) (hnd:ps.Nodup) {x:ByteArray} (hx:x∈ps) {lb:Nat} {c v:AV} (hbx:H[lb]?=some (.box 25 [.d (bq ps),c,v])) (hl:ps.length≤1000000):da Tryz.prog base 34 [tA x,.ptr lb 0] H (iA (ixS ps x)):=by
 have hi0:(ps.findIdx fun y=>decide (y=x))<ps.length:=List.findIdx_lt_length_of_exists ⟨x,hx,by simp⟩
 have he0:ps[ps.findIdx fun y=>decide (y=x)]=x:=by simpa using List.findIdx_getElem (w:=hi0)
 unfold ixS
 generalize (ps.findIdx fun y=>decide (y=x))=ii at hi0 he0 ⊢
 have hi:=hi0
 have he:=he0
 refine AR base ps x hbx hl ii hi he (fun j hj hlt => ?_) (fun j hj hle => ?_)
 ·have h1:=List.pairwise_iff_getElem.1 hp j ii hj hi hlt
  rw [he] at h1
  refine pZ.2 ⟨h1,fun e => ?_⟩
  exact List.pairwise_iff_getElem.1 hnd j ii hj hi hlt (by rw [he];exact e)
 ·cases hc:ltT ps[j] x with
  | false=>rfl
  | true =>
   exfalso
   obtain ⟨h2,h3⟩:=pZ.1 hc
   rcases Nat.lt_or_ge ii j with h4 | h4
   ·have h1:=List.pairwise_iff_getElem.1 hp ii j hi hj h4
    rw [he] at h1
    exact h3 (gL h2 h1)
   ·have:j=ii:=by omega
    subst this
    exact h3 he
end Av
end Go.Proofs.YtdekcppfpgeneaaGreatDoor
namespace Go.Proofs.YtdekcppfpgeneaaGreatDoor
open Go Go.RowKit Go.Sort Go.Shelf Go.Lib
namespace Rg
open Av Nt
def ff (ix:ByteArray→Int) (company:ByteArray) (pc:Int) (k:Int × Int) (x:ByteArray):Bool:=decide (pc>0∧x≠company∧(ix company,ix x)=k)
def jZ (ix:ByteArray→Int) (company:ByteArray) (pc:Int) (who:List ByteArray) (k:Int × Int):Int:=bB (ff ix company pc k) (fun _=>(pc * 60).tdiv who.length) who
theorem pf (ix:ByteArray→Int) (company:ByteArray) (pc:Int) (n:Nat) (k:Int × Int):∀(who:List ByteArray) (s:KSt),(who.foldl (cQ ix company pc n) s).2 k=s.2 k+bB (ff ix company pc k) (fun _=>(pc * 60).tdiv n) who
 | [],s=>by simp [bB]
 | x::r,s=>by
  rw [List.foldl_cons,pf ix company pc n k r]
  simp only [bB]
  have:(cQ ix company pc n s x).2 k=s.2 k+(if ff ix company pc k x=true then (pc * 60).tdiv n else 0):=by
   unfold cQ ff
   by_cases h:pc>0∧x≠company
   ·rw [if_pos h]
    unfold kh
    by_cases e:k=(ix company,ix x)
    ·subst e
     simp [h.1,h.2]
    ·simp only [decide_eq_true_eq]
     rw [if_neg e,if_neg (fun h'=>e h'.2.2.symm)];omega
   ·rw [if_neg h]
    simp only [decide_eq_true_eq]
    rw [if_neg (fun h'=>h ⟨h'.1,h'.2.1⟩)];omega
  rw [this];omega
theorem tz (ix:ByteArray→Int) (company:ByteArray) (pc:Int) (who:List ByteArray) (s:KSt) (k:Int × Int):(fE ix company pc who s).2 k=s.2 k+jZ ix company pc who k:=pf ..
theorem pj (ix:ByteArray→Int) (company:ByteArray) (pc:Int) (n:Nat) (k:Int × Int):∀(who:List ByteArray) (s:KSt),k∈(who.foldl (cQ ix company pc n) s).1↔k∈s.1∨∃x∈who,ff ix company pc k x=true
 | [],s=>by simp
 | x::r,s=>by
  rw [List.foldl_cons,pj ix company pc n k r]
  have:k∈(cQ ix company pc n s x).1↔k∈s.1∨ff ix company pc k x=true:=by
   unfold cQ ff
   by_cases h:pc>0∧x≠company
   ·rw [if_pos h]
    show k∈cD s.1 (ix company,ix x)↔_
    rw [fb,decide_eq_true_eq]
    constructor
    ·rintro (h1 | h1)
     ·exact .inl h1
     ·exact .inr ⟨h.1,h.2,h1.symm⟩
    ·rintro (h1 | h1)
     ·exact .inl h1
     ·exact .inr h1.2.2.symm
   ·rw [if_neg h,decide_eq_true_eq]
    constructor
    ·exact .inl
    ·rintro (h1 | h1)
     ·exact h1
     ·exact absurd ⟨h1.1,h1.2.1⟩ h
  rw [this]
  simp only [List.mem_cons,exists_eq_or_imp,or_assoc]
theorem ri {ix:ByteArray→Int} {company:ByteArray} {pc:Int} {n:Nat} {s:KSt} {x:ByteArray} (h:s.1.Nodup):(cQ ix company pc n s x).1.Nodup:=by
 unfold cQ
 split
 ·exact dJ h _
 ·exact h
theorem lM {ix:ByteArray→Int} {company:ByteArray} {pc:Int} {n:Nat}:∀(who:List ByteArray) {s:KSt},s.1.Nodup→(who.foldl (cQ ix company pc n) s).1.Nodup
 | [],s,h=>h
 | x::r,s,h=>by rw [List.foldl_cons];exact lM r (ri h)
def fS (pc:Hd→Int) (who:Hd→List ByteArray) (ix:ByteArray→Int) (day:Int) (s:KSt) (h:Hd):KSt:=if cF h day=true then fE ix h.company (pc h) (who h) s else s
theorem AG:stC=fS Hd.capital ev:=rfl
theorem AF:stV=fS Hd.votes eK:=rfl
section
variable (pc:Hd→Int) (who:Hd→List ByteArray) (ix:ByteArray→Int) (day:Int)
theorem pP (k:Int × Int):∀(l:List Hd) (s:KSt),(l.foldl (fS pc who ix day) s).2 k=s.2 k+bB (fun h=>cF h day) (fun h=>jZ ix h.company (pc h) (who h) k) l
 | [],s=>by simp [bB]
 | h::r,s=>by
  rw [List.foldl_cons,pP k r]
  simp only [bB]
  unfold fS
  by_cases e:cF h day=true
  ·rw [if_pos e,if_pos e,tz];omega
  ·rw [if_neg e,if_neg e];omega
theorem pQ (k:Int × Int):∀(l:List Hd) (s:KSt),k∈(l.foldl (fS pc who ix day) s).1↔k∈s.1∨∃h∈l,cF h day=true∧∃x∈who h,ff ix h.company (pc h) k x=true
 | [],s=>by simp
 | h::r,s=>by
  rw [List.foldl_cons,pQ k r]
  have:k∈(fS pc who ix day s h).1↔k∈s.1∨(cF h day=true∧∃x∈who h,ff ix h.company (pc h) k x=true):=by
   unfold fS
   by_cases e:cF h day=true
   ·rw [if_pos e,fE,pj];simp [e]
   ·rw [if_neg e];simp [e]
  rw [this]
  simp only [List.mem_cons,exists_eq_or_imp,or_assoc]
theorem kz:∀(l:List Hd) {s:KSt},s.1.Nodup→(l.foldl (fS pc who ix day) s).1.Nodup
 | [],s,h=>h
 | h::r,s,hs=>by
  rw [List.foldl_cons]
  refine kz r ?_
  unfold fS
  split
  ·exact lM _ hs
  ·exact hs
end
theorem ud (ix:ByteArray→Int) (day:Int) (l:List Hd):(dA ix day l).1.Nodup:=kz _ _ ix day l List.nodup_nil
theorem tf (ix:ByteArray→Int) (day:Int) (l:List Hd):(dE ix day l).1.Nodup:=kz _ _ ix day l List.nodup_nil
def E4 (ix:ByteArray→Int) (day:Int) (l:List Hd) (k:Int × Int):Int:=bB (fun h=>cF h day) (fun h=>jZ ix h.company h.capital (ev h) k) l
def Eu (ix:ByteArray→Int) (day:Int) (l:List Hd) (k:Int × Int):Int:=bB (fun h=>cF h day) (fun h=>jZ ix h.company h.votes (eK h) k) l
theorem zZ (ix:ByteArray→Int) (day:Int) (l:List Hd) (k:Int × Int):(dA ix day l).2 k=E4 ix day l k:=by
 have:=pP Hd.capital ev ix day k l eU
 rw [show eU.2 k=0 from rfl,Int.zero_add] at this
 exact this
theorem xt (ix:ByteArray→Int) (day:Int) (l:List Hd) (k:Int × Int):(dE ix day l).2 k=Eu ix day l k:=by
 have:=pP Hd.votes eK ix day k l eU
 rw [show eU.2 k=0 from rfl,Int.zero_add] at this
 exact this
theorem sM (ix:ByteArray→Int) (day:Int) (l:List Hd) (k:Int × Int):k∈(dA ix day l).1↔∃h∈l,cF h day=true∧∃x∈ev h,ff ix h.company h.capital k x=true:=by
 have:=pQ Hd.capital ev ix day k l eU
 rw [show (k∈eU.1)=False by simp [eU],false_or] at this
 exact this
theorem qU (ix:ByteArray→Int) (day:Int) (l:List Hd) (k:Int × Int):k∈(dE ix day l).1↔∃h∈l,cF h day=true∧∃x∈eK h,ff ix h.company h.votes k x=true:=by
 have:=pQ Hd.votes eK ix day k l eU
 rw [show (k∈eU.1)=False by simp [eU],false_or] at this
 exact this
def leK (x y:Int × Int):Prop:=x.1<y.1∨(x.1=y.1∧x.2≤y.2)
theorem yK (a b:Int × Int) (h:leK a b) (k:leK b a):a=b:=by
 obtain ⟨a1,a2⟩:=a;obtain ⟨b1,b2⟩:=b
 simp only [leK] at h k
 have:a1=b1:=by omega
 have:a2=b2:=by omega
 simp [*]
theorem ew (l:List (Int × Int)):(aT l).Perm l:=List.mergeSort_perm ..
theorem jH (l:List (Int × Int)):(aT l).Pairwise leK:=by
 have h:=List.pairwise_mergeSort (le:=fun x y => !ltOf iD y x) (fun a b c h1 h2=>by
  simp only [Bool.not_eq_true',dw] at *;omega) (fun a b=>by
  cases h:ltOf iD b a
  ·rfl
  ·have h':=(ltK b a).1 h
   simp only [Bool.not_true,Bool.false_or,Bool.not_eq_true',dw];omega) l
 refine h.imp fun {a b} h => ?_
 simp only [Bool.not_eq_true',dw] at h
 unfold leK;omega
theorem fR {l:List (Int × Int)} {k:Int × Int}:k∈aT l↔k∈l:=(ew l).mem_iff
theorem lB {l:List (Int × Int)} (h:l.Nodup):(aT l).Nodup:=(ew l).nodup_iff.2 h
theorem xR {l m:List (Int × Int)} (hl:l.Nodup) (hm:m.Nodup) (hs:m.Pairwise leK) (h:∀x,x∈l↔x∈m):aT l=m :=
 fD yK (jH l) hs (lB hl) hm fun x=>fR.trans (h x)
end Rg
end Go.Proofs.YtdekcppfpgeneaaGreatDoor
namespace Go.Proofs.YtdekcppfpgeneaaGreatDoor
open Go Go.RowKit
namespace Rg
open Av Nt
instance:DecidableEq Rt:=fun a b=>decidable_of_iff (a.neg=b.neg∧a.num=b.num∧a.den=b.den) (by
 cases a;cases b;simp)
structure Lk where
 company:Int
 holder:Int
 part:Rt
instance:DecidableEq Lk:=fun a b=>decidable_of_iff (a.company=b.company∧a.holder=b.holder∧a.part=b.part) (by
 cases a;cases b;simp)
structure Str where
 parties:List ByteArray
 capital:List Lk
 votes:List Lk
instance:DecidableEq Str:=fun a b=>decidable_of_iff (a.parties=b.parties∧a.capital=b.capital∧a.votes=b.votes) (by
 cases a;cases b;simp)
instance:DecidableEq Hd:=fun a b=>decidable_of_iff (a.id=b.id∧a.company=b.company∧a.holder=b.holder∧a.nominee=b.nominee∧a.pledged=b.pledged∧a.joint=b.joint∧a.capital=b.capital∧a.votes=b.votes∧a.fr=b.fr∧a.til=b.til) (by
 cases a;cases b;simp)
def lkP (x:Lk):List PD:=[.v (.int .i64 x.company),.v (.int .i64 x.holder),.v (.bool x.part.neg),.v (.string x.part.num),.v (.string x.part.den)]
def js (l:List Lk):PD := .sl 5 (l.map lkP)
def pM (s:Str):List AV:=[.d (bq s.parties),.d (js s.capital),.d (js s.votes)]
def hZ (s:Str):AV := .agg (pM s)
def ez (s:KSt) (p:Int × Int):Lk:=⟨p.1,p.2,ofR (s.2 p) 6000⟩
theorem uQ (s:KSt) (ks:List (Int × Int)):tJ s ks=js (ks.map (ez s)):=by
 unfold tJ js
 rw [List.map_map];rfl
def jr (s:KSt):List Lk:=(aT s.1).map (ez s)
def atS (l:List Hd) (day:Int):Str:=if bN l&&gW day then ⟨ay l,jr (dA (ixS (ay l)) day l),jr (dE (ixS (ay l)) day l)⟩ else ⟨[],[],[]⟩
def atE (l:List Hd) (day:Int):Int:=if bN l&&gW day then 0 else 1
theorem CT (x y:Lk):eqL [.int .i64 x.company,.int .i64 x.holder,.bool x.part.neg,.string x.part.num,.string x.part.den] [.int .i64 y.company,.int .i64 y.holder,.bool y.part.neg,.string y.part.num,.string y.part.den]=decide (x=y):=by
 obtain ⟨a,b,c,d,e⟩:=x
 obtain ⟨f,g,h,i,j⟩:=y
 simp only [eqL,eqV,Lk.mk.injEq,Rt.mk.injEq]
 by_cases h1:a=f<;>by_cases h2:b=g<;>by_cases h3:c=h<;>by_cases h4:d=i<;>by_cases h5:e=j<;>simp [h1,h2,h3,h4,h5]
theorem jt {l:List Lk} {k:Nat} (h:k<l.length):(l.map lkP).getD k []=lkP l[k]:=by simp [h]
def ow (h:Hd):Bool:=decide (h.id.size≤60)&&(decide (h.company.size≤60)&&(decide (h.holder.size≤60)&&(decide (h.nominee.size≤60)&&(decide (h.pledged.size≤60)&&decide (h.joint.length≤10)))))
def kU (h:Hd):Bool:=h.joint.all fun s=>decide (s.size≤60)
def l8 (n:Int) (l:List Hd):Bool:=decide ((l.length:Int)≤n)&&l.all fun h=>ow h&&kU h
theorem CS {n:Int} {l:List Hd} {k:Nat} (hk:k<l.length) (h:(ow l[k]&&kU l[k])=false):l8 n l=false:=by
 unfold l8
 have:(l.all fun h=>ow h&&kU h)=false:=by
  rw [List.all_eq_false];exact ⟨_,List.getElem_mem hk,by simp [h]⟩
 rw [this,Bool.and_false]
theorem Be {h:Hd} {j:Nat} (hj:j<h.joint.length) (e:¬h.joint[j].size≤60):kU h=false:=by
 unfold kU
 rw [List.all_eq_false];exact ⟨_,List.getElem_mem hj,by simpa using e⟩
theorem pm {n:Int} {l:List Hd} (h:l8 n l=true):(l.length:Int)≤n∧∀x∈l,Small x∧x.joint.length≤10:=by
 unfold l8 at h
 simp only [Bool.and_eq_true,decide_eq_true_eq] at h
 refine ⟨h.1,fun x hx => ?_⟩
 have:=List.all_eq_true.1 h.2 x hx
 unfold ow kU at this
 simp only [Bool.and_eq_true,decide_eq_true_eq] at this
 obtain ⟨⟨a,b,c,d,e,f⟩,g⟩:=this
 refine ⟨⟨by omega,by omega,by omega,by omega,by omega,fun t ht => ?_,by omega⟩,f⟩
 have:=List.all_eq_true.1 g t ht
 simp only [decide_eq_true_eq] at this
 omega
end Rg
end Go.Proofs.YtdekcppfpgeneaaGreatDoor
namespace Go.Proofs.YtdekcppfpgeneaaGreatDoor
open Go Go.RowKit
namespace Rg
open Av Nt
end Rg
end Go.Proofs.YtdekcppfpgeneaaGreatDoor
namespace Go.Proofs.YtdekcppfpgeneaaGreatDoor
open Go Go.RowKit
namespace Rg
open Av Nt
end Rg
namespace Av
attribute [local irreducible] AW aL aH
open Nt Rg
def hdI (h:Hd):List AV:=(hdC h).map AV.d
theorem CK (l:List Hd):l.map hdI=dI (l.map hdC):=by rw [dI,List.map_map];rfl
theorem vd (l:List Hd):(l.map hdI).length=l.length:=List.length_map _
theorem Cr (l:List Hd):unI (l.map hdI)=some (l.map hdC):=by rw [CK];exact bh _
section
variable (base:World)
set_option maxRecDepth 100000 in
theorem zW {H:av} (l:List Hd) (hl:l.length≤1000000):bR Tryz.prog base 46 [.d (cO l)] H fun r H'=>r = .ms H.length 0 l.length∧H'=H++[.row 36 10 0 (l.map hdI)]:=by
 refine b9 af Tryz.call46 Tryz.func46 rfl fun hB hb hF => ?_
 rw [Tryz.results46,Tryz.ntmps46]
 simp only [aA,List.length_cons,List.length_nil,List.replicate,List.cons_append,List.nil_append,Nat.reduceAdd,Nat.reduceSub]
 clear hF hb
 have la:=dY l
 simp only [cO]
 repeat refine ag ?_
 refine zr af ?_
 repeat (refine aa ?_;first | (apply ai;rfl;simp only [aj,avs,tts,seval]<;>exact rr) | (refine zg rfl ?_;first | refine ah ?_ | refine zo ?_))
 refine ae ?_
 repeat refine ag ?_
 refine zr af ?_
 repeat (refine aa ?_;first | (apply ai;rfl;simp only [aj,avs,tts,seval]<;>exact rr) | (refine zg rfl ?_;first | refine ah ?_ | refine zo ?_))
 refine sV rfl rfl rfl rfl fun b hn=>ae ?_
 repeat refine ag ?_
 refine am rfl rfl (fun hb => ?_) fun hb => ?_
 ·have hnl:=hn (by simpa using hb)
  have hl0:l=[]:=by simpa using hnl
  subst hl0
  repeat refine ag ?_
  refine zr af ?_
  repeat (refine aa ?_;first | (apply ai;rfl;simp only [aj,avs,tts,seval]<;>exact rr) | (refine zg rfl ?_;first | refine ah ?_ | refine zo ?_))
  refine ae ?_
  refine gv 2 36 10 rfl (by simp only [bx,bw]<;>rfl) ?_
  exact aw ⟨_,rfl,rfl,rfl⟩
 ·refine ap ?_
  have b1:l.length≤9223372036854775807:=by omega
  have b2:l.length * 136≤140737488355328:=by omega
  have e1:List.map (fun it=>List.map AV.d it) (l.map hdC)=l.map hdI:=by rw [List.map_map];rfl
  repeat' (first | (refine aa ?_;first | (refine zg rfl ?_;first | refine ah ?_ | refine zo ?_ | (refine zs ?_ ?_<;>intro hb<;>((try simp only [bn] at hb);first | subst hb | simp only [hb]))) | (apply ai;rfl;simp only [aj,avs,tts,seval,la,b1,b2,e1]<;>exact rr)) | refine ae ?_ | (refine ak ?_;first | (refine yg rfl ?_;first | refine ar ?_ | refine yo ?_ | (refine ys ?_ ?_<;>intro hb<;>((try simp only [bn] at hb);first | subst hb | simp only [hb]))) | (apply au;rfl;simp only [aB,avs,tts,seval,la,b1,b2,e1]<;>exact rr;first | trivial | omega)) | refine al ?_ | refine ag ?_ | refine zr af ?_ | refine zR 0 af mixed ?_ | refine zR 1 af mixed ?_ | refine zR 2 af mixed ?_ | refine zR 3 af mixed ?_ | refine zf rfl rfl ?_ | refine zt rfl rfl ?_ | (refine am rfl rfl ?_ ?_<;>intro hb<;>((try simp only [bn] at hb);first | subst hb | simp only [hb])) | refine ap ?_ | refine aq ?_ | refine an ?_)
  show AW _ _ _ _ _
  exact aw ⟨_,rfl,rfl,rfl⟩
end
end Av
end Go.Proofs.YtdekcppfpgeneaaGreatDoor
namespace Go.Proofs.YtdekcppfpgeneaaGreatDoor
open Go Go.RowKit
namespace Av
attribute [local irreducible] AW aL aH
open Nt Rg
theorem fL {n:Nat} {kt et:Nat} {ks:KS} (s:KSt):(aN.mp kt et ks (kE s)).bel n:=by
 show lh n (kE s)
 unfold kE mpE
 induction s.1 with
 | nil=>exact trivial
 | cons a r ih=>exact ⟨trivial,ih⟩
theorem qE {X:Ctx} {c y:Code} {Q Q2:Exit→List AV→av→Prop} {env:List AV} {H:av} (Q0:List AV→av→Prop) (h:AW X c (fun ex env' H'=>ex = .normal∧∃env1 H1 env0 H0,((∃l,bU H'[l]? l env'=env1∧H'.set l .dead=H1)∨(env'=env1∧H'=H1))∧mc X env1 H1 env0 H0∧Q0 env0 H0) env H) (k:∀env0 H0,Q0 env0 H0→AW X y Q2 env0 H0):AW X c (ux (fun env H=>AW X y Q2 env H) Q) env H :=
 h.mono fun ex env H ⟨e,env1,H1,env0,H0,f,g,q⟩=>by
  subst e
  rcases f with ⟨l,e1,e2⟩ | ⟨rfl,rfl⟩
  ·exact C1 l e1 e2 (ke g (k _ _ q))
  ·exact ke g (k _ _ q)
theorem mr {t:ByteArray} (h:bL t=true):t≠⟨#[]⟩:=by
 unfold bL at h
 simp only [Bool.and_eq_true,Bool.not_eq_true',decide_eq_false_iff_not] at h
 exact h.2.1
theorem tM {h:Hd} (hp:bl h=true):∀x∈h.joint,bL x=true:=by
 unfold bl pr2 at hp
 simp only [Bool.and_eq_true] at hp
 exact fun x hx=>List.all_eq_true.1 hp.2.1.1 x hx
theorem Cp {l:List Hd} {h:Hd} (hm:h∈l) (hp:bl h=true) {x:ByteArray} (hx:x=h.company∨x∈ev h∨x∈eK h):x∈ay l:=by
 rw [dv]
 have hc:x∈ev h→x∈bu h:=fun hx=>by
  unfold ev at hx
  split at hx
  ·rcases List.mem_cons.1 hx with rfl | hx
   ·simp [bu]
   ·have:=mr (tM hp _ hx)
    simp [bu,hx,this]
  ·rename_i hn
   simp only [List.mem_singleton] at hx
   subst hx
   have hn':h.nominee≠⟨#[]⟩:=hn
   simp [bu,hn']
 refine ⟨h,hm,?_⟩
 rcases hx with rfl | hx | hx
 ·simp [bu]
 ·exact hc hx
 ·unfold eK at hx
  split at hx
  ·exact hc hx
  ·rename_i hn
   simp only [List.mem_singleton] at hx
   subst hx
   have hn':h.pledged≠⟨#[]⟩:=hn
   simp [bu,hn']
theorem dM {l:List Hd} (h:bN l=true):(∀x∈l,bl x=true)∧(ay l).length≤60:=by
 unfold bN at h
 simp only [Bool.and_eq_true,decide_eq_true_eq] at h
 exact ⟨fun x hx=>List.all_eq_true.1 h.1.1 x hx,h.2.2.1⟩
theorem CG (ps:List ByteArray) (x:ByteArray) (h:ps.length≤60):0≤ixS ps x∧ixS ps x≤60:=by
 unfold ixS
 have:=List.findIdx_le_length (xs:=ps) (p:=fun y=>decide (y=x))
 omega
def bJ:AV := .d (.v (.slice none 0 0))
def DB (names:List ByteArray) (a b:PD):AV := .agg [.d (bq names),.d a,.d b]
def atA (l:List Hd) (day:Int):AV := .tup (if bN l&&gW day then [DB (ay l) (tJ (dA (ixS (ay l)) day l) (aT (dA (ixS (ay l)) day l).1)) (tJ (dE (ixS (ay l)) day l) (aT (dE (ixS (ay l)) day l).1)),iA 0] else [.agg [bJ,bJ,bJ],iA 1])
section
variable {base:World} (hT:dt base)
include hT
set_option maxRecDepth 100000 in
set_option maxHeartbeats 8000000 in
theorem E8 (l:List Hd) (day:Int) (hs:∀h∈l,Small h) (hj:∀h∈l,h.joint.length≤1000) (hl:l.length≤900):aI Tryz.prog base 13 [.d (cO l),iA day] (atA l day):=by
 have c1:=rm (base:=base) l hs hj hl
 have c2:=zO base day
 have c3:=kF (base:=base) l hs hj hl
 refine aC af Tryz.call13 Tryz.func13 rfl fun H hB hb hF => ?_
 rw [Tryz.results13,Tryz.ntmps13]
 simp only [aA,List.length_cons,List.length_nil,List.replicate,List.cons_append,List.nil_append,Nat.reduceAdd,Nat.reduceSub]
 clear hF hb
 simp only [iA,boA] at c1 c2 ⊢
 unfold atA
 obtain ⟨bv,hbv⟩:∃b,bN l=b:=⟨_,rfl⟩
 obtain ⟨bd,hbd⟩:∃b,gW day=b:=⟨_,rfl⟩
 rw [hbv] at c1 ⊢
 rw [hbd] at c2 ⊢
 repeat' (first | (refine aa ?_;first | (refine zg rfl ?_;first | refine ah ?_ | refine zo ?_ | (refine zs ?_ ?_<;>intro hb<;>((try simp only [bn] at hb);first | subst hb | simp only [hb]))) | (apply ai;rfl;simp only [aj,avs,tts,seval,dY l]<;>exact rr) | (refine za rfl ?_;first | refine zp (c1) ?_ | refine zp (c2) ?_ | refine zp (c3) ?_)) | refine ae ?_ | (refine ak ?_;first | (refine yg rfl ?_;first | refine ar ?_ | refine yo ?_ | (refine ys ?_ ?_<;>intro hb<;>((try simp only [bn] at hb);first | subst hb | simp only [hb]))) | (apply au;rfl;simp only [aB,avs,tts,seval,dY l]<;>exact rr;first | trivial | omega) | (refine ya rfl ?_;first | refine yp (c1) ?_ | refine yp (c2) ?_ | refine yp (c3) ?_)) | refine al ?_ | refine ag ?_ | refine zr af ?_ | refine zR 0 af mixed ?_ | refine zR 1 af mixed ?_ | refine zR 2 af mixed ?_ | refine zR 3 af mixed ?_ | refine zf rfl rfl ?_ | refine zt rfl rfl ?_ | (refine am rfl rfl ?_ ?_<;>intro hb<;>((try simp only [bn] at hb);first | subst hb | simp only [hb])) | refine ap ?_ | refine aq ?_ | refine an ?_)
 ·show AW _ _ _ _ _
  refine aw ⟨.tup [.agg [.d (.v (.slice none 0 0)),.d (.v (.slice none 0 0)),.d (.v (.slice none 0 0))],.d (.v (.int .i64 1))],?_,_,rfl,?_⟩
  ·simp only [bk,cN,er,avs,tts]<;>rfl
  ·simp only [Bool.and_false,Bool.false_and,Bool.false_eq_true,if_false];rfl
 ·clear c1 c2 c3
  have hln:=dY l
  obtain ⟨ix,hix⟩:∃ix,ixS (ay l)=ix:=⟨_,rfl⟩
  simp only [hix]
  refine aZ (H0:=H++[.box 25 [bJ,bJ,bJ],.box 25 [.d (bq (ay l)),bJ,bJ],.mp 63 3 (.flat [.int .i64,.int .i64]) (kE eU),.mp 63 3 (.flat [.int .i64,.int .i64]) (kE eU),.box 61 [.fn (.func 34) [] [.ptr (H.length+1) 0]]])
   (fun n env H'=>∃k,n=l.length - k∧k≤l.length∧H'=H++[.box 25 [bJ,bJ,bJ],.box 25 [.d (bq (ay l)),bJ,bJ],.mp 63 3 (.flat [.int .i64,.int .i64]) (kE (dA ix day (l.take k))),.mp 63 3 (.flat [.int .i64,.int .i64]) (kE (dE ix day (l.take k))),.box 61 [.fn (.func 34) [] [.ptr (H.length+1) 0]]]∧env=(.d (cO l) :: .d (.v (.int .i64 day)) :: .undef :: .undef :: .ptr H.length 0 :: .undef :: .ptr (H.length+1) 0 :: .mp (H.length+2) :: .mp (H.length+3) :: .undef :: .fn (.func 36) [] [.ptr (H.length+4) 0]::List.replicate 19 .undef ++ .d (cO l) :: .d (.v (.int .i64 (l.length:Int))) :: .d (.v (.int .i64 (k:Int)))::List.replicate 49 .undef)) ?_ ⟨0,rfl,Nat.zero_le _,rfl,rfl⟩ ?_
  ·exact ⟨by simp [aJ,List.replicate,cO,hln],.inl rfl⟩
  rintro n env H' ⟨k,rfl,hk,rfl,rfl⟩ hN
  simp only [List.replicate,List.cons_append,List.nil_append,cO]
  obtain ⟨c0,g0⟩:∃c0,decide ((k:Int)<(l.length:Int))=c0:=⟨_,rfl⟩
  repeat refine ag ?_
  refine zr af ?_
  repeat (refine aa ?_;first | (apply ai;rfl;simp only [aj,avs,tts,seval,g0]<;>exact rr) | (refine zg rfl ?_;first | refine ah ?_ | refine zo ?_))
  refine ae ?_
  cases c0 with
  | true =>
   have hlt:k<l.length:=by simpa using g0
   have hix2:(0:Int)≤(k:Int):=by omega
   have hgd:=iY hlt
   have cr:=x0 base l[k] day
   obtain ⟨rb,hrb⟩:∃rb,cF l[k] day=rb:=⟨_,rfl⟩
   rw [hrb] at cr
   have w1:IntKind.i64.wrap ((k:Int)+1)=((k+1:Nat):Int):=aP hlt (by omega)
   have hstC:dA ix day (l.take (k+1))=stC ix day (dA ix day (l.take k)) l[k]:=by rw [List.take_add_one,List.getElem?_eq_getElem hlt];exact pq ..
   have hstV:dE ix day (l.take (k+1))=stV ix day (dE ix day (l.take k)) l[k]:=by rw [List.take_add_one,List.getElem?_eq_getElem hlt];exact oH ..
   unfold stC at hstC
   unfold stV at hstV
   rw [hrb] at hstC hstV
   obtain ⟨h,hh⟩:∃h,l[k]=h:=⟨_,rfl⟩
   rw [hh] at hgd cr hstC hstV
   obtain ⟨id,company,holder,nominee,pledged,joint,capital,votes,fr,til⟩:=h
   simp only [hdC] at hgd
   simp only [hdA,hdL,tA,iA,boA] at cr
   repeat refine ag ?_
   refine am rfl rfl (fun hb => ?_) fun hb => ?_
   ·refine ap ?_
    cases rb with
    | false =>
     repeat' (first | (refine aa ?_;first | (refine zg rfl ?_;first | refine ah ?_ | refine zo ?_ | (refine zs ?_ ?_<;>intro hb<;>((try simp only [bn] at hb);first | subst hb | simp only [hb]))) | (apply ai;rfl;simp only [aj,avs,tts,seval,hix2,hlt,hgd,hln,w1]<;>exact rr) | (refine za rfl ?_;refine zp (cr) ?_)) | refine ae ?_ | (refine ak ?_;first | (refine yg rfl ?_;first | refine ar ?_ | refine yo ?_ | (refine ys ?_ ?_<;>intro hb<;>((try simp only [bn] at hb);first | subst hb | simp only [hb]))) | (apply au;rfl;simp only [aB,avs,tts,seval,hix2,hlt,hgd,hln,w1]<;>exact rr;first | trivial | omega) | (refine ya rfl ?_;refine yp (cr) ?_)) | refine al ?_ | refine ag ?_ | refine zr af ?_ | refine zR 0 af mixed ?_ | refine zR 1 af mixed ?_ | refine zR 2 af mixed ?_ | refine zR 3 af mixed ?_ | refine zf rfl rfl ?_ | refine zt rfl rfl ?_ | (refine am rfl rfl ?_ ?_<;>intro hb<;>((try simp only [bn] at hb);first | subst hb | simp only [hb])) | refine ap ?_ | refine aq ?_ | refine an ?_)
     simp only [Bool.false_eq_true,if_false] at hstC hstV
     refine ⟨l.length - (k+1),_,H++[.box 25 [bJ,bJ,bJ],.box 25 [.d (bq (ay l)),bJ,bJ],.mp 63 3 (.flat [.int .i64,.int .i64]) (kE (dA ix day (l.take k))),.mp 63 3 (.flat [.int .i64,.int .i64]) (kE (dE ix day (l.take k))),.box 61 [.fn (.func 34) [] [.ptr (H.length+1) 0]]],by omega,⟨?_,.inr ⟨by simp,?_,.more hB (.cons (by simp [aN.bel,aS,bJ,AV.bel]) (.cons (by simp [aN.bel,aS,bJ,AV.bel]) (.cons (fL _) (.cons (fL _) (.cons (by simp [aN.bel,aS,AV.bel]) .nil))))),[.box 36 [.d (.v (.string id)),.d (.v (.string company)),.d (.v (.string holder)),.d (.v (.string nominee)),.d (.v (.string pledged)),.d (bq joint),.d (.v (.int .i64 capital)),.d (.v (.int .i64 votes)),.d (.v (.int .i64 fr)),.d (.v (.int .i64 til))]],by simp⟩⟩,k+1,rfl,hlt,by rw [hstC,hstV],rfl⟩
     ·simp [aJ,List.replicate,cO]
     ·simp [aS,AV.bel,List.replicate]
    | true =>
     obtain ⟨hall,hp60⟩:=dM hbv
     have hmem:=List.getElem_mem hlt
     have hprop:=hall _ hmem
     have hjl:=hj _ hmem
     have hin:=fun x=>Cp (x:=x) hmem hprop
     have hpc:=eN hprop
     have hkc:=vl ix day l (fun h hh=>⟨(eN (hall h hh)).c0,(eN (hall h hh)).c1⟩) hj k (by omega)
     have hkv:=uu ix day l (fun h hh=>⟨(eN (hall h hh)).v0,(eN (hall h hh)).v1⟩) hj k (by omega)
     have hwl:=jz hjl
     have hvl:=mD hjl
     rw [hh] at hmem hprop hjl hin hpc hwl hvl
     simp only [if_true] at hstC hstV
     obtain ⟨hc0,hc1,hv0,hv1⟩:=hpc
     simp only at hc0 hc1 hv0 hv1 hjl
     obtain ⟨sc,hsc⟩:∃sc,dA ix day (l.take k)=sc:=⟨_,rfl⟩
     obtain ⟨sv,hsv⟩:∃sv,dE ix day (l.take k)=sv:=⟨_,rfl⟩
     rw [hsc] at hkc hstC ⊢
     rw [hsv] at hkv hstV ⊢
     clear hsc hsv
     have djl:(joint.map fun s=>[PD.v (.string s)]).length=joint.length:=by simp
     have dj:=qx joint
     have b1:1+joint.length≤9223372036854775807:=by omega
     have b2:(1+joint.length) * 16≤140737488355328:=by omega
     have e2:(1+joint.length=joint.length+1)=True:=eq_true (by omega)
     have dj2:List.map (fun it=>List.map AV.d it) (List.map (fun s=>[PD.v (.string s)]) joint)=joint.map fun s=>[AV.d (.v (.string s))]:=by simp
     obtain ⟨c2,z2⟩:∃b,decide (nominee=⟨#[]⟩)=b:=⟨_,rfl⟩
     obtain ⟨c3,z3⟩:∃b,decide (pledged=⟨#[]⟩)=b:=⟨_,rfl⟩
     repeat refine ag ?_
     refine an ?_
     repeat refine ag ?_
     repeat refine ag ?_
     refine zr af ?_
     repeat (refine aa ?_;first | (apply ai;rfl;simp only [aj,avs,tts,seval,hix2,hlt,hgd,hln]<;>exact rr) | (refine zg rfl ?_;first | refine ah ?_ | refine zo ?_))
     refine ae ?_
     repeat refine ag ?_
     refine zr af ?_
     repeat (refine aa ?_;first | (apply ai;rfl;simp only [aj,avs,tts,seval]<;>exact rr) | (refine zg rfl ?_;first | refine ah ?_ | refine zo ?_))
     refine zP rfl (cr) ?_
     repeat (refine aa ?_;first | (apply ai;rfl;simp only [aj,avs,tts,seval]<;>exact rr) | (refine zg rfl ?_;first | refine ah ?_ | refine zo ?_))
     refine ae ?_
     repeat refine ag ?_
     refine am rfl rfl (fun hb => ?_) fun hb => ?_
     ·cases hb
     refine ap ?_
     simp only [bq]
     repeat refine ag ?_
     refine zr af ?_
     repeat (refine aa ?_;first | (apply ai;rfl;simp only [aj,avs,tts,seval,djl,dj,dj2,b1,b2,e2]<;>exact rr) | (refine zg rfl ?_;first | refine ah ?_ | refine zo ?_))
     refine ae ?_
     repeat refine ag ?_
     refine zr af ?_
     repeat (refine aa ?_;first | (apply ai;rfl;simp only [aj,avs,tts,seval,z2]<;>exact rr) | (refine zg rfl ?_;first | refine ah ?_ | refine zo ?_))
     refine ae ?_
     obtain ⟨wc,hwc⟩:∃w,ev ⟨id,company,holder,nominee,pledged,joint,capital,votes,fr,til⟩=w:=⟨_,rfl⟩
     rw [hwc] at hwl hin hstC
     refine qE (Q0:=fun env K=>K=H++[.box 25 [bJ,bJ,bJ],.box 25 [.d (bq (ay l)),bJ,bJ],.mp 63 3 (.flat [.int .i64,.int .i64]) (kE (sc)),.mp 63 3 (.flat [.int .i64,.int .i64]) (kE (sv)),.box 61 [.fn (.func 34) [] [.ptr (H.length+1) 0]],.box 36 [.d (.v (.string id)),.d (.v (.string company)),.d (.v (.string holder)),.d (.v (.string nominee)),.d (.v (.string pledged)),.d (.sl 1 (joint.map fun s=>[PD.v (.string s)])),.d (.v (.int .i64 capital)),.d (.v (.int .i64 votes)),.d (.v (.int .i64 fr)),.d (.v (.int .i64 til))]]∧env=(.d (cO l) :: .d (.v (.int .i64 day)) :: .undef :: .undef :: .ptr H.length 0 :: .undef :: .ptr (H.length+1) 0 :: .mp (H.length+2) :: .mp (H.length+3) :: .undef :: .fn (.func 36) [] [.ptr (H.length+4) 0] :: .undef :: .ptr (H.length+5) 0 :: .d (bq (wc))::List.replicate 16 .undef ++ .d (cO l) :: .d (.v (.int .i64 (l.length:Int))) :: .d (.v (.int .i64 (k:Int)))::List.replicate 49 .undef)) ?_ ?_
     ·cases c2 with
      | true =>
       have hw:wc=holder::joint:=by rw [←hwc];exact if_pos (of_decide_eq_true z2)
       repeat refine ag ?_
       refine am rfl rfl (fun hb => ?_) fun hb => ?_
       ·cases hb
       have hfz:unI (joint.map fun s=>[AV.d (.v (.string s))])=some (joint.map fun s=>[PD.v (.string s)]):=by rw [←qx];exact bh _
       refine ap ?_
       rw [hw]
       exact ⟨rfl,_,_,_,_,.inl ⟨H.length+6,(by simp only [avs,tts,Nat.reduceAdd,Nat.reduceMul,Nat.reduceSub,Nat.reduceEqDiff,Nat.reduceLT,Nat.reduceLeDiff,Int.reduceToNat,Int.reduceLE,Int.reduceLT,Int.toNat_natCast,reduceCtorEq,bU,bY,cP,bh,bc,unI,unL,Nat.add_eq_left,Nat.left_eq_add,Nat.one_ne_zero,hfz,djl,e2]<;>rfl),(by simp only [avs,tts,Nat.reduceAdd,Nat.reduceMul,Nat.reduceSub,Nat.reduceEqDiff,Nat.reduceLT,Nat.reduceLeDiff,Int.reduceToNat,Int.reduceLE,Int.reduceLT,Int.toNat_natCast,reduceCtorEq,bU,bY,cP,bh,bc,unI,unL,Nat.add_eq_left,Nat.left_eq_add,Nat.one_ne_zero]<;>rfl)⟩,⟨by simp [aJ,List.replicate,bq,cO],.inr ⟨by simp,by simp [aS,AV.bel,List.replicate],.more hB (.cons (by simp [aN.bel,aS,bJ,AV.bel]) (.cons (by simp [aN.bel,aS,bJ,AV.bel]) (.cons (fL _) (.cons (fL _) (.cons (by simp [aN.bel,aS,AV.bel]) (.cons (by simp [aN.bel,aS,AV.bel]) .nil)))))),_,by simp only [List.append_assoc,List.cons_append,List.nil_append];rfl⟩⟩,rfl,rfl⟩
      | false =>
       have hw:wc=[nominee]:=by rw [←hwc];exact if_neg (of_decide_eq_false z2)
       repeat refine ag ?_
       refine am rfl rfl (fun hb => ?_) fun hb => ?_
       ·
        repeat refine ag ?_
        refine zr af ?_
        repeat (refine aa ?_;first | (apply ai;rfl;simp only [aj,avs,tts,seval]<;>exact rr) | (refine zg rfl ?_;first | refine ah ?_ | refine zo ?_))
        refine ae ?_
        rw [hw]
        exact ⟨rfl,_,_,_,_,.inl ⟨H.length+7,(by simp only [avs,tts,Nat.reduceAdd,Nat.reduceMul,Nat.reduceSub,Nat.reduceEqDiff,Nat.reduceLT,Nat.reduceLeDiff,Int.reduceToNat,Int.reduceLE,Int.reduceLT,Int.toNat_natCast,reduceCtorEq,bU,bY,cP,bh,bc,unI,unL,Nat.add_eq_left,Nat.left_eq_add,Nat.one_ne_zero]<;>rfl),(by simp only [avs,tts,Nat.reduceAdd,Nat.reduceMul,Nat.reduceSub,Nat.reduceEqDiff,Nat.reduceLT,Nat.reduceLeDiff,Int.reduceToNat,Int.reduceLE,Int.reduceLT,Int.toNat_natCast,reduceCtorEq,bU,bY,cP,bh,bc,unI,unL,Nat.add_eq_left,Nat.left_eq_add,Nat.one_ne_zero]<;>rfl)⟩,⟨by simp [aJ,List.replicate,bq,cO],.inr ⟨by simp,by simp [aS,AV.bel,List.replicate],.more hB (.cons (by simp [aN.bel,aS,bJ,AV.bel]) (.cons (by simp [aN.bel,aS,bJ,AV.bel]) (.cons (fL _) (.cons (fL _) (.cons (by simp [aN.bel,aS,AV.bel]) (.cons (by simp [aN.bel,aS,AV.bel]) .nil)))))),_,by simp only [List.append_assoc,List.cons_append,List.nil_append];rfl⟩⟩,rfl,rfl⟩
       ·cases hb
     rintro env0 K0 ⟨rfl,rfl⟩
     simp only [rp]
     have lsim:∀(n i j:Nat),(n+i=n+j)=(i=j):=fun n i j=>by simp
     have sh1:=uE (base:=base) (H:=H++[.box 25 [bJ,bJ,bJ],.box 25 [.d (bq (ay l)),bJ,bJ],.mp 63 3 (.flat [.int .i64,.int .i64]) (kE (sc)),.mp 63 3 (.flat [.int .i64,.int .i64]) (kE (sv)),.box 61 [.fn (.func 34) [] [.ptr (H.length+1) 0]],.box 36 [.d (.v (.string id)),.d (.v (.string company)),.d (.v (.string holder)),.d (.v (.string nominee)),.d (.v (.string pledged)),.d (.sl 1 (joint.map fun s=>[PD.v (.string s)])),.d (.v (.int .i64 capital)),.d (.v (.int .i64 votes)),.d (.v (.int .i64 fr)),.d (.v (.int .i64 til))]]) (lm:=H.length+2) (lc:=H.length+4) (ls:=H.length+1) ix company capital wc sc (6006000 * k) (by simp) (by simp) (by simp) (by simp) hkc.1 (by omega) (by have:=hkc.2;omega) (by simp) (fun x hx K hK=>by rw [←hix];exact rA (base:=base) (H:=K) (c:=bJ) (v:=bJ) (ay l) (eO l) (dp l) (hin x (by rcases hx with h | h;exact .inl h;exact .inr (.inl h))) (by rw [hK];simp) (by omega)) hc0 hc1 (by omega)
     simp only [tA,iA,bq] at sh1 ⊢
     repeat refine ag ?_
     refine zr af ?_
     repeat (refine aa ?_;first | (apply ai;rfl;simp only [aj,avs,tts,seval]<;>exact rr) | (refine zg rfl ?_;first | refine ah ?_ | refine zo ?_))
     refine bZ rfl (by simp only [avs]<;>rfl) (⟨_,sh1,?_⟩)
     rintro r1 K1 rfl hle1
     rw [s7]
     simp only [bw,bx,List.set_cons_succ,List.set_cons_zero,←hstC]
     repeat (refine aa ?_;first | (apply ai;rfl;simp only [aj,avs,tts,seval]<;>exact rr) | (refine zg rfl ?_;first | refine ah ?_ | refine zo ?_))
     refine ae ?_
     obtain ⟨sc2,hsc2⟩:∃s,dA ix day (l.take (k+1))=s:=⟨_,rfl⟩
     rw [hsc2]
     clear hstC sh1
     repeat refine ag ?_
     repeat refine ag ?_
     refine zr af ?_
     repeat (refine aa ?_;first | (apply ai;rfl;simp only [aj,avs,tts,seval,z3]<;>exact rr) | (refine zg rfl ?_;first | refine ah ?_ | refine zo ?_))
     refine ae ?_
     obtain ⟨wv,hwv⟩:∃w,eK ⟨id,company,holder,nominee,pledged,joint,capital,votes,fr,til⟩=w:=⟨_,rfl⟩
     rw [hwv] at hvl hin hstV
     refine qE (Q0:=fun env K=>K=H++[.box 25 [bJ,bJ,bJ],.box 25 [.d (bq (ay l)),bJ,bJ],.mp 63 3 (.flat [.int .i64,.int .i64]) (kE (sc2)),.mp 63 3 (.flat [.int .i64,.int .i64]) (kE (sv)),.box 61 [.fn (.func 34) [] [.ptr (H.length+1) 0]],.box 36 [.d (.v (.string id)),.d (.v (.string company)),.d (.v (.string holder)),.d (.v (.string nominee)),.d (.v (.string pledged)),.d (.sl 1 (joint.map fun s=>[PD.v (.string s)])),.d (.v (.int .i64 capital)),.d (.v (.int .i64 votes)),.d (.v (.int .i64 fr)),.d (.v (.int .i64 til))]]∧env=(.d (cO l) :: .d (.v (.int .i64 day)) :: .undef :: .undef :: .ptr H.length 0 :: .undef :: .ptr (H.length+1) 0 :: .mp (H.length+2) :: .mp (H.length+3) :: .undef :: .fn (.func 36) [] [.ptr (H.length+4) 0] :: .undef :: .ptr (H.length+5) 0 :: .d (bq (wv))::List.replicate 16 .undef ++ .d (cO l) :: .d (.v (.int .i64 (l.length:Int))) :: .d (.v (.int .i64 (k:Int)))::List.replicate 49 .undef)) ?_ ?_
     ·cases c3 with
      | true =>
       have hw:wv=wc:=by rw [←hwv,←hwc];exact if_pos (of_decide_eq_true z3)
       repeat refine ag ?_
       refine am rfl rfl (fun hb => ?_) fun hb => ?_
       ·cases hb
       refine ap ?_
       rw [hw]
       exact ⟨rfl,_,_,_,_,.inr ⟨rfl,rfl⟩,⟨by simp [aJ,List.replicate,bq,cO],.inl rfl⟩,rfl,rfl⟩
      | false =>
       have hw:wv=[pledged]:=by rw [←hwv];exact if_neg (of_decide_eq_false z3)
       repeat refine ag ?_
       refine am rfl rfl (fun hb => ?_) fun hb => ?_
       ·
        repeat refine ag ?_
        refine zr af ?_
        repeat (refine aa ?_;first | (apply ai;rfl;simp only [aj,avs,tts,seval]<;>exact rr) | (refine zg rfl ?_;first | refine ah ?_ | refine zo ?_))
        refine ae ?_
        rw [hw]
        exact ⟨rfl,_,_,_,_,.inl ⟨H.length+6,(by simp only [avs,tts,Nat.reduceAdd,Nat.reduceMul,Nat.reduceSub,Nat.reduceEqDiff,Nat.reduceLT,Nat.reduceLeDiff,Int.reduceToNat,Int.reduceLE,Int.reduceLT,Int.toNat_natCast,reduceCtorEq,bU,bY,cP,bh,bc,unI,unL,Nat.add_eq_left,Nat.left_eq_add,Nat.one_ne_zero]<;>rfl),(by simp only [avs,tts,Nat.reduceAdd,Nat.reduceMul,Nat.reduceSub,Nat.reduceEqDiff,Nat.reduceLT,Nat.reduceLeDiff,Int.reduceToNat,Int.reduceLE,Int.reduceLT,Int.toNat_natCast,reduceCtorEq,bU,bY,cP,bh,bc,unI,unL,Nat.add_eq_left,Nat.left_eq_add,Nat.one_ne_zero]<;>rfl)⟩,⟨by simp [aJ,List.replicate,bq,cO],.inr ⟨by simp,by simp [aS,AV.bel,List.replicate],.more hB (.cons (by simp [aN.bel,aS,bJ,AV.bel]) (.cons (by simp [aN.bel,aS,bJ,AV.bel]) (.cons (fL _) (.cons (fL _) (.cons (by simp [aN.bel,aS,AV.bel]) (.cons (by simp [aN.bel,aS,AV.bel]) .nil)))))),_,by simp only [List.append_assoc,List.cons_append,List.nil_append];rfl⟩⟩,rfl,rfl⟩
       ·cases hb
     rintro env0 K0 ⟨rfl,rfl⟩
     simp only [rp]
     have sh2:=uE (base:=base) (H:=H++[.box 25 [bJ,bJ,bJ],.box 25 [.d (bq (ay l)),bJ,bJ],.mp 63 3 (.flat [.int .i64,.int .i64]) (kE (sc2)),.mp 63 3 (.flat [.int .i64,.int .i64]) (kE (sv)),.box 61 [.fn (.func 34) [] [.ptr (H.length+1) 0]],.box 36 [.d (.v (.string id)),.d (.v (.string company)),.d (.v (.string holder)),.d (.v (.string nominee)),.d (.v (.string pledged)),.d (.sl 1 (joint.map fun s=>[PD.v (.string s)])),.d (.v (.int .i64 capital)),.d (.v (.int .i64 votes)),.d (.v (.int .i64 fr)),.d (.v (.int .i64 til))]]) (lm:=H.length+3) (lc:=H.length+4) (ls:=H.length+1) ix company votes wv sv (6006000 * k) (by simp) (by simp) (by simp) (by simp) hkv.1 (by omega) (by have:=hkv.2;omega) (by simp) (fun x hx K hK=>by rw [←hix];exact rA (base:=base) (H:=K) (c:=bJ) (v:=bJ) (ay l) (eO l) (dp l) (hin x (by rcases hx with h | h;exact .inl h;exact .inr (.inr h))) (by rw [hK];simp) (by omega)) hv0 hv1 (by omega)
     simp only [tA,iA,bq] at sh2 ⊢
     repeat refine ag ?_
     refine zr af ?_
     repeat (refine aa ?_;first | (apply ai;rfl;simp only [aj,avs,tts,seval]<;>exact rr) | (refine zg rfl ?_;first | refine ah ?_ | refine zo ?_))
     refine bZ rfl (by simp only [avs]<;>rfl) (⟨_,sh2,?_⟩)
     rintro r2 K2 rfl hle2
     rw [s7]
     simp only [bw,bx,List.set_cons_succ,List.set_cons_zero,←hstV]
     repeat (refine aa ?_;first | (apply ai;rfl;simp only [aj,avs,tts,seval]<;>exact rr) | (refine zg rfl ?_;first | refine ah ?_ | refine zo ?_))
     refine ae ?_
     show AW _ _ _ _ _
     repeat refine ag ?_
     refine zr af ?_
     repeat (refine aa ?_;first | (apply ai;rfl;simp only [aj,avs,tts,seval,w1]<;>exact rr) | (refine zg rfl ?_;first | refine ah ?_ | refine zo ?_))
     refine ae ?_
     refine ⟨l.length - (k+1),_,H++[.box 25 [bJ,bJ,bJ],.box 25 [.d (bq (ay l)),bJ,bJ],.mp 63 3 (.flat [.int .i64,.int .i64]) (kE sc2),.mp 63 3 (.flat [.int .i64,.int .i64]) (kE (dE ix day (l.take (k+1)))),.box 61 [.fn (.func 34) [] [.ptr (H.length+1) 0]]],by omega,⟨?_,.inr ⟨by simp,?_,.more hB (.cons (by simp [aN.bel,aS,bJ,AV.bel]) (.cons (by simp [aN.bel,aS,bJ,AV.bel]) (.cons (fL _) (.cons (fL _) (.cons (by simp [aN.bel,aS,AV.bel]) .nil))))),_,by simp only [List.append_assoc,List.cons_append,List.nil_append];rfl⟩⟩,k+1,rfl,hlt,by rw [hsc2];rfl,rfl⟩
     ·simp [aJ,List.replicate,cO]
     ·simp [aS,AV.bel,List.replicate]
   ·cases hb
  | false =>
   have hkl:k=l.length:=by
                  have:¬k<l.length:=by simpa using g0
                  omega
   subst hkl
   rw [List.take_length]
   obtain ⟨hall,hp60⟩:=dM hbv
   have hkc:=vl ix day l (fun h hh=>⟨(eN (hall h hh)).c0,(eN (hall h hh)).c1⟩) hj l.length (Nat.le_refl _)
   have hkv:=uu ix day l (fun h hh=>⟨(eN (hall h hh)).v0,(eN (hall h hh)).v1⟩) hj l.length (Nat.le_refl _)
   rw [List.take_length] at hkc hkv
   have hbd:∀x, -9223372036854775808≤ix x∧ix x≤9223372036854775807:=fun x=>by rw [←hix];have:=CG (ay l) x hp60;omega
   have okg:∀{co:ByteArray} {pc:Int} {p:Int × Int} {x:ByteArray},ff ix co pc p x=true→okK p:=fun h=>by
    have h2:=(of_decide_eq_true h).2.2
    rw [←h2];exact ⟨hbd _,hbd _⟩
   have okc:∀p∈(dA ix day l).1,okK p:=fun p hp=>by
    obtain ⟨h,_,_,x,_,hg⟩:=(sM ..).1 hp
    exact okg hg
   have okv:∀p∈(dE ix day l).1,okK p:=fun p hp=>by
    obtain ⟨h,_,_,x,_,hg⟩:=(qU ..).1 hp
    exact okg hg
   generalize dA ix day l=sc at *
   generalize dE ix day l=sv at *
   have cl1:=fun G=>uR (base:=base) hT (H:=H++(.box 25 [bJ,bJ,bJ] :: .box 25 [.d (bq (ay l)),bJ,bJ] :: .mp 63 3 (.flat [.int .i64,.int .i64]) (kE sc)::G)) (l:=H.length+2) sc (by simp) hkc.1 (by omega) okc (by have:=hkc.2;omega)
   have cl2:=fun G=>uR (base:=base) hT (H:=H++(.box 25 [bJ,bJ,bJ] :: .box 25 [.d (bq (ay l)),bJ,bJ] :: .mp 63 3 (.flat [.int .i64,.int .i64]) (kE sc) :: .mp 63 3 (.flat [.int .i64,.int .i64]) (kE sv)::G)) (l:=H.length+3) sv (by simp) hkv.1 (by omega) okv (by have:=hkv.2;omega)
   clear hkc hkv okc okv okg
   simp only [tJ] at cl1 cl2 ⊢
   generalize List.map (lkC sc) (aT sc.1)=pc at *
   generalize List.map (lkC sv) (aT sv.1)=pv at *
   repeat' (first | (refine aa ?_;first | (refine zg rfl ?_;first | refine ah ?_ | refine zo ?_ | (refine zs ?_ ?_<;>intro hb<;>((try simp only [bn] at hb);first | subst hb | simp only [hb]))) | (apply ai;rfl;simp only [aj,avs,tts,seval]<;>exact rr) | (refine za rfl ?_;first | refine zd (cl1 _) ?_ | refine zd (cl2 _) ?_)) | refine ae ?_ | (refine ak ?_;first | (refine yg rfl ?_;first | refine ar ?_ | refine yo ?_ | (refine ys ?_ ?_<;>intro hb<;>((try simp only [bn] at hb);first | subst hb | simp only [hb]))) | (apply au;rfl;simp only [aB,avs,tts,seval]<;>exact rr;first | trivial | omega) | (refine ya rfl ?_;first | refine yd (cl1 _) ?_ | refine yd (cl2 _) ?_)) | refine al ?_ | refine ag ?_ | refine zr af ?_ | refine zR 0 af mixed ?_ | refine zR 1 af mixed ?_ | refine zR 2 af mixed ?_ | refine zR 3 af mixed ?_ | refine zf rfl rfl ?_ | refine zt rfl rfl ?_ | (refine am rfl rfl ?_ ?_<;>intro hb<;>((try simp only [bn] at hb);first | subst hb | simp only [hb])) | refine ap ?_ | refine aq ?_ | refine an ?_)
   refine aw ⟨.tup [.agg [.d (bq (ay l)),.d (.sl 5 pc),.d (.sl 5 pv)],.d (.v (.int .i64 0))],?_,_,rfl,?_⟩
   ·simp only [bk,cN,er,avs,tts]<;>rfl
   ·simp only [Bool.and_true,if_true];rfl
 ·show AW _ _ _ _ _
  refine aw ⟨.tup [.agg [.d (.v (.slice none 0 0)),.d (.v (.slice none 0 0)),.d (.v (.slice none 0 0))],.d (.v (.int .i64 1))],?_,_,rfl,?_⟩
  ·simp only [bk,cN,er,avs,tts]<;>rfl
  ·simp only [Bool.and_false,Bool.false_and,Bool.false_eq_true,if_false];rfl
end
end Av
end Go.Proofs.YtdekcppfpgeneaaGreatDoor
namespace Go.Proofs.YtdekcppfpgeneaaGreatDoor
open Go Go.RowKit
namespace Rg
open Av Nt
theorem rf {α β:Type} (p:β→Bool) (g:β→Int) (f:α→β):∀l:List α,bB p g (l.map f)=bB (fun a=>p (f a)) (fun a=>g (f a)) l
 | []=>rfl
 | a::r=>by simp only [List.map_cons,bB,rf p g f r]
theorem u6 {ps:List ByteArray} {x:ByteArray} (hx:x∈ps):∃(i:Nat) (h:i<ps.length),ixS ps x=i∧ps[i]=x:=by
 have hi0:(ps.findIdx fun y=>decide (y=x))<ps.length:=List.findIdx_lt_length_of_exists ⟨x,hx,by simp⟩
 exact ⟨_,hi0,rfl,by simpa using List.findIdx_getElem (w:=hi0)⟩
theorem tN {ps:List ByteArray} {x y:ByteArray} (hx:x∈ps) (hy:y∈ps):ixS ps x=ixS ps y↔x=y:=by
 obtain ⟨i,hi,e1,e2⟩:=u6 hx
 obtain ⟨j,hj,e3,e4⟩:=u6 hy
 constructor
 ·intro h
  rw [e1,e3] at h
  have:i=j:=by omega
  subst this
  exact e2.symm.trans e4
 ·rintro rfl;rfl
theorem y7 {ps:List ByteArray} (hn:ps.Nodup) {i:Nat} (hi:i<ps.length):ixS ps ps[i]=i:=by
 obtain ⟨j,hj,e1,e2⟩:=u6 (List.getElem_mem hi)
 rw [e1]
 have hp:=List.pairwise_iff_getElem.1 hn
 rcases Nat.lt_trichotomy i j with h | h | h
 ·exact absurd e2.symm (hp i j hi hj h)
 ·omega
 ·exact absurd e2 (hp j i hj hi h)
theorem mE {h:Hd} (hp:bl h=true) {x:ByteArray} (hx:x∈ev h):x∈bu h:=by
 rw [dn] at hp
 unfold ev at hx
 unfold bu
 simp only [List.mem_cons,List.mem_filter,Bool.not_eq_true',decide_eq_false_iff_not]
 by_cases e:h.nominee=emp
 ·rw [if_pos e] at hx
  rcases List.mem_cons.1 hx with rfl | hx
  ·exact .inr (.inl rfl)
  ·exact .inr (.inr ⟨.inr (.inr hx),mr (hp.joint x hx)⟩)
 ·rw [if_neg e] at hx
  rw [List.mem_singleton] at hx
  subst hx
  exact .inr (.inr ⟨.inl rfl,e⟩)
end Rg
end Go.Proofs.YtdekcppfpgeneaaGreatDoor
namespace Go.Proofs.YtdekcppfpgeneaaGreatDoor
open Go Go.RowKit
namespace Rg
open Av Nt
def ig (p:Int × Int) (c h:Int):Bool:=decide (c>p.1)||(decide (c=p.1)&&decide (h>p.2))
def eG (l:List Lk):Int × Int:=match l.getLast? with
 | none=>(-1, -1)
 | some x=>(x.company,x.holder)
def du (l:List Lk) (c:Int):Int:=bB (fun x=>decide (x.company=c)) (fun x=>cZ x.part) l
def iG (n:Int) (pre:List Lk) (x:Lk):Bool:=decide (x.company<0)||(decide (x.company≥n)||(decide (x.holder<0)||(decide (x.holder≥n)||(decide (x.company=x.holder)||(!ig (eG pre) x.company x.holder||(decide (cZ x.part=0)||decide (du (pre++[x]) x.company>6000)))))))
def pb (n:Int):List Lk→List Lk→Bool
 | _,[]=>true
 | pre,x::r => !iG n pre x&&pb n (pre++[x]) r
def eR (n:Int) (l:List Lk):Bool:=pb n [] l
theorem rZ {n:Int}:∀{l pre:List Lk},pb n pre l=true↔∀k (h:k<l.length),iG n (pre++l.take k) l[k]=false
 | [],pre=>by simp [pb]
 | x::r,pre=>by
  rw [pb,Bool.and_eq_true,rZ]
  constructor
  ·rintro ⟨h1,h2⟩ k hk
   cases k with
   | zero=>simpa using h1
   | succ k=>have:=h2 k (by simpa using hk);simpa using this
  ·intro h
   refine ⟨by have:=h 0 (by simp);simpa using this,fun k hk => ?_⟩
   have:=h (k+1) (by simpa using hk)
   simpa using this
theorem jY {n:Int} {l:List Lk}:eR n l=true↔∀k (h:k<l.length),iG n (l.take k) l[k]=false:=by
 unfold eR;rw [rZ];simp
theorem sa {n:Int} {l:List Lk} {k:Nat} (h:k<l.length) (hb:iG n (l.take k) l[k]=true):eR n l=false:=by
 cases hg:eR n l with
 | false=>rfl
 | true=>rw [jY.1 hg k h] at hb;cases hb
theorem fP (l:List Lk) (x:Lk) (c:Int):du (l++[x]) c=du l c+(if x.company=c then cZ x.part else 0):=by
 unfold du
 rw [ku]
 simp only [decide_eq_true_eq]
theorem ly (l:List Lk) (c:Int):0≤du l c:=dl fun x _ _=>(mI x.part).1
theorem nu {l:List Lk} {k:Nat} (h:k<l.length):eG (l.take (k+1))=(l[k].company,l[k].holder):=by
 have e:l.take (k+1)=l.take k++[l[k]]:=by rw [List.take_add_one,List.getElem?_eq_getElem h];rfl
 rw [e]
 unfold eG
 rw [List.getLast?_concat]
def Bf (i:Int):Value := .int .i64 i
theorem Ca (a b:Int):keyEq (Bf a) (Bf b)=decide (a=b):=by
 show keyEq (.int .i64 a) (.int .i64 b)=_
 simp [keyEq,eqV]
def xA (l:List Lk) (c:Int):AV := .d (.v (.int .i64 (du l c)))
def jD (l:List Lk):List (Value × AV):=mpE Bf (df (l.map Lk.company)) (xA l)
theorem xB {l:List Lk} {c:Int} (h:¬c∈df (l.map Lk.company)):du l c=0:=by
 unfold du
 refine Classical.byContradiction fun hn => ?_
 obtain ⟨x,hx,he⟩:=pK hn
 exact h (iW.2 (List.mem_map.2 ⟨x,hx,of_decide_eq_true he⟩))
theorem q0 (l:List Lk) (c:Int):(io (jD l) (.int .i64 c)).getD (.d (.v (.int .i64 0))) = .d (.v (.int .i64 (du l c))) :=
 fY Ca (f:=xA l) (k:=c) fun h=>by unfold xA;rw [xB h]
theorem xD (l:List Lk) (x:Lk):kL (jD l) (.int .i64 x.company) (.d (.v (.int .i64 (du (l++[x]) x.company))))=jD (l++[x]):=by
 have:=nb Ca (fw (l.map Lk.company)) (xA l) x.company (.d (.v (.int .i64 (du (l++[x]) x.company))))
 unfold jD
 rw [show (Value.int .i64 x.company)=Bf x.company from rfl,this,List.map_append,List.map_cons,List.map_nil,tK]
 congr 1
 funext c
 unfold g9 xA
 by_cases h:c=x.company
 ·subst h;rw [if_pos rfl]
 ·rw [if_neg h,fP,if_neg (fun e=>h e.symm),Int.add_zero]
theorem xE (l:List Lk):(jD l).length≤l.length:=by
 unfold jD
 rw [pX]
 refine Nat.le_trans (o7 _) ?_
 simp
theorem Ac {n:Nat} {kt et:Nat} {ks:KS} (l:List Lk):(aN.mp kt et ks (jD l)).bel n:=by
 show lh n (jD l)
 unfold jD mpE
 induction df (l.map Lk.company) with
 | nil=>exact trivial
 | cons a r ih=>exact ⟨trivial,ih⟩
end Rg
namespace Av
attribute [local irreducible] AW aL aH
open Nt Rg
section
variable {base:World} (hT:dt base)
include hT
set_option maxRecDepth 100000 in
set_option maxHeartbeats 16000000 in
theorem zh {H:av} {ln:Nat} (l:List Lk) (n:Int) (hn:H[ln]?=some (.box 3 [iA n])) (hl:l.length≤1000000000) (hsz:∀x∈l,x.part.num.size≤9223372036854775807∧x.part.den.size≤9223372036854775807) :
  da Tryz.prog base 40 [.d (js l),.ptr ln 0] H (boA (eR n l)):=by
 refine cC af Tryz.call40 Tryz.func40 rfl fun hB hb hF => ?_
 rw [Tryz.results40,Tryz.ntmps40]
 simp only [aA,List.length_cons,List.length_nil,List.replicate,List.cons_append,List.nil_append,Nat.reduceAdd,Nat.reduceSub]
 clear hF hb
 have la:(l.map lkP).length=l.length:=by simp
 have hnl:=aF hn
 have ksh:∀i,bo (.one (.int .i64)) (.int .i64 i)=true:=fun _=>rfl
 have ms0:jD (l.take 0)=[]:=rfl
 simp only [js]
 obtain ⟨P,hP⟩:∃P,eR n l=P:=⟨_,rfl⟩
 rw [hP]
 repeat' (first | (refine aa ?_;first | (refine zg rfl ?_;first | refine ah ?_ | refine zo ?_ | (refine zs ?_ ?_<;>intro hb<;>((try simp only [bn] at hb);first | subst hb | simp only [hb]))) | (apply ai;rfl;simp only [aj,avs,tts,seval,la]<;>exact rr)) | refine ae ?_ | (refine ak ?_;first | (refine yg rfl ?_;first | refine ar ?_ | refine yo ?_ | (refine ys ?_ ?_<;>intro hb<;>((try simp only [bn] at hb);first | subst hb | simp only [hb]))) | (apply au;rfl;simp only [aB,avs,tts,seval,la]<;>exact rr;first | trivial | omega)) | refine al ?_ | refine ag ?_ | refine zr af ?_ | refine zR 0 af mixed ?_ | refine zR 1 af mixed ?_ | refine zR 2 af mixed ?_ | refine zR 3 af mixed ?_ | refine zf rfl rfl ?_ | refine zt rfl rfl ?_ | (refine am rfl rfl ?_ ?_<;>intro hb<;>((try simp only [bn] at hb);first | subst hb | simp only [hb])) | refine ap ?_ | refine aq ?_ | refine an ?_)
 refine aZ (H0:=H++[.mp 3 3 (.one (.int .i64)) (jD (l.take 0)),.box 63 [.d (.v (.int .i64 (-1))),.d (.v (.int .i64 (-1)))]]) (fun r env K=>∃k,r=l.length - k∧k≤l.length∧(∀i (hi:i<l.length),i<k→iG n (l.take i) l[i]=false)∧(∀c,du (l.take k) c≤6000)∧K=H++[.mp 3 3 (.one (.int .i64)) (jD (l.take k)),.box 63 [.d (.v (.int .i64 (eG (l.take k)).1)),.d (.v (.int .i64 (eG (l.take k)).2))]]∧env=(.d (.sl 5 (l.map lkP)) :: .ptr ln 0 :: .undef :: .undef :: .mp H.length :: .ptr (H.length+1) 0::List.replicate 7 .undef ++ .d (.sl 5 (l.map lkP)) :: .d (.v (.int .i64 (l.length:Int))) :: .d (.v (.int .i64 (k:Int)))::List.replicate 80 .undef)) ?_ ⟨0,rfl,Nat.zero_le _,fun i _ h=>by omega,fun c=>by simp [du,bB],rfl,rfl⟩ ?_
 ·exact ⟨by simp [aJ,List.replicate],.inl rfl⟩
 rintro r env K ⟨k,rfl,hk,hok,htot,rfl,rfl⟩ hN
 simp only [rp]
 obtain ⟨c1,g1⟩:∃c1,decide ((k:Int)<(l.length:Int))=c1:=⟨_,rfl⟩
 cases c1 with
 | false =>
  have hka:k=l.length:=by
                 have:¬k<l.length:=by simpa using g1
                 omega
  have hp:P=true:=by rw [←hP];exact jY.2 fun i hi=>hok i hi (by omega)
  repeat' (first | (refine aa ?_;first | (refine zg rfl ?_;first | refine ah ?_ | refine zo ?_ | (refine zs ?_ ?_<;>intro hb<;>((try simp only [bn] at hb);first | subst hb | simp only [hb]))) | (apply ai;rfl;simp only [aj,avs,tts,seval,g1]<;>exact rr)) | refine ae ?_ | (refine ak ?_;first | (refine yg rfl ?_;first | refine ar ?_ | refine yo ?_ | (refine ys ?_ ?_<;>intro hb<;>((try simp only [bn] at hb);first | subst hb | simp only [hb]))) | (apply au;rfl;simp only [aB,avs,tts,seval,g1]<;>exact rr;first | trivial | omega)) | refine al ?_ | refine ag ?_ | refine zr af ?_ | refine zR 0 af mixed ?_ | refine zR 1 af mixed ?_ | refine zR 2 af mixed ?_ | refine zR 3 af mixed ?_ | refine zf rfl rfl ?_ | refine zt rfl rfl ?_ | (refine am rfl rfl ?_ ?_<;>intro hb<;>((try simp only [bn] at hb);first | subst hb | simp only [hb])) | refine ap ?_ | refine aq ?_ | refine an ?_)
  rw [hp]
  exact aw ⟨_,rfl,_,rfl,rfl⟩
 | true =>
  have hlt:k<l.length:=by simpa using g1
  have hix:(0:Int)≤(k:Int):=by omega
  have ga:=jt hlt
  have w1:IntKind.i64.wrap ((k:Int)+1)=((k+1:Nat):Int):=aP hlt (by omega)
  have hsn:l.take (k+1)=l.take k++[l[k]]:=by rw [List.take_add_one,List.getElem?_eq_getElem hlt];rfl
  have hla:=nu hlt
  have hszk:=hsz _ (List.getElem_mem hlt)
  have hno:=fun hb=>sa (n:=n) hlt hb
  have hoks:iG n (l.take k) l[k]=false→∀i (hi:i<l.length),i<k+1→iG n (l.take i) l[i]=false:=fun h i hi h2=>by
   rcases Nat.lt_succ_iff_lt_or_eq.1 h2 with h3 | h3
   ·exact hok i hi h3
   ·subst h3;exact h
  have hlen:=xE (l.take k)
  have hlenk:(l.take k).length=k:=by simp;omega
  have hub:=mI l[k].part
  have cu:=Aw hT l[k].part hszk.1 hszk.2
  obtain ⟨x,hx⟩:∃x,l[k]=x:=⟨_,rfl⟩
  simp only [hx] at ga hsn hla hno hoks hub cu
  obtain ⟨pre,hpre⟩:∃p,l.take k=p:=⟨_,rfl⟩
  rw [hpre] at hsn htot hno hoks hlen hlenk ⊢
  rw [hsn] at hla
  have t1:=q0 pre x.company
  have t2:=q0 (pre++[x]) x.company
  have t3:=xD pre x
  have t4:=fP pre x
  have t5:=ly pre x.company
  have t6:=htot x.company
  have hbad:iG n pre x=(decide (x.company<0)||(decide (x.company≥n)||(decide (x.holder<0)||(decide (x.holder≥n)||(decide (x.company=x.holder)||(!ig (eG pre) x.company x.holder||(decide (cZ x.part=0)||decide (du (pre++[x]) x.company>6000)))))))):=rfl
  obtain ⟨lk,hlk⟩:∃p,eG pre=p:=⟨_,rfl⟩
  rw [hlk] at hbad ⊢
  clear hlk
  obtain ⟨u,hu⟩:∃u,cZ x.part=u:=⟨_,rfl⟩
  obtain ⟨t,ht⟩:∃t,du pre x.company=t:=⟨_,rfl⟩
  have ht':du (pre++[x]) x.company=t+u:=by rw [t4,if_pos rfl,ht,hu]
  have hnext:iG n pre x=false→∀c,du (pre++[x]) c≤6000:=fun hb c=>by
   by_cases hc:x.company=c
   ·subst hc
    rw [hbad] at hb
    simp only [Bool.or_eq_false_iff,decide_eq_false_iff_not] at hb
    omega
   ·rw [t4,if_neg hc];have:=htot c;omega
  rw [ht'] at t2 t3 hbad
  rw [ht] at t1 t5 t6
  rw [hu] at cu hub hbad
  clear t4 ht ht' hu
  obtain ⟨xc,xh,xp⟩:=x
  obtain ⟨rn,ru,rd⟩:=xp
  simp only [fF,tA,iA] at cu hn
  simp only [lkP] at ga
  simp only at t1 t2 t3 hbad hla
  unfold ig at hbad
  have w2:IntKind.i64.wrap (t+u)=t+u:=by rw [IntKind.wrap_i64];omega
  have q4:((jD pre).length≤9223372036854775807)=True:=eq_true (by omega)
  obtain ⟨lk1,lk2⟩:=lk
  simp only at hbad ⊢
  obtain ⟨e1,f1⟩:∃c,decide (xc<0)=c:=⟨_,rfl⟩
  obtain ⟨e2,f2⟩:∃c,decide (xc≥n)=c:=⟨_,rfl⟩
  obtain ⟨e3,f3⟩:∃c,decide (xh<0)=c:=⟨_,rfl⟩
  obtain ⟨e4,f4⟩:∃c,decide (xh≥n)=c:=⟨_,rfl⟩
  obtain ⟨e5,f5⟩:∃c,decide (xc=xh)=c:=⟨_,rfl⟩
  obtain ⟨e6,f6⟩:∃c,decide (xc>lk1)=c:=⟨_,rfl⟩
  obtain ⟨e7,f7⟩:∃c,decide (xc=lk1)=c:=⟨_,rfl⟩
  obtain ⟨e8,f8⟩:∃c,decide (xh>lk2)=c:=⟨_,rfl⟩
  obtain ⟨e9,f9⟩:∃c,decide (u=0)=c:=⟨_,rfl⟩
  obtain ⟨e10,f10⟩:∃c,decide (t+u>6000)=c:=⟨_,rfl⟩
  rw [f1,f2,f3,f4,f5,f6,f7,f8,f9,f10] at hbad
  have hn2:=fun G=>got hn G
  repeat' (first | (refine aa ?_;first | (refine zg rfl ?_;first | refine ah ?_ | refine zo ?_ | (refine zs ?_ ?_<;>intro hb<;>((try simp only [bn] at hb);first | subst hb | simp only [hb]))) | (apply ai;rfl;simp only [aj,avs,tts,seval,hix,hlt,ga,la,g1,hn2,w1,w2,ksh,t1,t2,t3,q4,f1,f2,f3,f4,f5,f6,f7,f8,f9,f10,Bool.not_true,Bool.not_false]<;>exact rr) | (refine za rfl ?_;refine zp (cu) ?_)) | refine ae ?_ | (refine ak ?_;first | (refine yg rfl ?_;first | refine ar ?_ | refine yo ?_ | (refine ys ?_ ?_<;>intro hb<;>((try simp only [bn] at hb);first | subst hb | simp only [hb]))) | (apply au;rfl;simp only [aB,avs,tts,seval,hix,hlt,ga,la,g1,hn2,w1,w2,ksh,t1,t2,t3,q4,f1,f2,f3,f4,f5,f6,f7,f8,f9,f10,Bool.not_true,Bool.not_false]<;>exact rr;first | trivial | omega) | (refine ya rfl ?_;refine yp (cu) ?_)) | refine al ?_ | refine ag ?_ | refine zr af ?_ | refine zR 0 af mixed ?_ | refine zR 1 af mixed ?_ | refine zR 2 af mixed ?_ | refine zR 3 af mixed ?_ | refine zf rfl rfl ?_ | refine zt rfl rfl ?_ | (refine am rfl rfl ?_ ?_<;>intro hb<;>((try simp only [bn] at hb);first | subst hb | simp only [hb])) | refine ap ?_ | refine aq ?_ | refine an ?_)
  all_goals first
   | (have hp:P=false:=(by rw [←hP];exact hno (by rw [hbad];rfl));subst hp;show AW _ _ _ _ _;refine aw ⟨_,rfl,_,rfl,?_⟩;rfl)
   | (refine ⟨l.length - (k+1),_,H++[.mp 3 3 (.one (.int .i64)) (jD (pre++[⟨xc,xh,⟨rn,ru,rd⟩⟩])),.box 63 [.d (.v (.int .i64 xc)),.d (.v (.int .i64 xh))]],by omega,⟨?_,.inr ⟨by simp,?_,.more hB (.cons (Ac _) (.cons (by simp [aN.bel,aS,AV.bel]) .nil)),_,by simp only [List.append_assoc,List.cons_append,List.nil_append];rfl⟩⟩,k+1,rfl,hlt,hoks (by rw [hbad];rfl),by rw [hsn];exact hnext (by rw [hbad];rfl),by rw [hsn,hla],rfl⟩;(· simp [aJ,List.replicate]);(· simp [aS,AV.bel,List.replicate];omega))
end
end Av
end Go.Proofs.YtdekcppfpgeneaaGreatDoor
namespace Go.Proofs.YtdekcppfpgeneaaGreatDoor
open Go Go.RowKit
namespace Rg
open Av Nt
def fQ (c:Int) (s:KSt):Int:=bB (fun k:Int × Int=>decide (k.1=c)) s.2 s.1
theorem mN {α:Type} [DecidableEq α] (p:α→Bool) (g:α→Int) (k:α) (v:Int):∀{l:List α},l.Nodup→bB p (fun x=>if x=k then g k+v else g x) l=bB p g l+(if k∈l then (if p k then v else 0) else 0)
 | [],_=>by simp [bB]
 | a::r,hn=>by
  rw [List.nodup_cons] at hn
  have ih:=mN p g k v hn.2
  simp only [bB,ih,List.mem_cons]
  by_cases e:a=k
  ·subst e
   have hx:¬a∈r:=hn.1
   cases hp:p a with
   | true=>simp [hx];omega
   | false=>simp [hx]
  ·rw [if_neg e]
   by_cases h2:k∈r
   ·simp only [h2,or_true,if_true]
    omega
   ·have h3:¬(k=a∨k∈r):=fun h=>h.elim (fun h=>e h.symm) h2
    rw [if_neg h2,if_neg h3]
    omega
theorem xC {s:KSt} {M:Int} (hs:KOk s M) (k:Int × Int) (v c:Int):fQ c (kh s k v)=fQ c s+(if k.1=c then v else 0):=by
 unfold fQ kh cD
 simp only
 by_cases h:k∈s.1
 ·rw [if_pos h,mN _ _ _ _ hs.nd,if_pos h]
  simp only [decide_eq_true_eq]
 ·rw [if_neg h,ku,mN _ _ _ _ hs.nd,if_neg h,hs.out k h]
  simp only [decide_eq_true_eq,if_true]
  omega
def oA (company:ByteArray) (who:List ByteArray):Int:=((who.countP fun x => !decide (x=company):Nat):Int)
theorem w9 (company x:ByteArray) (who:List ByteArray):oA company (x::who)=(if x=company then 0 else 1)+oA company who:=by
 unfold oA
 rw [List.countP_cons]
 by_cases e:x=company<;>simp [e]<;>omega
theorem pg {ix:ByteArray→Int} {company:ByteArray} {pc:Int} (h0:0≤pc) (h1:pc≤100) {n:Nat} (c:Int):∀(who:List ByteArray),(0<n∨who=[])→∀{s:KSt} {M:Int},KOk s M→fQ c (who.foldl (cQ ix company pc n) s)=fQ c s+(if ix company=c then (pc * 60).tdiv n * oA company who else 0)
 | [],_,s,M,_=>by simp [oA]
 | x::r,hn,s,M,hs=>by
  have hn':0<n:=by rcases hn with h | h;exact h;cases h
  have hst:=mP (ix:=ix) (company:=company) (x:=x) h0 h1 hn' hs
  rw [List.foldl_cons,pg h0 h1 c r (.inl hn') hst,w9]
  have e:fQ c (cQ ix company pc n s x)=fQ c s+(if ix company=c then (if x=company then 0 else (pc * 60).tdiv n) else 0):=by
   unfold cQ
   by_cases h:pc>0∧x≠company
   ·rw [if_pos h,xC hs,if_neg h.2]
   ·rw [if_neg h]
    by_cases e2:x=company
    ·rw [if_pos e2];split<;>omega
    ·have hp:pc=0:=by
      have:¬pc>0:=fun h3=>h ⟨h3,e2⟩
      omega
     subst hp
     rw [if_neg e2]
     simp
  rw [e]
  by_cases h2:ix company=c
  ·simp only [if_pos h2]
   by_cases e2:x=company
   ·simp only [if_pos e2];rw [Int.zero_add,Int.add_zero]
   ·simp only [if_neg e2];rw [Int.mul_add,Int.mul_one];omega
  ·simp only [if_neg h2];omega
theorem kr {pc:Int} (h0:0≤pc) {n:Nat} (h1:0<n) (h5:n≤5):(pc * 60).tdiv n * n=pc * 60:=by
 have:n=1∨n=2∨n=3∨n=4∨n=5:=by omega
 rcases this with rfl | rfl | rfl | rfl | rfl<;>(rw [Int.tdiv_eq_ediv_of_nonneg (by omega)];omega)
theorem sI {company:ByteArray} {who:List ByteArray} (h:¬company∈who):oA company who=who.length:=by
 unfold oA
 congr 1
 rw [List.countP_eq_length]
 intro x hx
 simp only [Bool.not_eq_true',decide_eq_false_iff_not]
 rintro rfl;exact h hx
def lK (pc:Hd→Int) (who:Hd→List ByteArray) (ix:ByteArray→Int) (c:Int) (h:Hd):Int:=if ix h.company=c then (pc h * 60).tdiv (who h).length * oA h.company (who h) else 0
theorem j0 (pc:Hd→Int) (who:Hd→List ByteArray) (ix:ByteArray→Int) (day c:Int):∀(l:List Hd),(∀h∈l,0≤pc h∧pc h≤100)→∀{s:KSt} {M:Int},KOk s M→fQ c (l.foldl (fS pc who ix day) s)=fQ c s+bB (fun h=>cF h day) (lK pc who ix c) l
 | [],_,s,M,_=>by simp [bB]
 | h::r,hp,s,M,hs=>by
  have hh:=hp h (List.mem_cons_self ..)
  rw [List.foldl_cons]
  simp only [bB]
  have hw:0<(who h).length∨who h=[]:=by cases who h with | nil=>exact .inr rfl | cons a r=>exact .inl (by simp)
  by_cases e:cF h day=true
  ·have e1:fS pc who ix day s h=fE ix h.company (pc h) (who h) s:=by unfold fS;rw [if_pos e]
   have hs2:=kA (ix:=ix) (company:=h.company) hh.1 hh.2 (who h) hs
   rw [e1,j0 pc who ix day c r (fun x hx=>hp x (List.mem_cons_of_mem _ hx)) hs2,if_pos e]
   have:=pg (ix:=ix) (company:=h.company) hh.1 hh.2 c (who h) hw hs
   unfold fE lK
   rw [this];omega
  ·have e1:fS pc who ix day s h=s:=by unfold fS;rw [if_neg e]
   rw [e1,j0 pc who ix day c r (fun x hx=>hp x (List.mem_cons_of_mem _ hx)) hs,if_neg e]
   omega
theorem gY {h:Hd} (hp:Prp h):¬h.company∈ev h∧0<(ev h).length∧(ev h).length≤5:=by
 unfold ev
 split
 ·exact ⟨hp.own,by simp,by have:=hp.joint4;simp;omega⟩
 ·exact ⟨by simpa using hp.nom,by simp,by simp⟩
theorem wP {h:Hd} (hp:Prp h) (h0:0≤h.capital) (ix:ByteArray→Int) (c:Int):lK Hd.capital ev ix c h=if ix h.company=c then h.capital * 60 else 0:=by
 obtain ⟨h1,h2,h3⟩:=gY hp
 unfold lK
 rw [sI h1,kr h0 h2 h3]
def oP (h:Hd):Bool:=decide (h.pledged=h.company)
theorem wO {h:Hd} (hp:Prp h) (h0:0≤h.votes) (ix:ByteArray→Int) (c:Int):lK Hd.votes eK ix c h=if ix h.company=c then (if oP h=true then 0 else h.votes * 60) else 0:=by
 unfold lK eK oP
 by_cases e:h.pledged=emp
 ·rw [if_pos e]
  obtain ⟨h1,h2,h3⟩:=gY hp
  have hne:h.pledged≠h.company:=fun e2=>mr hp.company (e2.symm.trans e)
  rw [sI h1,kr h0 h2 h3,decide_eq_false hne]
  simp
 ·rw [if_neg e]
  by_cases e2:h.pledged=h.company
  ·rw [decide_eq_true e2]
   unfold oA
   simp [e2]
  ·rw [decide_eq_false e2]
   unfold oA
   simp [e2]
theorem mK {α:Type} (p:α→Bool) (g:α→Int) (m:Int):∀l:List α,bB p (fun x=>g x * m) l=bB p g l * m
 | []=>by simp [bB]
 | a::r=>by
  simp only [bB,mK p g m r]
  split
  ·rw [Int.add_mul]
  ·rw [Int.add_mul];simp
theorem zY {l:List Hd} (hp:∀h∈l,bl h=true):∀h∈l,(0≤h.capital∧h.capital≤100)∧(0≤h.votes∧h.votes≤100):=fun h hh=>by
 have:=((dn h).1 (hp h hh)).pct
 unfold oq at this
 simp only [Bool.and_eq_true,decide_eq_true_eq] at this
 exact this
theorem Bo {l m:List Hd} (hp:∀h∈l,bl h=true) (hm:∀h∈l,h∈m) {i:Nat} (hi:i<(ay m).length) (day:Int):fQ (i:Int) (dA (ixS (ay m)) day l)=en l day (ay m)[i] * 60:=by
 have hc:=zY hp
 have h1:=j0 Hd.capital ev (ixS (ay m)) day (i:Int) l (fun h hh=>(hc h hh).1) mq
 have e:dA (ixS (ay m)) day l=l.foldl (fS Hd.capital ev (ixS (ay m)) day) eU:=rfl
 rw [e,h1]
 have hz:fQ (i:Int) eU=0:=rfl
 rw [hz,Int.zero_add]
 unfold en
 rw [←mK]
 have aux:∀q:List Hd,(∀h∈q,h∈l)→bB (fun h=>cF h day) (lK Hd.capital ev (ixS (ay m)) (i:Int)) q=bB (inB day (ay m)[i]) (fun x=>x.capital * 60) q:=by
  intro q
  induction q with
  | nil=>intro _;rfl
  | cons h r ih =>
   intro hq
   have hl:=hq h (List.mem_cons_self ..)
   simp only [bB,ih fun x hx=>hq x (List.mem_cons_of_mem _ hx)]
   have hcm:h.company∈ay m:=dv.2 ⟨h,hm h hl,by unfold bu;exact List.mem_cons_self ..⟩
   have hx:=tN hcm (List.getElem_mem hi)
   have hxi:ixS (ay m) (ay m)[i]=i:=y7 (dp m) hi
   rw [hxi] at hx
   rw [wP ((dn h).1 (hp h hl)) (hc h hl).1.1]
   have hd:decide (h.company=(ay m)[i])=decide (ixS (ay m) h.company=i):=decide_eq_decide.2 hx.symm
   unfold inB
   rw [hd]
   by_cases e1:cF h day=true<;>by_cases e2:ixS (ay m) h.company=i<;>simp [e1,e2]
 exact aux l fun h hh=>hh
theorem As {l m:List Hd} (hp:∀h∈l,bl h=true) (hm:∀h∈l,h∈m) {i:Nat} (hi:i<(ay m).length) (day:Int):fQ (i:Int) (dE (ixS (ay m)) day l)=bB (fun h=>inB day (ay m)[i] h && !oP h) Hd.votes l * 60:=by
 have hc:=zY hp
 have h1:=j0 Hd.votes eK (ixS (ay m)) day (i:Int) l (fun h hh=>(hc h hh).2) mq
 have e:dE (ixS (ay m)) day l=l.foldl (fS Hd.votes eK (ixS (ay m)) day) eU:=rfl
 rw [e,h1]
 have hz:fQ (i:Int) eU=0:=rfl
 rw [hz,Int.zero_add]
 rw [←mK]
 have aux:∀q:List Hd,(∀h∈q,h∈l)→bB (fun h=>cF h day) (lK Hd.votes eK (ixS (ay m)) (i:Int)) q=bB (fun h=>inB day (ay m)[i] h && !oP h) (fun x=>x.votes * 60) q:=by
  intro q
  induction q with
  | nil=>intro _;rfl
  | cons h r ih =>
   intro hq
   have hl:=hq h (List.mem_cons_self ..)
   simp only [bB,ih fun x hx=>hq x (List.mem_cons_of_mem _ hx)]
   have hcm:h.company∈ay m:=dv.2 ⟨h,hm h hl,by unfold bu;exact List.mem_cons_self ..⟩
   have hx:=tN hcm (List.getElem_mem hi)
   have hxi:ixS (ay m) (ay m)[i]=i:=y7 (dp m) hi
   rw [hxi] at hx
   rw [wO ((dn h).1 (hp h hl)) (hc h hl).2.1]
   have hd:decide (h.company=(ay m)[i])=decide (ixS (ay m) h.company=i):=decide_eq_decide.2 hx.symm
   unfold inB
   rw [hd]
   by_cases e1:cF h day=true<;>by_cases e2:ixS (ay m) h.company=i<;>by_cases e3:oP h=true<;>simp [e1,e2,e3]
 exact aux l fun h hh=>hh
theorem CF {l:List Hd} (p:Hd→Bool):(∃h∈l,p h=true)→∃h∈l,p h=true∧∀x∈l,p x=true→x.fr≤h.fr:=by
 induction l with
 | nil=>rintro ⟨h,hh,_⟩;cases hh
 | cons a r ih =>
  rintro ⟨h,hh,hp⟩
  by_cases hr:∃x∈r,p x=true
  ·obtain ⟨b,hb,h1,h2⟩:=ih hr
   by_cases hc:p a=true∧b.fr≤a.fr
   ·refine ⟨a,List.mem_cons_self ..,hc.1,fun x hx hpx => ?_⟩
    rcases List.mem_cons.1 hx with rfl | hx
    ·exact Int.le_refl _
    ·have:=h2 x hx hpx;omega
   ·refine ⟨b,List.mem_cons_of_mem _ hb,h1,fun x hx hpx => ?_⟩
    rcases List.mem_cons.1 hx with rfl | hx
    ·have:¬b.fr≤x.fr:=fun h3=>hc ⟨hpx,h3⟩
     omega
    ·exact h2 x hx hpx
  ·rcases List.mem_cons.1 hh with rfl | hh
   ·refine ⟨h,List.mem_cons_self ..,hp,fun x hx hpx => ?_⟩
    rcases List.mem_cons.1 hx with rfl | hx
    ·exact Int.le_refl _
    ·exact absurd ⟨x,hx,hpx⟩ hr
   ·exact absurd ⟨h,hh,hp⟩ hr
def xI (l:List Hd):Bool:=l.all fun h=>okC l h.fr h.company
theorem Ch {l:List Hd} (hp:∀h∈l,bl h=true) (hb:xI l=true) (day:Int) (c:ByteArray):en l day c≤100∧dR l day c≤100:=by
 have hc:=zY hp
 by_cases hr:∃h∈l,inB day c h=true
 ·obtain ⟨h,hh,h1,h2⟩:=CF _ hr
  have h4:=List.all_eq_true.1 hb h hh
  unfold inB at h1
  simp only [Bool.and_eq_true,decide_eq_true_eq] at h1
  rw [h1.2] at h4
  unfold okC at h4
  simp only [Bool.and_eq_true,decide_eq_true_eq] at h4
  have hle:∀x∈l,inB day c x=true→inB h.fr c x=true:=fun x hx hi=>by
   have h5:=h2 x hx hi
   unfold inB cF at hi ⊢
   simp only [Bool.and_eq_true,Bool.or_eq_true,decide_eq_true_eq] at hi ⊢
   have h1r:=h1.1
   unfold cF at h1r
   simp only [Bool.and_eq_true,Bool.or_eq_true,decide_eq_true_eq] at h1r
   refine ⟨⟨h5,?_⟩,hi.2⟩
   rcases hi.1.2 with h6 | h6
   ·exact .inl h6
   ·exact .inr (by omega)
  have s1:en l day c≤en l h.fr c:=by
   unfold en
   refine mg fun x hx => ?_
   have h6:=(hc x hx).1.1
   by_cases e:inB day c x=true
   ·rw [if_pos e,if_pos (hle x hx e)];exact Int.le_refl _
   ·rw [if_neg e];split<;>omega
  have s2:dR l day c≤dR l h.fr c:=by
   unfold dR
   refine mg fun x hx => ?_
   have h6:=(hc x hx).2.1
   by_cases e:inB day c x=true
   ·rw [if_pos e,if_pos (hle x hx e)];exact Int.le_refl _
   ·rw [if_neg e];split<;>omega
  omega
 ·have z:∀g:Hd→Int,bB (inB day c) g l=0:=fun g=>iU fun h hh e=>absurd ⟨h,hh,e⟩ hr
  unfold en dR
  rw [z,z];omega
theorem yv {h:Hd} (hp:bl h=true):cF h h.fr=true:=by
 have:=((dn h).1 hp).days
 unfold pr4 at this
 unfold cF
 simp only [Bool.and_eq_true,Bool.or_eq_true,decide_eq_true_eq] at this ⊢
 exact ⟨Int.le_refl _,this.2.imp id fun h=>h.2⟩
theorem vR {l:List Hd} (hp:∀h∈l,bl h=true):xI l=fA l:=by
 rw [Bool.eq_iff_iff]
 constructor
 ·intro hb
  unfold fA onB
  refine List.all_eq_true.2 fun h hh=>List.all_eq_true.2 fun g hg => ?_
  have:=Ch hp hb h.fr g.company
  unfold okC
  rw [decide_eq_true this.1,decide_eq_true this.2]
  simp
 ·intro hb
  unfold xI
  refine List.all_eq_true.2 fun h hh => ?_
  have h3:=List.all_eq_true.1 hb h hh
  have h4:=List.all_eq_true.1 h3 h hh
  rw [yv (hp h hh)] at h4
  simpa using h4
theorem wM {l:List Hd} (hp:∀h∈l,bl h=true) (hb:fA l=true) (day:Int) (c:ByteArray):en l day c≤100∧dR l day c≤100:=Ch hp (by rw [vR hp];exact hb) day c
end Rg
end Go.Proofs.YtdekcppfpgeneaaGreatDoor
namespace Go.Proofs.YtdekcppfpgeneaaGreatDoor
open Go Go.RowKit
namespace Av
attribute [local irreducible] AW aL aH
open Nt Rg
theorem q9 {α:Type} {a b:List α} {k:Nat} (h1:k<a.length) (h2:k<b.length) (h:a.take k=b.take k) (e:a[k]=b[k]):a.take (k+1)=b.take (k+1):=by
 rw [List.take_add_one,List.take_add_one,List.getElem?_eq_getElem h1,List.getElem?_eq_getElem h2,h,e]
section
variable (base:World)
set_option maxRecDepth 100000 in
set_option maxHeartbeats 1000000 in
theorem uy (a b:List ByteArray) (ha:a.length≤1000000) (hbl:b.length≤1000000):aI Tryz.prog base 29 [.d (bq a),.d (bq b)] (boA (decide (a=b))):=by
 refine aC af Tryz.call29 Tryz.func29 rfl fun H hB hb hF => ?_
 rw [Tryz.results29,Tryz.ntmps29]
 simp only [aA,List.length_cons,List.length_nil,List.replicate,List.cons_append,List.nil_append,Nat.reduceAdd,Nat.reduceSub]
 clear hF hb
 have la:(a.map fun s=>[PD.v (.string s)]).length=a.length:=by simp
 have lb:(b.map fun s=>[PD.v (.string s)]).length=b.length:=by simp
 simp only [bq]
 obtain ⟨c0,g0⟩:∃c,decide ((a.length:Int)=(b.length:Int))=c:=⟨_,rfl⟩
 repeat' (first | (refine aa ?_;first | (refine zg rfl ?_;first | refine ah ?_ | refine zo ?_ | (refine zs ?_ ?_<;>intro hb<;>((try simp only [bn] at hb);first | subst hb | simp only [hb]))) | (apply ai;rfl;simp only [aj,avs,tts,seval,la,lb,g0]<;>exact rr)) | refine ae ?_ | (refine ak ?_;first | (refine yg rfl ?_;first | refine ar ?_ | refine yo ?_ | (refine ys ?_ ?_<;>intro hb<;>((try simp only [bn] at hb);first | subst hb | simp only [hb]))) | (apply au;rfl;simp only [aB,avs,tts,seval,la,lb,g0]<;>exact rr;first | trivial | omega)) | refine al ?_ | refine ag ?_ | refine zr af ?_ | refine zR 0 af mixed ?_ | refine zR 1 af mixed ?_ | refine zR 2 af mixed ?_ | refine zR 3 af mixed ?_ | refine zf rfl rfl ?_ | refine zt rfl rfl ?_ | (refine am rfl rfl ?_ ?_<;>intro hb<;>((try simp only [bn] at hb);first | subst hb | simp only [hb])) | refine ap ?_ | refine aq ?_ | refine an ?_)
 ·have hne:decide (a=b)=false:=decide_eq_false fun e=>by subst e;simp at g0
  rw [hne];exact aw ⟨_,rfl,[],by simp,rfl⟩
 have hl:a.length=b.length:=by have:=of_decide_eq_true g0;omega
 refine aZ (H0:=H) (fun r env K=>∃k,r=a.length - k∧k≤a.length∧a.take k=b.take k∧K=H∧env=(.d (.sl 1 (a.map fun s=>[PD.v (.string s)])) :: .d (.sl 1 (b.map fun s=>[PD.v (.string s)])) :: .undef :: .undef :: .undef :: .d (.v (.int .i64 (k:Int)))::List.replicate 20 .undef)) ?_ ⟨0,rfl,Nat.zero_le _,rfl,rfl,rfl⟩ ?_
 ·exact ⟨by simp [aJ,List.replicate],.inl rfl⟩
 rintro r env K ⟨k,rfl,hk,hok,rfl,rfl⟩ hN
 simp only [rp]
 obtain ⟨c1,g1⟩:∃c1,decide ((k:Int)<(a.length:Int))=c1:=⟨_,rfl⟩
 cases c1 with
 | true =>
  have hlt:k<a.length:=by simpa using g1
  have hlt2:k<b.length:=by omega
  have hix:(0:Int)≤(k:Int):=by omega
  have ga:=cI hlt
  have gb:=cI hlt2
  have w1:IntKind.i64.wrap ((k:Int)+1)=((k+1:Nat):Int):=aP hlt (by omega)
  obtain ⟨c2,g2⟩:∃c,decide (a[k]=b[k])=c:=⟨_,rfl⟩
  repeat' (first | (refine aa ?_;first | (refine zg rfl ?_;first | refine ah ?_ | refine zo ?_ | (refine zs ?_ ?_<;>intro hb<;>((try simp only [bn] at hb);first | subst hb | simp only [hb]))) | (apply ai;rfl;simp only [aj,avs,tts,seval,hix,hlt,hlt2,ga,gb,la,lb,g1,g2,w1]<;>exact rr)) | refine ae ?_ | (refine ak ?_;first | (refine yg rfl ?_;first | refine ar ?_ | refine yo ?_ | (refine ys ?_ ?_<;>intro hb<;>((try simp only [bn] at hb);first | subst hb | simp only [hb]))) | (apply au;rfl;simp only [aB,avs,tts,seval,hix,hlt,hlt2,ga,gb,la,lb,g1,g2,w1]<;>exact rr;first | trivial | omega)) | refine al ?_ | refine ag ?_ | refine zr af ?_ | refine zR 0 af mixed ?_ | refine zR 1 af mixed ?_ | refine zR 2 af mixed ?_ | refine zR 3 af mixed ?_ | refine zf rfl rfl ?_ | refine zt rfl rfl ?_ | (refine am rfl rfl ?_ ?_<;>intro hb<;>((try simp only [bn] at hb);first | subst hb | simp only [hb])) | refine ap ?_ | refine aq ?_ | refine an ?_)
  ·have hne:decide (a=b)=false:=decide_eq_false fun e=>by subst e;simp at g2
   rw [hne];exact aw ⟨_,rfl,[],by simp,rfl⟩
  ·refine ⟨a.length - (k+1),_,_,by omega,⟨?_,.inl rfl⟩,k+1,rfl,hlt,q9 hlt hlt2 hok (of_decide_eq_true g2),rfl,rfl⟩
   simp [aJ,List.replicate]
 | false =>
  have hka:k=a.length:=by
                 have:¬k<a.length:=by simpa using g1
                 omega
  have heq:a=b:=by
   rw [hka,List.take_length] at hok
   rw [hok,hl,List.take_length]
  repeat' (first | (refine aa ?_;first | (refine zg rfl ?_;first | refine ah ?_ | refine zo ?_ | (refine zs ?_ ?_<;>intro hb<;>((try simp only [bn] at hb);first | subst hb | simp only [hb]))) | (apply ai;rfl;simp only [aj,avs,tts,seval,la,lb,g1]<;>exact rr)) | refine ae ?_ | (refine ak ?_;first | (refine yg rfl ?_;first | refine ar ?_ | refine yo ?_ | (refine ys ?_ ?_<;>intro hb<;>((try simp only [bn] at hb);first | subst hb | simp only [hb]))) | (apply au;rfl;simp only [aB,avs,tts,seval,la,lb,g1]<;>exact rr;first | trivial | omega)) | refine al ?_ | refine ag ?_ | refine zr af ?_ | refine zR 0 af mixed ?_ | refine zR 1 af mixed ?_ | refine zR 2 af mixed ?_ | refine zR 3 af mixed ?_ | refine zf rfl rfl ?_ | refine zt rfl rfl ?_ | (refine am rfl rfl ?_ ?_<;>intro hb<;>((try simp only [bn] at hb);first | subst hb | simp only [hb])) | refine ap ?_ | refine aq ?_ | refine an ?_)
  rw [decide_eq_true heq]
  exact aw ⟨_,rfl,[],by simp,rfl⟩
set_option maxRecDepth 100000 in
set_option maxHeartbeats 1000000 in
theorem jI (a b:List Lk) (ha:a.length≤1000000) (hbl:b.length≤1000000):aI Tryz.prog base 28 [.d (js a),.d (js b)] (boA (decide (a=b))):=by
 refine aC af Tryz.call28 Tryz.func28 rfl fun H hB hb hF => ?_
 rw [Tryz.results28,Tryz.ntmps28]
 simp only [aA,List.length_cons,List.length_nil,List.replicate,List.cons_append,List.nil_append,Nat.reduceAdd,Nat.reduceSub]
 clear hF hb
 have la:(a.map lkP).length=a.length:=by simp
 have lb:(b.map lkP).length=b.length:=by simp
 simp only [js]
 obtain ⟨c0,g0⟩:∃c,decide ((a.length:Int)=(b.length:Int))=c:=⟨_,rfl⟩
 repeat' (first | (refine aa ?_;first | (refine zg rfl ?_;first | refine ah ?_ | refine zo ?_ | (refine zs ?_ ?_<;>intro hb<;>((try simp only [bn] at hb);first | subst hb | simp only [hb]))) | (apply ai;rfl;simp only [aj,avs,tts,seval,la,lb,g0]<;>exact rr)) | refine ae ?_ | (refine ak ?_;first | (refine yg rfl ?_;first | refine ar ?_ | refine yo ?_ | (refine ys ?_ ?_<;>intro hb<;>((try simp only [bn] at hb);first | subst hb | simp only [hb]))) | (apply au;rfl;simp only [aB,avs,tts,seval,la,lb,g0]<;>exact rr;first | trivial | omega)) | refine al ?_ | refine ag ?_ | refine zr af ?_ | refine zR 0 af mixed ?_ | refine zR 1 af mixed ?_ | refine zR 2 af mixed ?_ | refine zR 3 af mixed ?_ | refine zf rfl rfl ?_ | refine zt rfl rfl ?_ | (refine am rfl rfl ?_ ?_<;>intro hb<;>((try simp only [bn] at hb);first | subst hb | simp only [hb])) | refine ap ?_ | refine aq ?_ | refine an ?_)
 ·have hne:decide (a=b)=false:=decide_eq_false fun e=>by subst e;simp at g0
  rw [hne];exact aw ⟨_,rfl,[],by simp,rfl⟩
 have hl:a.length=b.length:=by have:=of_decide_eq_true g0;omega
 refine aZ (H0:=H) (fun r env K=>∃k,r=a.length - k∧k≤a.length∧a.take k=b.take k∧K=H∧env=(.d (.sl 5 (a.map lkP)) :: .d (.sl 5 (b.map lkP)) :: .undef :: .undef :: .undef :: .d (.v (.int .i64 (k:Int)))::List.replicate 20 .undef)) ?_ ⟨0,rfl,Nat.zero_le _,rfl,rfl,rfl⟩ ?_
 ·exact ⟨by simp [aJ,List.replicate],.inl rfl⟩
 rintro r env K ⟨k,rfl,hk,hok,rfl,rfl⟩ hN
 simp only [rp]
 obtain ⟨c1,g1⟩:∃c1,decide ((k:Int)<(a.length:Int))=c1:=⟨_,rfl⟩
 cases c1 with
 | true =>
  have hlt:k<a.length:=by simpa using g1
  have hlt2:k<b.length:=by omega
  have hix:(0:Int)≤(k:Int):=by omega
  have ga:=jt hlt
  have gb:=jt hlt2
  have w1:IntKind.i64.wrap ((k:Int)+1)=((k+1:Nat):Int):=aP hlt (by omega)
  have g2':=CT a[k] b[k]
  obtain ⟨c2,g2⟩:∃c,decide (a[k]=b[k])=c:=⟨_,rfl⟩
  rw [g2] at g2'
  simp only [lkP] at ga gb
  repeat' (first | (refine aa ?_;first | (refine zg rfl ?_;first | refine ah ?_ | refine zo ?_ | (refine zs ?_ ?_<;>intro hb<;>((try simp only [bn] at hb);first | subst hb | simp only [hb]))) | (apply ai;rfl;simp only [aj,avs,tts,seval,hix,hlt,hlt2,ga,gb,la,lb,g1,g2',w1]<;>exact rr)) | refine ae ?_ | (refine ak ?_;first | (refine yg rfl ?_;first | refine ar ?_ | refine yo ?_ | (refine ys ?_ ?_<;>intro hb<;>((try simp only [bn] at hb);first | subst hb | simp only [hb]))) | (apply au;rfl;simp only [aB,avs,tts,seval,hix,hlt,hlt2,ga,gb,la,lb,g1,g2',w1]<;>exact rr;first | trivial | omega)) | refine al ?_ | refine ag ?_ | refine zr af ?_ | refine zR 0 af mixed ?_ | refine zR 1 af mixed ?_ | refine zR 2 af mixed ?_ | refine zR 3 af mixed ?_ | refine zf rfl rfl ?_ | refine zt rfl rfl ?_ | (refine am rfl rfl ?_ ?_<;>intro hb<;>((try simp only [bn] at hb);first | subst hb | simp only [hb])) | refine ap ?_ | refine aq ?_ | refine an ?_)
  ·have hne:decide (a=b)=false:=decide_eq_false fun e=>by subst e;simp at g2
   rw [hne];exact aw ⟨_,rfl,[],by simp,rfl⟩
  ·refine ⟨a.length - (k+1),_,_,by omega,⟨?_,.inl rfl⟩,k+1,rfl,hlt,q9 hlt hlt2 hok (of_decide_eq_true g2),rfl,rfl⟩
   simp [aJ,List.replicate]
 | false =>
  have hka:k=a.length:=by
                 have:¬k<a.length:=by simpa using g1
                 omega
  have heq:a=b:=by
   rw [hka,List.take_length] at hok
   rw [hok,hl,List.take_length]
  repeat' (first | (refine aa ?_;first | (refine zg rfl ?_;first | refine ah ?_ | refine zo ?_ | (refine zs ?_ ?_<;>intro hb<;>((try simp only [bn] at hb);first | subst hb | simp only [hb]))) | (apply ai;rfl;simp only [aj,avs,tts,seval,la,lb,g1]<;>exact rr)) | refine ae ?_ | (refine ak ?_;first | (refine yg rfl ?_;first | refine ar ?_ | refine yo ?_ | (refine ys ?_ ?_<;>intro hb<;>((try simp only [bn] at hb);first | subst hb | simp only [hb]))) | (apply au;rfl;simp only [aB,avs,tts,seval,la,lb,g1]<;>exact rr;first | trivial | omega)) | refine al ?_ | refine ag ?_ | refine zr af ?_ | refine zR 0 af mixed ?_ | refine zR 1 af mixed ?_ | refine zR 2 af mixed ?_ | refine zR 3 af mixed ?_ | refine zf rfl rfl ?_ | refine zt rfl rfl ?_ | (refine am rfl rfl ?_ ?_<;>intro hb<;>((try simp only [bn] at hb);first | subst hb | simp only [hb])) | refine ap ?_ | refine aq ?_ | refine an ?_)
  rw [decide_eq_true heq]
  exact aw ⟨_,rfl,[],by simp,rfl⟩
theorem vA {p q:Prop} [Decidable p] [Decidable q] [Decidable (p∧q)]:decide (p∧q)=(decide p&&decide q):=by
 by_cases h1:p<;>by_cases h2:q<;>simp [h1,h2]
theorem AD (a b:Str):decide (a=b)=(decide (a.parties=b.parties)&&(decide (a.capital=b.capital)&&decide (a.votes=b.votes))):=by
 cases a;cases b
 simp only [Str.mk.injEq]
 rw [←vA,←vA]
set_option maxRecDepth 100000 in
set_option maxHeartbeats 1000000 in
theorem Cv (a b:Str) (h1:a.parties.length≤1000000) (h2:b.parties.length≤1000000) (h3:a.capital.length≤1000000) (h4:b.capital.length≤1000000) (h5:a.votes.length≤1000000) (h6:b.votes.length≤1000000):aI Tryz.prog base 16 [hZ a,hZ b] (boA (decide (a=b))):=by
 have c1:=uy base a.parties b.parties h1 h2
 have c2:=jI base a.capital b.capital h3 h4
 have c3:=jI base a.votes b.votes h5 h6
 refine aC af Tryz.call16 Tryz.func16 rfl fun H hB hb hF => ?_
 rw [Tryz.results16,Tryz.ntmps16]
 simp only [aA,List.length_cons,List.length_nil,List.replicate,List.cons_append,List.nil_append,Nat.reduceAdd,Nat.reduceSub]
 clear hF hb
 rw [AD]
 simp only [hZ,pM]
 generalize decide (a.parties=b.parties)=b1 at *
 generalize decide (a.capital=b.capital)=b2 at *
 generalize decide (a.votes=b.votes)=b3 at *
 repeat' (first | (refine aa ?_;first | (refine zg rfl ?_;first | refine ah ?_ | refine zo ?_ | (refine zs ?_ ?_<;>intro hb<;>((try simp only [bn] at hb);first | subst hb | simp only [hb]))) | (apply ai;rfl;simp only [aj,avs,tts,seval]<;>exact rr) | (refine za rfl ?_;first | refine zp (c1) ?_ | refine zp (c2) ?_ | refine zp (c3) ?_)) | refine ae ?_ | (refine ak ?_;first | (refine yg rfl ?_;first | refine ar ?_ | refine yo ?_ | (refine ys ?_ ?_<;>intro hb<;>((try simp only [bn] at hb);first | subst hb | simp only [hb]))) | (apply au;rfl;simp only [aB,avs,tts,seval]<;>exact rr;first | trivial | omega) | (refine ya rfl ?_;first | refine yp (c1) ?_ | refine yp (c2) ?_ | refine yp (c3) ?_)) | refine al ?_ | refine ag ?_ | refine zr af ?_ | refine zR 0 af mixed ?_ | refine zR 1 af mixed ?_ | refine zR 2 af mixed ?_ | refine zR 3 af mixed ?_ | refine zf rfl rfl ?_ | refine zt rfl rfl ?_ | (refine am rfl rfl ?_ ?_<;>intro hb<;>((try simp only [bn] at hb);first | subst hb | simp only [hb])) | refine ap ?_ | refine aq ?_ | refine an ?_)
 all_goals exact aw ⟨_,rfl,_,rfl,rfl⟩
end
end Av
end Go.Proofs.YtdekcppfpgeneaaGreatDoor
namespace Go.Proofs.YtdekcppfpgeneaaGreatDoor
open Go Go.RowKit
namespace Av
attribute [local irreducible] AW aL aH
open Nt Rg
section
variable (base:World)
theorem gM {a b:Nat} {c:Bool} (h:decide (a≤b)=c):decide ((a:Int)>(b:Int)) = !c:=by
 subst h
 by_cases h:a≤b
 ·rw [decide_eq_true h,decide_eq_false (by omega)];rfl
 ·rw [decide_eq_false h,decide_eq_true (by omega)];rfl
set_option maxRecDepth 100000 in
set_option maxHeartbeats 4000000 in
theorem Eb (l:List Hd) (n:Int) (hn:n≤1000000):aI Tryz.prog base 31 [.d (cO l),iA n] (boA (l8 n l)):=by
 refine aC af Tryz.call31 Tryz.func31 rfl fun H hB hb hF => ?_
 rw [Tryz.results31,Tryz.ntmps31]
 simp only [aA,List.length_cons,List.length_nil,List.replicate,List.cons_append,List.nil_append,Nat.reduceAdd,Nat.reduceSub]
 clear hF hb
 have la:=dY l
 simp only [cO,iA]
 obtain ⟨P,hP⟩:∃P,l8 n l=P:=⟨_,rfl⟩
 rw [hP]
 obtain ⟨c0,g0⟩:∃c,decide ((l.length:Int)>n)=c:=⟨_,rfl⟩
 repeat' (first | (refine aa ?_;first | (refine zg rfl ?_;first | refine ah ?_ | refine zo ?_ | (refine zs ?_ ?_<;>intro hb<;>((try simp only [bn] at hb);first | subst hb | simp only [hb]))) | (apply ai;rfl;simp only [aj,avs,tts,seval,la,g0]<;>exact rr)) | refine ae ?_ | (refine ak ?_;first | (refine yg rfl ?_;first | refine ar ?_ | refine yo ?_ | (refine ys ?_ ?_<;>intro hb<;>((try simp only [bn] at hb);first | subst hb | simp only [hb]))) | (apply au;rfl;simp only [aB,avs,tts,seval,la,g0]<;>exact rr;first | trivial | omega)) | refine al ?_ | refine ag ?_ | refine zr af ?_ | refine zR 0 af mixed ?_ | refine zR 1 af mixed ?_ | refine zR 2 af mixed ?_ | refine zR 3 af mixed ?_ | refine zf rfl rfl ?_ | refine zt rfl rfl ?_ | (refine am rfl rfl ?_ ?_<;>intro hb<;>((try simp only [bn] at hb);first | subst hb | simp only [hb])) | refine ap ?_ | refine aq ?_ | refine an ?_)
 ·have:P=false:=by
   rw [←hP];unfold l8
   rw [decide_eq_false (by have:=of_decide_eq_true g0;omega),Bool.false_and]
  subst this
  exact aw ⟨_,rfl,[],by simp,rfl⟩
 have hl:l.length≤1000000:=by have:=of_decide_eq_false g0;omega
 refine aZ (H0:=H) (fun r env K=>∃k,r=l.length - k∧k≤l.length∧(∀h∈l.take k,(ow h&&kU h)=true)∧K=H∧env=(.d (.sl 10 (l.map hdC)) :: .d (.v (.int .i64 n)) :: .undef :: .undef :: .undef :: .d (.v (.int .i64 (k:Int)))::List.replicate 64 .undef)) ?_ ⟨0,rfl,Nat.zero_le _,fun h hh=>by simp at hh,rfl,rfl⟩ ?_
 ·exact ⟨by simp [aJ,List.replicate],.inl rfl⟩
 rintro r env K ⟨k,rfl,hk,hok,rfl,rfl⟩ hN
 simp only [rp]
 obtain ⟨c1,g1⟩:∃c1,decide ((k:Int)<(l.length:Int))=c1:=⟨_,rfl⟩
 cases c1 with
 | true =>
  have hlt:k<l.length:=by simpa using g1
  have hix:(0:Int)≤(k:Int):=by omega
  have ga:=iY hlt
  have w1:IntKind.i64.wrap ((k:Int)+1)=((k+1:Nat):Int):=aP hlt (by omega)
  have hno:=fun e=>CS (n:=n) hlt e
  have htk:(ow l[k]&&kU l[k])=true→∀h∈l.take (k+1),(ow h&&kU h)=true:=fun e h hh=>by
   rw [List.take_add_one,List.getElem?_eq_getElem hlt,Option.toList_some,List.mem_append,List.mem_singleton] at hh
   rcases hh with hh | rfl
   ·exact hok h hh
   ·exact e
  obtain ⟨h,hh⟩:∃h,l[k]=h:=⟨_,rfl⟩
  rw [hh] at hno ga htk
  obtain ⟨id,company,holder,nominee,pledged,joint,capital,votes,fr,til⟩:=h
  simp only [hdC] at ga
  obtain ⟨d1,e1⟩:∃d,decide (id.size≤60)=d:=⟨_,rfl⟩
  obtain ⟨d2,e2⟩:∃d,decide (company.size≤60)=d:=⟨_,rfl⟩
  obtain ⟨d3,e3⟩:∃d,decide (holder.size≤60)=d:=⟨_,rfl⟩
  obtain ⟨d4,e4⟩:∃d,decide (nominee.size≤60)=d:=⟨_,rfl⟩
  obtain ⟨d5,e5⟩:∃d,decide (pledged.size≤60)=d:=⟨_,rfl⟩
  obtain ⟨d6,e6⟩:∃d,decide (joint.length≤10)=d:=⟨_,rfl⟩
  have hf1:ow ⟨id,company,holder,nominee,pledged,joint,capital,votes,fr,til⟩=(d1&&(d2&&(d3&&(d4&&(d5&&d6))))):=by
   unfold ow;simp only [e1,e2,e3,e4,e5,e6]
  have f1:decide ((id.size:Int)>60) = !d1:=gM e1
  have f2:decide ((company.size:Int)>60) = !d2:=gM e2
  have f3:decide ((holder.size:Int)>60) = !d3:=gM e3
  have f4:decide ((nominee.size:Int)>60) = !d4:=gM e4
  have f5:decide ((pledged.size:Int)>60) = !d5:=gM e5
  have f6:decide ((joint.length:Int)>10) = !d6:=gM e6
  have jl:(joint.map fun s=>[PD.v (.string s)]).length=joint.length:=by simp
  clear e1 e2 e3 e4 e5
  simp only [bq] at ga
  repeat' (first | (refine aa ?_;first | (refine zg rfl ?_;first | refine ah ?_ | refine zo ?_ | (refine zs ?_ ?_<;>intro hb<;>((try simp only [bn] at hb);first | subst hb | simp only [hb]))) | (apply ai;rfl;simp only [aj,avs,tts,seval,hix,hlt,ga,la,jl,g1,w1,f1,f2,f3,f4,f5,f6,Bool.not_true,Bool.not_false]<;>exact rr)) | refine ae ?_ | (refine ak ?_;first | (refine yg rfl ?_;first | refine ar ?_ | refine yo ?_ | (refine ys ?_ ?_<;>intro hb<;>((try simp only [bn] at hb);first | subst hb | simp only [hb]))) | (apply au;rfl;simp only [aB,avs,tts,seval,hix,hlt,ga,la,jl,g1,w1,f1,f2,f3,f4,f5,f6,Bool.not_true,Bool.not_false]<;>exact rr;first | trivial | omega)) | refine al ?_ | refine ag ?_ | refine zr af ?_ | refine zR 0 af mixed ?_ | refine zR 1 af mixed ?_ | refine zR 2 af mixed ?_ | refine zR 3 af mixed ?_ | refine zf rfl rfl ?_ | refine zt rfl rfl ?_ | (refine am rfl rfl ?_ ?_<;>intro hb<;>((try simp only [bn] at hb);first | subst hb | simp only [hb])) | refine ap ?_ | refine aq ?_ | refine an ?_)
  all_goals try
   (have hp:P=false:=(by rw [←hP];exact hno (by rw [hf1];rfl));subst hp;(try show AW _ _ _ _ _);refine aw ⟨_,rfl,_,rfl,?_⟩;rfl)
  have hj10:=of_decide_eq_true e6
  refine aZ (H0:=K++[.box 36 [.d (.v (.string id)),.d (.v (.string company)),.d (.v (.string holder)),.d (.v (.string nominee)),.d (.v (.string pledged)),.d (.sl 1 (joint.map fun s=>[PD.v (.string s)])),.d (.v (.int .i64 capital)),.d (.v (.int .i64 votes)),.d (.v (.int .i64 fr)),.d (.v (.int .i64 til))]]) (fun r env K2=>∃j,r=joint.length - j∧j≤joint.length∧(∀s∈joint.take j,s.size≤60)∧K2=K++[.box 36 [.d (.v (.string id)),.d (.v (.string company)),.d (.v (.string holder)),.d (.v (.string nominee)),.d (.v (.string pledged)),.d (.sl 1 (joint.map fun s=>[PD.v (.string s)])),.d (.v (.int .i64 capital)),.d (.v (.int .i64 votes)),.d (.v (.int .i64 fr)),.d (.v (.int .i64 til))]]∧env=(.d (.sl 10 (l.map hdC)) :: .d (.v (.int .i64 n)) :: .undef :: .undef :: .undef :: .d (.v (.int .i64 (k:Int))) :: .ptr K.length 0 :: .d (.v (.int .i64 (j:Int)))::List.replicate 62 .undef)) ?_ ⟨0,rfl,Nat.zero_le _,fun s hs=>by simp at hs,rfl,rfl⟩ ?_
  ·exact ⟨by simp [aJ,List.replicate],.inl rfl⟩
  rintro r env K2 ⟨j,rfl,hj,hok2,rfl,rfl⟩ hN2
  simp only [rp]
  obtain ⟨c3,g3⟩:∃c3,decide ((j:Int)<(joint.length:Int))=c3:=⟨_,rfl⟩
  cases c3 with
  | true =>
   have hlt2:j<joint.length:=by simpa using g3
   have hix2:(0:Int)≤(j:Int):=by omega
   have gj:=cI hlt2
   have w2:IntKind.i64.wrap ((j:Int)+1)=((j+1:Nat):Int):=aP hlt2 (by omega)
   obtain ⟨d7,e7⟩:∃d,decide (joint[j].size≤60)=d:=⟨_,rfl⟩
   have f7:decide ((joint[j].size:Int)>60) = !d7:=gM e7
   repeat' (first | (refine aa ?_;first | (refine zg rfl ?_;first | refine ah ?_ | refine zo ?_ | (refine zs ?_ ?_<;>intro hb<;>((try simp only [bn] at hb);first | subst hb | simp only [hb]))) | (apply ai;rfl;simp only [aj,avs,tts,seval,hix2,hlt2,gj,jl,g3,w2,f7,Bool.not_true,Bool.not_false]<;>exact rr)) | refine ae ?_ | (refine ak ?_;first | (refine yg rfl ?_;first | refine ar ?_ | refine yo ?_ | (refine ys ?_ ?_<;>intro hb<;>((try simp only [bn] at hb);first | subst hb | simp only [hb]))) | (apply au;rfl;simp only [aB,avs,tts,seval,hix2,hlt2,gj,jl,g3,w2,f7,Bool.not_true,Bool.not_false]<;>exact rr;first | trivial | omega)) | refine al ?_ | refine ag ?_ | refine zr af ?_ | refine zR 0 af mixed ?_ | refine zR 1 af mixed ?_ | refine zR 2 af mixed ?_ | refine zR 3 af mixed ?_ | refine zf rfl rfl ?_ | refine zt rfl rfl ?_ | (refine am rfl rfl ?_ ?_<;>intro hb<;>((try simp only [bn] at hb);first | subst hb | simp only [hb])) | refine ap ?_ | refine aq ?_ | refine an ?_)
   ·have hf2:kU ⟨id,company,holder,nominee,pledged,joint,capital,votes,fr,til⟩=false:=Be (h:=⟨id,company,holder,nominee,pledged,joint,capital,votes,fr,til⟩) hlt2 (of_decide_eq_false e7)
    have hp:P=false:=by rw [←hP];exact hno (by rw [hf2,Bool.and_false])
    subst hp
    (try show AW _ _ _ _ _)
    exact aw ⟨_,rfl,_,rfl,rfl⟩
   ·refine ⟨joint.length - (j+1),_,_,by omega,⟨?_,.inl rfl⟩,j+1,rfl,hlt2,fun s hs => ?_,rfl,rfl⟩
    ·simp [aJ,List.replicate]
    ·rw [List.take_add_one,List.getElem?_eq_getElem hlt2,Option.toList_some,List.mem_append,List.mem_singleton] at hs
     rcases hs with hs | rfl
     ·exact hok2 s hs
     ·exact of_decide_eq_true e7
  | false =>
   have hje:j=joint.length:=by
                    have:¬j<joint.length:=by simpa using g3
                    omega
   have hf2:kU ⟨id,company,holder,nominee,pledged,joint,capital,votes,fr,til⟩=true:=by
    unfold kU
    refine List.all_eq_true.2 fun s hs=>decide_eq_true (hok2 s ?_)
    rw [hje,List.take_length];exact hs
   repeat' (first | (refine aa ?_;first | (refine zg rfl ?_;first | refine ah ?_ | refine zo ?_ | (refine zs ?_ ?_<;>intro hb<;>((try simp only [bn] at hb);first | subst hb | simp only [hb]))) | (apply ai;rfl;simp only [aj,avs,tts,seval,jl,g3,w1]<;>exact rr)) | refine ae ?_ | (refine ak ?_;first | (refine yg rfl ?_;first | refine ar ?_ | refine yo ?_ | (refine ys ?_ ?_<;>intro hb<;>((try simp only [bn] at hb);first | subst hb | simp only [hb]))) | (apply au;rfl;simp only [aB,avs,tts,seval,jl,g3,w1]<;>exact rr;first | trivial | omega)) | refine al ?_ | refine ag ?_ | refine zr af ?_ | refine zR 0 af mixed ?_ | refine zR 1 af mixed ?_ | refine zR 2 af mixed ?_ | refine zR 3 af mixed ?_ | refine zf rfl rfl ?_ | refine zt rfl rfl ?_ | (refine am rfl rfl ?_ ?_<;>intro hb<;>((try simp only [bn] at hb);first | subst hb | simp only [hb])) | refine ap ?_ | refine aq ?_ | refine an ?_)
   refine ⟨l.length - (k+1),_,_,by omega,⟨?_,.inr ⟨Nat.le_refl _,?_,hB,_,rfl⟩⟩,k+1,rfl,hlt,htk (by rw [hf1,hf2];rfl),rfl,rfl⟩
   ·simp [aJ,List.replicate]
   ·simp [aS,AV.bel,List.replicate]
 | false =>
  have hka:k=l.length:=by
                 have:¬k<l.length:=by simpa using g1
                 omega
  have heq:P=true:=by
   rw [hka,List.take_length] at hok
   rw [←hP]
   unfold l8
   rw [decide_eq_true (by have:=of_decide_eq_false g0;omega),List.all_eq_true.2 hok];rfl
  repeat' (first | (refine aa ?_;first | (refine zg rfl ?_;first | refine ah ?_ | refine zo ?_ | (refine zs ?_ ?_<;>intro hb<;>((try simp only [bn] at hb);first | subst hb | simp only [hb]))) | (apply ai;rfl;simp only [aj,avs,tts,seval,la,g1]<;>exact rr)) | refine ae ?_ | (refine ak ?_;first | (refine yg rfl ?_;first | refine ar ?_ | refine yo ?_ | (refine ys ?_ ?_<;>intro hb<;>((try simp only [bn] at hb);first | subst hb | simp only [hb]))) | (apply au;rfl;simp only [aB,avs,tts,seval,la,g1]<;>exact rr;first | trivial | omega)) | refine al ?_ | refine ag ?_ | refine zr af ?_ | refine zR 0 af mixed ?_ | refine zR 1 af mixed ?_ | refine zR 2 af mixed ?_ | refine zR 3 af mixed ?_ | refine zf rfl rfl ?_ | refine zt rfl rfl ?_ | (refine am rfl rfl ?_ ?_<;>intro hb<;>((try simp only [bn] at hb);first | subst hb | simp only [hb])) | refine ap ?_ | refine aq ?_ | refine an ?_)
  rw [heq]
  exact aw ⟨_,rfl,[],by simp,rfl⟩
end
end Av
end Go.Proofs.YtdekcppfpgeneaaGreatDoor
namespace Go.Proofs.YtdekcppfpgeneaaGreatDoor
open Go Go.RowKit
namespace Av
attribute [local irreducible] AW aL aH
open Nt Rg
def LeA (a b:AV):Prop:=∀s v,Rep s a v→Rep s b v
theorem LeA.refl (a:AV):LeA a a:=fun _ _ h=>h
theorem LeA.nil (k:Nat):LeA (.d (.v (.slice none 0 0))) (.d (.sl k [])):=fun s v h=>by
 simp only [Rep,aQ] at h ⊢
 exact ⟨none,0,h.1,Nat.le_refl _,by unfold maxLen;omega,.inl trivial⟩
def LeL:List AV→List AV→Prop
 | [],[]=>True
 | a::l,b::m=>LeA a b∧LeL l m
 | _,_=>False
theorem LeL.rep {s:St}:∀{l m:List AV} {vs:List Value},LeL l m→ax s l vs→ax s m vs
 | [],[],_,_,h=>h
 | [],_::_,_,h,_=>h.elim
 | _::_,[],_,h,_=>h.elim
 | a::l,b::m,vs,h,k=>by
  simp only [ax] at k ⊢
  obtain ⟨x,t,h1,h2,h3⟩:=k
  exact ⟨x,t,h1,h.1 s x h2,h.2.rep h3⟩
theorem LeA.agg {l m:List AV} (h:LeL l m):LeA (.agg l) (.agg m):=fun s v k=>by
 simp only [Rep] at k ⊢
 obtain ⟨c,h1,h2⟩:=k
 exact ⟨c,h1,h.rep h2⟩
theorem LeA.tup {l m:List AV} (h:LeL l m):LeA (.tup l) (.tup m):=fun s v k=>by
 simp only [Rep] at k ⊢
 obtain ⟨c,h1,h2⟩:=k
 exact ⟨c,h1,h.rep h2⟩
theorem aI.le {P:Program} {base:World} {f:FuncId} {args:List AV} {r r':AV} (h:aI P base f args r) (k:LeA r r'):aI P base f args r':=fun H =>
 ⟨(h H).enter,fun μ w vs hs ha=>((h H).run μ w vs hs ha).mono fun e w' ⟨v,r0,H',μ',h1,⟨h2,h2'⟩,h3,h4,h5,h6⟩=>⟨v,r',H',μ',h1,⟨rfl,h2'⟩,h3,h4,k _ _ (h2 ▸ h5),h6⟩⟩
section
variable {base:World} (hT:dt base)
include hT
theorem Bv (l:List Hd) (day:Int) (hs:∀h∈l,Small h) (hj:∀h∈l,h.joint.length≤1000) (hl:l.length≤900):aI Tryz.prog base 13 [.d (cO l),iA day] (.tup [hZ (atS l day),iA (atE l day)]):=by
 refine (E8 hT l day hs hj hl).le ?_
 unfold atA atS atE
 cases bN l&&gW day with
 | true =>
  simp only [if_true]
  rw [uQ,uQ]
  exact LeA.refl _
 | false =>
  simp only [Bool.false_eq_true,if_false]
  exact LeA.tup ⟨LeA.agg ⟨.nil 1,.nil 5,.nil 5,trivial⟩,.refl _,trivial⟩
set_option maxRecDepth 100000 in
theorem B8 (n d:Int) (h0 : -9223372036854775808≤n) (h1:n≤9223372036854775807) (k0 : -9223372036854775808≤d) (k1:d≤9223372036854775807):aI Tryz.prog base 27 [iA n,iA d] (fF (ofR n d)):=by
 have co:=DY (base:=base) hT n d h0 h1 k0 k1
 refine aC af Tryz.call27 Tryz.func27 rfl fun H hB hb hF => ?_
 rw [Tryz.results27,Tryz.ntmps27]
 simp only [aA,List.length_cons,List.length_nil,List.replicate,List.cons_append,List.nil_append,Nat.reduceAdd,Nat.reduceSub]
 clear hF hb
 generalize ofR n d=r at co ⊢
 obtain ⟨a,b,c⟩:=r
 simp only [fF,tA,iA] at co ⊢
 repeat' (first | (refine aa ?_;first | (refine zg rfl ?_;first | refine ah ?_ | refine zo ?_ | (refine zs ?_ ?_<;>intro hb<;>((try simp only [bn] at hb);first | subst hb | simp only [hb]))) | (apply ai;rfl;simp only [aj,avs,tts,seval]<;>exact rr) | (refine za rfl ?_;refine zp (co) ?_)) | refine ae ?_ | (refine ak ?_;first | (refine yg rfl ?_;first | refine ar ?_ | refine yo ?_ | (refine ys ?_ ?_<;>intro hb<;>((try simp only [bn] at hb);first | subst hb | simp only [hb]))) | (apply au;rfl;simp only [aB,avs,tts,seval]<;>exact rr;first | trivial | omega) | (refine ya rfl ?_;refine yp (co) ?_)) | refine al ?_ | refine ag ?_ | refine zr af ?_ | refine zR 0 af mixed ?_ | refine zR 1 af mixed ?_ | refine zR 2 af mixed ?_ | refine zR 3 af mixed ?_ | refine zf rfl rfl ?_ | refine zt rfl rfl ?_ | (refine am rfl rfl ?_ ?_<;>intro hb<;>((try simp only [bn] at hb);first | subst hb | simp only [hb])) | refine ap ?_ | refine aq ?_ | refine an ?_)
 refine aw ⟨.agg [.d (.v (.bool a)),.d (.v (.string b)),.d (.v (.string c))],?_,_,rfl,rfl⟩
 simp only [bk,cN,er,avs,tts]<;>rfl
omit hT in
set_option maxRecDepth 100000 in
theorem CD (l:List Hd):aI Tryz.prog base 12 [.d (cO l)] (boA (l8 20 l)):=by
 have cf:=Eb base l 20 (by omega)
 refine aC af Tryz.call12 Tryz.func12 rfl fun H hB hb hF => ?_
 rw [Tryz.results12,Tryz.ntmps12]
 simp only [aA,List.length_cons,List.length_nil,List.replicate,List.cons_append,List.nil_append,Nat.reduceAdd,Nat.reduceSub]
 clear hF hb
 generalize l8 20 l=b at cf ⊢
 simp only [cO,iA] at cf ⊢
 repeat' (first | (refine aa ?_;first | (refine zg rfl ?_;first | refine ah ?_ | refine zo ?_ | (refine zs ?_ ?_<;>intro hb<;>((try simp only [bn] at hb);first | subst hb | simp only [hb]))) | (apply ai;rfl;simp only [aj,avs,tts,seval]<;>exact rr) | (refine za rfl ?_;refine zp (cf) ?_)) | refine ae ?_ | (refine ak ?_;first | (refine yg rfl ?_;first | refine ar ?_ | refine yo ?_ | (refine ys ?_ ?_<;>intro hb<;>((try simp only [bn] at hb);first | subst hb | simp only [hb]))) | (apply au;rfl;simp only [aB,avs,tts,seval]<;>exact rr;first | trivial | omega) | (refine ya rfl ?_;refine yp (cf) ?_)) | refine al ?_ | refine ag ?_ | refine zr af ?_ | refine zR 0 af mixed ?_ | refine zR 1 af mixed ?_ | refine zR 2 af mixed ?_ | refine zR 3 af mixed ?_ | refine zf rfl rfl ?_ | refine zt rfl rfl ?_ | (refine am rfl rfl ?_ ?_<;>intro hb<;>((try simp only [bn] at hb);first | subst hb | simp only [hb])) | refine ap ?_ | refine aq ?_ | refine an ?_)
 exact aw ⟨_,rfl,[],by simp,rfl⟩
end
end Av
end Go.Proofs.YtdekcppfpgeneaaGreatDoor
namespace Go.Proofs.YtdekcppfpgeneaaGreatDoor
open Go Go.RowKit
namespace Rg
open Av Nt
def ym (l:List Hd) (h:Hd):List Hd × Int :=
 if bN l&&bl h then
  (if 0≤lO l h.id then ([],9)
  else if decide (l.length+1≤400)&&decide ((ay (l++[h])).length≤60) then (if fA (l++[h]) then (l++[h],0) else ([],10)) else ([],2))
 else ([],1)
def two (o a b:Bool) (x y:aN):av:=if a then (if b then (if o then [x,y] else [y,x]) else [x]) else if b then [y] else []
end Rg
namespace Av
attribute [local irreducible] AW aL aH
open Nt Rg
section
variable {base:World}
set_option maxRecDepth 100000 in
set_option maxHeartbeats 8000000 in
theorem DF (l:List Hd) (h:Hd) (hs:∀h∈l,Small h) (hsh:Small h) (hj:∀h∈l,h.joint.length≤1000) (hjh:h.joint.length≤1000) (hl:l.length≤800):aI Tryz.prog base 17 [.d (cO l),hdA h] (.tup [.d (cO (ym l h).1),iA (ym l h).2]):=by
 have c1:=rm (base:=base) l hs hj (by omega)
 have c2:=ry base h hsh
 have c3:=CR (base:=base) l h.id
 have c4:=kF (base:=base) (l++[h]) (fun x hx=>by rcases List.mem_append.1 hx with hx | hx;exact hs x hx;rw [List.mem_singleton] at hx;rw [hx];exact hsh) (fun x hx=>by rcases List.mem_append.1 hx with hx | hx;exact hj x hx;rw [List.mem_singleton] at hx;rw [hx];exact hjh) (by simp;omega)
 have c5:=fun hp=>nO (base:=base) (l++[h]) hp (by simp;omega)
 refine aC af Tryz.call17 Tryz.func17 rfl fun H hB hb hF => ?_
 rw [Tryz.results17,Tryz.ntmps17]
 simp only [aA,List.length_cons,List.length_nil,List.replicate,List.cons_append,List.nil_append,Nat.reduceAdd,Nat.reduceSub]
 clear hF hb
 have la:=dY l
 have la2:=dY (l++[h])
 unfold ym
 simp only [iA,tA,boA,cO] at c1 c2 c3 c4 c5 ⊢
 obtain ⟨bv,hbv⟩:∃b,bN l=b:=⟨_,rfl⟩
 obtain ⟨bp,hbp⟩:∃b,bl h=b:=⟨_,rfl⟩
 have hpct:bv=true→bp=true→∀x∈l++[h],Pct x:=fun e1 e2 x hx=>by
  subst e1 e2
  rcases List.mem_append.1 hx with hx | hx
  ·exact eN ((dM hbv).1 x hx)
  ·rw [List.mem_singleton] at hx;rw [hx];exact eN hbp
 rw [hbv] at c1 ⊢
 rw [hbp] at c2 ⊢
 clear hbv hbp
 obtain ⟨cb,hcb⟩:∃b,fA (l++[h])=b:=⟨_,rfl⟩
 obtain ⟨ps,hps⟩:∃ps,ay (l++[h])=ps:=⟨_,rfl⟩
 obtain ⟨cf,gf⟩:∃c,decide (lO l h.id≥0)=c:=⟨_,rfl⟩
 have ef:(0≤lO l h.id)=(cf=true):=by rw [←gf];simp
 rw [hcb] at c5 ⊢
 rw [hps] at c4 ⊢
 simp only [ef]
 clear ef hcb hps
 obtain ⟨m,hm⟩:∃m,lO l h.id=m:=⟨_,rfl⟩
 rw [hm] at c3 gf
 clear hm
 have hI:hdI h=hdL h:=rfl
 have hrow:(l.map hdI)++[hdL h]=(l++[h]).map hdI:=by simp [hI]
 have hun:=Cr (l++[h])
 have hlen:(l++[h]).length=l.length+1:=by simp
 have hlI:=vd l
 obtain ⟨id,company,holder,nominee,pledged,joint,capital,votes,fr,til⟩:=h
 obtain ⟨L,hL⟩:∃L,l++[⟨id,company,holder,nominee,pledged,joint,capital,votes,fr,til⟩]=L:=⟨_,rfl⟩
 rw [hL] at la2 hun hlen hrow c4 c5 hpct ⊢
 clear hL
 simp only [hdA,hdL,tA,iA] at c2 c3 hrow ⊢
 obtain ⟨cp,gp⟩:∃c,decide (ps.length≤60)=c:=⟨_,rfl⟩
 obtain ⟨cl,gl⟩:∃c,decide (l.length+1≤400)=c:=⟨_,rfl⟩
 rw [gp,gl]
 have gp2:decide ((ps.length:Int)>60) = !cp:=by
  subst gp;by_cases h:ps.length≤60
  ·rw [decide_eq_true h,decide_eq_false (by omega)];rfl
  ·rw [decide_eq_false h,decide_eq_true (by omega)];rfl
 have gl2:decide (((l.length+1:Nat):Int)>400) = !cl:=by
  subst gl;by_cases h:l.length+1≤400
  ·rw [decide_eq_true h,decide_eq_false (by omega)];rfl
  ·rw [decide_eq_false h,decide_eq_true (by omega)];rfl
 have psl:(ps.map fun s=>[PD.v (.string s)]).length=ps.length:=by simp
 clear gp gl
 cases bv with
 | false =>
  repeat' (first | (refine aa ?_;first | (refine zg rfl ?_;first | refine ah ?_ | refine zo ?_ | (refine zs ?_ ?_<;>intro hb<;>((try simp only [bn] at hb);first | subst hb | simp only [hb]))) | (apply ai;rfl;simp only [aj,avs,tts,seval]<;>exact rr) | (refine za rfl ?_;first | refine zp (c1) ?_ | refine zp (c2) ?_)) | refine ae ?_ | (refine ak ?_;first | (refine yg rfl ?_;first | refine ar ?_ | refine yo ?_ | (refine ys ?_ ?_<;>intro hb<;>((try simp only [bn] at hb);first | subst hb | simp only [hb]))) | (apply au;rfl;simp only [aB,avs,tts,seval]<;>exact rr;first | trivial | omega) | (refine ya rfl ?_;first | refine yp (c1) ?_ | refine yp (c2) ?_)) | refine al ?_ | refine ag ?_ | refine zr af ?_ | refine zR 0 af mixed ?_ | refine zR 1 af mixed ?_ | refine zR 2 af mixed ?_ | refine zR 3 af mixed ?_ | refine zf rfl rfl ?_ | refine zt rfl rfl ?_ | (refine am rfl rfl ?_ ?_<;>intro hb<;>((try simp only [bn] at hb);first | subst hb | simp only [hb])) | refine ap ?_ | refine aq ?_ | refine an ?_)
  refine kd 4 10 rfl (by simp only [bx,bw]<;>rfl) ?_
  exact aw ⟨_,rfl,_,rfl,rfl⟩
 | true =>
 cases bp with
 | false =>
  repeat' (first | (refine aa ?_;first | (refine zg rfl ?_;first | refine ah ?_ | refine zo ?_ | (refine zs ?_ ?_<;>intro hb<;>((try simp only [bn] at hb);first | subst hb | simp only [hb]))) | (apply ai;rfl;simp only [aj,avs,tts,seval]<;>exact rr) | (refine za rfl ?_;first | refine zp (c1) ?_ | refine zp (c2) ?_)) | refine ae ?_ | (refine ak ?_;first | (refine yg rfl ?_;first | refine ar ?_ | refine yo ?_ | (refine ys ?_ ?_<;>intro hb<;>((try simp only [bn] at hb);first | subst hb | simp only [hb]))) | (apply au;rfl;simp only [aB,avs,tts,seval]<;>exact rr;first | trivial | omega) | (refine ya rfl ?_;first | refine yp (c1) ?_ | refine yp (c2) ?_)) | refine al ?_ | refine ag ?_ | refine zr af ?_ | refine zR 0 af mixed ?_ | refine zR 1 af mixed ?_ | refine zR 2 af mixed ?_ | refine zR 3 af mixed ?_ | refine zf rfl rfl ?_ | refine zt rfl rfl ?_ | (refine am rfl rfl ?_ ?_<;>intro hb<;>((try simp only [bn] at hb);first | subst hb | simp only [hb])) | refine ap ?_ | refine aq ?_ | refine an ?_)
  refine kd 4 10 rfl (by simp only [bx,bw]<;>rfl) ?_
  exact aw ⟨_,rfl,_,rfl,rfl⟩
 | true =>
 have c5:=c5 (hpct rfl rfl)
 cases cf with
 | true =>
  repeat' (first | (refine aa ?_;first | (refine zg rfl ?_;first | refine ah ?_ | refine zo ?_ | (refine zs ?_ ?_<;>intro hb<;>((try simp only [bn] at hb);first | subst hb | simp only [hb]))) | (apply ai;rfl;simp only [aj,avs,tts,seval,gf]<;>exact rr) | (refine za rfl ?_;first | refine zp (c1) ?_ | refine zp (c2) ?_ | refine zp (c3) ?_)) | refine ae ?_ | (refine ak ?_;first | (refine yg rfl ?_;first | refine ar ?_ | refine yo ?_ | (refine ys ?_ ?_<;>intro hb<;>((try simp only [bn] at hb);first | subst hb | simp only [hb]))) | (apply au;rfl;simp only [aB,avs,tts,seval,gf]<;>exact rr;first | trivial | omega) | (refine ya rfl ?_;first | refine yp (c1) ?_ | refine yp (c2) ?_ | refine yp (c3) ?_)) | refine al ?_ | refine ag ?_ | refine zr af ?_ | refine zR 0 af mixed ?_ | refine zR 1 af mixed ?_ | refine zR 2 af mixed ?_ | refine zR 3 af mixed ?_ | refine zf rfl rfl ?_ | refine zt rfl rfl ?_ | (refine am rfl rfl ?_ ?_<;>intro hb<;>((try simp only [bn] at hb);first | subst hb | simp only [hb])) | refine ap ?_ | refine aq ?_ | refine an ?_)
  refine kd 4 10 rfl (by simp only [bx,bw]<;>rfl) ?_
  exact aw ⟨_,rfl,_,rfl,rfl⟩
 | false =>
 repeat refine ag ?_
 refine zr af ?_
 repeat (refine aa ?_;first | (apply ai;rfl;simp only [aj,avs,tts,seval]<;>exact rr) | (refine zg rfl ?_;first | refine ah ?_ | refine zo ?_))
 refine ae ?_
 repeat refine ag ?_
 refine zr af ?_
 repeat (refine aa ?_;first | (apply ai;rfl;simp only [aj,avs,tts,seval]<;>exact rr) | (refine zg rfl ?_;first | refine ah ?_ | refine zo ?_))
 refine zP rfl (c1) ?_
 repeat (refine aa ?_;first | (apply ai;rfl;simp only [aj,avs,tts,seval]<;>exact rr) | (refine zg rfl ?_;first | refine ah ?_ | refine zo ?_))
 refine zP rfl (c2) ?_
 repeat (refine aa ?_;first | (apply ai;rfl;simp only [aj,avs,tts,seval]<;>exact rr) | (refine zg rfl ?_;first | refine ah ?_ | refine zo ?_))
 refine ae ?_
 repeat refine ag ?_
 refine am rfl rfl (fun hb => ?_) fun hb => ?_
 ·cases hb
 refine ap ?_
 repeat refine ag ?_
 refine zr af ?_
 repeat (refine aa ?_;first | (apply ai;rfl;simp only [aj,avs,tts,seval]<;>exact rr) | (refine zg rfl ?_;first | refine ah ?_ | refine zo ?_))
 refine zP rfl (c3) ?_
 repeat (refine aa ?_;first | (apply ai;rfl;simp only [aj,avs,tts,seval,gf]<;>exact rr) | (refine zg rfl ?_;first | refine ah ?_ | refine zo ?_))
 refine ae ?_
 repeat refine ag ?_
 refine am rfl rfl (fun hb => ?_) fun hb => ?_
 ·cases hb
 refine ap ?_
 repeat refine ag ?_
 have la3:(L.map hdC).length=l.length+1:=by rw [la2,hlen]
 have lI3:(L.map hdI).length=l.length+1:=by rw [vd,hlen]
 have b1:l.length+1≤9223372036854775807:=by omega
 have b2:(l.length+1) * 136≤140737488355328:=by omega
 refine qE (Q0:=fun env K=>K=H++[.box 36 [.d (.v (.string id)),.d (.v (.string company)),.d (.v (.string holder)),.d (.v (.string nominee)),.d (.v (.string pledged)),.d (bq joint),.d (.v (.int .i64 capital)),.d (.v (.int .i64 votes)),.d (.v (.int .i64 fr)),.d (.v (.int .i64 til))]]∧env=(.d (.sl 10 (l.map hdC)) :: .undef :: .undef :: .ptr H.length 0 :: .undef :: .undef :: .d (.sl 10 (L.map hdC))::List.replicate 33 .undef)) ?_ ?_
 ·refine li af mixed (by kernel_rfl) (by kernel_rfl) (fun β env K=>∃o:Bool,(β 1=true→β 3=false→o=true)∧(β 3=true→β 1=false→o=false)∧(β 4=true→β 1=true∧β 3=true)∧(β 5=true→β 4=true)∧K=H ++ .box 36 [.d (.v (.string id)),.d (.v (.string company)),.d (.v (.string holder)),.d (.v (.string nominee)),.d (.v (.string pledged)),.d (bq joint),.d (.v (.int .i64 capital)),.d (.v (.int .i64 votes)),.d (.v (.int .i64 fr)),.d (.v (.int .i64 til))]::two o (β 1) (β 3) (.row 36 10 0 (if β 4=true then L.map hdI else l.map hdI)) (.row 36 10 0 [[.d (.v (.string id)),.d (.v (.string company)),.d (.v (.string holder)),.d (.v (.string nominee)),.d (.v (.string pledged)),.d (bq joint),.d (.v (.int .i64 capital)),.d (.v (.int .i64 votes)),.d (.v (.int .i64 fr)),.d (.v (.int .i64 til))]])∧env=(.d (.sl 10 (l.map hdC)) :: .undef :: .undef :: .ptr H.length 0 :: .undef :: .undef::(if β 5=true then .ms (H.length+if o=true then 1 else 2) 0 (l.length+1) else .undef)::List.replicate 13 .undef++(if β 0=true then .d (.sl 10 (l.map hdC)) else .undef)::(if β 1=true then .ms (H.length+if o=true then 1 else 2) 0 l.length else .undef)::(if β 2=true then .agg [.d (.v (.string id)),.d (.v (.string company)),.d (.v (.string holder)),.d (.v (.string nominee)),.d (.v (.string pledged)),.d (bq joint),.d (.v (.int .i64 capital)),.d (.v (.int .i64 votes)),.d (.v (.int .i64 fr)),.d (.v (.int .i64 til))] else .undef)::(if β 3=true then .ms (H.length+if o=true then 2 else 1) 0 1 else .undef)::(if β 4=true then .ms (H.length+if o=true then 1 else 2) 0 (l.length+1) else .undef)::List.replicate 15 .undef)) (H0:=H++[.box 36 [.d (.v (.string id)),.d (.v (.string company)),.d (.v (.string holder)),.d (.v (.string nominee)),.d (.v (.string pledged)),.d (bq joint),.d (.v (.int .i64 capital)),.d (.v (.int .i64 votes)),.d (.v (.int .i64 fr)),.d (.v (.int .i64 til))]]) (env0:=(.d (.sl 10 (l.map hdC)) :: .undef :: .undef :: .ptr H.length 0::List.replicate 36 .undef)) ⟨by simp [aJ,List.replicate],.inl (by simp only [bq])⟩ ⟨true,by simp,by simp,by simp,by simp,by simp [two],by simp⟩ ?_ ?_
  ·rintro β env K ⟨o,h13,h31,h4,h5,rfl,rfl⟩ hN2 i op hget hβ hr
   simp only [rp]
   simp only [aA] at hget
   rcases i with _ | _ | _ | _ | _ | _ | i
   all_goals (try simp only [nw,nv,Option.some.injEq,List.getElem?_nil,reduceCtorEq] at hget)
   all_goals (try subst hget)
   all_goals (simp [mZ,Region.binds] at hr)
   all_goals try (simp only [Nat.zero_add,Nat.reduceAdd] at hβ)
   ·simp only [be,bP,bH,fI,avs,tts,Nat.reduceAdd,Nat.reduceSub,reduceCtorEq,hr]
    exact ⟨o,by simpa using h13,by simpa using h31,by simpa using h4,by simpa using h5,by simp,by simp⟩
   ·have h4':β 4=false:=by cases h:β 4 with
     | false=>rfl
     | true=>rw [(h4 h).1] at hβ;cases hβ
    have h5':β 5=false:=by cases h:β 5 with
     | false=>rfl
     | true=>rw [h5 h] at h4';cases h4'
    simp only [be,bP,bH,fI,avs,tts,Nat.reduceAdd,Nat.reduceSub,reduceCtorEq,hr]
    refine ⟨_,zW base l (by omega),?_⟩
    rintro r H' ⟨rfl,rfl⟩ _
    cases h3:β 3 with
    | false=>exact ⟨true,by simp,by simp [h3],by simp [h4'],by simp [h5'],by simp [two,h3,h4',hβ],by simp [h3,h4',h5',hβ,two]⟩
    | true=>exact ⟨false,by simp [h3],by simp,by simp [h4'],by simp [h5'],by simp [two,h3,h4',hβ],by
      have:=h31 h3 hβ
      subst this
      simp [h3,h4',h5',hβ,two]⟩
   ·simp only [be,bP,bH,fI,avs,tts,Nat.reduceAdd,Nat.reduceSub,reduceCtorEq,hr]
    exact ⟨o,by simpa using h13,by simpa using h31,by simpa using h4,by simpa using h5,by simp,by simp⟩
   ·have h4':β 4=false:=by cases h:β 4 with
     | false=>rfl
     | true=>rw [(h4 h).2] at hβ;cases hβ
    have h5':β 5=false:=by cases h:β 5 with
     | false=>rfl
     | true=>rw [h5 h] at h4';cases h4'
    rcases Bool.eq_false_or_eq_true (β 1) with h1 | h1
    rotate_left
    ·
     simp only [be,bP,bH,fI,avs,tts,Nat.reduceAdd,Nat.reduceSub,reduceCtorEq,hr,hβ,h1,h4',two]
     exact ⟨false,by simp [h1],by simp,by simp [h4'],by simp [h5'],by simp [two,h1,h4',hβ],by simp [h1,h4',h5',hβ]⟩
    ·
     have:=h13 h1 hβ
     subst this
     simp only [be,bP,bH,fI,avs,tts,Nat.reduceAdd,Nat.reduceSub,reduceCtorEq,hr,hβ,h1,h4',two]
     exact ⟨true,by simp,by simp [h1],by simp [h4'],by simp [h5'],by simp [two,h1,h4',hβ],by simp [h1,h4',h5',hβ]⟩
   ·cases o with
    | true =>
     simp only [be,bP,bH,fI,avs,tts,Nat.reduceAdd,Nat.reduceSub,reduceCtorEq,hr,hβ,two,hlI,b1,b2,hrow]
     exact ⟨true,by simp,by simp [hr],by simp [hr],by simp,by simp [two,hr],by simp [hr]⟩
    | false =>
     simp only [be,bP,bH,fI,avs,tts,Nat.reduceAdd,Nat.reduceSub,reduceCtorEq,hr,hβ,two,hlI,b1,b2,hrow]
     exact ⟨false,by simp [hr],by simp,by simp [hr],by simp,by simp [two,hr],by simp [hr]⟩
   ·simp only [be,bP,bH,fI,avs,tts,Nat.reduceAdd,Nat.reduceSub,reduceCtorEq,hr]
    exact ⟨o,by first | simp | simpa using h13,by first | simp | simpa using h31,by first | simp | simpa using h4,by simp [hr],by simp,by simp [hr]⟩
  ·rintro β env K ⟨o,h13,h31,h4,h5,rfl,rfl⟩ hall
   simp only [List.replicate,List.cons_append,List.nil_append,hall 0 (by decide),hall 1 (by decide),hall 2 (by decide),hall 3 (by decide),hall 4 (by decide),hall 5 (by decide),bH,two]
   cases o with
   | true=>exact ⟨by first | trivial | rfl,_,_,_,_,.inl ⟨H.length+1,(by simp only [avs,tts,Nat.reduceAdd,Nat.reduceMul,Nat.reduceSub,Nat.reduceEqDiff,Nat.reduceLT,Nat.reduceLeDiff,Int.reduceToNat,Int.reduceLE,Int.reduceLT,Int.toNat_natCast,reduceCtorEq,bU,bY,cP,bh,bc,unI,unL,Nat.add_eq_left,Nat.left_eq_add,Nat.one_ne_zero,hun,lI3]<;>rfl),(by simp only [avs,tts,Nat.reduceAdd,Nat.reduceMul,Nat.reduceSub,Nat.reduceEqDiff,Nat.reduceLT,Nat.reduceLeDiff,Int.reduceToNat,Int.reduceLE,Int.reduceLT,Int.toNat_natCast,reduceCtorEq,bU,bY,cP,bh,bc,unI,unL,Nat.add_eq_left,Nat.left_eq_add,Nat.one_ne_zero]<;>rfl)⟩,⟨by simp [aJ,List.replicate],.inr ⟨by simp,by simp [aS,AV.bel,List.replicate],.more hB (.cons (by simp [aN.bel,aS,AV.bel,bq]) .nil),_,by simp only [List.append_assoc,List.cons_append,List.nil_append];rfl⟩⟩,rfl,rfl⟩
   | false=>exact ⟨by first | trivial | rfl,_,_,_,_,.inl ⟨H.length+2,(by simp only [avs,tts,Nat.reduceAdd,Nat.reduceMul,Nat.reduceSub,Nat.reduceEqDiff,Nat.reduceLT,Nat.reduceLeDiff,Int.reduceToNat,Int.reduceLE,Int.reduceLT,Int.toNat_natCast,reduceCtorEq,bU,bY,cP,bh,bc,unI,unL,Nat.add_eq_left,Nat.left_eq_add,Nat.one_ne_zero,hun,lI3]<;>rfl),(by simp only [avs,tts,Nat.reduceAdd,Nat.reduceMul,Nat.reduceSub,Nat.reduceEqDiff,Nat.reduceLT,Nat.reduceLeDiff,Int.reduceToNat,Int.reduceLE,Int.reduceLT,Int.toNat_natCast,reduceCtorEq,bU,bY,cP,bh,bc,unI,unL,Nat.add_eq_left,Nat.left_eq_add,Nat.one_ne_zero]<;>rfl)⟩,⟨by simp [aJ,List.replicate],.inr ⟨by simp,by simp [aS,AV.bel,List.replicate],.more hB (.cons (by simp [aN.bel,aS,AV.bel,bq]) .nil),_,by simp only [List.append_assoc,List.cons_append,List.nil_append];rfl⟩⟩,rfl,rfl⟩
 rintro env0 K0 ⟨rfl,rfl⟩
 simp only [rp]
 repeat' (first | (refine aa ?_;first | (refine zg rfl ?_;first | refine ah ?_ | refine zo ?_ | (refine zs ?_ ?_<;>intro hb<;>((try simp only [bn] at hb);first | subst hb | simp only [hb]))) | (apply ai;rfl;simp only [aj,avs,tts,seval,la3,gp2,gl2,psl]<;>exact rr) | (refine za rfl ?_;first | refine zp (c4) ?_ | refine zp (c5) ?_)) | refine ae ?_ | (refine ak ?_;first | (refine yg rfl ?_;first | refine ar ?_ | refine yo ?_ | (refine ys ?_ ?_<;>intro hb<;>((try simp only [bn] at hb);first | subst hb | simp only [hb]))) | (apply au;rfl;simp only [aB,avs,tts,seval,la3,gp2,gl2,psl]<;>exact rr;first | trivial | omega) | (refine ya rfl ?_;first | refine yp (c4) ?_ | refine yp (c5) ?_)) | refine al ?_ | refine ag ?_ | refine zr af ?_ | refine zR 0 af mixed ?_ | refine zR 1 af mixed ?_ | refine zR 2 af mixed ?_ | refine zR 3 af mixed ?_ | refine zf rfl rfl ?_ | refine zt rfl rfl ?_ | (refine am rfl rfl ?_ ?_<;>intro hb<;>((try simp only [bn] at hb);first | subst hb | simp only [hb])) | refine ap ?_ | refine aq ?_ | refine an ?_)
 all_goals first
  | (show AW _ _ _ _ _;refine kd 4 10 rfl (by simp only [bx,bw]<;>rfl) ?_;refine aw ⟨_,rfl,_,rfl,?_⟩;rfl)
  | (show AW _ _ _ _ _;refine aw ⟨_,rfl,_,rfl,?_⟩;rfl)
end
end Av
end Go.Proofs.YtdekcppfpgeneaaGreatDoor
