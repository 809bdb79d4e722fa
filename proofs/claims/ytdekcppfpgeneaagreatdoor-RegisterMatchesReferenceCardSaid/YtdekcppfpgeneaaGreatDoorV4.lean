import Derived.Test.YtdekcppfpgeneaaGreatDoorV3
import Derived.Test.YtdekcppfpgeneaaGreatDoorV2
import Derived.RangeFuncSeq
import Derived.DeepKeys4
import Derived.Sort.MapsRangeIn
import Derived.TacticsInMore
import Derived.RegionIn
import Derived.LoopNIn
import Derived.LoopIn
import Derived.OwnWalkIn
import Derived.WalkKit
import Derived.Shelf.SlSortCmp.WholeK
import Derived.StillTailTactics
import Derived.LoopN
import Derived.Test.YtdekcppfpgeneaaGreatDoorProg
import Derived.Shelf.SlSortCmp.NoneTotal
import Derived.KernelRfl
set_option linter.unusedVariables false
set_option linter.unusedSimpArgs false
namespace Go.Proofs.YtdekcppfpgeneaaGreatDoor
open Go Go.RowKit
namespace Av
attribute [local irreducible] AW aQ aM
open Nt Rg
section
variable (base:World)
set_option maxRecDepth 100000 in
theorem Er (t:ByteArray) (ht:t.size≤1000000):aJ Tryz.prog base 132 [tA t] (boA (isN t)):=by
 have cn:=zA base t ht
 unfold isN
 generalize (!decide (t=⟨#[]⟩))=b1 at *
 generalize (t.data.toList.all aX&&(decide (t.size=1) || !decide (gn t=48)))=b2 at *
 obtain ⟨b3,g3⟩:∃c,decide (t.size≤300)=c:=⟨_,rfl⟩
 have f3:decide ((t.size:Int)≤300)=b3:=by rw [←g3];exact decide_eq_decide.2 (by omega)
 rw [g3]
 clear g3
 refine aA af Tryz.call132 Tryz.func132 rfl fun H hB hb hF => ?_
 rw [Tryz.results132,Tryz.ntmps132]
 simp only [ax,List.length_cons,List.length_nil,List.replicate,List.cons_append,List.nil_append,Nat.reduceAdd,Nat.reduceSub]
 clear hF hb
 simp only [tA,boA] at cn ⊢
 repeat' (first | (refine aa ?_;first | (refine zg rfl ?_;first | refine ah ?_ | refine zo ?_ | (refine zs ?_ ?_<;>intro hb<;>((try simp only [bn] at hb);first | subst hb | simp only [hb]))) | (apply ai;rfl;simp only [aj,avs,tts,seval,f3]<;>exact rr) | (refine za rfl ?_;refine zp (cn) ?_)) | refine ae ?_ | (refine ak ?_;first | (refine yg rfl ?_;first | refine aq ?_ | refine yo ?_ | (refine ys ?_ ?_<;>intro hb<;>((try simp only [bn] at hb);first | subst hb | simp only [hb]))) | (apply ar;rfl;simp only [aB,avs,tts,seval,f3]<;>exact rr;first | trivial | omega) | (refine ya rfl ?_;refine yp (cn) ?_)) | refine al ?_ | refine ag ?_ | refine zr af ?_ | refine zQ 0 af mixed ?_ | refine zQ 1 af mixed ?_ | refine zQ 2 af mixed ?_ | refine zQ 3 af mixed ?_ | refine zf rfl rfl ?_ | refine zt rfl rfl ?_ | (refine an rfl rfl ?_ ?_<;>intro hb<;>((try simp only [bn] at hb);first | subst hb | simp only [hb])) | refine ap ?_ | refine au ?_ | refine am ?_)
 all_goals (show AW _ _ _ _ _;first | exact aw ⟨_,rfl,[],by simp,rfl⟩ | (cases b1<;>cases b2<;>exact aw ⟨_,rfl,[],by simp,rfl⟩))
theorem fM {n:Nat} (hn:n<10 ^ 18):aJ Tryz.prog base 132 [tA (aI n)] (boA true):=by
 have h:=Er base (aI n) (by have:=gX hn;omega)
 rwa [kp (by have:=gX hn;rw [cU] at this;omega)] at h
theorem jb {n:Nat} (hn:n<10 ^ 18):aJ Tryz.prog base 173 [tA (aI n)] (iA n):=by
 have h:=yY base (aI n) (by rw [gs];exact dE n) (gX hn)
 rwa [dn] at h
set_option maxRecDepth 100000 in
theorem Ep (n:Nat) (hn:n≤9223372036854775807):aJ Tryz.prog base 105 [iA n] (tA (aI n)):=by
 have cd:=nA base n hn
 refine aA af Tryz.call105 Tryz.func105 rfl fun H hB hb hF => ?_
 rw [Tryz.results105,Tryz.ntmps105]
 simp only [ax,List.length_cons,List.length_nil,List.replicate,List.cons_append,List.nil_append,Nat.reduceAdd,Nat.reduceSub]
 clear hF hb
 simp only [tA,iA] at cd ⊢
 have f0:decide ((n:Int)<0)=false:=decide_eq_false (by omega)
 repeat' (first | (refine aa ?_;first | (refine zg rfl ?_;first | refine ah ?_ | refine zo ?_ | (refine zs ?_ ?_<;>intro hb<;>((try simp only [bn] at hb);first | subst hb | simp only [hb]))) | (apply ai;rfl;simp only [aj,avs,tts,seval,f0]<;>exact rr) | (refine za rfl ?_;refine zp (cd) ?_)) | refine ae ?_ | (refine ak ?_;first | (refine yg rfl ?_;first | refine aq ?_ | refine yo ?_ | (refine ys ?_ ?_<;>intro hb<;>((try simp only [bn] at hb);first | subst hb | simp only [hb]))) | (apply ar;rfl;simp only [aB,avs,tts,seval,f0]<;>exact rr;first | trivial | omega) | (refine ya rfl ?_;refine yp (cd) ?_)) | refine al ?_ | refine ag ?_ | refine zr af ?_ | refine zQ 0 af mixed ?_ | refine zQ 1 af mixed ?_ | refine zQ 2 af mixed ?_ | refine zQ 3 af mixed ?_ | refine zf rfl rfl ?_ | refine zt rfl rfl ?_ | (refine an rfl rfl ?_ ?_<;>intro hb<;>((try simp only [bn] at hb);first | subst hb | simp only [hb])) | refine ap ?_ | refine au ?_ | refine am ?_)
 exact aw ⟨_,rfl,[],by simp,rfl⟩
set_option maxRecDepth 100000 in
theorem y9 {n:Nat} (hn:n<10 ^ 18):aJ Tryz.prog base 136 [tA (aI n)] (.tup [tA (aI n),iA 0]):=by
 have hs:=gX hn
 generalize aI n=t at *
 refine aA af Tryz.call136 Tryz.func136 rfl fun H hB hb hF => ?_
 rw [Tryz.results136,Tryz.ntmps136]
 simp only [ax,List.length_cons,List.length_nil,List.replicate,List.cons_append,List.nil_append,Nat.reduceAdd,Nat.reduceSub]
 clear hF hb
 simp only [tA,iA]
 have f0:decide ((t.size:Int)>300)=false:=decide_eq_false (by omega)
 repeat' (first | (refine aa ?_;first | (refine zg rfl ?_;first | refine ah ?_ | refine zo ?_ | (refine zs ?_ ?_<;>intro hb<;>((try simp only [bn] at hb);first | subst hb | simp only [hb]))) | (apply ai;rfl;simp only [aj,avs,tts,seval,f0]<;>exact rr)) | refine ae ?_ | (refine ak ?_;first | (refine yg rfl ?_;first | refine aq ?_ | refine yo ?_ | (refine ys ?_ ?_<;>intro hb<;>((try simp only [bn] at hb);first | subst hb | simp only [hb]))) | (apply ar;rfl;simp only [aB,avs,tts,seval,f0]<;>exact rr;first | trivial | omega)) | refine al ?_ | refine ag ?_ | refine zr af ?_ | refine zQ 0 af mixed ?_ | refine zQ 1 af mixed ?_ | refine zQ 2 af mixed ?_ | refine zQ 3 af mixed ?_ | refine zf rfl rfl ?_ | refine zt rfl rfl ?_ | (refine an rfl rfl ?_ ?_<;>intro hb<;>((try simp only [bn] at hb);first | subst hb | simp only [hb])) | refine ap ?_ | refine au ?_ | refine am ?_)
 exact aw ⟨_,rfl,[],by simp,rfl⟩
set_option maxRecDepth 100000 in
theorem BA {n m:Nat} (hn:n<10 ^ 18) (hm:m<10 ^ 18):aJ Tryz.prog base 137 [tA (aI n),tA (aI m)] (tA (aI (n+m))):=by
 have cd:=nA base (n+m) (by omega)
 have v1:=jb base hn
 have v2:=jb base hm
 have s1:=gX hn
 have s2:=gX hm
 generalize aI n=t at *
 generalize aI m=u at *
 generalize aI (n+m)=w at *
 have w1:IntKind.i64.wrap ((n:Int)+(m:Int))=((n+m:Nat):Int):=by rw [IntKind.wrap_i64];omega
 refine aA af Tryz.call137 Tryz.func137 rfl fun H hB hb hF => ?_
 rw [Tryz.results137,Tryz.ntmps137]
 simp only [ax,List.length_cons,List.length_nil,List.replicate,List.cons_append,List.nil_append,Nat.reduceAdd,Nat.reduceSub]
 clear hF hb
 simp only [tA,iA] at cd v1 v2 ⊢
 have f0:decide ((t.size:Int)≤18)=true:=decide_eq_true (by omega)
 have f1:decide ((u.size:Int)≤18)=true:=decide_eq_true (by omega)
 repeat' (first | (refine aa ?_;first | (refine zg rfl ?_;first | refine ah ?_ | refine zo ?_ | (refine zs ?_ ?_<;>intro hb<;>((try simp only [bn] at hb);first | subst hb | simp only [hb]))) | (apply ai;rfl;simp only [aj,avs,tts,seval,f0,f1,w1]<;>exact rr) | (refine za rfl ?_;first | refine zp (v1) ?_ | refine zp (v2) ?_ | refine zp (cd) ?_)) | refine ae ?_ | (refine ak ?_;first | (refine yg rfl ?_;first | refine aq ?_ | refine yo ?_ | (refine ys ?_ ?_<;>intro hb<;>((try simp only [bn] at hb);first | subst hb | simp only [hb]))) | (apply ar;rfl;simp only [aB,avs,tts,seval,f0,f1,w1]<;>exact rr;first | trivial | omega) | (refine ya rfl ?_;first | refine yp (v1) ?_ | refine yp (v2) ?_ | refine yp (cd) ?_)) | refine al ?_ | refine ag ?_ | refine zr af ?_ | refine zQ 0 af mixed ?_ | refine zQ 1 af mixed ?_ | refine zQ 2 af mixed ?_ | refine zQ 3 af mixed ?_ | refine zf rfl rfl ?_ | refine zt rfl rfl ?_ | (refine an rfl rfl ?_ ?_<;>intro hb<;>((try simp only [bn] at hb);first | subst hb | simp only [hb])) | refine ap ?_ | refine au ?_ | refine am ?_)
 exact aw ⟨_,rfl,[],by simp,rfl⟩
set_option maxRecDepth 100000 in
theorem y4 {n m:Nat} (hn:n<10 ^ 9) (hm:m<10 ^ 9):aJ Tryz.prog base 138 [tA (aI n),tA (aI m)] (tA (aI (n * m))):=by
 have hl:n * m≤(10 ^ 9 - 1) * (10 ^ 9 - 1):=Nat.mul_le_mul (by omega) (by omega)
 have cd:=nA base (n * m) (by omega)
 have v1:=jb base (n:=n) (by omega)
 have v2:=jb base (n:=m) (by omega)
 have s1:(aI n).size≤9:=by rw [cU];exact dec_9 hn
 have s2:(aI m).size≤9:=by rw [cU];exact dec_9 hm
 generalize aI n=t at *
 generalize aI m=u at *
 generalize aI (n * m)=w at *
 have w1:IntKind.i64.wrap ((n:Int) * (m:Int))=((n * m:Nat):Int):=by rw [←Int.natCast_mul,IntKind.wrap_i64];omega
 refine aA af Tryz.call138 Tryz.func138 rfl fun H hB hb hF => ?_
 rw [Tryz.results138,Tryz.ntmps138]
 simp only [ax,List.length_cons,List.length_nil,List.replicate,List.cons_append,List.nil_append,Nat.reduceAdd,Nat.reduceSub]
 clear hF hb
 simp only [tA,iA] at cd v1 v2 ⊢
 have f0:decide ((t.size:Int)≤9)=true:=decide_eq_true (by omega)
 have f1:decide ((u.size:Int)≤9)=true:=decide_eq_true (by omega)
 repeat' (first | (refine aa ?_;first | (refine zg rfl ?_;first | refine ah ?_ | refine zo ?_ | (refine zs ?_ ?_<;>intro hb<;>((try simp only [bn] at hb);first | subst hb | simp only [hb]))) | (apply ai;rfl;simp only [aj,avs,tts,seval,f0,f1,w1]<;>exact rr) | (refine za rfl ?_;first | refine zp (v1) ?_ | refine zp (v2) ?_ | refine zp (cd) ?_)) | refine ae ?_ | (refine ak ?_;first | (refine yg rfl ?_;first | refine aq ?_ | refine yo ?_ | (refine ys ?_ ?_<;>intro hb<;>((try simp only [bn] at hb);first | subst hb | simp only [hb]))) | (apply ar;rfl;simp only [aB,avs,tts,seval,f0,f1,w1]<;>exact rr;first | trivial | omega) | (refine ya rfl ?_;first | refine yp (v1) ?_ | refine yp (v2) ?_ | refine yp (cd) ?_)) | refine al ?_ | refine ag ?_ | refine zr af ?_ | refine zQ 0 af mixed ?_ | refine zQ 1 af mixed ?_ | refine zQ 2 af mixed ?_ | refine zQ 3 af mixed ?_ | refine zf rfl rfl ?_ | refine zt rfl rfl ?_ | (refine an rfl rfl ?_ ?_<;>intro hb<;>((try simp only [bn] at hb);first | subst hb | simp only [hb])) | refine ap ?_ | refine au ?_ | refine am ?_)
 exact aw ⟨_,rfl,[],by simp,rfl⟩
set_option maxRecDepth 100000 in
theorem BB {n m:Nat} (hn:n<10 ^ 18) (hm:m<10 ^ 18) (hnm:n+m<10 ^ 18):aJ Tryz.prog base 106 [tA (aI n),tA (aI m)] (.tup [tA (aI (n+m)),iA 0]):=by
 have c1:=fM base hn
 have c2:=fM base hm
 have c3:=BA base hn hm
 have c4:=y9 base hnm
 generalize aI n=t at *
 generalize aI m=u at *
 generalize aI (n+m)=w at *
 refine aA af Tryz.call106 Tryz.func106 rfl fun H hB hb hF => ?_
 rw [Tryz.results106,Tryz.ntmps106]
 simp only [ax,List.length_cons,List.length_nil,List.replicate,List.cons_append,List.nil_append,Nat.reduceAdd,Nat.reduceSub]
 clear hF hb
 simp only [tA,iA,boA] at c1 c2 c3 c4 ⊢
 repeat' (first | (refine aa ?_;first | (refine zg rfl ?_;first | refine ah ?_ | refine zo ?_ | (refine zs ?_ ?_<;>intro hb<;>((try simp only [bn] at hb);first | subst hb | simp only [hb]))) | (apply ai;rfl;simp only [aj,avs,tts,seval]<;>exact rr) | (refine za rfl ?_;first | refine zp (c1) ?_ | refine zp (c2) ?_ | refine zp (c3) ?_ | refine zp (c4) ?_)) | refine ae ?_ | (refine ak ?_;first | (refine yg rfl ?_;first | refine aq ?_ | refine yo ?_ | (refine ys ?_ ?_<;>intro hb<;>((try simp only [bn] at hb);first | subst hb | simp only [hb]))) | (apply ar;rfl;simp only [aB,avs,tts,seval]<;>exact rr;first | trivial | omega) | (refine ya rfl ?_;first | refine yp (c1) ?_ | refine yp (c2) ?_ | refine yp (c3) ?_ | refine yp (c4) ?_)) | refine al ?_ | refine ag ?_ | refine zr af ?_ | refine zQ 0 af mixed ?_ | refine zQ 1 af mixed ?_ | refine zQ 2 af mixed ?_ | refine zQ 3 af mixed ?_ | refine zf rfl rfl ?_ | refine zt rfl rfl ?_ | (refine an rfl rfl ?_ ?_<;>intro hb<;>((try simp only [bn] at hb);first | subst hb | simp only [hb])) | refine ap ?_ | refine au ?_ | refine am ?_)
 exact aw ⟨_,rfl,[],by simp,rfl⟩
set_option maxRecDepth 100000 in
theorem qD {n m:Nat} (hn:n<10 ^ 9) (hm:m<10 ^ 9):aJ Tryz.prog base 108 [tA (aI n),tA (aI m)] (.tup [tA (aI (n * m)),iA 0]):=by
 have hl:n * m≤(10 ^ 9 - 1) * (10 ^ 9 - 1):=Nat.mul_le_mul (by omega) (by omega)
 have c1:=fM base (n:=n) (by omega)
 have c2:=fM base (n:=m) (by omega)
 have c3:=y4 base hn hm
 have c4:=y9 base (n:=n * m) (by omega)
 generalize aI n=t at *
 generalize aI m=u at *
 generalize aI (n * m)=w at *
 refine aA af Tryz.call108 Tryz.func108 rfl fun H hB hb hF => ?_
 rw [Tryz.results108,Tryz.ntmps108]
 simp only [ax,List.length_cons,List.length_nil,List.replicate,List.cons_append,List.nil_append,Nat.reduceAdd,Nat.reduceSub]
 clear hF hb
 simp only [tA,iA,boA] at c1 c2 c3 c4 ⊢
 repeat' (first | (refine aa ?_;first | (refine zg rfl ?_;first | refine ah ?_ | refine zo ?_ | (refine zs ?_ ?_<;>intro hb<;>((try simp only [bn] at hb);first | subst hb | simp only [hb]))) | (apply ai;rfl;simp only [aj,avs,tts,seval]<;>exact rr) | (refine za rfl ?_;first | refine zp (c1) ?_ | refine zp (c2) ?_ | refine zp (c3) ?_ | refine zp (c4) ?_)) | refine ae ?_ | (refine ak ?_;first | (refine yg rfl ?_;first | refine aq ?_ | refine yo ?_ | (refine ys ?_ ?_<;>intro hb<;>((try simp only [bn] at hb);first | subst hb | simp only [hb]))) | (apply ar;rfl;simp only [aB,avs,tts,seval]<;>exact rr;first | trivial | omega) | (refine ya rfl ?_;first | refine yp (c1) ?_ | refine yp (c2) ?_ | refine yp (c3) ?_ | refine yp (c4) ?_)) | refine al ?_ | refine ag ?_ | refine zr af ?_ | refine zQ 0 af mixed ?_ | refine zQ 1 af mixed ?_ | refine zQ 2 af mixed ?_ | refine zQ 3 af mixed ?_ | refine zf rfl rfl ?_ | refine zt rfl rfl ?_ | (refine an rfl rfl ?_ ?_<;>intro hb<;>((try simp only [bn] at hb);first | subst hb | simp only [hb])) | refine ap ?_ | refine au ?_ | refine am ?_)
 exact aw ⟨_,rfl,[],by simp,rfl⟩
set_option maxRecDepth 100000 in
theorem vI {n m:Nat} (hn:n<10 ^ 18) (hm:m<10 ^ 18) (h0:m≠0):aJ Tryz.prog base 134 [tA (aI n),tA (aI m)] (.tup [tA (aI (n / m)),tA (aI (n % m))]):=by
 have co:=y7 base n m
 have q1:n / m≤n:=Nat.div_le_self _ _
 have q2:n % m≤n:=Nat.mod_le _ _
 have d1:=nA base (n / m) (by omega)
 have d2:=nA base (n % m) (by omega)
 have v1:=jb base hn
 have v2:=jb base hm
 have s1:=gX hn
 have z1:((m:Int)=0)=False:=eq_false (by omega)
 obtain ⟨q,hq⟩:∃q,n / m=q:=⟨_,rfl⟩
 obtain ⟨r,hr⟩:∃r,n % m=r:=⟨_,rfl⟩
 have z2:(n:Int).tmod (m:Int)=(r:Int):=by rw [←hr];rfl
 have z3:(n:Int).tdiv (m:Int)=(q:Int):=by rw [←hq];rfl
 have z4:IntKind.i64.wrap (q:Int)=(q:Int):=by rw [IntKind.wrap_i64];omega
 have z5:IntKind.i64.wrap (r:Int)=(r:Int):=by rw [IntKind.wrap_i64];omega
 have hlow:n<m→aI q=⟨#[48]⟩∧aI r=aI n:=fun h=>⟨by rw [←hq,Nat.div_eq_of_lt h];exact oi,by rw [←hr,Nat.mod_eq_of_lt h]⟩
 rw [hq] at d1 ⊢
 rw [hr] at d2 ⊢
 clear hq hr q1 q2
 have f1:decide (gu n m<0)=decide (n<m):=by
  refine decide_eq_decide.2 ?_
  unfold gu
  split
  ·rename_i h;exact ⟨fun _=>h,fun _=>by decide⟩
  ·rename_i h
   split<;>exact ⟨fun h2=>absurd h2 (by decide),fun h2=>absurd h2 h⟩
 obtain ⟨b,hb2⟩:∃b,decide (n<m)=b:=⟨_,rfl⟩
 rw [hb2] at f1
 have hlow2:b=true→aI q=⟨#[48]⟩∧aI r=aI n:=fun h=>hlow (by subst h;exact of_decide_eq_true hb2)
 clear hlow hb2
 have f0:decide (((aI n).size:Int)≤18)=true:=decide_eq_true (by omega)
 generalize gu n m=c at *
 generalize aI n=t at *
 generalize aI m=u at *
 generalize aI q=tq at *
 generalize aI r=tr at *
 refine aA af Tryz.call134 Tryz.func134 rfl fun H hB hb hF => ?_
 rw [Tryz.results134,Tryz.ntmps134]
 simp only [ax,List.length_cons,List.length_nil,List.replicate,List.cons_append,List.nil_append,Nat.reduceAdd,Nat.reduceSub]
 clear hF hb
 simp only [tA,iA] at co d1 d2 v1 v2 ⊢
 repeat' (first | (refine aa ?_;first | (refine zg rfl ?_;first | refine ah ?_ | refine zo ?_ | (refine zs ?_ ?_<;>intro hb<;>((try simp only [bn] at hb);first | subst hb | simp only [hb]))) | (apply ai;rfl;simp only [aj,avs,tts,seval,f0,f1,z1,z2,z3,z4,z5]<;>exact rr) | (refine za rfl ?_;first | refine zp (co) ?_ | refine zp (v1) ?_ | refine zp (v2) ?_ | refine zp (d1) ?_ | refine zp (d2) ?_)) | refine ae ?_ | (refine ak ?_;first | (refine yg rfl ?_;first | refine aq ?_ | refine yo ?_ | (refine ys ?_ ?_<;>intro hb<;>((try simp only [bn] at hb);first | subst hb | simp only [hb]))) | (apply ar;rfl;simp only [aB,avs,tts,seval,f0,f1,z1,z2,z3,z4,z5]<;>exact rr;first | trivial | omega) | (refine ya rfl ?_;first | refine yp (co) ?_ | refine yp (v1) ?_ | refine yp (v2) ?_ | refine yp (d1) ?_ | refine yp (d2) ?_)) | refine al ?_ | refine ag ?_ | refine zr af ?_ | refine zQ 0 af mixed ?_ | refine zQ 1 af mixed ?_ | refine zQ 2 af mixed ?_ | refine zQ 3 af mixed ?_ | refine zf rfl rfl ?_ | refine zt rfl rfl ?_ | (refine an rfl rfl ?_ ?_<;>intro hb<;>((try simp only [bn] at hb);first | subst hb | simp only [hb])) | refine ap ?_ | refine au ?_ | refine am ?_)
 all_goals (show AW _ _ _ _ _;first | exact aw ⟨_,rfl,[],by simp,rfl⟩ | (obtain ⟨e1,e2⟩:=hlow2 rfl;subst e1 e2;exact aw ⟨_,rfl,[],by simp,rfl⟩))
set_option maxRecDepth 100000 in
theorem w7 {n m:Nat} (hn:n<10 ^ 18) (hm:m<10 ^ 18):aJ Tryz.prog base 133 [tA (aI n),tA (aI m)] (tA (aI (Nat.gcd n m))):=by
 refine aA af Tryz.call133 Tryz.func133 rfl fun H hB hb hF => ?_
 rw [Tryz.results133,Tryz.ntmps133]
 simp only [ax,List.length_cons,List.length_nil,List.replicate,List.cons_append,List.nil_append,Nat.reduceAdd,Nat.reduceSub]
 clear hF hb
 simp only [tA]
 repeat' (first | (refine aa ?_;first | (refine zg rfl ?_;first | refine ah ?_ | refine zo ?_ | (refine zs ?_ ?_<;>intro hb<;>((try simp only [bn] at hb);first | subst hb | simp only [hb]))) | (apply ai;rfl;simp only [aj,avs,tts,seval]<;>exact rr)) | refine ae ?_ | (refine ak ?_;first | (refine yg rfl ?_;first | refine aq ?_ | refine yo ?_ | (refine ys ?_ ?_<;>intro hb<;>((try simp only [bn] at hb);first | subst hb | simp only [hb]))) | (apply ar;rfl;simp only [aB,avs,tts,seval]<;>exact rr;first | trivial | omega)) | refine al ?_ | refine ag ?_ | refine zr af ?_ | refine zQ 0 af mixed ?_ | refine zQ 1 af mixed ?_ | refine zQ 2 af mixed ?_ | refine zQ 3 af mixed ?_ | refine zf rfl rfl ?_ | refine zt rfl rfl ?_ | (refine an rfl rfl ?_ ?_<;>intro hb<;>((try simp only [bn] at hb);first | subst hb | simp only [hb])) | refine ap ?_ | refine au ?_ | refine am ?_)
 refine bc (H0:=H) (fun r env K=>∃a b:Nat,r=b∧a<10 ^ 18∧b<10 ^ 18∧Nat.gcd a b=Nat.gcd n m∧K=H∧env=(.d (.v (.string (aI a))) :: .d (.v (.string (aI b)))::List.replicate 16 .undef)) ?_ ⟨n,m,rfl,hn,hm,rfl,rfl,rfl⟩ ?_
 ·exact ⟨by simp [aH,List.replicate],.inl rfl⟩
 rintro b env K ⟨a,_,rfl,ha,hb,hg,rfl,rfl⟩ hN
 simp only [rp]
 have hz:=jk b
 obtain ⟨c0,g0⟩:∃c,decide (b=0)=c:=⟨_,rfl⟩
 rw [g0] at hz
 cases c0 with
 | true =>
  have hb0:b=0:=of_decide_eq_true g0
  have e:Nat.gcd n m=a:=by rw [←hg,hb0,Nat.gcd_zero_right]
  rw [e]
  repeat' (first | (refine aa ?_;first | (refine zg rfl ?_;first | refine ah ?_ | refine zo ?_ | (refine zs ?_ ?_<;>intro hb<;>((try simp only [bn] at hb);first | subst hb | simp only [hb]))) | (apply ai;rfl;simp only [aj,avs,tts,seval,hz]<;>exact rr)) | refine ae ?_ | (refine ak ?_;first | (refine yg rfl ?_;first | refine aq ?_ | refine yo ?_ | (refine ys ?_ ?_<;>intro hb<;>((try simp only [bn] at hb);first | subst hb | simp only [hb]))) | (apply ar;rfl;simp only [aB,avs,tts,seval,hz]<;>exact rr;first | trivial | omega)) | refine al ?_ | refine ag ?_ | refine zr af ?_ | refine zQ 0 af mixed ?_ | refine zQ 1 af mixed ?_ | refine zQ 2 af mixed ?_ | refine zQ 3 af mixed ?_ | refine zf rfl rfl ?_ | refine zt rfl rfl ?_ | (refine an rfl rfl ?_ ?_<;>intro hb<;>((try simp only [bn] at hb);first | subst hb | simp only [hb])) | refine ap ?_ | refine au ?_ | refine am ?_)
  exact aw ⟨_,rfl,[],by simp,rfl⟩
 | false =>
  have hb0:b≠0:=of_decide_eq_false g0
  have co:=vI base ha hb hb0
  have hlt:a % b<b:=Nat.mod_lt _ (by omega)
  have hg2:Nat.gcd b (a % b)=Nat.gcd n m:=by rw [←hg,Nat.gcd_comm a b,Nat.gcd_rec b a,Nat.gcd_comm]
  simp only [tA] at co
  repeat' (first | (refine aa ?_;first | (refine zg rfl ?_;first | refine ah ?_ | refine zo ?_ | (refine zs ?_ ?_<;>intro hb<;>((try simp only [bn] at hb);first | subst hb | simp only [hb]))) | (apply ai;rfl;simp only [aj,avs,tts,seval,hz]<;>exact rr) | (refine za rfl ?_;refine zp (co) ?_)) | refine ae ?_ | (refine ak ?_;first | (refine yg rfl ?_;first | refine aq ?_ | refine yo ?_ | (refine ys ?_ ?_<;>intro hb<;>((try simp only [bn] at hb);first | subst hb | simp only [hb]))) | (apply ar;rfl;simp only [aB,avs,tts,seval,hz]<;>exact rr;first | trivial | omega) | (refine ya rfl ?_;refine yp (co) ?_)) | refine al ?_ | refine ag ?_ | refine zr af ?_ | refine zQ 0 af mixed ?_ | refine zQ 1 af mixed ?_ | refine zQ 2 af mixed ?_ | refine zQ 3 af mixed ?_ | refine zf rfl rfl ?_ | refine zt rfl rfl ?_ | (refine an rfl rfl ?_ ?_<;>intro hb<;>((try simp only [bn] at hb);first | subst hb | simp only [hb])) | refine ap ?_ | refine au ?_ | refine am ?_)
  exact ⟨a % b,_,_,hlt,⟨by simp [aH,List.replicate],.inl rfl⟩,b,a % b,rfl,hb,by omega,hg2,rfl,rfl⟩
set_option maxRecDepth 100000 in
theorem zc {n m:Nat} (hn:n<10 ^ 18) (hm:m<10 ^ 18):aJ Tryz.prog base 103 [tA (aI n),tA (aI m)] (.tup [tA (aI (Nat.gcd n m)),iA 0]):=by
 have c1:=fM base hn
 have c2:=fM base hm
 have c3:=w7 base hn hm
 generalize aI n=t at *
 generalize aI m=u at *
 generalize aI (Nat.gcd n m)=w at *
 refine aA af Tryz.call103 Tryz.func103 rfl fun H hB hb hF => ?_
 rw [Tryz.results103,Tryz.ntmps103]
 simp only [ax,List.length_cons,List.length_nil,List.replicate,List.cons_append,List.nil_append,Nat.reduceAdd,Nat.reduceSub]
 clear hF hb
 simp only [tA,iA,boA] at c1 c2 c3 ⊢
 repeat' (first | (refine aa ?_;first | (refine zg rfl ?_;first | refine ah ?_ | refine zo ?_ | (refine zs ?_ ?_<;>intro hb<;>((try simp only [bn] at hb);first | subst hb | simp only [hb]))) | (apply ai;rfl;simp only [aj,avs,tts,seval]<;>exact rr) | (refine za rfl ?_;first | refine zp (c1) ?_ | refine zp (c2) ?_ | refine zp (c3) ?_)) | refine ae ?_ | (refine ak ?_;first | (refine yg rfl ?_;first | refine aq ?_ | refine yo ?_ | (refine ys ?_ ?_<;>intro hb<;>((try simp only [bn] at hb);first | subst hb | simp only [hb]))) | (apply ar;rfl;simp only [aB,avs,tts,seval]<;>exact rr;first | trivial | omega) | (refine ya rfl ?_;first | refine yp (c1) ?_ | refine yp (c2) ?_ | refine yp (c3) ?_)) | refine al ?_ | refine ag ?_ | refine zr af ?_ | refine zQ 0 af mixed ?_ | refine zQ 1 af mixed ?_ | refine zQ 2 af mixed ?_ | refine zQ 3 af mixed ?_ | refine zf rfl rfl ?_ | refine zt rfl rfl ?_ | (refine an rfl rfl ?_ ?_<;>intro hb<;>((try simp only [bn] at hb);first | subst hb | simp only [hb])) | refine ap ?_ | refine au ?_ | refine am ?_)
 exact aw ⟨_,rfl,[],by simp,rfl⟩
set_option maxRecDepth 100000 in
theorem zi {n m:Nat} (hn:n<10 ^ 18) (hm:m<10 ^ 18) (h0:m≠0):aJ Tryz.prog base 104 [tA (aI n),tA (aI m)] (.tup [tA (aI (n / m)),tA (aI (n % m)),iA 0]):=by
 have c1:=fM base hn
 have c2:=fM base hm
 have c3:=vI base hn hm h0
 have hz:=jk m
 rw [decide_eq_false h0] at hz
 generalize aI n=t at *
 generalize aI m=u at *
 generalize aI (n / m)=w at *
 generalize aI (n % m)=x at *
 refine aA af Tryz.call104 Tryz.func104 rfl fun H hB hb hF => ?_
 rw [Tryz.results104,Tryz.ntmps104]
 simp only [ax,List.length_cons,List.length_nil,List.replicate,List.cons_append,List.nil_append,Nat.reduceAdd,Nat.reduceSub]
 clear hF hb
 simp only [tA,iA,boA] at c1 c2 c3 ⊢
 repeat' (first | (refine aa ?_;first | (refine zg rfl ?_;first | refine ah ?_ | refine zo ?_ | (refine zs ?_ ?_<;>intro hb<;>((try simp only [bn] at hb);first | subst hb | simp only [hb]))) | (apply ai;rfl;simp only [aj,avs,tts,seval,hz]<;>exact rr) | (refine za rfl ?_;first | refine zp (c1) ?_ | refine zp (c2) ?_ | refine zp (c3) ?_)) | refine ae ?_ | (refine ak ?_;first | (refine yg rfl ?_;first | refine aq ?_ | refine yo ?_ | (refine ys ?_ ?_<;>intro hb<;>((try simp only [bn] at hb);first | subst hb | simp only [hb]))) | (apply ar;rfl;simp only [aB,avs,tts,seval,hz]<;>exact rr;first | trivial | omega) | (refine ya rfl ?_;first | refine yp (c1) ?_ | refine yp (c2) ?_ | refine yp (c3) ?_)) | refine al ?_ | refine ag ?_ | refine zr af ?_ | refine zQ 0 af mixed ?_ | refine zQ 1 af mixed ?_ | refine zQ 2 af mixed ?_ | refine zQ 3 af mixed ?_ | refine zf rfl rfl ?_ | refine zt rfl rfl ?_ | (refine an rfl rfl ?_ ?_<;>intro hb<;>((try simp only [bn] at hb);first | subst hb | simp only [hb])) | refine ap ?_ | refine au ?_ | refine am ?_)
 exact aw ⟨_,rfl,[],by simp,rfl⟩
end
end Av
end Go.Proofs.YtdekcppfpgeneaaGreatDoor
namespace Go.Proofs.YtdekcppfpgeneaaGreatDoor
open Go Go.RowKit
namespace Av
theorem FY {P:Program} {tt:bl} {base:World} {ops:Array Oper} {rest:List Oper} {env env':List AV} {H:av} {K:List AV→av→Prop} {dst:Option Tmp} {f:FuncId} {args args':List AV} {r:AV} (h:aJ P base f args' r) (hv:jQ H args=some args') (hf:fw r=true) (he:bm env dst r=env') (k:aQ P tt base ops rest env' H K):AtC P tt base ops dst rest env H K f args :=
 Cb (C:=fun r H=>aQ P tt base ops rest (bm env dst r) H K) h hv hf (he.symm ▸ k)
theorem A8 (l:Nat) {P:Program} {tt:bl} {base:World} {ops:Array Oper} {rest:List Oper} {env env':List AV} {H H':av} {K:List AV→av→Prop} {dst:Option Tmp} {f:FuncId} {args args':List AV} {r:AV} (ha:cz H[l]? l args=args') (hH:H.set l .dead=H') (h:aJ P base f args' r) (he:bm env dst r=env') (k:aQ P tt base ops rest env' H' K):AtC P tt base ops dst rest env H K f args :=
 ⟨_,lH l ha hH (h H'),fun r0 H0 ⟨e1,e2⟩ _=>by subst e1 e2 he;exact k⟩
end Av
end Go.Proofs.YtdekcppfpgeneaaGreatDoor
namespace Go.Proofs.YtdekcppfpgeneaaGreatDoor
open Go Go.RowKit
namespace Av
attribute [local irreducible] AW aQ aM
open Nt Rg
theorem rM (l:List ByteArray):unI (l.map fun s=>[tA s])=some (l.map fun s=>[PD.v (.string s)]):=by
 induction l with
 | nil=>rfl
 | cons a r ih=>simp [unI,ih,unL,tA]
section
variable {base:World} (hT:dJ base)
include hT
end
end Av
end Go.Proofs.YtdekcppfpgeneaaGreatDoor
namespace Go.Proofs.YtdekcppfpgeneaaGreatDoor
open Go Go.RowKit
namespace Av
def pO:aT→Bool
 | .mp _ _ _ _=>true
 | _=>false
def Fh {α:Type} (P:Program) (gf:Nat) (lb:Array Value) (enc:α→Array Value) (all:List α) (s:St):Prop :=
 ∀(l:Nat) (J:List α→World→Prop) (Jx:World→Prop) (W:World),s.w.heap.size≤W.heap.size→(∀k W1,J k W1→∀b,s.imm b→W1.heap[b]?=s.w.heap[b]?) →
  (∀pre W1 W2 row,J pre W1→W1.grownBy W2 row→(∀r,row=some r→s.w.heap.size≤r∧(∃o:Obj,W1.heap[r]?=some o∧o.isWalk=true)∧∃o:Obj,W2.heap[r]?=some o∧o.isWalk=true)→J pre W2) →
  (∀pre x W1,x∈all→¬x∈pre→J pre W1→YieldAt Fence.wide 7 P l (enc x) W1 fun e W'=>KeepsWalks W1 W'∧((e = .returned (.bool true)∧J (pre++[x]) W')∨(e = .returned (.bool false)∧Jx W'))) →
  J [] W→CallsIn Fence.wide 8 P gf (#[.func (.yield l) #[] #[]]++lb) W fun e W'=>(∃v,e = .returned v)∧((∃pre,pre.Perm all∧J pre W')∨Jx W')
def Fp {α:Type} (J:List α→av→Prop) (Jx:Code→av→Prop) (pre:List α):Exit→List AV→av→Prop
 | .normal,_,H=>J pre H
 | .ret,_,H=>Jx .ret H
 | .exit id,_,H=>Jx (.exit id) H
 | .goto t,_,H=>Jx (.goto t) H
 | _,_,_=>False
theorem lg {base:World} {s:St} (hs:Sim base s) {D:Nat} {x:Obj} (hx:s.w.heap[D]?=some x) (h1:∀arr ty fr,x ≠ .cells arr ty fr) (h2:∀(l:Nat) (o:aT),s.H[l]?=some o→pO o=false):¬s.live D:=by
 rintro ⟨l,o,k1,k2,k3⟩
 have ho:=hs.obj l o k1
 cases o with
 | free=>cases k2
 | dead=>cases k2
 | box ty cells =>
  obtain ⟨b,arr,q1,q2,q3,q4⟩:=ho
  rw [k3] at q1;cases q1
  rw [hx] at q3;exact h1 _ _ _ (Option.some.inj q3)
 | row ty k ver items =>
  rcases ho.2.2 with ⟨q1,_⟩ | ⟨b,arr,f,r,q1,q2,q3,q4,q5⟩
  ·rw [k3] at q1;cases q1
  ·rw [k3] at q1;cases q1
   rw [hx] at q3;exact h1 _ _ _ (Option.some.inj q3)
 | mp kt et ks es=>cases h2 l _ k1
theorem jP {o:Obj} (h:o.isWalk=true):∀arr ty fr,o ≠ .cells arr ty fr:=fun arr ty fr e=>by subst e;cases h
set_option maxHeartbeats 1000000 in
theorem yb {α:Type} {P:Program} {tt:bl} {base:World} {N:Nat} {Q:Exit→List AV→av→Prop} {env:List AV} {H:av} {g:Operand} {ps:Array Tmp} {assign body:Code} {gf:Nat} {caps:List AV} (all:List α) (elem:α→List AV)
  (hg:ck env g = .fn (.func gf) [] caps) (hgo:eE g=true) (eg:∀args w,(callFunc gf args).run P w = .ok (.enter gf args) w)
  (hseq:∀μ w (lb:Array Value),Sim base ⟨μ,H,w⟩→aC ⟨μ,H,w⟩ caps lb.toList→∃enc:α→Array Value,Fh P gf lb enc all ⟨μ,H,w⟩∧∀x,x∈all→(enc x).size=ps.size∧aC ⟨μ,H,w⟩ (elem x) (enc x).toList)
  (J:List α→av→Prop) (Jx:Code→av→Prop) (hM:∀pre H',J pre H'→∀(l:Nat) (o:aT),H'[l]?=some o→pO o=false) (h0:J [] H)
  (hround:∀l pre x H',x∈all→¬x∈pre→J pre H'→H.length≤H'.length→AW ⟨P,tt,base,H.length,some l⟩ assign (fun e env1 H1=>e = .normal∧AW ⟨P,tt,base,H.length,some l⟩ body (Fp J Jx (pre++[x])) env1 H1) (hV env ps.toList (elem x)) H')
  (hdone:∀pre H',pre.Perm all→J pre H'→H.length≤H'.length→Q .normal env H')
  (hstop:∀c H',Jx c H'→H.length≤H'.length→AW ⟨P,tt,base,N,none⟩ c Q env H'):AW ⟨P,tt,base,N,none⟩ (.rangeFunc g ps assign body) Q env H:=by
 intro s0 μ a w hN hs he hev
 have hge:=he.eval hgo
 rw [hg] at hge
 simp only [Rep] at hge
 obtain ⟨vf,lb,hgv,hf1,hcaps⟩:=hge
 simp only [aC] at hf1
 obtain rfl:vf = #[]:=Array.toList_eq_nil_iff.1 hf1
 obtain ⟨enc,hsw,helem⟩:=hseq μ w lb hs hcaps
 refine wpIn_rangeFunc (F:=FR none) ?_
 intro fn hfn
 obtain ⟨rec,hrec⟩:∃rec:LoopState→Option Code→Loop,rec=fun st pe=>{ state:=st,pending:=pe,fn,tmps:=a.tmps,params:=ps,assign,body,defers:=w.heap.size }:=⟨_,rfl⟩
 obtain ⟨W1,hW1⟩:∃W1,(w.alloc (.deferred (some []))).alloc (.loop (rec .ready none))=W1:=⟨_,rfl⟩
 have hL1:W1.heap[w.heap.size+1]?=some (.loop (rec .ready none)):=by
  rw [←hW1];have:=World.alloc_heap_new (w.alloc (.deferred (some []))) (.loop (rec .ready none));rwa [World.size_alloc] at this
 have hK1:W1.heap[w.heap.size]?=some (.deferred (some [])):=by
  rw [←hW1];exact (Below.heap_alloc _ _ _ (by simp)).trans (World.alloc_heap_new w _)
 have hb1:Below w.heap.size w W1:=by
  rw [←hW1];exact ((Below.refl _ w).alloc (Nat.le_refl _) _).alloc (by simp) _
 obtain ⟨hs1,hev1⟩:=Sim.below' (s:=⟨μ,H,w⟩) hs hb1
 let core:av→World→Loop→Prop:=fun H' W r=>∃μ',H.length≤H'.length∧Sim base ⟨μ',H',W⟩∧Evo H.length ⟨μ,H,w⟩ ⟨μ',H',W⟩∧W.heap[w.heap.size+1]?=some (.loop r)∧W.heap[w.heap.size]?=some (.deferred (some []))
 have turn:∀{H' W r} (r':Loop),core H' W r→core H' (W.putObj (w.heap.size+1) (.loop r')) r':=by
  rintro H' W r r' ⟨μ',c1,c2,c3,c4,c5⟩
  have ho:Oth ⟨μ',H',W⟩ (w.heap.size+1) (W.putObj (w.heap.size+1) (.loop r')):=j8 (s:=⟨μ',H',W⟩) c4 (fun _ _ _ e=>by cases e) (fun _ _ _ e=>by cases e) (dS c2 c4 (fun _ _ _ e=>by cases e) fun _ _ e=>by cases e)
  have hbs:=hs.below.size
  exact ⟨μ',c1,c2.oth ho (by simp only at hbs;omega) rfl rfl rfl,c3.oth c2 ho (by simp only;omega),World.putObj_heap_same (Array.getElem?_eq_some_iff.1 c4).1,(World.putObj_heap_other (by omega)).trans c5⟩
 have hcore1:core H W1 (rec .ready none):=⟨μ,Nat.le_refl _,hs1,hev1,hL1,hK1⟩
 refine ⟨w.heap.size+1,[fO w.heap.size],W1,{ target := .fn (.func gf) lb,args := #[.func (.yield (w.heap.size+1)) #[] #[]] },W1,gf,#[.func (.yield (w.heap.size+1)) #[] #[]]++lb,W1,?_,?_,?_,?_,fun _=>by omega,?_⟩
 ·rw [←hW1,hrec];exact run_enterLoop_outer _ _ _ _ _
 ·simp only [resolve,rangeCall,hgv]
  simp [go_sem]
 ·intro f' hf';trivial
 ·simp [invoke,go_sem,eg]
 have hafter:∀{H' W r},core H' W r→bF (flr none s0) ⟨μ,H,w⟩ env a∧∃μ',N≤H'.length∧Sim base ⟨μ',H',W⟩∧bF (flr none s0) ⟨μ',H',W⟩ env { a with defers:=[fO w.heap.size]++a.defers }∧Evo N s0 ⟨μ',H',W⟩:=by
  rintro H' W r ⟨μ',c1,c2,c3,c4,c5⟩
  refine ⟨he,μ',Nat.le_trans hN c1,c2,⟨?_,aC.evo c3 _ _ he.rep⟩,hev.trans (c3.mono hN)⟩
  obtain ⟨Ds,e1,e2,e3⟩:=he.defers.keeps c3.keeps
  obtain ⟨Ds',e1',e2',e3'⟩:=he.defers
  have hsz:=hev.keeps.size
  have eq:Ds'=Ds:=by
   have:Ds'.map fO=Ds.map fO:=e1'.symm.trans e1
   exact (List.map_inj_right fun x y h=>by cases h;rfl).1 this
  subst eq
  refine ⟨w.heap.size::Ds',by rw [List.map_cons,←e1];rfl,List.nodup_cons.2 ⟨fun hm => ?_,e2⟩,fun D hD => ?_⟩
  ·have:=(e3' _ hm).2.1.1
   simp only at this
   omega
  ·rcases List.mem_cons.1 hD with rfl | hD
   ·exact ⟨hsz,⟨(Array.getElem?_eq_some_iff.1 c5).1,dS c2 c5 (fun _ _ _ e=>by cases e) fun _ _ e=>by cases e⟩,c5⟩
   ·exact e3 D hD
 refine (hsw (w.heap.size+1) (fun pre W=>∃H',J pre H'∧core H' W (rec .ready none)) (fun W=>∃c H',Jx c H'∧core H' W (rec .done (some c))) W1 hb1.size
  (fun k W ⟨H',_,μ',_,_,c3,_⟩ b hb=>c3.keeps.heap b hb) ?_ ?_ ⟨H,h0,hcore1⟩).mono ?_
 ·-- the iterator's own steps
  rintro pre Wa Wb row ⟨H',hJ,μ',c1,c2,c3,c4,c5⟩ hg hrow
  have hbs:=hs.below.size
  have hwa:=c3.keeps.size
  simp only at hbs hwa
  cases row with
  | none =>
   have ho:Oth ⟨μ',H',Wa⟩ Wb.heap.size Wb:=⟨fun _ _ _ e=>by
     have:=(Array.getElem?_eq_some_iff.1 e).1
     have hh:=hg.size
     simp only at this
     omega,fun _ _ _ e=>by
     have:=(Array.getElem?_eq_some_iff.1 e).1
     omega,fun hl=>by have:=(c2.live_ge hl).2;have hh:=hg.size;simp only at this;omega,hg.size,fun b hb hlt=>hg.block b hlt (by simp)⟩
   have hh:=hg.size
   have keep:∀{D:Nat} {x:Obj},Wa.heap[D]?=some x→Wb.heap[D]?=some x:=fun {D x} hx=>(hg.block D (Array.getElem?_eq_some_iff.1 hx).1 (by simp)).trans hx
   exact ⟨H',hJ,μ',c1,c2.oth ho (by omega) hg.os hg.tape hg.output,c3.oth c2 ho (by simp only;omega),keep c4,keep c5⟩
  | some r =>
   obtain ⟨hr,⟨o1,ho1,hw1⟩,o2,ho2,hw2⟩:=hrow r rfl
   simp only at hr
   have ho:Oth ⟨μ',H',Wa⟩ r Wb:=⟨fun arr ty fr e=>jP hw1 arr ty fr (Option.some.inj (ho1.symm.trans e)),fun arr ty fr e=>jP hw2 arr ty fr (Option.some.inj (ho2.symm.trans e)),lg c2 ho1 (jP hw1) (hM pre H' hJ),hg.size,fun b hb hlt=>hg.block b hlt (by simpa using hb)⟩
   have keep:∀{D:Nat} {x:Obj},Wa.heap[D]?=some x→x.isWalk=false→Wb.heap[D]?=some x:=fun {D x} hx hxw=>(hg.block D (Array.getElem?_eq_some_iff.1 hx).1 (fun e=>by
    cases e;rw [ho1] at hx;cases hx;rw [hw1] at hxw;cases hxw)).trans hx
   exact ⟨H',hJ,μ',c1,c2.oth ho (by omega) hg.os hg.tape hg.output,c3.oth c2 ho hr,keep c4 rfl,keep c5 rfl⟩
 ·-- one round
  rintro pre x W hx hxp ⟨H',hJ,hcore⟩
  obtain ⟨μ',c1,c2,c3,c4,c5⟩:=hcore
  obtain ⟨hsz,hel⟩:=helem x hx
  have hkw:∀{μ1:Nat→Option Nat} {H1:av} {w1:World} {M:Nat},Evo M ⟨μ',H',W⟩ ⟨μ1,H1,w1⟩→KeepsWalks W w1:=fun {μ1 H1 w1 M} e=>⟨e.keeps.size,fun k o hk ho=>(e.keeps.heap k ⟨(Array.getElem?_eq_some_iff.1 hk).1,lg c2 hk (jP ho) (hM pre H' hJ)⟩).trans hk⟩
  have hy:=run_yield (P:=P) (args:=enc x) c4 (by rw [hrec];exact hsz)
  rw [hrec] at hy
  refine ⟨fn,_,assign,body,hy,roundIn_of_wpIn hfn ?_⟩
  have henv:bF 0 ⟨μ',H',W⟩ (hV env ps.toList (elem x)) { tmps:=(ps.zip (enc x)).foldl (fun t (p,v)=>t.setIfInBounds p v) a.tmps,defers:=[] }:=by
   refine ⟨dz.nil _ _,?_⟩
   have:=kX ps.toList (elem x) (enc x).toList env a.tmps (aC.evo c3 _ _ he.rep) (aC.evo c3 _ _ hel)
   rw [←Array.toList_zip,Array.foldl_toList] at this
   exact this
  have ha:=hround (w.heap.size+1) pre x H' hx hxp hJ c1 ⟨μ',H',W⟩ μ' _ W c1 c2 henv (.refl _ _)
  refine jN (m:=7) (wpIn_mono ha ?_)
  rintro e a1 w1 ⟨μ1,env1,H1,⟨rfl,hbd⟩,g1,g2,g3,g4⟩
  have im:∀{D:Nat} {x:Obj},W.heap[D]?=some x→(∀arr ty fr,x ≠ .cells arr ty fr)→(∀e c,x ≠ .map e c)→w1.heap[D]?=some x:=fun {D x} hx n1 n2=>(g4.keeps.heap D ⟨(Array.getElem?_eq_some_iff.1 hx).1,dS c2 hx n1 n2⟩).trans hx
  have i1:=im c4 (fun _ _ _ e=>by cases e) fun _ _ e=>by cases e
  have i2:=im c5 (fun _ _ _ e=>by cases e) fun _ _ e=>by cases e
  refine ⟨_,run_beginRound i1 (by rw [hrec]),?_⟩
  have ho:Oth ⟨μ1,H1,w1⟩ (w.heap.size+1) (w1.putObj (w.heap.size+1) (.loop { rec .ready none with state := .busy })):=j8 (s:=⟨μ1,H1,w1⟩) i1 (fun _ _ _ e=>by cases e) (fun _ _ _ e=>by cases e) (dS g2 i1 (fun _ _ _ e=>by cases e) fun _ _ e=>by cases e)
  have hbs:=hs.below.size
  have j2:=g2.oth ho (show base.heap.size≤w.heap.size+1 from Nat.le_succ_of_le hbs) rfl rfl rfl
  have hlp:∀{lp:Loop} {v:World} {r':Loop},v.heap[w.heap.size+1]?=some (.loop lp)→KeepsWalks v (v.putObj (w.heap.size+1) (.loop r')):=fun {lp v r'} hv=>⟨by simp,fun k o hk ho=>(World.putObj_heap_other (fun e=>by subst e;rw [hv] at hk;cases hk;cases ho)).trans hk⟩
  have hkW2:∀k o,W.heap[k]?=some o→o.isWalk=true→St.imm ⟨μ1,H1,w1.putObj (w.heap.size+1) (.loop { rec .ready none with state := .busy })⟩ k∧(w1.putObj (w.heap.size+1) (.loop { rec .ready none with state := .busy })).heap[k]?=some o:=fun k o hk ho'=>by
   have i0:St.imm ⟨μ',H',W⟩ k:=⟨(Array.getElem?_eq_some_iff.1 hk).1,lg c2 hk (jP ho') (hM pre H' hJ)⟩
   have e1:w1.heap[k]?=some o:=(g4.keeps.heap k i0).trans hk
   exact ⟨ho.imm (g4.keeps.imm k i0),(hlp i1).same k o e1 ho'⟩
  have hszW2:W.heap.size≤(w1.putObj (w.heap.size+1) (.loop { rec .ready none with state := .busy })).heap.size:=Nat.le_trans g4.keeps.size (by simp)
  have j1:(w1.putObj (w.heap.size+1) (.loop { rec .ready none with state := .busy })).heap[w.heap.size+1]?=some (.loop { rec .ready none with state := .busy }):=World.putObj_heap_same (Array.getElem?_eq_some_iff.1 i1).1
  have j3:(w1.putObj (w.heap.size+1) (.loop { rec .ready none with state := .busy })).heap[w.heap.size]?=some (.deferred (some [])):=(World.putObj_heap_other (by omega)).trans i2
  have j4:Evo H.length ⟨μ,H,w⟩ ⟨μ1,H1,w1.putObj (w.heap.size+1) (.loop { rec .ready none with state := .busy })⟩:=(c3.trans g4).oth g2 ho (by simp only;omega)
  generalize w1.putObj (w.heap.size+1) (.loop { rec .ready none with state := .busy })=w2 at *
  have hm2:bF 0 ⟨μ1,H1,w2⟩ env1 a1:=by
   refine ⟨?_,aC.oth g2 ho _ _ g3.rep⟩
   obtain ⟨Ds,e1,e2,e3⟩:=g3.defers
   refine ⟨Ds,e1,e2,fun D hD => ?_⟩
   obtain ⟨d1,d2,d3⟩:=e3 D hD
   have hne:D≠w.heap.size+1:=fun e=>by
    subst e
    simp only at d3
    rw [i1] at d3;cases d3
   exact ⟨d1,ho.imm d2,(ho.same D hne d2.1).trans d3⟩
  have hbd':=hbd ⟨μ1,H1,w2⟩ μ1 a1 w2 g1 j2 hm2 (.refl _ _)
  refine jN (m:=7) (wpIn_mono hbd' ?_)
  rintro e a3 w3 ⟨μ3,env3,H3,r1,r2,r3,r4,r5⟩
  have im2:∀{D:Nat} {x:Obj},w2.heap[D]?=some x→(∀arr ty fr,x ≠ .cells arr ty fr)→(∀e c,x ≠ .map e c)→w3.heap[D]?=some x:=fun {D x} hx n1 n2=>(r5.keeps.heap D ⟨(Array.getElem?_eq_some_iff.1 hx).1,dS j2 hx n1 n2⟩).trans hx
  have k1:=im2 j1 (fun _ _ _ e=>by cases e) fun _ _ e=>by cases e
  have k2:=im2 j3 (fun _ _ _ e=>by cases e) fun _ _ e=>by cases e
  have core3:core H3 w3 { rec .ready none with state := .busy }:=⟨μ3,r2,r3,j4.trans r5,k1,k2⟩
  have kw3:KeepsWalks W w3:=⟨Nat.le_trans hszW2 r5.keeps.size,fun k o hk ho'=>(r5.keeps.heap k (hkW2 k o hk ho').1).trans (hkW2 k o hk ho').2⟩
  have kw4:∀r':Loop,KeepsWalks W (w3.putObj (w.heap.size+1) (.loop r')):=fun r'=>kw3.trans (hlp k1)
  cases e with
  | normal=>exact ⟨_,_,run_endRound none k1,kw4 _,.inl ⟨rfl,H3,r1,by have:=turn { rec .ready none with state := .ready,pending:=none } core3;rw [hrec] at this ⊢;exact this⟩⟩
  | ret=>exact ⟨_,_,run_endRound (some .ret) k1,kw4 _,.inr ⟨rfl,.ret,H3,r1,by have:=turn { rec .ready none with state := .done,pending:=some .ret } core3;rw [hrec] at this ⊢;exact this⟩⟩
  | exit id=>exact ⟨_,_,run_endRound (some (.exit id)) k1,kw4 _,.inr ⟨rfl,.exit id,H3,r1,by have:=turn { rec .ready none with state := .done,pending:=some (.exit id) } core3;rw [hrec] at this ⊢;exact this⟩⟩
  | goto t=>exact ⟨_,_,run_endRound (some (.goto t)) k1,kw4 _,.inr ⟨rfl,.goto t,H3,r1,by have:=turn { rec .ready none with state := .done,pending:=some (.goto t) } core3;rw [hrec] at this ⊢;exact this⟩⟩
  | panic ch=>exact r1.elim
  | outgrown=>exact r1.elim
 ·-- behind it
  rintro e W2 ⟨⟨v,rfl⟩,(⟨pre,hpm,H',hJ,hc⟩ | ⟨c,H',hJ,hc⟩)⟩
  ·obtain ⟨μ0,c1,c2,c3,c4,c5⟩:=hc
   have hc2:=turn { rec .ready none with state := .exhausted } ⟨μ0,c1,c2,c3,c4,c5⟩
   obtain ⟨_,μ',q1,q2,q3,q4⟩:=hafter hc2
   exact ⟨none,_,by have:=run_endLoop (P:=P) c4 (by rw [hrec];simp);rw [hrec] at this ⊢;exact this,μ',env,H',hdone pre H' hpm hJ c1,q1,q2,q3,q4⟩
  ·obtain ⟨μ0,c1,c2,c3,c4,c5⟩:=hc
   have hc2:=turn { rec .done (some c) with state := .exhausted } ⟨μ0,c1,c2,c3,c4,c5⟩
   obtain ⟨_,μ',q1,q2,q3,q4⟩:=hafter hc2
   exact ⟨some c,_,by have:=run_endLoop (P:=P) c4 (by rw [hrec];simp);rw [hrec] at this ⊢;exact this,hstop c H' hJ c1 s0 μ' _ _ q1 q2 q3 q4⟩
end Av
end Go.Proofs.YtdekcppfpgeneaaGreatDoor
namespace Go.Proofs.YtdekcppfpgeneaaGreatDoor
open Go Go.RowKit
namespace Rg
def encK (p:Int × Int):Value := .agg #[.int .i64 p.1,.int .i64 p.2]
def okK (p:Int × Int):Prop:=(-9223372036854775808≤p.1∧p.1≤9223372036854775807)∧(-9223372036854775808≤p.2∧p.2≤9223372036854775807)
theorem th {a b:Int × Int} (h:encK a=encK b):a=b:=by
 unfold encK at h
 simp at h
 exact Prod.ext h.1 h.2
theorem sJ (a b:Int × Int):Av.keyEq (encK a) (encK b)=decide (a=b):=by
 unfold encK Av.keyEq
 simp only [Av.eqL,Av.eqV,Bool.and_true]
 obtain ⟨a1,a2⟩:=a
 obtain ⟨b1,b2⟩:=b
 simp only [Prod.mk.injEq,BEq.rfl,true_and,decide_true,Bool.true_and]
 rw [Bool.decide_and]
end Rg
namespace Av
open Nt Rg
attribute [local go_sem] Oper.semAt_some
theorem Ai:(match Tryz.prog.underlying 63 with | some (.array _ _) | some (.struct _)=>true | _=>false)=true:=by kernel_rfl
theorem wg:(63:TypeId)<Tryz.prog.types.size:=of_decide_eq_true (by kernel_rfl)
theorem Aj:laidOutB Tryz.prog=true:=by kernel_rfl
set_option maxRecDepth 1000000 in
theorem gk:Maps.Keyed Tryz.prog 63 := .of_law (deep_law_laid Aj (m:=2) (by omega) wg (by kernel_rfl) Ai)
theorem sF:Tryz.prog.keyType 63=true:=by kernel_rfl
theorem lv:Tryz.prog.cellsOf 63=2:=by kernel_rfl
theorem xw:Tryz.prog.cellsOf 3=1:=by kernel_rfl
theorem BP:Tryz.prog.underlying 3=some (.int .i64):=by kernel_rfl
theorem sG:∃n,Tryz.prog.types.size+1=n+2:=⟨Tryz.prog.types.size - 1,by have h:63<Tryz.prog.types.size:=wg;generalize Tryz.prog.types.size=m at h ⊢;omega⟩
theorem kg (n:Nat) (v:Value):Tryz.prog.keyLits (n+1) 3 [v]=match v with
  | .int q' m=>if q' = .i64∧(Lit.int .i64 m).wf=true then some [.int .i64 m] else none
  | _=>none:=by
 unfold Program.keyLits
 simp only [BP]
 cases v<;>rfl
theorem sy (n:Nat) (a b:Value):Tryz.prog.keyLits (n+2) 63 [a,b]=(Tryz.prog.keyLits (n+1) 3 [a]).bind fun x=>(Tryz.prog.keyLits (n+1) 3 [b]).map fun y=>x++y:=by
 conv=>lhs;unfold Program.keyLits
 simp only [Tryz.underlying63]
 simp [lv,xw,List.mapM_cons,List.mapM_nil]
 cases Tryz.prog.keyLits (n+1) 3 [a]<;>cases Tryz.prog.keyLits (n+1) 3 [b]<;>simp
theorem nU {p:Int × Int} (h:okK p):keyOf Tryz.prog 63 (encK p)=some (.string (keyBytes [.int .i64 p.1,.int .i64 p.2])):=by
 obtain ⟨n,hn⟩:=sG
 have w1:(Lit.int .i64 p.1).wf=true:=by simp [Lit.wf,IntKind.min,IntKind.max,IntKind.signed,IntKind.bits];exact h.1
 have w2:(Lit.int .i64 p.2).wf=true:=by simp [Lit.wf,IntKind.min,IntKind.max,IntKind.signed,IntKind.bits];exact h.2
 have hf:(encK p).formed Tryz.prog 63=true:=by simp [Value.formed,encK,Tryz.underlying63,lv]
 unfold keyOf
 simp only [Tryz.underlying63]
 rw [sF,hf,hn]
 simp only [Bool.and_self,if_true]
 have hc:(encK p).cells.toList=[.int .i64 p.1,.int .i64 p.2]:=rfl
 rw [hc,sy,kg,kg]
 simp [w1,w2]
set_option maxRecDepth 100000 in
theorem BM {key:Value} {kl:Lit} (h:keyOf Tryz.prog 63 key=some kl):∃p,key=encK p:=by
 obtain ⟨n,hn⟩:=sG
 unfold keyOf at h
 simp only [Tryz.underlying63] at h
 rw [sF,hn] at h
 cases hf:key.formed Tryz.prog 63 with
 | false=>rw [hf] at h;simp at h
 | true =>
  rw [hf] at h
  simp only [Bool.and_self,if_true] at h
  unfold Value.formed at hf
  cases key with
  | agg cs =>
   simp only [Tryz.underlying63,lv,beq_iff_eq] at hf
   obtain ⟨l⟩:=cs
   match l,hf with
   | [a,b],_ =>
    have hc:(Value.agg #[a,b]).cells.toList=[a,b]:=rfl
    rw [hc,sy,kg,kg] at h
    cases a with
    | int q1 m1 =>
     cases b with
     | int q2 m2 =>
      simp only at h
      by_cases h1:q1 = .i64∧(Lit.int .i64 m1).wf=true
      ·by_cases h2:q2 = .i64∧(Lit.int .i64 m2).wf=true
       ·exact ⟨(m1,m2),by rw [h1.1,h2.1];rfl⟩
       ·rw [if_neg h2] at h;simp at h
      ·rw [if_neg h1] at h;simp at h
     | _=>simp at h
    | _=>simp at h
  | _=>simp [Tryz.underlying63] at hf
theorem uw {p q:Int × Int} (hp:okK p) (hq:okK q) (h:keyOf Tryz.prog 63 (encK p)=keyOf Tryz.prog 63 (encK q)):p=q:=by
 have h1:=nU hp
 exact th (gk.inj h1 (by rw [←h];exact h1))
def iF (p:Int × Int):Lit := .string (keyBytes [.int .i64 p.1,.int .i64 p.2])
theorem zS {p q:Int × Int} (hp:okK p) (hq:okK q) (h:iF p=iF q):p=q:=uw hp hq (by rw [nU hp,nU hq];exact congrArg some h)
theorem xm {p q:Int × Int} (hp:okK p) (hq:okK q):(iF p).sameKey (iF q)=decide (p=q):=by
 by_cases h:p=q
 ·subst h;simp [iF,Lit.sameKey]
 ·rw [decide_eq_false h]
  cases hs:(iF p).sameKey (iF q) with
  | false=>rfl
  | true=>exact absurd (zS hp hq (by simp [iF,Lit.sameKey] at hs;unfold iF;rw [hs])) h
structure mD (ks:List (Int × Int)) (b:Nat) (es:Array MapEntry) (clock:Nat) (w:World):Prop where
 nd:ks.Nodup
 ok:∀p∈ks,okK p
 hb:w.heap[b]?=some (.map es clock)
 st:Go.MapKept.Stamped es clock
 hk:es.toList.map (·.key)=ks.map encK
 len:ks.length≤1000000000
section
variable {ks:List (Int × Int)} {b:Nat} {es:Array MapEntry} {clock:Nat} {w:World} (hm:mD ks b es clock w)
include hm
theorem mD.key {x:MapEntry} (hx:x∈es.toList):∃p∈ks,x.key=encK p:=by
 have:x.key∈ks.map encK:=by rw [←hm.hk];exact List.mem_map.2 ⟨x,hx,rfl⟩
 obtain ⟨k,h1,h2⟩:=List.mem_map.1 this
 exact ⟨k,h1,h2.symm⟩
theorem mD.ent {p:Int × Int} (hp:p∈ks):∃x∈es.toList,x.key=encK p:=by
 have:encK p∈es.toList.map (·.key):=by rw [hm.hk];exact List.mem_map.2 ⟨p,hp,rfl⟩
 obtain ⟨x,h1,h2⟩:=List.mem_map.1 this
 exact ⟨x,h1,h2⟩
theorem mD.rd {x:MapEntry} {p:Int × Int} (hp:p∈ks) (e:x.key=encK p):Go.WideElems.rd Tryz.prog 63 jx x=some (iF p,.nil):=by
 unfold Go.WideElems.rd
 rw [e,nU (hm.ok p hp)]
 rfl
theorem mD.owns:∃D:DataW Unit,w.ownsMap Tryz.prog 63 jx b ks.length D∧(∀p∈ks,Maps.has D (iF p)=true)∧∀kl,Maps.has D kl=true→∃p∈ks,(iF p).sameKey kl=true:=by
 have hsize:es.size=ks.length:=by have:=congrArg List.length hm.hk;simpa using this
 refine ⟨_,⟨es,clock,hm.hb,⟨by rw [hsize];have:=hm.len;unfold maxLen;omega,hm.st,fun x hx => ?_⟩,by omega,rfl⟩,fun p hp => ?_,fun kl h => ?_⟩
 ·obtain ⟨p,h1,h2⟩:=hm.key hx
  exact ⟨_,hm.rd h1 h2⟩
 ·obtain ⟨x,h1,h2⟩:=hm.ent hp
  rw [Maps.has_eq,List.any_eq_true]
  refine ⟨Go.WideElems.rg Tryz.prog 63 jx x,(Go.WideShapes.sorted_perm _).mem_iff.2 (List.mem_map.2 ⟨x,h1,rfl⟩),?_⟩
  unfold Go.WideElems.rg
  rw [hm.rd hp h2]
  simp [iF,Lit.sameKey]
 ·rw [Maps.has_eq,List.any_eq_true] at h
  obtain ⟨y,h1,h2⟩:=h
  obtain ⟨x,h3,rfl⟩:=List.mem_map.1 ((Go.WideShapes.sorted_perm _).mem_iff.1 h1)
  obtain ⟨p,h4,h5⟩:=hm.key h3
  refine ⟨p,h4,?_⟩
  unfold Go.WideElems.rg at h2
  rw [hm.rd h4 h5] at h2
  exact h2
end
theorem zU {H:Type} {P:Program} {k:TypeId} {R:Value→Option (DataW H × List MemPlace)} {w:World} {b r n:Nat} {D:DataW H} {left:Lit→Bool} {cnt:Nat} (h:w.ranges P k R b r n D left cnt) {s:List UInt8} (hl:left (.string s)=true):Maps.has D (.string s)=true:=by
 obtain ⟨es,clock,since,seen,c0,hb,F,hs,hD,hr,h1,h2,h3,h4,h5⟩:=h
 obtain ⟨x,hx,hk⟩:=h4 _ hl
 subst hD
 rw [Maps.has_eq,List.any_eq_true]
 refine ⟨Go.WideElems.rg P k R x,(Go.WideShapes.sorted_perm _).mem_iff.2 (List.mem_map.2 ⟨x,hx,rfl⟩),?_⟩
 rw [hk]
 simp [Lit.sameKey]
theorem BL {key:Value} {kl:Lit} (h:keyOf Tryz.prog 63 key=some kl):∃s,kl = .string s:=gk.key h |> fun hk=>by
 unfold keyOf at h
 simp only [Tryz.underlying63] at h
 split at h
 ·obtain ⟨ls,_,e⟩:=Option.map_eq_some_iff.1 h
  exact ⟨_,e.symm⟩
 ·cases h
set_option maxRecDepth 100000 in
set_option maxHeartbeats 4000000 in
theorem xr {ks:List (Int × Int)} {b B o:Nat} {es:Array MapEntry} {clock:Nat} (l0:Nat) (J:List (Int × Int)→World→Prop) (Jx:World→Prop) (W:World) (hm:mD ks b es clock W)
  (hc:∀pre W1,J pre W1→W1.cell? ⟨B,o,none⟩=some (.map (some b)))
  (hJ:∀pre W1 W2 row,J pre W1→W1.grownBy W2 row→(∀r,row=some r→W.heap.size≤r∧(∃o:Obj,W1.heap[r]?=some o∧o.isWalk=true)∧∃o:Obj,W2.heap[r]?=some o∧o.isWalk=true)→J pre W2)
  (hY:∀pre x W1,x∈ks→¬x∈pre→J pre W1→YieldAt Fence.wide 7 Tryz.prog l0 #[encK x] W1 fun e W'=>KeepsWalks W1 W'∧((e = .returned (.bool true)∧J (pre++[x]) W')∨(e = .returned (.bool false)∧Jx W'))) (h0:J [] W) :
  CallsIn Fence.wide 8 Tryz.prog 95 #[.func (.yield l0) #[] #[],.pointer (some ⟨B,o,none⟩)] W fun e W'=>(∃v,e = .returned v)∧((∃pre,pre.Perm ks∧J pre W')∨Jx W'):=by
 obtain ⟨D0,hown,hhas,hof⟩:=hm.owns
 have hcb:=hc [] W h0
 refine callsIn_of_wp Tryz.func95 rfl trivial ?_ rfl
 simp only [Tryz.ntmps95,List.size_toArray,List.length_cons,List.length_nil,Nat.reduceAdd,Nat.reduceSub,Array.replicate_succ,Array.replicate_zero,List.push_toArray,List.append_toArray,List.nil_append,List.cons_append]
 gi_wp2_with (first
  | (gi_at_range;refine wpListIn_range_own _ rfl _ 58 rfl 63 3 gk (Tryz.underlying58) _ b ks.length _ rfl hown ?_;intro w0 hrg0 hg0 hs0)
  | gi_in)
 go_frame
 gi_loopw [3] (fun _ wr=>∃(left:Lit→Bool) (cnt:Nat) (pre:List (Int × Int)),wr.ranges Tryz.prog 63 jx b W.heap.size ks.length D0 left cnt∧(∀x∈ks,left (iF x) = !decide (x∈pre))∧pre.Nodup∧(∀x∈pre,x∈ks)∧J pre wr)
  (fun _ wr=>wr.rangeLeft b W.heap.size)
 case atStart =>
  exact ⟨_,_,[],hrg0,fun x hx=>by rw [hhas x hx];simp,List.nodup_nil,(fun x hx=>nomatch hx),hJ [] W w0 none h0 hg0 (fun r e=>by cases e)⟩
 case round =>
  obtain ⟨left,cnt,pre,hrg,hlf,hpn,hpk,hJs⟩:=hrel
  gi_wp2_with (first
   | (gi_at_next;refine wpListIn_next_ranges _ rfl _ rfl 63 gk jx encK id (fun key kl hk=>BM hk) (fun v _ _=>⟨v,rfl⟩) b W.heap.size ks.length _ _ _ rfl hrg ?_ ?_)
   | gi_in)
  ·intro hc0 hl0
   gi_wp2
   go_end0
   refine ⟨⟨_,rfl⟩,.inl ⟨pre,?_,hJs⟩⟩
   refine (List.perm_ext_iff_of_nodup hpn hm.nd).2 fun x=>⟨hpk x,fun hx => ?_⟩
   have:=hlf x hx
   rw [hl0] at this
   simpa using this
  ·intro x1 x2 c kl yd yp w2 cnt2 hkey hlk hv hat hrg2 hlt hg2 hs2 hen
   obtain ⟨x,hx12⟩:∃x:Int × Int,x=(x1,x2):=⟨_,rfl⟩
   rw [←hx12] at hkey hen ⊢
   obtain ⟨s,rfl⟩:=BL hkey
   obtain ⟨p,hp,hps⟩:=hof _ (zU hrg hlk)
   have hpe:iF p = .string s:=by simp [iF,Lit.sameKey] at hps;unfold iF;rw [hps]
   obtain rfl:p=x:=(th (gk.inj hkey (by rw [nU (hm.ok p hp)];exact congrArg some hpe))).symm
   have hxp:¬p∈pre:=fun h=>by
    have:=hlf p hp
    rw [hpe,hlk] at this
    simp [h] at this
   have hJ2:J pre w2:=hJ pre wr w2 (some W.heap.size) hJs hg2 (fun r e=>by cases e;exact ⟨Nat.le_refl _,hrg.iter_walk,hrg2.iter_walk⟩)
   clear hs2
   subst hx12
   have hJ3:J pre (w2.alloc (.cells #[.int .i64 x1,.int .i64 x2] 63)):=hJ pre w2 _ none hJ2 (World.grownBy_alloc _ _ none) (fun r e=>by cases e)
   have hrg3:=hrg2.alloc (.cells #[.int .i64 x1,.int .i64 x2] 63)
   obtain ⟨fn,tmps,assign,body,hy,hR⟩:=hY pre (x1,x2) _ hp hxp hJ3
   unfold encK at hen hy ⊢
   simp only at hen hy ⊢
   gi_wp2
   refine hR.mono ?_
   rintro e W4 ⟨hk4,(⟨rfl,hJ4⟩ | ⟨rfl,hJx4⟩)⟩
   ·have hrg4:=hrg3.of_walks hk4
    gi_wp2
    go_roundw
    case rel =>
     refine ⟨_,cnt2,pre++[(x1,x2)],hrg4,fun y hy => ?_,?_,fun y hy => ?_,hJ4⟩
     ·rw [hlf y hy,←hpe,xm (hm.ok y hy) (hm.ok _ hp)]
      by_cases e1:y∈pre<;>by_cases e2:y=(x1,x2)<;>simp [e1,e2]
     ·rw [List.nodup_append]
      refine ⟨hpn,by simp,?_⟩
      intro a ha c hc e
      simp only [List.mem_singleton] at hc
      subst hc e
      exact hxp ha
     ·rcases List.mem_append.1 hy with h | h
      ·exact hpk y h
      ·simp only [List.mem_singleton] at h;subst h;exact hp
    case measure=>rw [hrg4.left_eq,hrg.left_eq];exact hlt
   ·gi_wp2
    refine bodyPost_ret (results_none rfl _ _ _) rfl ?_
    exact ⟨⟨_,rfl⟩,.inr hJx4⟩
end Av
end Go.Proofs.YtdekcppfpgeneaaGreatDoor
namespace Go.Proofs.YtdekcppfpgeneaaGreatDoor
open Go Go.RowKit
namespace Av
attribute [local irreducible] AW aQ aM
open Nt Rg
def itK (p:Int × Int):List AV:=[.d (.v (.int .i64 p.1)),.d (.v (.int .i64 p.2))]
def isK (ps:List (Int × Int)):List (List AV):=ps.map itK
theorem BO (ps:List (Int × Int)) (x:Int × Int):isK (ps++[x])=isK ps++[itK x]:=by simp [isK]
theorem kq (ps:List (Int × Int)):(isK ps).length=ps.length:=by simp [isK]
theorem pD {α:Type} [DecidableEq α]:∀{l m:List α},l.Nodup→(∀x∈l,x∈m)→l.length≤m.length
 | [],m,_,_=>by simp
 | a::l,m,hn,h=>by
  have ha:=h a (List.mem_cons_self ..)
  rw [List.nodup_cons] at hn
  have h1:=pD (l:=l) (m:=m.erase a) hn.2 (fun x hx=>(List.mem_erase_of_ne (fun e=>by subst e;exact hn.1 hx)).2 (h x (List.mem_cons_of_mem _ hx)))
  rw [List.length_erase_of_mem ha] at h1
  have h2:=List.length_pos_of_mem ha
  simp only [List.length_cons];omega
theorem xt {base:World} {ks:List (Int × Int)} {b:Nat} {es:Array MapEntry} {clock:Nat} (hm:mD ks b es clock base) {H:av} (μ:Nat→Option Nat) (w:World) (lb:Array Value) (hs:Sim base ⟨μ,H,w⟩) (hr:aC ⟨μ,H,w⟩ [.rp [PD.v (.map (some b))]] lb.toList) :
  ∃enc:(Int × Int)→Array Value,Fh Tryz.prog 95 lb enc ks ⟨μ,H,w⟩∧∀x,x∈ks→(enc x).size=1∧aC ⟨μ,H,w⟩ [.agg (itK x)] (enc x).toList:=by
 simp only [aC] at hr
 obtain ⟨v,r,e1,hv,rfl⟩:=hr
 simp only [Rep] at hv
 obtain ⟨B,o,rfl,him,hc⟩:=hv
 simp only [aR,aV] at hc
 obtain ⟨⟨_,c,h1,h2,_⟩,_⟩:=hc
 subst h2
 obtain rfl:lb = #[.pointer (some ⟨B,o,none⟩)]:=Array.toList_inj.1 (by simpa using e1)
 have hbb:b<base.heap.size:=(Array.getElem?_eq_some_iff.1 hm.hb).1
 have himb:St.imm ⟨μ,H,w⟩ b:=⟨Nat.lt_of_lt_of_le hbb hs.below.size,fun hl=>by have:=(hs.live_ge hl).1;omega⟩
 have hwb:w.heap[b]?=some (.map es clock):=(hs.below.block b hbb).trans hm.hb
 refine ⟨fun x => #[encK x],?_,fun x hx=>⟨rfl,?_⟩⟩
 ·intro l0 J Jx W hsz himm hJ hY h0
  have hW:mD ks b es clock W:=⟨hm.nd,hm.ok,(himm [] W h0 b himb).trans hwb,hm.st,hm.hk,hm.len⟩
  refine xr l0 J Jx W hW (fun pre W1 hJ1 => ?_) (fun pre W1 W2 row h1 h2 h3=>hJ pre W1 W2 row h1 h2 fun r e=>⟨Nat.le_trans hsz (h3 r e).1,(h3 r e).2⟩) hY h0
  rw [jo (himm pre W1 hJ1 B him)]
  exact h1
 ·have hok:=hm.ok x hx
  simp only [aC,itK,encK]
  refine ⟨_,_,rfl,?_,rfl⟩
  simp only [Rep]
  refine ⟨_,rfl,?_⟩
  have m1:IntKind.i64.min = -9223372036854775808:=by decide
  have m2:IntKind.i64.max=9223372036854775807:=by decide
  simp only [aC,Rep,aV,small,m1,m2,true_and]
  exact ⟨_,_,rfl,⟨rfl,hok.1⟩,_,_,rfl,⟨rfl,hok.2⟩,rfl⟩
section
variable {base:World}
set_option maxRecDepth 100000 in
set_option maxHeartbeats 4000000 in
theorem u5 {ks:List (Int × Int)} {b:Nat} {es:Array MapEntry} {clock:Nat} (hm:mD ks b es clock base) (hl:ks.length≤1000000) {H:av} (hH:∀o∈H,pO o=false) :
  bE Tryz.prog base 121 [.d (.v (.slice none 0 0)),.fn (.func 95) [] [.rp [PD.v (.map (some b))]]] H fun r H'=>∃pre G,pre.Perm ks∧r = .ms H.length 0 pre.length∧H'=H ++ .row 63 2 0 (isK pre)::G:=by
 refine bV af Tryz.call121 Tryz.func121 rfl fun hB hb hF => ?_
 rw [Tryz.results121,Tryz.ntmps121]
 simp only [ax,List.length_cons,List.length_nil,List.replicate,List.cons_append,List.nil_append,Nat.reduceAdd,Nat.reduceSub]
 clear hF hb
 refine jq 0 63 2 rfl (by simp only [bi,bh]<;>rfl) ?_
 repeat' (first | (refine aa ?_;first | (refine zg rfl ?_;first | refine ah ?_ | refine zo ?_ | (refine zs ?_ ?_<;>intro hb<;>((try simp only [bn] at hb);first | subst hb | simp only [hb]))) | (apply ai;rfl;simp only [aj,avs,tts,seval]<;>exact rr)) | refine ae ?_ | (refine ak ?_;first | (refine yg rfl ?_;first | refine aq ?_ | refine yo ?_ | (refine ys ?_ ?_<;>intro hb<;>((try simp only [bn] at hb);first | subst hb | simp only [hb]))) | (apply ar;rfl;simp only [aB,avs,tts,seval]<;>exact rr;first | trivial | omega)) | refine al ?_ | refine ag ?_ | refine zr af ?_ | refine zR 0 af mixed ?_ | refine zR 1 af mixed ?_ | refine zR 2 af mixed ?_ | refine zR 3 af mixed ?_ | refine zf rfl rfl ?_ | refine zt rfl rfl ?_ | (refine an rfl rfl ?_ ?_<;>intro hb<;>((try simp only [bn] at hb);first | subst hb | simp only [hb])) | refine ap ?_ | refine au ?_ | refine am ?_)
 refine yb (gf:=95) (caps:=[.rp [PD.v (.map (some b))]]) ks (fun x=>[.agg (itK x)]) rfl rfl Tryz.call95 (fun μ w lb hs hr=>xt hm μ w lb hs hr)
  (fun pre K=>pre.Nodup∧(∀x∈pre,x∈ks)∧∃G,(∀o∈G,pO o=false)∧K=H ++ .row 63 2 0 (isK pre) :: .box 86 [.ms H.length 0 pre.length]::G)
  (fun c K=>False) ?_ ?_ ?_ ?_ ?_
 ·rintro pre K ⟨_,_,G,hG,rfl⟩ l o h
  have hm:=List.mem_of_getElem? h
  simp only [List.mem_append,List.mem_cons] at hm
  rcases hm with h1 | rfl | rfl | h1
  ·exact hH o h1
  ·rfl
  ·rfl
  ·exact hG o h1
 ·exact ⟨List.nodup_nil,(fun x hx=>nomatch hx),[],(fun o ho=>nomatch ho),rfl⟩
 ·rintro l pre x K hx hxp ⟨hnd,hpk,G,hG,rfl⟩ hN
  have hnd2:(pre++[x]).Nodup:=by
   rw [List.nodup_append]
   refine ⟨hnd,by simp,?_⟩
   intro a ha c hc e
   simp only [List.mem_singleton] at hc
   subst hc e
   exact hxp ha
  have hpk2:∀y∈pre++[x],y∈ks:=fun y hy=>by
   rcases List.mem_append.1 hy with h | h
   ·exact hpk y h
   ·simp only [List.mem_singleton] at h;subst h;exact hx
  have hln:=pD hnd2 hpk2
  simp only [List.length_append,List.length_cons,List.length_nil] at hln
  have hil:=kq pre
  have d1:pre.length+1≤9223372036854775807:=by omega
  have d2:(pre.length+1) * 16≤140737488355328:=by omega
  have hap:isK pre++[[AV.d (.v (.int .i64 x.1)),.d (.v (.int .i64 x.2))]]=isK (pre++[x]):=(BO pre x).symm
  simp only [hV,ax,List.zip_cons_cons,List.zip_nil_left,List.foldl_cons,List.foldl_nil,List.set_cons_succ,List.set_cons_zero,itK]
  clear hN hm
  repeat refine ag ?_
  refine zr af ?_
  repeat (refine aa ?_;first | (apply ai;rfl;simp only [aj,avs,tts,seval]<;>exact rr) | (refine zg rfl ?_;first | refine ah ?_ | refine zo ?_))
  refine ae ?_
  refine ⟨rfl,?_⟩
  repeat' (first | (refine aa ?_;first | (refine zg rfl ?_;first | refine ah ?_ | refine zo ?_ | (refine zs ?_ ?_<;>intro hb<;>((try simp only [bn] at hb);first | subst hb | simp only [hb]))) | (apply ai;rfl;simp only [aj,avs,tts,seval,hil,d1,d2,hap]<;>exact rr)) | refine ae ?_ | (refine ak ?_;first | (refine yg rfl ?_;first | refine aq ?_ | refine yo ?_ | (refine ys ?_ ?_<;>intro hb<;>((try simp only [bn] at hb);first | subst hb | simp only [hb]))) | (apply ar;rfl;simp only [aB,avs,tts,seval,hil,d1,d2,hap]<;>exact rr;first | trivial | omega)) | refine al ?_ | refine ag ?_ | refine zr af ?_ | refine zR 0 af mixed ?_ | refine zR 1 af mixed ?_ | refine zR 2 af mixed ?_ | refine zR 3 af mixed ?_ | refine zf rfl rfl ?_ | refine zt rfl rfl ?_ | (refine an rfl rfl ?_ ?_<;>intro hb<;>((try simp only [bn] at hb);first | subst hb | simp only [hb])) | refine ap ?_ | refine au ?_ | refine am ?_)
  refine ⟨hnd2,hpk2,G++[.box 63 [.d (.v (.int .i64 x.1)),.d (.v (.int .i64 x.2))],.row 63 2 0 [[.d (.v (.int .i64 x.1)),.d (.v (.int .i64 x.2))]]],fun o ho => ?_,by simp⟩
  rcases List.mem_append.1 ho with h | h
  ·exact hG o h
  ·simp only [List.mem_cons,List.mem_nil_iff,or_false] at h;rcases h with rfl | rfl<;>rfl
 ·rintro pre K hpm ⟨_,_,G,hG,rfl⟩ hN
  show AW _ _ _ _ _
  repeat' (first | (refine aa ?_;first | (refine zg rfl ?_;first | refine ah ?_ | refine zo ?_ | (refine zs ?_ ?_<;>intro hb<;>((try simp only [bn] at hb);first | subst hb | simp only [hb]))) | (apply ai;rfl;simp only [aj,avs,tts,seval]<;>exact rr)) | refine ae ?_ | (refine ak ?_;first | (refine yg rfl ?_;first | refine aq ?_ | refine yo ?_ | (refine ys ?_ ?_<;>intro hb<;>((try simp only [bn] at hb);first | subst hb | simp only [hb]))) | (apply ar;rfl;simp only [aB,avs,tts,seval]<;>exact rr;first | trivial | omega)) | refine al ?_ | refine ag ?_ | refine zr af ?_ | refine zR 0 af mixed ?_ | refine zR 1 af mixed ?_ | refine zR 2 af mixed ?_ | refine zR 3 af mixed ?_ | refine zf rfl rfl ?_ | refine zt rfl rfl ?_ | (refine an rfl rfl ?_ ?_<;>intro hb<;>((try simp only [bn] at hb);first | subst hb | simp only [hb])) | refine ap ?_ | refine au ?_ | refine am ?_)
  exact aw ⟨_,(by simp only [bj,cH,dO,avs,tts]<;>rfl),pre,_,hpm,rfl,rfl⟩
 ·intro c K h
  exact h.elim
end
end Av
end Go.Proofs.YtdekcppfpgeneaaGreatDoor
namespace Go.Proofs.YtdekcppfpgeneaaGreatDoor
open Go Go.RowKit Go.Sort Go.Shelf Go.Lib
namespace Av
open Nt Rg
def fG (a b:Int):Int:=if a<b then -1 else if b<a then 1 else 0
def iM (p q:Int × Int):Int:=if fG p.1 q.1≠0 then fG p.1 q.1 else fG p.2 q.2
theorem nG (a:Int) (W:World):Calls Tryz.prog 96 #[.int .i64 a] W fun e w'=>e = .returned (.bool false)∧w'=W:=by
 go_enter Tryz.func96,Tryz.ntmps96
 go_wp2_with fail
 go_ret
 exact ⟨by simp,rfl⟩
theorem ol (a b:Int) (W:World):Calls Tryz.prog 68 #[.int .i64 a,.int .i64 b] W fun e w'=>e = .returned (.int .i64 (fG a b))∧w'=W:=by
 have n1:=nG a
 have n2:=nG b
 go_enter Tryz.func68,Tryz.ntmps68
 go_wp2_with fail
 refine (n1 _).mono ?_
 rintro e w' ⟨rfl,rfl⟩
 go_wp2_with fail
 refine (n2 _).mono ?_
 rintro e w' ⟨rfl,rfl⟩
 by_cases h1:a<b
 ·go_wp2
  go_ret
  exact ⟨by simp [fG,h1],rfl⟩
 ·by_cases h2:b<a
  ·go_wp2
   go_ret
   exact ⟨by simp [fG,h1,h2],rfl⟩
  ·go_wp2
   go_ret
   have e1:¬a<b:=by omega
   have e2:¬b<a:=by omega
   exact ⟨by simp [fG,e1,e2],rfl⟩
theorem zv (a b:Int) (g cap:Nat) (W:World) (h0:W.cell? ⟨g,0,none⟩=some (.int .i64 a)) (h1:W.cell? ⟨g,1,none⟩=some (.int .i64 b)):Calls Tryz.prog 67 #[.slice (some ⟨g,0,none⟩) 2 cap] W fun e w'=>e = .returned (.int .i64 (if a≠0 then a else b))∧w'=W:=by
 refine (callsIn_wide (n:=6)).1 ?_
 refine callsIn_of_wp Tryz.func67 rfl trivial ?_ rfl
 simp only [Tryz.ntmps67,List.size_toArray,List.length_cons,List.length_nil,Nat.reduceAdd,Nat.reduceSub,Array.replicate_succ,Array.replicate_zero,List.push_toArray,List.append_toArray,List.nil_append,List.cons_append]
 gi_wp2
 gi_loopw [8] (fun i wr=>∃k:Nat,i = .int .i64 k∧wr=W∧k≤2∧(1≤k→a=0)∧(2≤k→b=0)) (fun i _=>(2 - intOf i).toNat)
 case atStart=>exact ⟨0,rfl,rfl,by omega,fun h=>by omega,fun h=>by omega⟩
 case round =>
  obtain ⟨k,rfl,rfl,hk,ha,hb⟩:=hrel
  by_cases a0:a=0
  ·subst a0
   by_cases b0:b=0
   ·subst b0
    match k,hk with
    | 0,_ =>
     gi_wp2
     go_roundw
     case rel=>refine ⟨1,rfl,?_⟩;simp
     case measure=>simp [intOf]
    | 1,_ =>
     gi_wp2
     go_roundw
     case rel=>refine ⟨2,rfl,?_⟩;simp
     case measure=>simp [intOf]
    | 2,_ =>
     gi_wp2
     go_ret
     exact ⟨by simp,rfl⟩
   ·match k,hk with
    | 0,_ =>
     gi_wp2
     go_roundw
     case rel=>refine ⟨1,rfl,?_⟩;simp
     case measure=>simp [intOf]
    | 1,_ =>
     gi_wp2
     go_ret
     exact ⟨by simp,rfl⟩
    | 2,_=>exact absurd (hb (by omega)) b0
  ·match k,hk with
   | 0,_ =>
    gi_wp2
    go_ret
    exact ⟨by simp [a0],rfl⟩
   | 1,_=>exact absurd (ha (by omega)) a0
   | 2,_=>exact absurd (ha (by omega)) a0
set_option maxRecDepth 100000 in
set_option maxHeartbeats 16000000 in
theorem uQ (x y:Int × Int) (W:World):Calls Tryz.prog 66 #[.agg #[.int .i64 x.1,.int .i64 x.2],.agg #[.int .i64 y.1,.int .i64 y.2]] W fun e w'=>e = .returned (.int .i64 (iM x y))∧∃q os',w'=grow (W.drewN q) os':=by
 have c1:=ol x.1 y.1
 have c2:=ol x.2 y.2
 unfold iM
 generalize fG x.1 y.1=r1 at c1 ⊢
 generalize fG x.2 y.2=r2 at c2 ⊢
 obtain ⟨x1,x2⟩:=x
 obtain ⟨y1,y2⟩:=y
 simp only at c1 c2 ⊢
 go_enter Tryz.func66,Tryz.ntmps66
 go_wp2_with fail
 refine wp_region_still_tail 10 mixed (by kernel_rfl) ?_
 simp only [List.take_succ_cons,List.take_zero,List.drop_succ_cons,List.drop_zero]
 show wpStill _ _ (World.drew ((W.alloc (.cells #[.int .i64 x1,.int .i64 x2] 63)).alloc (.cells #[.int .i64 y1,.int .i64 y2] 63))) (fun a'=>wpList _ _ _ _ a' (World.drew ((W.alloc (.cells #[.int .i64 x1,.int .i64 x2] 63)).alloc (.cells #[.int .i64 y1,.int .i64 y2] 63)))) _ _
 have hg:∃os,World.drew ((W.alloc (.cells #[.int .i64 x1,.int .i64 x2] 63)).alloc (.cells #[.int .i64 y1,.int .i64 y2] 63))=grow (W.drewN 1) os:=⟨_,by rw [alloc_eq_grow,alloc_eq_grow,grow_grow];rfl⟩
 have hh1:(World.drew ((W.alloc (.cells #[.int .i64 x1,.int .i64 x2] 63)).alloc (.cells #[.int .i64 y1,.int .i64 y2] 63))).heap[W.heap.size]?=some (.cells #[.int .i64 x1,.int .i64 x2] 63):=(Below.heap_alloc _ _ _ (by simp)).trans (World.alloc_heap_new W _)
 have hh2:(World.drew ((W.alloc (.cells #[.int .i64 x1,.int .i64 x2] 63)).alloc (.cells #[.int .i64 y1,.int .i64 y2] 63))).heap[W.heap.size+1]?=some (.cells #[.int .i64 y1,.int .i64 y2] 63):=by
  have:=World.alloc_heap_new (W.alloc (.cells #[.int .i64 x1,.int .i64 x2] 63)) (.cells #[.int .i64 y1,.int .i64 y2] 63)
  rwa [World.size_alloc] at this
 generalize World.drew ((W.alloc (.cells #[.int .i64 x1,.int .i64 x2] 63)).alloc (.cells #[.int .i64 y1,.int .i64 y2] 63))=W2 at *
 have k1:W2.cell? ⟨W.heap.size,0,none⟩=some (.int .i64 x1):=by unfold World.cell?;rw [hh1];rfl
 have k2:W2.cell? ⟨W.heap.size,1,none⟩=some (.int .i64 x2):=by unfold World.cell?;rw [hh1];rfl
 have k3:W2.cell? ⟨W.heap.size+1,0,none⟩=some (.int .i64 y1):=by unfold World.cell?;rw [hh2];rfl
 have k4:W2.cell? ⟨W.heap.size+1,1,none⟩=some (.int .i64 y2):=by unfold World.cell?;rw [hh2];rfl
 repeat still_step
 still_call (c1 _)
 repeat still_step
 still_call (c2 _)
 refine wpStill_nil ?_
 obtain ⟨os,hg⟩:=hg
 go_wp2_with fail
 have hsz:W.heap.size+os.size=(grow (W.drewN 1) os).heap.size:=by simp [grow,World.drewN]
 have hnew:=World.alloc_heap_new (grow (W.drewN 1) os) (.cells #[.int .i64 r1,.int .i64 r2] 3)
 rw [←hsz] at hnew
 refine (zv r1 r2 _ _ _ (by unfold World.cell?;rw [hnew];rfl) (by unfold World.cell?;rw [hnew];rfl)).mono ?_
 rintro e w' ⟨rfl,rfl⟩
 have hfin:∃os',(grow (W.drewN 1) os).alloc (.cells #[.int .i64 r1,.int .i64 r2] 3)=grow (W.drewN 1) os':=⟨_,by rw [alloc_eq_grow,grow_grow]⟩
 generalize (grow (W.drewN 1) os).alloc (.cells #[.int .i64 r1,.int .i64 r2] 3)=W3 at *
 obtain ⟨os',hfin⟩:=hfin
 clear hnew hsz hh1 hh2 k1 k2 k3 k4 c1 c2
 go_wp2
 all_goals go_ret
 all_goals exact ⟨rfl,1,os',rfl⟩
end Av
end Go.Proofs.YtdekcppfpgeneaaGreatDoor
namespace Go.Proofs
open Go.Shelf
def Tryz.sort94_ren:Go.Shelf.Ren:=⟨fun | 6=>94 | 15=>123 | 14=>122 | 28=>160 | 29=>161 | 20=>152 | 21=>153 | 22=>154 | 23=>155 | 24=>156 | 25=>157 | 26=>158 | 27=>159 | 46=>202 | 47=>203 | 48=>204 | 49=>205 | 50=>206 | 57=>227 | n=>n,fun | 22=>86 | 24=>63 | 25=>93 | 3=>3 | 39=>84 | 0=>0 | 53=>165 | 55=>167 | 4=>4 | 46=>159 | 45=>158 | 50=>59 | 5=>5 | 9=>9 | 66=>206 | 70=>210 | 76=>232 | 77=>233 | n=>n,fun | n=>n⟩
theorem Tryz.sort94:Go.Proofs.SlLaysF0.n6 Tryz.prog Tryz.sort94_ren:={
 mixed:=by kernel_rfl
 f6:=⟨Tryz.f94.name,by decide,Tryz.func94.trans (congrArg some (by kernel_rfl))⟩
 f14:=⟨Tryz.f122.name,by decide,Tryz.func122.trans (congrArg some (by kernel_rfl))⟩
 f15:=Tryz.func123.trans (congrArg some (by kernel_rfl))
 f20:=⟨Tryz.f152.name,by decide,Tryz.func152.trans (congrArg some (by kernel_rfl))⟩
 f21:=⟨Tryz.f153.name,by decide,Tryz.func153.trans (congrArg some (by kernel_rfl))⟩
 f22:=⟨Tryz.f154.name,by decide,Tryz.func154.trans (congrArg some (by kernel_rfl))⟩
 f23:=⟨Tryz.f155.name,by decide,Tryz.func155.trans (congrArg some (by kernel_rfl))⟩
 f24:=⟨Tryz.f156.name,by decide,Tryz.func156.trans (congrArg some (by kernel_rfl))⟩
 f25:=⟨Tryz.f157.name,by decide,Tryz.func157.trans (congrArg some (by kernel_rfl))⟩
 f26:=⟨Tryz.f158.name,by decide,Tryz.func158.trans (congrArg some (by kernel_rfl))⟩
 f27:=⟨Tryz.f159.name,by decide,Tryz.func159.trans (congrArg some (by kernel_rfl))⟩
 f28:=Tryz.func160.trans (congrArg some (by kernel_rfl))
 f29:=Tryz.func161.trans (congrArg some (by kernel_rfl))
 f46:=⟨Tryz.f202.name,by decide,Tryz.func202.trans (congrArg some (by kernel_rfl))⟩
 f47:=Tryz.func203.trans (congrArg some (by kernel_rfl))
 f48:=Tryz.func204.trans (congrArg some (by kernel_rfl))
 f49:=⟨Tryz.f205.name,by decide,Tryz.func205.trans (congrArg some (by kernel_rfl))⟩
 f50:=⟨Tryz.f206.name,by decide,Tryz.func206.trans (congrArg some (by kernel_rfl))⟩
 f57:=⟨Tryz.f227.name,by decide,Tryz.func227.trans (congrArg some (by kernel_rfl))⟩
 t0:=Tryz.underlying0
 a0:=Tryz.isAgg0
 z0:=Tryz.sizeOf0
 v0:=Tryz.zeroValue0
 t3:=Tryz.underlying3
 a3:=Tryz.isAgg3
 z3:=Tryz.sizeOf3
 v3:=Tryz.zeroValue3
 t4:=Tryz.underlying4
 a4:=Tryz.isAgg4
 z4:=Tryz.sizeOf4
 v4:=Tryz.zeroValue4
 t5:=Tryz.underlying5
 a5:=Tryz.isAgg5
 z5:=Tryz.sizeOf5
 v5:=Tryz.zeroValue5
 t9:=Tryz.underlying9
 a9:=Tryz.isAgg9
 z9:=Tryz.sizeOf9
 v9:=Tryz.zeroValue9
 t22:=Tryz.underlying86
 a22:=Tryz.isAgg86
 z22:=Tryz.sizeOf86
 v22:=Tryz.zeroValue86
 t25:=Tryz.underlying93
 a25:=Tryz.isAgg93
 z25:=Tryz.sizeOf93
 v25:=Tryz.zeroValue93
 t39:=Tryz.underlying84
 a39:=Tryz.isAgg84
 z39:=Tryz.sizeOf84
 v39:=Tryz.zeroValue84
 t45:=Tryz.underlying158
 a45:=Tryz.isAgg158
 z45:=Tryz.sizeOf158
 v45:=Tryz.zeroValue158
 t46:=Tryz.underlying159
 a46:=Tryz.isAgg159
 z46:=Tryz.sizeOf159
 v46:=Tryz.zeroValue159
 t50:=Tryz.underlying59
 a50:=Tryz.isAgg59
 z50:=Tryz.sizeOf59
 v50:=Tryz.zeroValue59
 t53:=Tryz.underlying165
 a53:=Tryz.isAgg165
 z53:=Tryz.sizeOf165
 v53:=Tryz.zeroValue165
 t55:=Tryz.underlying167
 a55:=Tryz.isAgg167
 z55:=Tryz.sizeOf167
 v55:=Tryz.zeroValue167
 t66:=Tryz.underlying206
 a66:=Tryz.isAgg206
 z66:=Tryz.sizeOf206
 v66:=Tryz.zeroValue206
 t70:=Tryz.underlying210
 a70:=Tryz.isAgg210
 z70:=Tryz.sizeOf210
 v70:=Tryz.zeroValue210
 t76:=Tryz.underlying232
 a76:=Tryz.isAgg232
 z76:=Tryz.sizeOf232
 v76:=Tryz.zeroValue232
 t77:=Tryz.underlying233
 a77:=Tryz.isAgg233
 z77:=Tryz.sizeOf233
 v77:=Tryz.zeroValue233 }
end Go.Proofs
namespace Go.Proofs.YtdekcppfpgeneaaGreatDoor
open Go Go.RowKit Go.Sort Go.Shelf Go.Lib
namespace Av
open Nt Rg
theorem qa {a b:Int}:fG a b<0↔a<b:=by
 unfold fG
 by_cases h1:a<b
 ·simp [h1]
 ·by_cases h2:b<a<;>simp [h1,h2]
theorem om {a b:Int}:fG a b=0↔a=b:=by
 unfold fG
 by_cases h1:a<b
 ·rw [if_pos h1];constructor<;>intro h<;>omega
 ·by_cases h2:b<a
  ·rw [if_neg h1,if_pos h2];constructor<;>intro h<;>omega
  ·rw [if_neg h1,if_neg h2];constructor<;>intro h<;>omega
theorem ltK (x y:Int × Int):ltOf iM x y=true↔x.1<y.1∨(x.1=y.1∧x.2<y.2):=by
 unfold ltOf iM
 rw [decide_eq_true_iff]
 by_cases h:fG x.1 y.1=0
 ·have h':=om.1 h
  simp only [h,ne_eq,not_true_eq_false,if_false,qa];omega
 ·have h':x.1≠y.1:=fun e=>h (om.2 e)
  simp only [h,ne_eq,not_false_eq_true,if_true,qa];omega
theorem dN (x y:Int × Int):ltOf iM x y=false↔¬(x.1<y.1∨(x.1=y.1∧x.2<y.2)):=by
 rw [←ltK];simp
theorem Ek:SWO (ltOf iM) where
 irrefl x:=by rw [dN];omega
 trans x y z h1 h2:=by rw [ltK] at *;omega
 ntrans x y z h1 h2:=by rw [dN] at *;omega
def ba (l:List (Int × Int)):List (Int × Int):=l.mergeSort fun x y => !ltOf iM y x
def encK (p:Int × Int):List Value:=[.int .i64 p.1,.int .i64 p.2]
def fF (l:List (Int × Int)):List Value:=l.flatMap encK
theorem ji (l:List (Int × Int)):(fF l).length=l.length * 2:=by
 induction l with
 | nil=>rfl
 | cons x r ih=>simp only [fF,List.flatMap_cons,List.length_append,List.length_cons] at ih ⊢;rw [ih];simp [encK];omega
theorem lA:∀(l:List (Int × Int)) (i c:Nat),c<2→(fF l)[i * 2+c]?=l[i]?.bind fun p=>(encK p)[c]?
 | [],i,c,h=>by simp [fF]
 | x::r,0,c,h=>by
  simp only [fF,List.flatMap_cons,Nat.zero_mul,Nat.zero_add,List.getElem?_cons_zero,Option.bind_some]
  rw [List.getElem?_append_left (by simpa [encK] using h)]
 | x::r,i+1,c,h=>by
  have:=lA r i c h
  simp only [fF,List.flatMap_cons,List.getElem?_cons_succ] at this ⊢
  rw [List.getElem?_append_right (by simp [encK];omega),←this]
  congr 1
  simp [encK];omega
theorem n9 (d:Array (Int × Int)):(flatK encK 2 d).toList=fF d.toList:=by
 refine List.ext_getElem (by rw [ji];simp) fun t h1 h2 => ?_
 have ht:t<d.size * 2:=by simpa using h1
 have e:=lA d.toList (t / 2) (t % 2) (Nat.mod_lt _ (by omega))
 have ed:t / 2 * 2+t % 2=t:=by omega
 rw [ed,List.getElem?_eq_getElem h2] at e
 have hi:t / 2<d.size:=by omega
 have hg:=get_flatK encK 2 d t ht
 rw [getElem!_pos (flatK encK 2 d) t (by simpa using ht)] at hg
 rw [Array.getElem_toList,hg,getElem!_pos d (t / 2) hi]
 have e3:d.toList[t / 2]?=some d[t / 2]:=by rw [List.getElem?_eq_getElem (by simpa using hi),Array.getElem_toList]
 rw [e3,Option.bind_some] at e
 have hc:t % 2<(encK d[t / 2]).length:=by simp [encK];omega
 rw [List.getElem?_eq_getElem hc] at e
 rw [getElem!_pos (encK d[t / 2]) (t % 2) hc]
 exact (Option.some.inj e).symm
theorem jZ {s:St}:∀{l:List (Int × Int)} {fr:List Value},aC s (isK l).flatten fr↔fr=fF l∧∀p∈l,small (.int .i64 p.1)∧small (.int .i64 p.2)
 | [],fr=>by simp [isK,fF,aC]
 | x::r,fr=>by
  have ih:=fun fr=>jZ (s:=s) (l:=r) (fr:=fr)
  constructor
  ·intro h
   simp only [isK,itK,List.map_cons,List.flatten_cons,List.cons_append,List.nil_append,aC,Rep,aV] at h
   obtain ⟨a,t,rfl,⟨rfl,h1⟩,b,t2,rfl,⟨rfl,h2⟩,h3⟩:=h
   obtain ⟨rfl,h4⟩:=(ih t2).1 h3
   exact ⟨rfl,fun p hp=>by rcases List.mem_cons.1 hp with rfl | hp;exact ⟨h1,h2⟩;exact h4 p hp⟩
  ·rintro ⟨rfl,h⟩
   simp only [isK,itK,List.map_cons,List.flatten_cons,List.cons_append,List.nil_append,aC,Rep,aV]
   exact ⟨_,_,rfl,⟨rfl,(h x (by simp)).1⟩,_,_,rfl,⟨rfl,(h x (by simp)).2⟩,(ih _).2 ⟨rfl,fun p hp=>h p (by simp [hp])⟩⟩
theorem oR {F arr:Array Value} {fr rest:List Value} (h:arr.toList=fr++rest) (hs:F.size=fr.length):(putCells id 0 F arr).toList=F.toList++rest:=by
 have hsz:arr.size=fr.length+rest.length:=by have:=congrArg List.length h;simpa using this
 refine List.ext_getElem (by simp [putCells,hsz,hs]) fun t h1 h2 => ?_
 have ht:t<arr.size:=by simpa [putCells] using h1
 simp only [putCells,Array.getElem_toList,Array.getElem_mapIdx,Nat.zero_le,true_and,Nat.zero_add,Nat.sub_zero,id]
 by_cases hc:t<F.size
 ·rw [if_pos hc,List.getElem_append_left (by simpa using hc),getElem!_pos F t hc,Array.getElem_toList]
 ·rw [if_neg hc,List.getElem_append_right (by simpa using hc)]
  have:arr.toList[t]'(by simpa using ht)=(fr++rest)[t]'(by simp;omega):=by simp only [h]
  rw [Array.getElem_toList] at this
  rw [this,List.getElem_append_right (by omega)]
  simp [hs]
theorem Ex {d d':Array (Int × Int)} (h:PermIn 0 d.size d d'):d'.size=d.size∧d'.toList.Perm d.toList:=by
 obtain ⟨h1,h2,h3⟩:=h
 refine ⟨h1,?_⟩
 have e1:d.extract 0 d.size=d:=by simp
 have e2:d'.extract 0 d.size=d':=by rw [←h1];simp
 rwa [e1,e2] at h3
theorem AR (blk off size:Nat) (w:World):CmpLays Tryz.prog 66 #[] encK 2 iM blk off size w:=fun m os dk hdk x y=>by
 have:=uQ x y (sortWorldK encK 2 w blk off m dk os)
 simpa [encK] using this
theorem ug {base:World} {s:St} {l ty ver:Nat} {ps:List (Int × Int)} (hs:Sim base s) (hl:s.H[l]?=some (.row ty 2 ver (isK ps))) (hlen:ps.length≤1000000) {b cap:Nat} (hb:s.μ l=some b) :
  Calls Tryz.prog 94 #[.slice (some ⟨b,0,none⟩) ps.length cap,.func (.func 66) #[] #[]] s.w fun e w'=>e = .returned (.tuple #[])∧Sim base ⟨upd s.μ l (some b),s.H.set l (.row ty 2 ver (isK (ba ps))),w'⟩∧Evo s.H.length s ⟨upd s.μ l (some b),s.H.set l (.row ty 2 ver (isK (ba ps))),w'⟩:=by
 have ho:=hs.obj l _ hl
 obtain ⟨h0,h9,h⟩:=ho
 rcases h with ⟨h1,_⟩ | ⟨b',arr,fr,rest,h1,h2,h3,h4,h5⟩
 ·rw [hb] at h1;cases h1
 rw [hb] at h1
 obtain rfl:b'=b:=(Option.some.inj h1).symm
 obtain ⟨rfl,hsm⟩:=jZ.1 h5
 have hblk:b'<s.w.heap.size:=(Array.getElem?_eq_some_iff.1 h3).1
 have hsz:(flatK encK 2 ps.toArray).size=(fF ps).length:=by rw [ji];simp
 have hH:HoldsK encK 2 s.w b' 0 ps.toArray:=fun j hj=>by
  have hj':j<(fF ps).length:=by rw [←hsz];exact hj
  have hja:j<arr.size:=by have:=congrArg List.length h4;simp at this;omega
  refine ⟨?_,by simp [World.frozen?,h3]⟩
  unfold World.cell?
  simp only [h3,Nat.zero_add,id]
  rw [getElem!_pos _ j hj]
  have e1:arr.toList[j]?=(fF ps)[j]?:=by rw [h4,List.getElem?_append_left hj']
  have e2:(flatK encK 2 ps.toArray).toList[j]?=(fF ps)[j]?:=by rw [n9]
  rw [←e2,List.getElem?_eq_getElem (by simpa using hja),List.getElem?_eq_getElem (by simpa using hj)] at e1
  simp only [Array.getElem_toList,Option.some.injEq] at e1
  rw [←e1]
  simp [hja]
 have hcon:=AnyQ.slices_SortFunc Tryz.sort94 2 Tryz.isAgg63 Tryz.sizeOf63 encK (fun _=>rfl) (fun x v hv=>by simp [encK] at hv;rcases hv with rfl | rfl<;>rfl) iM Ek 66 #[] b' 0 cap ps.toArray s.w (enters_of Tryz.func66 (by kernel_rfl) rfl) (AR b' 0 _ s.w) hH hblk (by simp;omega)
 refine Calls.mono hcon ?_
 rintro e w' ⟨rfl,d',n,os,hp,hso,rfl⟩
 have hp':d'.size=ps.length∧d'.toList.Perm ps:=Ex (d:=ps.toArray) hp
 have hd:d'.toList=ba ps:=by
  have:=sorted_unique_holds Ek (fun x y h1 h2=>by rw [dN] at h1 h2;exact Prod.ext (by omega) (by omega)) ps.toArray d' hp hso
  simpa [ba] using this
 refine ⟨rfl,?_⟩
 have hb2:(sortWorldK encK 2 s.w b' 0 n d' os).heap[b']?=some (.cells (putCells id 0 (flatK encK 2 d') arr) ty (0,0)):=by
  unfold sortWorldK
  rw [Go.Sort.heap_grow_old _ _ (by rw [size_putRowK];exact hblk)]
  unfold putRowK putRow mapBlock
  simp only [Array.getElem?_modify,if_true]
  show Option.map _ (s.w.heap[b']?)=_
  rw [h3]
  rfl
 have hl2:=oR (F:=flatK encK 2 d') h4 (by simp [ji,hp'.1])
 rw [n9,hd] at hl2
 have hlen2:(ba ps).length=ps.length:=by rw [←hd];simpa using hp'.1
 refine hs.upd hl rfl rfl rfl ?_ (fun c hc hlt => ?_) (.inr ⟨rfl,hb⟩) ?_ ?_
 ·exact size_sortWorldK_c encK 2 s.w b' 0 n d' os
 ·unfold sortWorldK
  rw [Go.Sort.heap_grow_old _ _ (by rw [size_putRowK];exact hlt)]
  unfold putRowK putRow mapBlock
  simp only [Array.getElem?_modify,if_neg (Ne.symm hc)]
  rfl
 ·refine ⟨fun it hit => ?_,fun it hit => ?_,_,_,rest,hb2,hl2,jZ.2 ⟨rfl,fun p hp=>hsm p ?_⟩⟩
  ·obtain ⟨p,_,rfl⟩:=List.mem_map.1 hit;rfl
  ·obtain ⟨p,_,rfl⟩:=List.mem_map.1 hit;rfl
  ·exact (List.mergeSort_perm _ _).mem_iff.1 hp
 ·unfold bk
  rw [hl]
  refine .inr ⟨ver,_,aG (aF hl),?_,fun _ _=>⟨(upd_same _ _ _).trans hb.symm,fun b2 hb3 => ?_⟩⟩
  ·rw [kq,kq,hlen2];exact cR.refl _ _
  ·rw [hb] at hb3
   obtain rfl:b2=b':=(Option.some.inj hb3).symm
   unfold ff
   simp only [hb2,h3]
   simp [putCells]
end Av
end Go.Proofs.YtdekcppfpgeneaaGreatDoor
namespace Go.Proofs.YtdekcppfpgeneaaGreatDoor
open Go Go.RowKit
namespace Av
attribute [local irreducible] AW aQ aM
open Nt Rg
theorem yM {base:World} {H:av} {l ty ver n:Nat} {ps:List (Int × Int)} (hl:H[l]?=some (.row ty 2 ver (isK ps))) (hn:n=ps.length) (hlen:ps.length≤1000000) :
  bE Tryz.prog base 94 [.ms l ver n,.fn (.func 66) [] []] H fun r H'=>r = .tup []∧H'=H.set l (.row ty 2 ver (isK (ba ps))):=by
 subst hn
 refine ⟨Tryz.call94,fun μ w vs hs ha => ?_⟩
 simp only [aC,Rep] at ha
 obtain ⟨x,t,h1,⟨⟨a,c,rfl⟩,hm⟩,y,t2,rfl,⟨a2,c2,rfl,h3,h4⟩,rfl⟩:=ha
 have e2:a2 = #[]:=Array.toList_eq_nil_iff.1 h3
 have e3:c2 = #[]:=Array.toList_eq_nil_iff.1 h4
 subst e2 e3
 have hvs:vs = #[.slice a ps.length c,.func (.func 66) #[] #[]]:=Array.ext' h1
 subst hvs
 unfold cM at hm
 simp only [hl] at hm
 rcases hm.2 trivial (kq ps).symm with ⟨m1,m2,m3⟩ | ⟨b,cap,m1,m2,m3,m4,m5⟩
 ·obtain rfl:ps=[]:=List.eq_nil_of_length_eq_zero m3
  have hset:H.set l (.row ty 2 ver (isK (ba [])))=H:=by
   have:isK (ba [])=isK []:=by simp [ba]
   rw [this]
   exact (List.ext_getElem? fun i=>by
    by_cases e:i=l
    ·subst e;rw [List.getElem?_set_self (aF hl),hl]
    ·rw [List.getElem?_set_ne (Ne.symm e)])
  refine (AnyF.slices_SortFunc_none Tryz.sort94 a c _ w).mono ?_
  rintro e w' ⟨rfl,rfl⟩
  exact ⟨_,_,H,μ,rfl,⟨rfl,hset.symm⟩,Nat.le_refl _,hs,by simp only [Rep,aC];exact ⟨#[],rfl,rfl⟩,.refl _ _⟩
 ·cases m2
  refine (ug hs hl hlen m1).mono ?_
  rintro e w' ⟨rfl,hs',he⟩
  exact ⟨_,_,_,_,rfl,⟨rfl,rfl⟩,by simp,hs',by simp only [Rep,aC];exact ⟨#[],rfl,rfl⟩,he⟩
theorem sortK_perm {l m:List (Int × Int)} (h:l.Perm m):ba l=ba m:=by
 have tr:∀a b c:Int × Int,(!Go.Proofs.ltOf iM b a)=true→(!Go.Proofs.ltOf iM c b)=true→(!Go.Proofs.ltOf iM c a)=true:=fun a b c h1 h2=>by
  simp only [Bool.not_eq_true',dN] at *;omega
 have tot:∀a b:Int × Int,((!Go.Proofs.ltOf iM b a) || !Go.Proofs.ltOf iM a b)=true:=fun a b=>by
  simp only [Bool.or_eq_true,Bool.not_eq_true',dN];omega
 refine List.Perm.eq_of_pairwise (le:=fun x y=>(!Go.Proofs.ltOf iM y x)=true) ?_ (List.pairwise_mergeSort tr tot l) (List.pairwise_mergeSort tr tot m) ((List.mergeSort_perm l _).trans (h.trans (List.mergeSort_perm m _).symm))
 intro a b _ _ h1 h2
 simp only [Bool.not_eq_true',dN] at h1 h2
 exact Prod.ext (by omega) (by omega)
section
variable {base:World}
set_option maxHeartbeats 2000000
theorem xY {ks:List (Int × Int)} {b:Nat} {es:Array MapEntry} {clock:Nat} (hm:mD ks b es clock base) (hlen:ks.length≤1000000) {H:av} (hH:∀o∈H,pO o=false) :
  bE Tryz.prog base 93 [.fn (.func 95) [] [.rp [PD.v (.map (some b))]]] H fun r H'=>∃pre G,pre.Perm ks∧r = .ms H.length 0 pre.length∧H'=H ++ .row 63 2 0 (isK pre)::G:=by
 refine bV af Tryz.call93 Tryz.func93 rfl fun hB hb hF => ?_
 rw [Tryz.results93,Tryz.ntmps93]
 simp only [ax,List.length_cons,List.length_nil,List.replicate,List.cons_append,List.nil_append,Nat.reduceAdd,Nat.reduceSub]
 repeat refine ag ?_
 refine en af (by kernel_rfl) ?_
 repeat (first | refine eH rfl rfl (by simp only [avs,tts,seval]<;>(first | with_reducible rfl | rfl)) (by simp only [bm.eq_def,bi,bh]<;>with_reducible rfl) ?_ | refine eG rfl rfl (by simp only [avs,tts,seval]<;>(first | with_reducible rfl | rfl)) rfl (by simp only [avs,tts,seval]<;>(first | with_reducible rfl | rfl)) (by simp only [bm.eq_def,bi,bh]<;>with_reducible rfl) ?_ | refine fi rfl (by simp only [avs,tts,seval]<;>(first | with_reducible rfl | rfl)) rfl (by simp only [bm.eq_def,bi,bh]<;>with_reducible rfl) ?_)
 refine ae ?_
 repeat refine ag ?_
 refine en af (by kernel_rfl) ?_
 repeat (first | refine eH rfl rfl (by simp only [avs,tts,seval]<;>(first | with_reducible rfl | rfl)) (by simp only [bm.eq_def,bi,bh]<;>with_reducible rfl) ?_ | refine eG rfl rfl (by simp only [avs,tts,seval]<;>(first | with_reducible rfl | rfl)) rfl (by simp only [avs,tts,seval]<;>(first | with_reducible rfl | rfl)) (by simp only [bm.eq_def,bi,bh]<;>with_reducible rfl) ?_ | refine fi rfl (by simp only [avs,tts,seval]<;>(first | with_reducible rfl | rfl)) rfl (by simp only [bm.eq_def,bi,bh]<;>with_reducible rfl) ?_)
 refine bQ rfl (by simp only [avs]<;>rfl) (⟨_,u5 hm hlen hH,?_⟩)
 rintro r H' ⟨pre,G,hp,rfl,rfl⟩ hle
 repeat (first | refine eH rfl rfl (by simp only [avs,tts,seval]<;>(first | with_reducible rfl | rfl)) (by simp only [bm.eq_def,bi,bh]<;>with_reducible rfl) ?_ | refine eG rfl rfl (by simp only [avs,tts,seval]<;>(first | with_reducible rfl | rfl)) rfl (by simp only [avs,tts,seval]<;>(first | with_reducible rfl | rfl)) (by simp only [bm.eq_def,bi,bh]<;>with_reducible rfl) ?_ | refine fi rfl (by simp only [avs,tts,seval]<;>(first | with_reducible rfl | rfl)) rfl (by simp only [bm.eq_def,bi,bh]<;>with_reducible rfl) ?_)
 refine ae ?_
 repeat' (first | (refine aa ?_;first | (refine tP rfl (by simp only [avs]<;>rfl) (by rfl) ?_;first | refine ah ?_ | refine wo (by simp only [avs]<;>rfl) ?_ | (refine pP (by simp only [avs]<;>rfl) ?_ ?_<;>intro hb<;>((try simp only [Bool.not_eq_true',Bool.not_eq_false',Bool.not_eq_true,Bool.not_eq_false,Bool.not_not,Bool.not_true,Bool.not_false] at hb);first | subst hb | simp only [hb]))) | (apply ai;rfl;simp only [aj,avs,tts,seval]<;>(first | with_reducible rfl | rfl))) | refine ae ?_ | (refine ak ?_;first | (refine ql rfl (by simp only [avs]<;>rfl) (by rfl) ?_;first | refine aq ?_ | refine sP (by simp only [avs]<;>rfl) ?_ | (refine nX (by simp only [avs]<;>rfl) ?_ ?_<;>intro hb<;>((try simp only [Bool.not_eq_true',Bool.not_eq_false',Bool.not_eq_true,Bool.not_eq_false,Bool.not_not,Bool.not_true,Bool.not_false] at hb);first | subst hb | simp only [hb]))) | (apply ar;rfl;simp only [aB,avs,tts,seval]<;>(first | with_reducible rfl | rfl);first | trivial | omega)) | refine al ?_ | refine ag ?_ | refine en af (by kernel_rfl) ?_  | refine gB 0 af mixed (by kernel_rfl) (by kernel_rfl) (by kernel_rfl) (by rfl) ?_ | refine gB 1 af mixed (by kernel_rfl) (by kernel_rfl) (by kernel_rfl) (by rfl) ?_ | refine gB 2 af mixed (by kernel_rfl) (by kernel_rfl) (by kernel_rfl) (by rfl) ?_ | refine gB 3 af mixed (by kernel_rfl) (by kernel_rfl) (by kernel_rfl) (by rfl) ?_ | refine an rfl rfl (fun hb=>absurd hb (by decide)) fun _ => ?_ | refine an rfl rfl (fun _ => ?_) fun hb=>absurd hb (by decide) | (refine an rfl rfl ?_ ?_<;>intro hb<;>((try simp only [Bool.not_eq_true',Bool.not_eq_false',Bool.not_eq_true,Bool.not_eq_false,Bool.not_not,Bool.not_true,Bool.not_false] at hb);first | subst hb | simp only [hb])) | refine ap ?_ | refine au ?_ | refine am ?_)
 exact aw ⟨_,rfl,pre,G,hp,rfl,rfl⟩
theorem yN {ks:List (Int × Int)} {b:Nat} {es:Array MapEntry} {clock:Nat} (hm:mD ks b es clock base) (hlen:ks.length≤1000000) {H:av} (hH:∀o∈H,pO o=false) :
  bE Tryz.prog base 64 [.fn (.func 95) [] [.rp [PD.v (.map (some b))]],.fn (.func 66) [] []] H fun r H'=>∃G,r = .ms H.length 0 ks.length∧H'=H ++ .row 63 2 0 (isK (ba ks))::G:=by
 refine bV af Tryz.call64 Tryz.func64 rfl fun hB hb hF => ?_
 rw [Tryz.results64,Tryz.ntmps64]
 simp only [ax,List.length_cons,List.length_nil,List.replicate,List.cons_append,List.nil_append,Nat.reduceAdd,Nat.reduceSub]
 repeat refine ag ?_
 refine en af (by kernel_rfl) ?_
 repeat (first | refine eH rfl rfl (by simp only [avs,tts,seval]<;>(first | with_reducible rfl | rfl)) (by simp only [bm.eq_def,bi,bh]<;>with_reducible rfl) ?_ | refine eG rfl rfl (by simp only [avs,tts,seval]<;>(first | with_reducible rfl | rfl)) rfl (by simp only [avs,tts,seval]<;>(first | with_reducible rfl | rfl)) (by simp only [bm.eq_def,bi,bh]<;>with_reducible rfl) ?_ | refine fi rfl (by simp only [avs,tts,seval]<;>(first | with_reducible rfl | rfl)) rfl (by simp only [bm.eq_def,bi,bh]<;>with_reducible rfl) ?_)
 refine ae ?_
 repeat refine ag ?_
 refine en af (by kernel_rfl) ?_
 repeat (first | refine eH rfl rfl (by simp only [avs,tts,seval]<;>(first | with_reducible rfl | rfl)) (by simp only [bm.eq_def,bi,bh]<;>with_reducible rfl) ?_ | refine eG rfl rfl (by simp only [avs,tts,seval]<;>(first | with_reducible rfl | rfl)) rfl (by simp only [avs,tts,seval]<;>(first | with_reducible rfl | rfl)) (by simp only [bm.eq_def,bi,bh]<;>with_reducible rfl) ?_ | refine fi rfl (by simp only [avs,tts,seval]<;>(first | with_reducible rfl | rfl)) rfl (by simp only [bm.eq_def,bi,bh]<;>with_reducible rfl) ?_)
 refine bQ rfl (by simp only [avs]<;>rfl) (⟨_,xY hm hlen hH,?_⟩)
 rintro r H' ⟨pre,G,hp,rfl,rfl⟩ hle
 have hpl:=hp.length_eq
 repeat (first | refine eH rfl rfl (by simp only [avs,tts,seval]<;>(first | with_reducible rfl | rfl)) (by simp only [bm.eq_def,bi,bh]<;>with_reducible rfl) ?_ | refine eG rfl rfl (by simp only [avs,tts,seval]<;>(first | with_reducible rfl | rfl)) rfl (by simp only [avs,tts,seval]<;>(first | with_reducible rfl | rfl)) (by simp only [bm.eq_def,bi,bh]<;>with_reducible rfl) ?_ | refine fi rfl (by simp only [avs,tts,seval]<;>(first | with_reducible rfl | rfl)) rfl (by simp only [bm.eq_def,bi,bh]<;>with_reducible rfl) ?_)
 refine ae ?_
 repeat refine ag ?_
 refine en af (by kernel_rfl) ?_
 repeat (first | refine eH rfl rfl (by simp only [avs,tts,seval]<;>(first | with_reducible rfl | rfl)) (by simp only [bm.eq_def,bi,bh]<;>with_reducible rfl) ?_ | refine eG rfl rfl (by simp only [avs,tts,seval]<;>(first | with_reducible rfl | rfl)) rfl (by simp only [avs,tts,seval]<;>(first | with_reducible rfl | rfl)) (by simp only [bm.eq_def,bi,bh]<;>with_reducible rfl) ?_ | refine fi rfl (by simp only [avs,tts,seval]<;>(first | with_reducible rfl | rfl)) rfl (by simp only [bm.eq_def,bi,bh]<;>with_reducible rfl) ?_)
 refine bQ rfl (by simp only [avs]<;>rfl) (⟨_,yM (ty:=63) (ver:=0) (ps:=pre) (by simp) rfl (by omega),?_⟩)
 rintro r H' ⟨rfl,hH'⟩ hle2
 have hset:H'=H ++ .row 63 2 0 (isK (ba pre))::G:=by rw [hH'];simp
 subst hset
 clear hH'
 have hsk:ba pre=ba ks:=sortK_perm hp
 rw [hsk,hpl]
 repeat (first | refine eH rfl rfl (by simp only [avs,tts,seval]<;>(first | with_reducible rfl | rfl)) (by simp only [bm.eq_def,bi,bh]<;>with_reducible rfl) ?_ | refine eG rfl rfl (by simp only [avs,tts,seval]<;>(first | with_reducible rfl | rfl)) rfl (by simp only [avs,tts,seval]<;>(first | with_reducible rfl | rfl)) (by simp only [bm.eq_def,bi,bh]<;>with_reducible rfl) ?_ | refine fi rfl (by simp only [avs,tts,seval]<;>(first | with_reducible rfl | rfl)) rfl (by simp only [bm.eq_def,bi,bh]<;>with_reducible rfl) ?_)
 refine ae ?_
 repeat refine ag ?_
 refine en af (by kernel_rfl) ?_
 repeat (first | refine eH rfl rfl (by simp only [avs,tts,seval]<;>(first | with_reducible rfl | rfl)) (by simp only [bm.eq_def,bi,bh]<;>with_reducible rfl) ?_ | refine eG rfl rfl (by simp only [avs,tts,seval]<;>(first | with_reducible rfl | rfl)) rfl (by simp only [avs,tts,seval]<;>(first | with_reducible rfl | rfl)) (by simp only [bm.eq_def,bi,bh]<;>with_reducible rfl) ?_ | refine fi rfl (by simp only [avs,tts,seval]<;>(first | with_reducible rfl | rfl)) rfl (by simp only [bm.eq_def,bi,bh]<;>with_reducible rfl) ?_)
 refine ae ?_
 exact aw ⟨_,rfl,G,rfl,rfl⟩
end
end Av
end Go.Proofs.YtdekcppfpgeneaaGreatDoor
namespace Go.Proofs.YtdekcppfpgeneaaGreatDoor
open Go Go.RowKit
namespace Rg
open Av Nt
section
variable {κ:Type} [DecidableEq κ] {enc:κ→Value}
theorem nJ {ks:List κ} (hn:ks.Nodup) (f:κ→AV) {k:κ} {i:Nat} (h2:ks[i]?=some k) (v:AV):(mpE enc ks f).modify i (fun p=>(p.1,v))=mpE enc ks (ip f k v):=by
 unfold mpE
 apply List.ext_getElem?
 intro j
 rw [List.getElem?_modify,List.getElem?_map,List.getElem?_map]
 cases hj:ks[j]? with
 | none=>by_cases e:i=j<;>simp [e]
 | some x =>
  by_cases e:i=j
  ·subst e
   rw [h2] at hj
   cases hj
   simp [ip]
  ·have hx:x≠k:=fun ex=>by
    subst ex
    obtain ⟨l1,g1⟩:=List.getElem?_eq_some_iff.1 h2
    obtain ⟨l2,g2⟩:=List.getElem?_eq_some_iff.1 hj
    have hp:=List.pairwise_iff_getElem.1 hn
    rcases Nat.lt_or_gt_of_ne e with h | h
    ·exact hp i j l1 l2 h (g1.trans g2.symm)
    ·exact hp j i l2 l1 h (g2.trans g1.symm)
   simp [e,ip,hx]
theorem xV (hk:∀a b,keyEq (enc a) (enc b)=decide (a=b)) {ks:List κ} (hn:ks.Nodup) (f:κ→AV) (k:κ) {z:AV} (hz:¬k∈ks→f k=z) :
  ∃j,uL (mpE enc ks f) (enc k)=j∧nM (mpE enc ks f) (enc k) z=mpE enc (cF ks k) f∧j<(cF ks k).length∧j≤ks.length∧∀v,(mpE enc (cF ks k) f).modify j (fun p=>(p.1,v))=mpE enc (cF ks k) (ip f k v):=by
 by_cases h:k∈ks
 ·obtain ⟨i,h1,h2⟩:=nL hk (f:=f) h
  have hi:=(List.getElem?_eq_some_iff.1 h2).1
  refine ⟨i,by rw [uL,h1];rfl,by rw [nM,h1,cF,if_pos h],by rw [cF,if_pos h];exact hi,by omega,fun v => ?_⟩
  rw [cF,if_pos h]
  exact nJ hn f h2 v
 ·have h1:=lj hk (f:=f) h
  refine ⟨ks.length,by rw [uL,h1];simp [mpE],?_,by rw [cF,if_neg h];simp,Nat.le_refl _,fun v => ?_⟩
  ·rw [nM,h1,cF,if_neg h]
   simp [mpE,hz h]
  ·refine nJ (dY hn k) f ?_ v
   rw [cF,if_neg h];simp
end
abbrev KSt:=List (Int × Int) × ((Int × Int)→Int)
def dR (s:KSt) (k:Int × Int) (v:Int):KSt:=(cF s.1 k,fun x=>if x=k then s.2 k+v else s.2 x)
structure KOk (s:KSt) (M:Int):Prop where
 nd:s.1.Nodup
 out:∀k,¬k∈s.1→s.2 k=0
 lo:∀k,0≤s.2 k
 hi:∀k,s.2 k≤M
def kV (s:KSt) (k:Int × Int):AV := .d (.v (.int .i64 (s.2 k)))
def kE (s:KSt):List (Value × AV):=mpE Rg.encK s.1 (kV s)
theorem Cf {s:KSt} {M:Int} (h:KOk s M) (k:Int × Int) {v d:Int} (h0:0≤v) (h1:v≤d):KOk (dR s k v) (M+d):=by
 refine ⟨dY h.nd k,fun x hx => ?_,fun x => ?_,fun x => ?_⟩
 ·have h1:x≠k:=fun e=>hx (eV.2 (.inr e))
  have h2:¬x∈s.1:=fun e=>hx (eV.2 (.inl e))
  simp [dR,h1,h.out x h2]
 ·have a:=h.lo x;have b:=h.lo k
  simp only [dR];split<;>omega
 ·have a:=h.hi x;have b:=h.hi k
  simp only [dR];split<;>omega
theorem Be (s:KSt) (k:Int × Int) (v:Int):(dR s k v).1.length≤s.1.length+1:=by
 simp only [dR,cF];split<;>simp
theorem Cg (s:KSt) (k:Int × Int) (v:Int):mpE Rg.encK (cF s.1 k) (ip (kV s) k (.d (.v (.int .i64 (s.2 k+v)))))=kE (dR s k v):=by
 unfold kE
 congr 1
 funext x
 simp only [ip,kV,dR]
 split<;>rfl
end Rg
namespace Av
attribute [local irreducible] AW aQ aM
open Nt Rg
def bK (ix:ByteArray→Int) (company:ByteArray) (pc:Int) (n:Nat) (s:KSt) (x:ByteArray):KSt:=if pc>0∧x≠company then dR s (ix company,ix x) ((pc * 60).tdiv n) else s
def eK (ix:ByteArray→Int) (company:ByteArray) (pc:Int) (who:List ByteArray) (s:KSt):KSt:=who.foldl (bK ix company pc who.length) s
theorem BD {pc:Int} (h0:0≤pc) (h1:pc≤100) {n:Nat} (hn:0<n):0≤(pc * 60).tdiv n∧(pc * 60).tdiv n≤6000:=by
 have e:(pc * 60).tdiv (n:Int)=(pc * 60) / (n:Int):=Int.tdiv_eq_ediv_of_nonneg (by omega)
 rw [e]
 refine ⟨Int.ediv_nonneg (by omega) (by omega),?_⟩
 have h:=Int.ediv_le_self (a:=pc * 60) (n:Int) (by omega)
 omega
theorem nk {ix:ByteArray→Int} {company x:ByteArray} {pc:Int} (h0:0≤pc) (h1:pc≤100) {n:Nat} (hn:0<n) {s:KSt} {M:Int} (h:KOk s M):KOk (bK ix company pc n s x) (M+6000):=by
 unfold bK
 split
 ·exact Cf h _ (BD h0 h1 hn).1 (BD h0 h1 hn).2
 ·exact ⟨h.nd,h.out,h.lo,fun k=>by have:=h.hi k;omega⟩
theorem kS (ix:ByteArray→Int) (company x:ByteArray) (pc:Int) (n:Nat) (s:KSt):(bK ix company pc n s x).1.length≤s.1.length+1:=by
 unfold bK
 split
 ·exact Be ..
 ·omega
section
variable {base:World}
set_option maxRecDepth 100000 in
set_option maxHeartbeats 16000000 in
theorem vw {H:av} {lm lc ls:Nat} (ix:ByteArray→Int) (company:ByteArray) (pc:Int) (who:List ByteArray) (s:KSt) (M:Int)
  (hlm:H[lm]?=some (.mp 63 3 (.flat [.int .i64,.int .i64]) (kE s))) (hlc:H[lc]?=some (.box 61 [.fn (.func 34) [] [.ptr ls 0]])) (hne:lc≠lm) (hne2:ls≠lm) (hok:KOk s M) (hM:M+6000 * who.length≤1000000000000000) (hks:s.1.length+who.length≤1000000000)
  (hlsl:ls<H.length) (hpl:∀x,(x=company∨x∈who)→∀K:av,K[ls]?=H[ls]?→dt Tryz.prog base 34 [tA x,.ptr ls 0] K (iA (ix x)))
  (hpc0:0≤pc) (hpc1:pc≤100) (hm1:who.length≤1000000) :
  bE Tryz.prog base 36 [.mp lm,tA company,iA pc,.d (aN who),.ptr lc 0] H fun r H'=>H'=H.set lm (.mp 63 3 (.flat [.int .i64,.int .i64]) (kE (eK ix company pc who s))):=by
 refine bV af Tryz.call36 Tryz.func36 rfl fun hB hb hF => ?_
 rw [Tryz.results36,Tryz.ntmps36]
 simp only [ax,List.length_cons,List.length_nil,List.replicate,List.cons_append,List.nil_append,Nat.reduceAdd,Nat.reduceSub]
 clear hF hb
 have hll:=aF hlm
 have hln:(who.map fun s=>[PD.v (.string s)]).length=who.length:=by simp
 simp only [tA,iA,aN]
 repeat' (first | (refine aa ?_;first | (refine zg rfl ?_;first | refine ah ?_ | refine zo ?_ | (refine zs ?_ ?_<;>intro hb<;>((try simp only [bn] at hb);first | subst hb | simp only [hb]))) | (apply ai;rfl;simp only [aj,avs,tts,seval,hln]<;>exact rr)) | refine ae ?_ | (refine ak ?_;first | (refine yg rfl ?_;first | refine aq ?_ | refine yo ?_ | (refine ys ?_ ?_<;>intro hb<;>((try simp only [bn] at hb);first | subst hb | simp only [hb]))) | (apply ar;rfl;simp only [aB,avs,tts,seval,hln]<;>exact rr;first | trivial | omega)) | refine al ?_ | refine ag ?_ | refine zr af ?_ | refine zR 0 af mixed ?_ | refine zR 1 af mixed ?_ | refine zR 2 af mixed ?_ | refine zR 3 af mixed ?_ | refine zf rfl rfl ?_ | refine zt rfl rfl ?_ | (refine an rfl rfl ?_ ?_<;>intro hb<;>((try simp only [bn] at hb);first | subst hb | simp only [hb])) | refine ap ?_ | refine au ?_ | refine am ?_)
 refine bc (H0:=H.set lm (.mp 63 3 (.flat [.int .i64,.int .i64]) (kE s))) (fun n env K=>∃k st,n=who.length - k∧k≤who.length∧st=(who.take k).foldl (bK ix company pc who.length) s∧KOk st (M+6000 * k)∧st.1.length≤s.1.length+k∧K=H.set lm (.mp 63 3 (.flat [.int .i64,.int .i64]) (kE st))∧env=(.mp lm :: .d (.v (.string company)) :: .d (.v (.int .i64 pc)) :: .d (.sl 1 (who.map fun s=>[PD.v (.string s)])) :: .ptr lc 0 :: .undef :: .undef :: .undef :: .undef :: .undef :: .undef :: .d (.sl 1 (who.map fun s=>[PD.v (.string s)])) :: .d (.v (.int .i64 (who.length:Int))) :: .d (.v (.int .i64 (k:Int)))::List.replicate 28 .undef)) ?_ ⟨0,s,rfl,Nat.zero_le _,rfl,⟨hok.nd,hok.out,hok.lo,fun k=>by have:=hok.hi k;omega⟩,by omega,rfl,rfl⟩ ?_
 ·refine ⟨by simp [aH,List.replicate],.inl ?_⟩
  exact (yU hlm).symm
 rintro n env K ⟨k,st,rfl,hk,hst,hkok,hlen,rfl,rfl⟩ hN
 simp only [rp]
 obtain ⟨c0,g0⟩:∃c0,decide ((k:Int)<(who.length:Int))=c0:=⟨_,rfl⟩
 repeat refine ag ?_
 refine zr af ?_
 repeat (refine aa ?_;first | (apply ai;rfl;simp only [aj,avs,tts,seval,g0]<;>exact rr) | (refine zg rfl ?_;first | refine ah ?_ | refine zo ?_))
 refine ae ?_
 cases c0 with
 | false =>
  have hkl:k=who.length:=by
                  have:¬k<who.length:=by simpa using g0
                  omega
  rw [hkl,List.take_length] at hst
  repeat' (first | (refine aa ?_;first | (refine zg rfl ?_;first | refine ah ?_ | refine zo ?_ | (refine zs ?_ ?_<;>intro hb<;>((try simp only [bn] at hb);first | subst hb | simp only [hb]))) | (apply ai;rfl;simp only [aj,avs,tts,seval]<;>exact rr)) | refine ae ?_ | (refine ak ?_;first | (refine yg rfl ?_;first | refine aq ?_ | refine yo ?_ | (refine ys ?_ ?_<;>intro hb<;>((try simp only [bn] at hb);first | subst hb | simp only [hb]))) | (apply ar;rfl;simp only [aB,avs,tts,seval]<;>exact rr;first | trivial | omega)) | refine al ?_ | refine ag ?_ | refine zr af ?_ | refine zR 0 af mixed ?_ | refine zR 1 af mixed ?_ | refine zR 2 af mixed ?_ | refine zR 3 af mixed ?_ | refine zf rfl rfl ?_ | refine zt rfl rfl ?_ | (refine an rfl rfl ?_ ?_<;>intro hb<;>((try simp only [bn] at hb);first | subst hb | simp only [hb])) | refine ap ?_ | refine au ?_ | refine am ?_)
  refine ⟨_,(by simp only [bj,cH,dO,avs,tts]<;>rfl),?_⟩
  rw [hst];rfl
 | true =>
  have hlt:k<who.length:=by simpa using g0
  have hix:(0:Int)≤(k:Int):=by omega
  have hgd:=bP hlt
  have w1:IntKind.i64.wrap ((k:Int)+1)=((k+1:Nat):Int):=aP hlt (by omega)
  have hpn:=hpl who[k] (.inr (List.getElem_mem hlt))
  have hpc:=hpl company (.inl rfl)
  have hnext:(who.take (k+1)).foldl (bK ix company pc who.length) s=bK ix company pc who.length st who[k]:=by
   rw [List.take_add_one,List.getElem?_eq_getElem hlt,List.foldl_append,←hst];rfl
  have hok2:=nk (ix:=ix) (company:=company) (x:=who[k]) hpc0 hpc1 (n:=who.length) (by omega) hkok
  have hlen2:=kS ix company who[k] pc who.length st
  generalize who[k]=x at hgd hpn hnext hok2 hlen2
  obtain ⟨K,hK⟩:∃K,K=H.set lm (.mp 63 3 (.flat [.int .i64,.int .i64]) (kE st)):=⟨_,rfl⟩
  have hKm:K[lm]?=some (.mp 63 3 (.flat [.int .i64,.int .i64]) (kE st)):=by rw [hK];exact aG hll
  have hKc:K[lc]?=some (.box 61 [.fn (.func 34) [] [.ptr ls 0]]):=by rw [hK,be hne];exact hlc
  have hKs:K[ls]?=H[ls]?:=by rw [hK,be hne2]
  have hKset:∀o,K.set lm o=H.set lm o:=fun o=>by rw [hK,List.set_set]
  rw [←hK]
  have hKl:K.length=H.length:=by rw [hK];simp
  obtain ⟨b1,hb1⟩:∃b,decide (pc>0)=b:=⟨_,rfl⟩
  obtain ⟨b2,hb2⟩:∃b,decide (x=company)=b:=⟨_,rfl⟩
  cases b1 with
  | false =>
   have aB:bK ix company pc who.length st x=st:=by
    unfold bK
    rw [if_neg fun h=>absurd h.1 (of_decide_eq_false hb1)]
   rw [aB] at hnext
   repeat' (first | (refine aa ?_;first | (refine zg rfl ?_;first | refine ah ?_ | refine zo ?_ | (refine zs ?_ ?_<;>intro hb<;>((try simp only [bn] at hb);first | subst hb | simp only [hb]))) | (apply ai;rfl;simp only [aj,avs,tts,seval,hix,hlt,hgd,hln,hb1,hb2,w1]<;>exact rr)) | refine ae ?_ | (refine ak ?_;first | (refine yg rfl ?_;first | refine aq ?_ | refine yo ?_ | (refine ys ?_ ?_<;>intro hb<;>((try simp only [bn] at hb);first | subst hb | simp only [hb]))) | (apply ar;rfl;simp only [aB,avs,tts,seval,hix,hlt,hgd,hln,hb1,hb2,w1]<;>exact rr;first | trivial | omega)) | refine al ?_ | refine ag ?_ | refine zr af ?_ | refine zR 0 af mixed ?_ | refine zR 1 af mixed ?_ | refine zR 2 af mixed ?_ | refine zR 3 af mixed ?_ | refine zf rfl rfl ?_ | refine zt rfl rfl ?_ | (refine an rfl rfl ?_ ?_<;>intro hb<;>((try simp only [bn] at hb);first | subst hb | simp only [hb])) | refine ap ?_ | refine au ?_ | refine am ?_)
   refine ⟨who.length - (k+1),_,_,by omega,⟨?_,.inl rfl⟩,k+1,_,rfl,hlt,rfl,?_,?_,?_,rfl⟩
   ·simp [aH,List.replicate]
   ·rw [hnext]
    refine ⟨hkok.nd,hkok.out,hkok.lo,fun y => ?_⟩
    have:=hkok.hi y
    omega
   ·rw [hnext];omega
   ·rw [hnext,hK]
  | true =>
   cases b2 with
   | true =>
    have aB:bK ix company pc who.length st x=st:=by
     unfold bK
     rw [if_neg fun h=>h.2 (of_decide_eq_true hb2)]
    rw [aB] at hnext
    repeat' (first | (refine aa ?_;first | (refine zg rfl ?_;first | refine ah ?_ | refine zo ?_ | (refine zs ?_ ?_<;>intro hb<;>((try simp only [bn] at hb);first | subst hb | simp only [hb]))) | (apply ai;rfl;simp only [aj,avs,tts,seval,hix,hlt,hgd,hln,hb1,hb2,w1,Bool.not_true]<;>exact rr)) | refine ae ?_ | (refine ak ?_;first | (refine yg rfl ?_;first | refine aq ?_ | refine yo ?_ | (refine ys ?_ ?_<;>intro hb<;>((try simp only [bn] at hb);first | subst hb | simp only [hb]))) | (apply ar;rfl;simp only [aB,avs,tts,seval,hix,hlt,hgd,hln,hb1,hb2,w1,Bool.not_true]<;>exact rr;first | trivial | omega)) | refine al ?_ | refine ag ?_ | refine zr af ?_ | refine zR 0 af mixed ?_ | refine zR 1 af mixed ?_ | refine zR 2 af mixed ?_ | refine zR 3 af mixed ?_ | refine zf rfl rfl ?_ | refine zt rfl rfl ?_ | (refine an rfl rfl ?_ ?_<;>intro hb<;>((try simp only [bn] at hb);first | subst hb | simp only [hb])) | refine ap ?_ | refine au ?_ | refine am ?_)
    refine ⟨who.length - (k+1),_,_,by omega,⟨?_,.inl rfl⟩,k+1,_,rfl,hlt,rfl,?_,?_,?_,rfl⟩
    ·simp [aH,List.replicate]
    ·rw [hnext]
     refine ⟨hkok.nd,hkok.out,hkok.lo,fun y => ?_⟩
     have:=hkok.hi y
     omega
    ·rw [hnext];omega
    ·rw [hnext,hK]
   | false =>
    repeat refine ag ?_
    refine an rfl rfl (fun hb => ?_) fun hb => ?_
    rotate_left
    ·cases hb
    refine ap ?_
    repeat refine ag ?_
    refine am ?_
    repeat refine ag ?_
    refine zr af ?_
    repeat (refine aa ?_;first | (apply ai;rfl;simp only [aj,avs,tts,seval,hix,hlt,hgd,hln]<;>exact rr) | (refine zg rfl ?_;first | refine ah ?_ | refine zo ?_))
    refine ae ?_
    repeat refine ag ?_
    refine zr af ?_
    repeat (refine aa ?_;first | (apply ai;rfl;simp only [aj,avs,tts,seval,hb1,hb2,Bool.not_false,Bool.not_true]<;>exact rr) | (refine zg rfl ?_;first | refine ah ?_ | refine zo ?_))
    refine ae ?_
    repeat refine ag ?_
    refine an rfl rfl (fun hb => ?_) fun hb => ?_
    rotate_left
    ·cases hb
    obtain ⟨ci,hci⟩:∃ci,ci=ix company:=⟨_,rfl⟩
    obtain ⟨ni,hni⟩:∃ni,ni=ix x:=⟨_,rfl⟩
    obtain ⟨u,hu⟩:∃u,u=st.2 (ci,ni):=⟨_,rfl⟩
    obtain ⟨q,hq⟩:∃q,q=(pc * 60).tdiv who.length:=⟨_,rfl⟩
    obtain ⟨j,hj1,hj2,hj3,hj4,hj5⟩:=xV sJ hkok.nd (kV st) (ci,ni) (z := .d (.v (.int .i64 0))) (fun h=>by simp [kV,hkok.out _ h])
    rw [←hci] at hpc
    rw [←hni] at hpn
    simp only [tA,iA] at hpc hpn
    obtain ⟨K1,hK1⟩:∃K1,K1=K.set lm (.mp 63 3 (.flat [.int .i64,.int .i64]) (mpE Rg.encK (cF st.1 (ci,ni)) (kV st))):=⟨_,rfl⟩
    obtain ⟨K2,hK2⟩:∃K2,K2=K.set lm (.mp 63 3 (.flat [.int .i64,.int .i64]) (kE (dR st (ci,ni) q))):=⟨_,rfl⟩
    have hKll:lm<K.length:=aF hKm
    have q1:uL (kE st) (.agg #[.int .i64 ci,.int .i64 ni])=j:=hj1
    have q2:nM (kE st) (.agg #[.int .i64 ci,.int .i64 ni]) (.d (.v (.int .i64 0)))=mpE Rg.encK (cF st.1 (ci,ni)) (kV st):=hj2
    have q3:(iD (kE st) (.agg #[.int .i64 ci,.int .i64 ni])).getD (.d (.v (.int .i64 0))) = .d (.v (.int .i64 u)):=by
     have huv:kV st (ci,ni) = .d (.v (.int .i64 u)):=by rw [hu];rfl
     rw [←huv];exact gc sJ (k:=(ci,ni)) fun h=>by rw [huv,hu,hkok.out _ h]
    have q4:((kE st).length≤9223372036854775807)=True:=eq_true (by unfold kE;rw [qJ];omega)
    have hK1m:K1[lm]?=some (.mp 63 3 (.flat [.int .i64,.int .i64]) (mpE Rg.encK (cF st.1 (ci,ni)) (kV st))):=by rw [hK1];exact aG hKll
    have q5:((0:Int)≤(j:Int))=True:=eq_true (by omega)
    have q6:(j<(mpE Rg.encK (cF st.1 (ci,ni)) (kV st)).length)=True:=eq_true (by rw [qJ];exact hj3)
    have q7:K1.set lm (.mp 63 3 (.flat [.int .i64,.int .i64]) ((mpE Rg.encK (cF st.1 (ci,ni)) (kV st)).modify j fun p=>(p.1,.d (.v (.int .i64 (u+q))))))=K2:=by
     rw [hj5,hu,Cg,hK1,List.set_set,hK2]
    have ksh:bu (.flat [.int .i64,.int .i64]) (.agg #[.int .i64 ci,.int .i64 ni])=true:=rfl
    have hwpos:0<who.length:=by omega
    have hqb:=BD hpc0 hpc1 hwpos
    have hub:=hkok.hi (ci,ni)
    have hul:=hkok.lo (ci,ni)
    rw [←hu] at hub hul
    rw [←hq] at hqb
    have wm:IntKind.i64.wrap (pc * 60)=pc * 60:=by rw [IntKind.wrap_i64];omega
    have wu:IntKind.i64.wrap (u+q)=u+q:=by rw [IntKind.wrap_i64];omega
    have hwl:((who.length:Int)=0)=False:=eq_false (by omega)
    have wq:IntKind.i64.wrap ((pc * 60).tdiv (who.length:Int))=q:=by rw [←hq,IntKind.wrap_i64];omega
    refine eS af mixed (by kernel_rfl) (by kernel_rfl) (fun β env KK=>(β 17=true→β 15=true)∧(β 17=true→β 8=true)∧KK=(if β 17=true then K2 else if β 15=true then K1 else K)∧env=(.mp lm :: .d (.v (.string company)) :: .d (.v (.int .i64 pc)) :: .d (.sl 1 (who.map fun s=>[PD.v (.string s)])) :: .ptr lc 0 :: .undef :: .undef :: .undef :: .undef :: .undef :: .d (.v (.string x)) :: .d (.sl 1 (who.map fun s=>[PD.v (.string s)])) :: .d (.v (.int .i64 (who.length:Int))) :: .d (.v (.int .i64 (k:Int)))::List.replicate 10 .undef++(if β 0=true then .mp lm else .undef)::(if β 1=true then .fn (.func 34) [] [.ptr ls 0] else .undef)::(if β 2=true then .d (.v (.string company)) else .undef)::(if β 3=true then .d (.v (.int .i64 ci)) else .undef)::(if β 4=true then .fn (.func 34) [] [.ptr ls 0] else .undef)::(if β 5=true then .d (.v (.string x)) else .undef)::(if β 6=true then .d (.v (.int .i64 ni)) else .undef)::(if β 7=true then .agg [.d (.v (.int .i64 ci)),.d (.v (.int .i64 ni))] else .undef)::(if β 8=true then .d (.v (.int .i64 u)) else .undef)::(if β 9=true then .d (.v (.int .i64 pc)) else .undef)::(if β 10=true then .d (.v (.int .i64 (pc * 60))) else .undef)::(if β 11=true then .d (.sl 1 (who.map fun s=>[PD.v (.string s)])) else .undef)::(if β 12=true then .d (.v (.int .i64 (who.length:Int))) else .undef)::(if β 13=true then .d (.v (.int .i64 q)) else .undef)::(if β 14=true then .d (.v (.int .i64 (u+q))) else .undef)::(if β 15=true then .tup [.d (.v (.int .i64 u)),.d (.v (.int .i64 (j:Int)))] else .undef)::(if β 16=true then .d (.v (.int .i64 (j:Int))) else .undef) :: .undef::[])) (H0:=K) (env0:=(.mp lm :: .d (.v (.string company)) :: .d (.v (.int .i64 pc)) :: .d (.sl 1 (who.map fun s=>[PD.v (.string s)])) :: .ptr lc 0 :: .undef :: .undef :: .undef :: .undef :: .undef :: .d (.v (.string x)) :: .d (.sl 1 (who.map fun s=>[PD.v (.string s)])) :: .d (.v (.int .i64 (who.length:Int))) :: .d (.v (.int .i64 (k:Int)))::List.replicate 28 .undef)) ⟨by simp [aH,List.replicate],.inl rfl⟩ ⟨by simp,by simp,by simp,by simp⟩ ?_ ?_
    ·rintro β env KK ⟨h1715,h178,hKK,rfl⟩ hN2 i o hget hβ hr
     simp only [rp]
     simp only [ax] at hget
     have hKKc:KK[lc]?=some (.box 61 [.fn (.func 34) [] [.ptr ls 0]]):=by
      rw [hKK];split
      ·rw [hK2,be hne];exact hKc
      ·split
       ·rw [hK1,be hne];exact hKc
       ·exact hKc
     have hKKs:KK[ls]?=H[ls]?:=by
      rw [hKK];split
      ·rw [hK2,be hne2];exact hKs
      ·split
       ·rw [hK1,be hne2];exact hKs
       ·exact hKs
     have hKKm:β 17=false→∃es,KK[lm]?=some (.mp 63 3 (.flat [.int .i64,.int .i64]) es)∧(iD es (.agg #[.int .i64 ci,.int .i64 ni])).getD (.d (.v (.int .i64 0))) = .d (.v (.int .i64 u)):=fun h17=>by
      have huv:kV st (ci,ni) = .d (.v (.int .i64 u)):=by rw [hu];rfl
      rw [hKK,h17]
      cases h15:β 15 with
      | true=>exact ⟨_,by simp only [hK1,Bool.false_eq_true,if_false,if_true];exact aG hKll,by rw [←huv];exact gc sJ (k:=(ci,ni)) fun h=>absurd (eV.2 (.inr rfl)) h⟩
      | false=>exact ⟨_,by simp only [Bool.false_eq_true,if_false];exact hKm,by rw [←huv];exact gc sJ (k:=(ci,ni)) fun h=>by rw [huv,hu,hkok.out _ h]⟩
     rcases i with _ | _ | _ | _ | _ | _ | _ | _ | _ | _ | _ | _ | _ | _ | _ | _ | _ | _ | i
     all_goals (try simp only [gU,gT,Option.some.injEq,List.getElem?_nil,reduceCtorEq] at hget)
     all_goals (try subst hget)
     all_goals (simp [gO,Region.binds] at hr)
     all_goals try (simp only [Nat.zero_add,Nat.reduceAdd] at hβ)
     ·simp only [aD,aL,aE,avs,tts,Nat.reduceAdd,Nat.reduceSub,reduceCtorEq,hr,hKKc]
      exact ⟨by simpa using h1715,by simpa using h178,by simpa using hKK,by simp⟩
     ·simp only [aD,aL,aE,avs,tts,Nat.reduceAdd,Nat.reduceSub,reduceCtorEq,hr,hKKc]
      exact ⟨by simpa using h1715,by simpa using h178,by simpa using hKK,by simp⟩
     ·simp only [aD,aL,aE,avs,tts,Nat.reduceAdd,Nat.reduceSub,reduceCtorEq,hr,hKKc]
      exact ⟨by simpa using h1715,by simpa using h178,by simpa using hKK,by simp⟩
     ·simp only [aD,aL,aE,avs,tts,Nat.reduceAdd,Nat.reduceSub,reduceCtorEq,hr,hKKc]
      refine ⟨_,hpc KK hKKs,?_⟩
      rintro r H' ⟨rfl,rfl⟩ _
      exact ⟨by simpa using h1715,by simpa using h178,by simpa using hKK,by simp⟩
     ·simp only [aD,aL,aE,avs,tts,Nat.reduceAdd,Nat.reduceSub,reduceCtorEq,hr,hKKc]
      exact ⟨by simpa using h1715,by simpa using h178,by simpa using hKK,by simp⟩
     ·simp only [aD,aL,aE,avs,tts,Nat.reduceAdd,Nat.reduceSub,reduceCtorEq,hr,hKKc]
      exact ⟨by simpa using h1715,by simpa using h178,by simpa using hKK,by simp⟩
     ·simp only [aD,aL,aE,avs,tts,Nat.reduceAdd,Nat.reduceSub,reduceCtorEq,hr,hKKc]
      refine ⟨_,hpn KK hKKs,?_⟩
      rintro r H' ⟨rfl,rfl⟩ _
      exact ⟨by simpa using h1715,by simpa using h178,by simpa using hKK,by simp⟩
     ·simp only [aD,aL,aE,avs,tts,Nat.reduceAdd,Nat.reduceSub,reduceCtorEq,hr,hKKc]
      exact ⟨by simpa using h1715,by simpa using h178,by simpa using hKK,by simp⟩
     ·have h17:β 17=false:=by cases h:β 17 with
       | false=>rfl
       | true=>rw [h178 h] at hβ;cases hβ
      obtain ⟨es,he1,he2⟩:=hKKm h17
      simp only [aD,aL,aE,avs,tts,Nat.reduceAdd,Nat.reduceSub,reduceCtorEq,hr,hKKc,he1,he2,ksh]
      exact ⟨by simpa using h1715,by simp,by simpa using hKK,by simp⟩
     ·simp only [aD,aL,aE,avs,tts,Nat.reduceAdd,Nat.reduceSub,reduceCtorEq,hr,hKKc]
      exact ⟨by simpa using h1715,by simpa using h178,by simpa using hKK,by simp⟩
     ·simp only [aD,aL,aE,avs,tts,Nat.reduceAdd,Nat.reduceSub,reduceCtorEq,hr,hKKc,wm]
      exact ⟨by simpa using h1715,by simpa using h178,by simpa using hKK,by simp⟩
     ·simp only [aD,aL,aE,avs,tts,Nat.reduceAdd,Nat.reduceSub,reduceCtorEq,hr,hKKc]
      exact ⟨by simpa using h1715,by simpa using h178,by simpa using hKK,by simp⟩
     ·simp only [aD,aL,aE,avs,tts,Nat.reduceAdd,Nat.reduceSub,reduceCtorEq,hr,hKKc,hln]
      exact ⟨by simpa using h1715,by simpa using h178,by simpa using hKK,by simp⟩
     ·simp only [aD,aL,aE,avs,tts,Nat.reduceAdd,Nat.reduceSub,reduceCtorEq,hr,hKKc,hwl,wq]
      exact ⟨by simpa using h1715,by simpa using h178,by simpa using hKK,by simp⟩
     ·simp only [aD,aL,aE,avs,tts,Nat.reduceAdd,Nat.reduceSub,reduceCtorEq,hr,hKKc,wu]
      exact ⟨by simpa using h1715,by simp,by simpa using hKK,by simp⟩
     ·have h17:β 17=false:=by cases h:β 17 with
       | false=>rfl
       | true=>rw [h1715 h] at hβ;cases hβ
      have hKe:KK=K:=by rw [hKK,h17,hβ];simp
      subst hKe
      simp only [aD,aL,aE,avs,tts,Nat.reduceAdd,Nat.reduceSub,reduceCtorEq,hr,hKm,ksh,q1,q2,q3,q4,hK1.symm]
      exact ⟨by simp,by simp [h17],by simp [h17],by simp⟩
     ·simp only [aD,aL,aE,avs,tts,Nat.reduceAdd,Nat.reduceSub,reduceCtorEq,hr,hKKc]
      exact ⟨by simp,by simpa using h178,by simpa [hr] using hKK,by simp⟩
     ·have hKe:KK=K1:=by rw [hKK,hβ];simp [hr]
      subst hKe
      simp only [aD,aL,aE,avs,tts,Nat.reduceAdd,Nat.reduceSub,reduceCtorEq,hr,hK1m,q5,q6,q7,Int.toNat_natCast,and_self,if_true]
      exact ⟨by simp,by simp,by simp,by simp⟩
    ·rintro β env KK ⟨h1715,h178,hKK,rfl⟩ hall
     have a15:=hall 15 (by decide)
     have a17:=hall 17 (by decide)
     rw [a17] at hKK
     simp only [if_true] at hKK
     subst hKK
     simp only [List.replicate,List.cons_append,List.nil_append,hall 0 (by decide),hall 1 (by decide),hall 2 (by decide),hall 3 (by decide),hall 4 (by decide),hall 5 (by decide),hall 6 (by decide),hall 7 (by decide),hall 8 (by decide),hall 9 (by decide),hall 10 (by decide),hall 11 (by decide),hall 12 (by decide),hall 13 (by decide),hall 14 (by decide),a15,hall 16 (by decide),a17,aE]
     clear hall h1715 h178
     have aB:bK ix company pc who.length st x=dR st (ci,ni) q:=by
      unfold bK
      rw [if_pos ⟨of_decide_eq_true hb1,of_decide_eq_false hb2⟩,←hci,←hni,←hq]
     rw [aB] at hnext hok2 hlen2
     show AW _ _ _ _ _
     repeat' (first | (refine aa ?_;first | (refine zg rfl ?_;first | refine ah ?_ | refine zo ?_ | (refine zs ?_ ?_<;>intro hb<;>((try simp only [bn] at hb);first | subst hb | simp only [hb]))) | (apply ai;rfl;simp only [aj,avs,tts,seval,w1]<;>exact rr)) | refine ae ?_ | (refine ak ?_;first | (refine yg rfl ?_;first | refine aq ?_ | refine yo ?_ | (refine ys ?_ ?_<;>intro hb<;>((try simp only [bn] at hb);first | subst hb | simp only [hb]))) | (apply ar;rfl;simp only [aB,avs,tts,seval,w1]<;>exact rr;first | trivial | omega)) | refine al ?_ | refine ag ?_ | refine zr af ?_ | refine zR 0 af mixed ?_ | refine zR 1 af mixed ?_ | refine zR 2 af mixed ?_ | refine zR 3 af mixed ?_ | refine zf rfl rfl ?_ | refine zt rfl rfl ?_ | (refine an rfl rfl ?_ ?_<;>intro hb<;>((try simp only [bn] at hb);first | subst hb | simp only [hb])) | refine ap ?_ | refine au ?_ | refine am ?_)
     refine ⟨who.length - (k+1),_,_,by omega,⟨?_,.inl rfl⟩,k+1,_,rfl,hlt,rfl,?_,?_,?_,rfl⟩
     ·simp [aH,List.replicate]
     ·rw [hnext]
      refine ⟨hok2.nd,hok2.out,hok2.lo,fun y => ?_⟩
      have:=hok2.hi y
      omega
     ·rw [hnext];omega
     ·rw [hnext,hK2,hKset]
end
end Av
end Go.Proofs.YtdekcppfpgeneaaGreatDoor
namespace Go.Proofs.YtdekcppfpgeneaaGreatDoor
open Go Go.RowKit
namespace Av
attribute [local irreducible] AW aQ aM
open Nt Rg
def prP (p:Int × Int):List PD:=[.v (.int .i64 p.1),.v (.int .i64 p.2)]
def BE (ps:List (Int × Int)):PD := .sl 2 (ps.map prP)
theorem yT (w:World):Sim w ⟨fun _=>none,[],w⟩:=⟨Below.refl _ w,fun l o h=>by simp at h,fun l l' o o' b h=>by simp at h⟩
theorem wY {base:World} {H:av} {l lb tb kt et:Nat} {ks0:KS} (s0:KSt) (hl:H[l]?=some (.mp kt et ks0 (kE s0))) (hlb:H[lb]?=some (.box tb [.mp l])) (hnd:s0.1.Nodup) (hok:∀p∈s0.1,okK p) (hlen:s0.1.length≤1000000) :
  dt Tryz.prog base 64 [.fn (.func 95) [] [.ptr lb 0],.fn (.func 66) [] []] H (.d (BE (ba s0.1))) :=
 lX Tryz.call64 fun s vs hH hs ha=>by
  subst hH
  simp only [aC,Rep,cO,hlb] at ha
  obtain ⟨v,t,e1,⟨a,c,rfl,ha1,pv,pt,hc1,⟨_,bb,hμb,rfl⟩,rfl⟩,v2,t2,rfl,⟨a2,c2,rfl,ha2,hc2⟩,rfl⟩:=ha
  have ea:a = #[]:=Array.toList_eq_nil_iff.1 ha1
  have ea2:a2 = #[]:=Array.toList_eq_nil_iff.1 ha2
  have ec2:c2 = #[]:=Array.toList_eq_nil_iff.1 hc2
  have ec:c = #[.pointer (some ⟨bb,0,none⟩)]:=Array.ext' hc1
  subst ea ea2 ec2 ec
  obtain ⟨b',arr,h1,h2,h3,h4⟩:=hs.obj lb _ hlb
  rw [hμb] at h1;cases h1
  simp only [aC,Rep,dU,hl] at h4
  obtain ⟨mv,mt,e4,⟨_,b,hμ,rfl⟩,rfl⟩:=h4
  obtain ⟨_,b',ents,clock,m1,m2,m3,m4,m5⟩:=hs.obj l _ hl
  rw [hμ] at m1;cases m1
  have hk:=iE m4
  have hk2:(kE s0).map (·.1)=s0.1.map Rg.encK:=by unfold kE mpE;rw [List.map_map];rfl
  have hm:mD s0.1 b ents clock s.w:=⟨hnd,hok,m3,m5.st,hk.trans hk2,by omega⟩
  have hbb:bb<s.w.heap.size:=(Array.getElem?_eq_some_iff.1 h3).1
  have hin:=(yN hm hlen (H:=[]) (fun o ho=>nomatch ho)).run (fun _=>none) s.w vs (yT s.w) (by
   rw [e1]
   simp only [aC,Rep,aR,aV,small,and_true]
   refine ⟨_,_,rfl,⟨_,_,rfl,rfl,_,_,rfl,⟨bb,0,rfl,⟨hbb,?_⟩,rfl,.map (some b),?_,rfl⟩,rfl⟩,_,_,rfl,⟨_,_,rfl,rfl,rfl⟩,rfl⟩
   ·rintro ⟨l',o',q,_⟩;simp at q
   ·unfold World.cell?
    simp only [h3]
    have:=congrArg (fun z=>z[0]?) e4
    simpa using this)
  refine hin.mono ?_
  rintro e w' ⟨v,r,H',μ',rfl,⟨G,rfl,rfl⟩,_,hs',hr,_⟩
  refine ⟨v,rfl,hs'.below,fun s' hw hi => ?_⟩
  have hg:(([]:av) ++ .row 63 2 0 (isK (ba s0.1))::G)[0]?=some (.row 63 2 0 (isK (ba s0.1))):=rfl
  have hsl:(ba s0.1).length=s0.1.length:=List.length_mergeSort _
  simp only [Rep,cM,List.length_nil,hg] at hr
  rcases hr.2.2 trivial (by rw [kq,hsl]) with ⟨q1,rfl,q3⟩ | ⟨b2,cap,q1,rfl,q3,q4,q5⟩
  ·have e0:ba s0.1=[]:=List.eq_nil_of_length_eq_zero (by omega)
   simp only [Rep,BE,aV,e0,List.map_nil,List.length_nil]
   exact ⟨none,0,rfl,Nat.le_refl _,by unfold maxLen;omega,.inl trivial⟩
  ·obtain ⟨_,_,hh⟩:=hs'.obj 0 _ hg
   rcases hh with ⟨z1,_⟩ | ⟨b3,arr3,fr,rest,z1,z2,z3,z4,z5⟩
   ·simp only at z1 q1;rw [q1] at z1;cases z1
   simp only at z1 q1
   rw [q1] at z1;cases z1
   obtain ⟨rfl,hsm⟩:=jZ.1 z5
   simp only [Rep,BE,aV,List.length_map]
   refine ⟨_,cap,by rw [hsl],by rw [hsl];exact q3,q4,.inr ⟨b2,0,rfl,hi b2 (Array.getElem?_eq_some_iff.1 z3).1 z2,?_⟩⟩
   refine mK fun i hi' => ?_
   have hi2:i<(ba s0.1).length:=by simpa using hi'
   have e5:((ba s0.1).map prP).getD i []=prP (ba s0.1)[i]:=by
    rw [List.getD_eq_getElem?_getD,List.getElem?_map,List.getElem?_eq_getElem hi2];rfl
   have cell:∀c,c<2→s'.w.cell? ⟨b2,0+i * 2+c,none⟩=(encK (ba s0.1)[i])[c]?:=fun c hc=>by
    rw [hw]
    unfold World.cell?
    simp only [z3,Nat.zero_add]
    have hlt:i * 2+c<(fF (ba s0.1)).length:=by rw [ji];omega
    rw [←Array.getElem?_toList,z4,List.getElem?_append_left hlt,lA _ _ _ hc,List.getElem?_eq_getElem hi2]
    rfl
   have sm:=hsm _ (List.getElem_mem hi2)
   rw [e5]
   refine ⟨rfl,?_⟩
   simp only [prP,aR,aV,and_true]
   exact ⟨⟨rfl,_,cell 0 (by omega),rfl,sm.1⟩,rfl,_,cell 1 (by omega),rfl,sm.2⟩
end Av
end Go.Proofs.YtdekcppfpgeneaaGreatDoor
namespace Go.Proofs.YtdekcppfpgeneaaGreatDoor
open Go Go.RowKit
namespace Av
attribute [local irreducible] AW aQ aM
open Nt Rg
theorem BK {base:World} {H:av} {l:Nat}:bE Tryz.prog base 65 [.mp l] H fun r H'=>r = .fn (.func 95) [] [.ptr H.length 0]∧∃tb,H'=H++[.box tb [.mp l]]:=by
 refine bV af Tryz.call65 Tryz.func65 rfl fun hB hb hF => ?_
 rw [Tryz.results65,Tryz.ntmps65]
 simp only [ax,List.length_cons,List.length_nil,List.replicate,List.cons_append,List.nil_append,Nat.reduceAdd,Nat.reduceSub]
 repeat' (first | (refine aa ?_;first | (refine zg rfl ?_;first | refine ah ?_ | refine zo ?_ | (refine zs ?_ ?_<;>intro hb<;>((try simp only [bn] at hb);first | subst hb | simp only [hb]))) | (apply ai;rfl;simp only [aj,avs,tts,seval]<;>exact rr)) | refine ae ?_ | (refine ak ?_;first | (refine yg rfl ?_;first | refine aq ?_ | refine yo ?_ | (refine ys ?_ ?_<;>intro hb<;>((try simp only [bn] at hb);first | subst hb | simp only [hb]))) | (apply ar;rfl;simp only [aB,avs,tts,seval]<;>exact rr;first | trivial | omega)) | refine al ?_ | refine ag ?_ | refine zr af ?_ | refine zR 0 af mixed ?_ | refine zR 1 af mixed ?_ | refine zR 2 af mixed ?_ | refine zR 3 af mixed ?_ | refine zf rfl rfl ?_ | refine zt rfl rfl ?_ | (refine an rfl rfl ?_ ?_<;>intro hb<;>((try simp only [bn] at hb);first | subst hb | simp only [hb])) | refine ap ?_ | refine au ?_ | refine am ?_)
 exact aw ⟨_,rfl,rfl,_,rfl⟩
def lkC (s:KSt) (p:Int × Int):List PD:=[.v (.int .i64 p.1),.v (.int .i64 p.2),.v (.bool (ofR (s.2 p) 6000).neg),.v (.string (ofR (s.2 p) 6000).num),.v (.string (ofR (s.2 p) 6000).den)]
def sx (s:KSt) (ks:List (Int × Int)):PD := .sl 5 (ks.map (lkC s))
theorem vG (s:KSt) (l:List (Int × Int)):(l.map fun p=>(lkC s p).map AV.d)=dI (l.map (lkC s)):=by rw [dI,List.map_map];rfl
section
variable {base:World} (hT:dJ base)
include hT
set_option maxRecDepth 100000 in
set_option maxHeartbeats 4000000 in
theorem vX {H:av} {l:Nat} (s:KSt) {M:Int} (hl:H[l]?=some (.mp 63 3 (.flat [.int .i64,.int .i64]) (kE s))) (hk:KOk s M) (hM:M≤1000000000000000) (hok:∀p∈s.1,okK p) (hlen:s.1.length≤1000000) :
  dt Tryz.prog base 38 [.mp l] H (.d (sx s (ba s.1))):=by
 refine cN af Tryz.call38 Tryz.func38 rfl fun hB hb hF => ?_
 rw [Tryz.results38,Tryz.ntmps38]
 simp only [ax,List.length_cons,List.length_nil,List.replicate,List.cons_append,List.nil_append,Nat.reduceAdd,Nat.reduceSub]
 clear hF hb
 repeat refine ag ?_
 refine zr af ?_
 repeat (refine aa ?_;first | (apply ai;rfl;simp only [aj,avs,tts,seval]<;>exact rr) | (refine zg rfl ?_;first | refine ah ?_ | refine zo ?_))
 refine ae ?_
 repeat refine ag ?_
 refine zr af ?_
 repeat (refine aa ?_;first | (apply ai;rfl;simp only [aj,avs,tts,seval]<;>exact rr) | (refine zg rfl ?_;first | refine ah ?_ | refine zo ?_))
 refine bQ rfl (by simp only [avs]<;>rfl) (⟨_,BK,?_⟩)
 rintro r H' ⟨rfl,tb,rfl⟩ hle
 have cs:=wY (base:=base) (H:=H++[.box tb [.mp l]]) (lb:=H.length) (tb:=tb) s (by rw [List.getElem?_append_left (aF hl)];exact hl) (by simp) hk.nd hok hlen
 simp only [BE] at cs
 repeat (refine aa ?_;first | (apply ai;rfl;simp only [aj,avs,tts,seval]<;>exact rr) | (refine zg rfl ?_;first | refine ah ?_ | refine zo ?_))
 refine zD rfl (cs) ?_
 repeat (refine aa ?_;first | (apply ai;rfl;simp only [aj,avs,tts,seval]<;>exact rr) | (refine zg rfl ?_;first | refine ah ?_ | refine zo ?_))
 refine ae ?_
 repeat refine ag ?_
 refine zr af ?_
 repeat (refine aa ?_;first | (apply ai;rfl;simp only [aj,avs,tts,seval]<;>exact rr) | (refine zg rfl ?_;first | refine ah ?_ | refine zo ?_))
 refine ae ?_
 obtain ⟨ks,hks⟩:∃ks,ba s.1=ks:=⟨_,rfl⟩
 have hkl:ks.length≤1000000:=by rw [←hks,ba,List.length_mergeSort];exact hlen
 rw [hks]
 have hpl:(ks.map prP).length=ks.length:=by simp
 have hperm:∀p∈ks,p∈s.1:=fun p hp=>(List.mergeSort_perm s.1 _).mem_iff.1 (by rw [←hks] at hp;exact hp)
 clear hks cs hle
 show AW _ _ _ _ _
 refine jq 4 42 5 rfl (by simp only [bi,bh]<;>rfl) ?_
 repeat' (first | (refine aa ?_;first | (refine zg rfl ?_;first | refine ah ?_ | refine zo ?_ | (refine zs ?_ ?_<;>intro hb<;>((try simp only [bn] at hb);first | subst hb | simp only [hb]))) | (apply ai;rfl;simp only [aj,avs,tts,seval,hpl]<;>exact rr)) | refine ae ?_ | (refine ak ?_;first | (refine yg rfl ?_;first | refine aq ?_ | refine yo ?_ | (refine ys ?_ ?_<;>intro hb<;>((try simp only [bn] at hb);first | subst hb | simp only [hb]))) | (apply ar;rfl;simp only [aB,avs,tts,seval,hpl]<;>exact rr;first | trivial | omega)) | refine al ?_ | refine ag ?_ | refine zr af ?_ | refine zR 0 af mixed ?_ | refine zR 1 af mixed ?_ | refine zR 2 af mixed ?_ | refine zR 3 af mixed ?_ | refine zf rfl rfl ?_ | refine zt rfl rfl ?_ | (refine an rfl rfl ?_ ?_<;>intro hb<;>((try simp only [bn] at hb);first | subst hb | simp only [hb])) | refine ap ?_ | refine au ?_ | refine am ?_)
 refine bc (H0:=H++[.box tb [.mp l],.row 42 5 0 []]) (fun n env H'=>∃k,n=ks.length - k∧k≤ks.length∧H'=H++[.box tb [.mp l],.row 42 5 0 ((ks.take k).map fun p=>(lkC s p).map AV.d)]∧env=(.mp l :: .undef :: .undef :: .undef :: .ms (H.length+1) 0 k::List.replicate 7 .undef ++ .d (.sl 2 (ks.map prP)) :: .d (.v (.int .i64 (ks.length:Int))) :: .d (.v (.int .i64 (k:Int)))::List.replicate 21 .undef)) ?_ ⟨0,rfl,Nat.zero_le _,by simp,rfl⟩ ?_
 ·exact ⟨by simp [aH,List.replicate],.inl (by simp)⟩
 rintro n env H' ⟨k,rfl,hk2,rfl,rfl⟩ hN
 simp only [rp]
 obtain ⟨c0,g0⟩:∃c0,decide ((k:Int)<(ks.length:Int))=c0:=⟨_,rfl⟩
 repeat refine ag ?_
 refine zr af ?_
 repeat (refine aa ?_;first | (apply ai;rfl;simp only [aj,avs,tts,seval,g0]<;>exact rr) | (refine zg rfl ?_;first | refine ah ?_ | refine zo ?_))
 refine ae ?_
 cases c0 with
 | true =>
  have hlt:k<ks.length:=by simpa using g0
  have hix:(0:Int)≤(k:Int):=by omega
  have hgd:(ks.map prP).getD k []=[.v (.int .i64 ks[k].1),.v (.int .i64 ks[k].2)]:=by
   rw [List.getD_eq_getElem?_getD,List.getElem?_map,List.getElem?_eq_getElem hlt];rfl
  have hin:ks[k]∈s.1:=hperm _ (List.getElem_mem hlt)
  have hgt:(iD (kE s) (.agg #[.int .i64 ks[k].1,.int .i64 ks[k].2])).getD (.d (.v (.int .i64 0))) = .d (.v (.int .i64 (s.2 ks[k]))):=gc sJ (k:=ks[k]) fun h=>absurd hin h
  have hlo:=hk.lo ks[k]
  have hhi:=hk.hi ks[k]
  have co:=EO (base:=base) hT (s.2 ks[k]) 6000 (by omega) (by omega) (by omega) (by omega)
  have hsn:((ks.take k).map fun p=>(lkC s p).map AV.d)++[(lkC s ks[k]).map AV.d]=(ks.take (k+1)).map fun p=>(lkC s p).map AV.d:=by
   rw [List.take_add_one,List.getElem?_eq_getElem hlt,List.map_append];rfl
  have hln:((ks.take k).map fun p=>(lkC s p).map AV.d).length=k:=by simp;omega
  have w1:IntKind.i64.wrap ((k:Int)+1)=((k+1:Nat):Int):=aP hlt (by omega)
  have d1:k+1≤9223372036854775807:=by omega
  have d2:(k+1) * 56≤140737488355328:=by omega
  have hl2:∀G:av,(H++G)[l]?=some (.mp 63 3 (.flat [.int .i64,.int .i64]) (kE s)):=fun G=>by rw [List.getElem?_append_left (aF hl)];exact hl
  have ksh:bu (.flat [.int .i64,.int .i64]) (.agg #[.int .i64 ks[k].1,.int .i64 ks[k].2])=true:=rfl
  obtain ⟨r,hr⟩:∃r,ofR (s.2 ks[k]) 6000=r:=⟨_,rfl⟩
  rw [hr] at co
  have hbl:∀n,(aT.row 42 5 0 ((ks.take (k+1)).map fun p=>(lkC s p).map AV.d)).bel n:=fun n=>by rw [vG];exact lL _
  generalize ((ks.take k).map fun p=>(lkC s p).map AV.d)=rows at hsn hln ⊢
  obtain ⟨rows2,hr2⟩:∃rows2,((ks.take (k+1)).map fun p=>(lkC s p).map AV.d)=rows2:=⟨_,rfl⟩
  rw [hr2] at hsn hbl
  simp only [lkC,hr,List.map_cons,List.map_nil] at hsn
  obtain ⟨x,hx⟩:∃x,ks[k]=x:=⟨_,rfl⟩
  rw [hx] at hgd hgt co hsn ksh
  obtain ⟨x1,x2⟩:=x
  obtain ⟨rn,ru,rd⟩:=r
  simp only [cP,tA,iA] at co hgd hgt hsn ksh
  repeat' (first | (refine aa ?_;first | (refine zg rfl ?_;first | refine ah ?_ | refine zo ?_ | (refine zs ?_ ?_<;>intro hb<;>((try simp only [bn] at hb);first | subst hb | simp only [hb]))) | (apply ai;rfl;simp only [aj,avs,tts,seval,hix,hlt,hgd,hpl,hgt,hln,w1,d1,d2,ksh,got hl]<;>exact rr) | (refine za rfl ?_;refine zp (co) ?_)) | refine ae ?_ | (refine ak ?_;first | (refine yg rfl ?_;first | refine aq ?_ | refine yo ?_ | (refine ys ?_ ?_<;>intro hb<;>((try simp only [bn] at hb);first | subst hb | simp only [hb]))) | (apply ar;rfl;simp only [aB,avs,tts,seval,hix,hlt,hgd,hpl,hgt,hln,w1,d1,d2,ksh,got hl]<;>exact rr;first | trivial | omega) | (refine ya rfl ?_;refine yp (co) ?_)) | refine al ?_ | refine ag ?_ | refine zr af ?_ | refine zR 0 af mixed ?_ | refine zR 1 af mixed ?_ | refine zR 2 af mixed ?_ | refine zR 3 af mixed ?_ | refine zf rfl rfl ?_ | refine zt rfl rfl ?_ | (refine an rfl rfl ?_ ?_<;>intro hb<;>((try simp only [bn] at hb);first | subst hb | simp only [hb])) | refine ap ?_ | refine au ?_ | refine am ?_)
  rw [hsn]
  refine ⟨ks.length - (k+1),_,H++[.box tb [.mp l],.row 42 5 0 rows2],by omega,⟨?_,.inr ⟨by simp,?_,.more hB (.cons ?_ (.cons (hbl _) .nil)),[.box 63 [.d (.v (.int .i64 x1)),.d (.v (.int .i64 x2))],.box 40 [.d (.v (.bool rn)),.d (.v (.string ru)),.d (.v (.string rd))],.row 42 5 0 [[.d (.v (.int .i64 x1)),.d (.v (.int .i64 x2)),.d (.v (.bool rn)),.d (.v (.string ru)),.d (.v (.string rd))]]],by simp⟩⟩,k+1,rfl,hlt,by rw [hr2],rfl⟩
  ·simp [aH,List.replicate]
  ·have:=aF hl
   simp [aY,AV.bel,List.replicate];omega
  ·have:=aF hl
   simp [aT.bel,aY,AV.bel];omega
 | false =>
  have he:k=ks.length:=by
                 have:¬k<ks.length:=by simpa using g0
                 omega
  subst he
  rw [List.take_length]
  repeat' (first | (refine aa ?_;first | (refine zg rfl ?_;first | refine ah ?_ | refine zo ?_ | (refine zs ?_ ?_<;>intro hb<;>((try simp only [bn] at hb);first | subst hb | simp only [hb]))) | (apply ai;rfl;simp only [aj,avs,tts,seval]<;>exact rr)) | refine ae ?_ | (refine ak ?_;first | (refine yg rfl ?_;first | refine aq ?_ | refine yo ?_ | (refine ys ?_ ?_<;>intro hb<;>((try simp only [bn] at hb);first | subst hb | simp only [hb]))) | (apply ar;rfl;simp only [aB,avs,tts,seval]<;>exact rr;first | trivial | omega)) | refine al ?_ | refine ag ?_ | refine zr af ?_ | refine zR 0 af mixed ?_ | refine zR 1 af mixed ?_ | refine zR 2 af mixed ?_ | refine zR 3 af mixed ?_ | refine zf rfl rfl ?_ | refine zt rfl rfl ?_ | (refine an rfl rfl ?_ ?_<;>intro hb<;>((try simp only [bn] at hb);first | subst hb | simp only [hb])) | refine ap ?_ | refine au ?_ | refine am ?_)
  refine aw ⟨_,rfl,_,rfl,?_⟩
  have hu:unI (ks.map fun p=>(lkC s p).map AV.d)=some (ks.map (lkC s)):=by rw [vG];exact bt _
  simp [bL,hu,sx]
end
end Av
end Go.Proofs.YtdekcppfpgeneaaGreatDoor
namespace Go.Proofs.YtdekcppfpgeneaaGreatDoor
open Go Go.RowKit
namespace Av
open Nt Rg
theorem ew {ix:ByteArray→Int} {company:ByteArray} {pc:Int} (h0:0≤pc) (h1:pc≤100) {n:Nat}:∀(who:List ByteArray),(0<n∨who=[])→∀{s:KSt} {M:Int},KOk s M→KOk (who.foldl (bK ix company pc n) s) (M+6000 * who.length)
 | [],_,s,M,h=>by simpa using h
 | x::r,hn,s,M,h=>by
  have hn':0<n:=by rcases hn with h | h;exact h;cases h
  have:=ew (ix:=ix) (company:=company) h0 h1 r (.inl hn') (nk (ix:=ix) (company:=company) (x:=x) h0 h1 hn' h)
  rw [List.foldl_cons]
  have e:M+6000 * ((x::r).length:Int)=M+6000+6000 * (r.length:Int):=by simp;omega
  rw [e];exact this
theorem kW {ix:ByteArray→Int} {company:ByteArray} {pc:Int} (h0:0≤pc) (h1:pc≤100) (who:List ByteArray) {s:KSt} {M:Int} (h:KOk s M):KOk (eK ix company pc who s) (M+6000 * who.length) :=
 ew h0 h1 who (by cases who with | nil=>exact .inr rfl | cons a r=>exact .inl (by simp)) h
theorem jG (ix:ByteArray→Int) (company:ByteArray) (pc:Int) (who:List ByteArray) (s:KSt):(eK ix company pc who s).1.length≤s.1.length+who.length:=by
 have main:∀(n:Nat) (l:List ByteArray) (s:KSt),(l.foldl (bK ix company pc n) s).1.length≤s.1.length+l.length:=fun n l=>by
  induction l with
  | nil=>intro s;simp
  | cons x r ih =>
   intro s
   rw [List.foldl_cons]
   have h1:=ih (bK ix company pc n s x)
   have h2:=kS ix company x pc n s
   rw [List.length_cons];omega
 exact main _ who s
def dK (h:Hd):List ByteArray:=if h.nominee=emp then h.holder::h.joint else [h.nominee]
def dV (h:Hd):List ByteArray:=if h.pledged=emp then dK h else [h.pledged]
def stC (ix:ByteArray→Int) (day:Int) (s:KSt) (h:Hd):KSt:=if bW h day=true then eK ix h.company h.capital (dK h) s else s
def stV (ix:ByteArray→Int) (day:Int) (s:KSt) (h:Hd):KSt:=if bW h day=true then eK ix h.company h.votes (dV h) s else s
def ez:KSt:=([],fun _=>0)
theorem mP:KOk ez 0:=⟨List.nodup_nil,fun _ _=>rfl,fun _=>Int.le_refl _,fun _=>Int.le_refl _⟩
def cV (ix:ByteArray→Int) (day:Int) (l:List Hd):KSt:=l.foldl (stC ix day) ez
def cW (ix:ByteArray→Int) (day:Int) (l:List Hd):KSt:=l.foldl (stV ix day) ez
theorem lG (ix:ByteArray→Int) (day:Int) (l:List Hd) (h:Hd):cV ix day (l++[h])=stC ix day (cV ix day l) h:=by simp [cV]
theorem kL (ix:ByteArray→Int) (day:Int) (l:List Hd) (h:Hd):cW ix day (l++[h])=stV ix day (cW ix day l) h:=by simp [cW]
theorem jO {h:Hd} (hj:h.joint.length≤1000):(dK h).length≤1001:=by
 unfold dK;split<;>simp;omega
theorem m6 {h:Hd} (hj:h.joint.length≤1000):(dV h).length≤1001:=by
 unfold dV;split
 ·exact jO hj
 ·simp
theorem kk {s:KSt} {M M':Int} (h:KOk s M) (hM:M≤M'):KOk s M':=⟨h.nd,h.out,h.lo,fun k=>Int.le_trans (h.hi k) hM⟩
theorem mW (ix:ByteArray→Int) (day:Int) (l:List Hd) (hp:∀h∈l,0≤h.capital∧h.capital≤100) (hj:∀h∈l,h.joint.length≤1000) (n:Nat) (hn:n≤l.length):KOk (cV ix day (l.take n)) (6006000 * n)∧(cV ix day (l.take n)).1.length≤1001 * n:=by
 induction n with
 | zero=>exact ⟨by simpa [cV] using mP,by simp [cV,ez]⟩
 | succ n ih =>
  obtain ⟨h1,h2⟩:=ih (by omega)
  have hm:=List.getElem_mem (show n<l.length by omega)
  have hw:=jO (hj _ hm)
  rw [List.take_add_one,List.getElem?_eq_getElem (show n<l.length by omega),Option.toList_some,lG]
  unfold stC
  split
  ·have k1:=kW (ix:=ix) (company:=l[n].company) (hp _ hm).1 (hp _ hm).2 (dK l[n]) h1
   have k2:=jG ix l[n].company l[n].capital (dK l[n]) (cV ix day (l.take n))
   exact ⟨kk k1 (by omega),by omega⟩
  ·exact ⟨kk h1 (by omega),by omega⟩
theorem mG (ix:ByteArray→Int) (day:Int) (l:List Hd) (hp:∀h∈l,0≤h.votes∧h.votes≤100) (hj:∀h∈l,h.joint.length≤1000) (n:Nat) (hn:n≤l.length):KOk (cW ix day (l.take n)) (6006000 * n)∧(cW ix day (l.take n)).1.length≤1001 * n:=by
 induction n with
 | zero=>exact ⟨by simpa [cW] using mP,by simp [cW,ez]⟩
 | succ n ih =>
  obtain ⟨h1,h2⟩:=ih (by omega)
  have hm:=List.getElem_mem (show n<l.length by omega)
  have hw:=m6 (hj _ hm)
  rw [List.take_add_one,List.getElem?_eq_getElem (show n<l.length by omega),Option.toList_some,kL]
  unfold stV
  split
  ·have k1:=kW (ix:=ix) (company:=l[n].company) (hp _ hm).1 (hp _ hm).2 (dV l[n]) h1
   have k2:=jG ix l[n].company l[n].votes (dV l[n]) (cW ix day (l.take n))
   exact ⟨kk k1 (by omega),by omega⟩
  ·exact ⟨kk h1 (by omega),by omega⟩
def ixS (l:List ByteArray) (x:ByteArray):Int:=((l.findIdx fun y=>decide (y=x)):Nat)
theorem si {base:World} {H:av} (ps:List ByteArray) (hp:ps.Pairwise fun a b=>leT a b=true) (hnd:ps.Nodup) {x:ByteArray} (hx:x∈ps) {lb:Nat} {c v:AV} (hbx:H[lb]?=some (.box 25 [.d (aN ps),c,v])) (hl:ps.length≤1000000):dt Tryz.prog base 34 [tA x,.ptr lb 0] H (iA (ixS ps x)):=by
 have hi0:(ps.findIdx fun y=>decide (y=x))<ps.length:=List.findIdx_lt_length_of_exists ⟨x,hx,by simp⟩
 have he0:ps[ps.findIdx fun y=>decide (y=x)]=x:=by simpa using List.findIdx_getElem (w:=hi0)
 unfold ixS
 generalize (ps.findIdx fun y=>decide (y=x))=ii at hi0 he0 ⊢
 have hi:=hi0
 have he:=he0
 refine BF base ps x hbx hl ii hi he (fun j hj hlt => ?_) (fun j hj hle => ?_)
 ·have h1:=List.pairwise_iff_getElem.1 hp j ii hj hi hlt
  rw [he] at h1
  refine gQ.2 ⟨h1,fun e => ?_⟩
  exact List.pairwise_iff_getElem.1 hnd j ii hj hi hlt (by rw [he];exact e)
 ·cases hc:ltT ps[j] x with
  | false=>rfl
  | true =>
   exfalso
   obtain ⟨h2,h3⟩:=gQ.1 hc
   rcases Nat.lt_or_ge ii j with h4 | h4
   ·have h1:=List.pairwise_iff_getElem.1 hp ii j hi hj h4
    rw [he] at h1
    exact h3 (gS h2 h1)
   ·have:j=ii:=by omega
    subst this
    exact h3 he
end Av
end Go.Proofs.YtdekcppfpgeneaaGreatDoor
namespace Go.Proofs.YtdekcppfpgeneaaGreatDoor
open Go Go.RowKit Go.Sort Go.Shelf Go.Lib
namespace Rg
open Av Nt
def fe (ix:ByteArray→Int) (company:ByteArray) (pc:Int) (k:Int × Int) (x:ByteArray):Bool:=decide (pc>0∧x≠company∧(ix company,ix x)=k)
def jC (ix:ByteArray→Int) (company:ByteArray) (pc:Int) (who:List ByteArray) (k:Int × Int):Int:=bH (fe ix company pc k) (fun _=>(pc * 60).tdiv who.length) who
theorem lx (ix:ByteArray→Int) (company:ByteArray) (pc:Int) (n:Nat) (k:Int × Int):∀(who:List ByteArray) (s:KSt),(who.foldl (bK ix company pc n) s).2 k=s.2 k+bH (fe ix company pc k) (fun _=>(pc * 60).tdiv n) who
 | [],s=>by simp [bH]
 | x::r,s=>by
  rw [List.foldl_cons,lx ix company pc n k r]
  simp only [bH]
  have:(bK ix company pc n s x).2 k=s.2 k+(if fe ix company pc k x=true then (pc * 60).tdiv n else 0):=by
   unfold bK fe
   by_cases h:pc>0∧x≠company
   ·rw [if_pos h]
    unfold dR
    by_cases e:k=(ix company,ix x)
    ·subst e
     simp [h.1,h.2]
    ·simp only [decide_eq_true_eq]
     rw [if_neg e,if_neg (fun h'=>e h'.2.2.symm)];omega
   ·rw [if_neg h]
    simp only [decide_eq_true_eq]
    rw [if_neg (fun h'=>h ⟨h'.1,h'.2.1⟩)];omega
  rw [this];omega
theorem uh (ix:ByteArray→Int) (company:ByteArray) (pc:Int) (who:List ByteArray) (s:KSt) (k:Int × Int):(eK ix company pc who s).2 k=s.2 k+jC ix company pc who k:=lx ..
theorem pV (ix:ByteArray→Int) (company:ByteArray) (pc:Int) (n:Nat) (k:Int × Int):∀(who:List ByteArray) (s:KSt),k∈(who.foldl (bK ix company pc n) s).1↔k∈s.1∨∃x∈who,fe ix company pc k x=true
 | [],s=>by simp
 | x::r,s=>by
  rw [List.foldl_cons,pV ix company pc n k r]
  have:k∈(bK ix company pc n s x).1↔k∈s.1∨fe ix company pc k x=true:=by
   unfold bK fe
   by_cases h:pc>0∧x≠company
   ·rw [if_pos h]
    show k∈cF s.1 (ix company,ix x)↔_
    rw [eV,decide_eq_true_eq]
    constructor
    ·rintro (h1 | h1)
     ·exact .inl h1
     ·exact .inr ⟨h.1,h.2,h1.symm⟩
    ·rintro (h1 | h1)
     ·exact .inl h1
     ·exact .inr h1.2.2.symm
   ·rw [if_neg h,decide_eq_true_eq]
    constructor
    ·exact .inl
    ·rintro (h1 | h1)
     ·exact h1
     ·exact absurd ⟨h1.1,h1.2.1⟩ h
  rw [this]
  simp only [List.mem_cons,exists_eq_or_imp,or_assoc]
theorem rR {ix:ByteArray→Int} {company:ByteArray} {pc:Int} {n:Nat} {s:KSt} {x:ByteArray} (h:s.1.Nodup):(bK ix company pc n s x).1.Nodup:=by
 unfold bK
 split
 ·exact dY h _
 ·exact h
theorem mh {ix:ByteArray→Int} {company:ByteArray} {pc:Int} {n:Nat}:∀(who:List ByteArray) {s:KSt},s.1.Nodup→(who.foldl (bK ix company pc n) s).1.Nodup
 | [],s,h=>h
 | x::r,s,h=>by rw [List.foldl_cons];exact mh r (rR h)
def eI (pc:Hd→Int) (who:Hd→List ByteArray) (ix:ByteArray→Int) (day:Int) (s:KSt) (h:Hd):KSt:=if bW h day=true then eK ix h.company (pc h) (who h) s else s
theorem Bt:stC=eI Hd.capital dK:=rfl
theorem Bs:stV=eI Hd.votes dV:=rfl
section
variable (pc:Hd→Int) (who:Hd→List ByteArray) (ix:ByteArray→Int) (day:Int)
theorem mJ (k:Int × Int):∀(l:List Hd) (s:KSt),(l.foldl (eI pc who ix day) s).2 k=s.2 k+bH (fun h=>bW h day) (fun h=>jC ix h.company (pc h) (who h) k) l
 | [],s=>by simp [bH]
 | h::r,s=>by
  rw [List.foldl_cons,mJ k r]
  simp only [bH]
  unfold eI
  by_cases e:bW h day=true
  ·rw [if_pos e,if_pos e,uh];omega
  ·rw [if_neg e,if_neg e];omega
theorem qB (k:Int × Int):∀(l:List Hd) (s:KSt),k∈(l.foldl (eI pc who ix day) s).1↔k∈s.1∨∃h∈l,bW h day=true∧∃x∈who h,fe ix h.company (pc h) k x=true
 | [],s=>by simp
 | h::r,s=>by
  rw [List.foldl_cons,qB k r]
  have:k∈(eI pc who ix day s h).1↔k∈s.1∨(bW h day=true∧∃x∈who h,fe ix h.company (pc h) k x=true):=by
   unfold eI
   by_cases e:bW h day=true
   ·rw [if_pos e,eK,pV];simp [e]
   ·rw [if_neg e];simp [e]
  rw [this]
  simp only [List.mem_cons,exists_eq_or_imp,or_assoc]
theorem kU:∀(l:List Hd) {s:KSt},s.1.Nodup→(l.foldl (eI pc who ix day) s).1.Nodup
 | [],s,h=>h
 | h::r,s,hs=>by
  rw [List.foldl_cons]
  refine kU r ?_
  unfold eI
  split
  ·exact mh _ hs
  ·exact hs
end
theorem uU (ix:ByteArray→Int) (day:Int) (l:List Hd):(cV ix day l).1.Nodup:=kU _ _ ix day l List.nodup_nil
theorem tZ (ix:ByteArray→Int) (day:Int) (l:List Hd):(cW ix day l).1.Nodup:=kU _ _ ix day l List.nodup_nil
def FX (ix:ByteArray→Int) (day:Int) (l:List Hd) (k:Int × Int):Int:=bH (fun h=>bW h day) (fun h=>jC ix h.company h.capital (dK h) k) l
def Fm (ix:ByteArray→Int) (day:Int) (l:List Hd) (k:Int × Int):Int:=bH (fun h=>bW h day) (fun h=>jC ix h.company h.votes (dV h) k) l
theorem AY (ix:ByteArray→Int) (day:Int) (l:List Hd) (k:Int × Int):(cV ix day l).2 k=FX ix day l k:=by
 have:=mJ Hd.capital dK ix day k l ez
 rw [show ez.2 k=0 from rfl,Int.zero_add] at this
 exact this
theorem yq (ix:ByteArray→Int) (day:Int) (l:List Hd) (k:Int × Int):(cW ix day l).2 k=Fm ix day l k:=by
 have:=mJ Hd.votes dV ix day k l ez
 rw [show ez.2 k=0 from rfl,Int.zero_add] at this
 exact this
theorem tH (ix:ByteArray→Int) (day:Int) (l:List Hd) (k:Int × Int):k∈(cV ix day l).1↔∃h∈l,bW h day=true∧∃x∈dK h,fe ix h.company h.capital k x=true:=by
 have:=qB Hd.capital dK ix day k l ez
 rw [show (k∈ez.1)=False by simp [ez],false_or] at this
 exact this
theorem rG (ix:ByteArray→Int) (day:Int) (l:List Hd) (k:Int × Int):k∈(cW ix day l).1↔∃h∈l,bW h day=true∧∃x∈dV h,fe ix h.company h.votes k x=true:=by
 have:=qB Hd.votes dV ix day k l ez
 rw [show (k∈ez.1)=False by simp [ez],false_or] at this
 exact this
def leK (x y:Int × Int):Prop:=x.1<y.1∨(x.1=y.1∧x.2≤y.2)
theorem zV (a b:Int × Int) (h:leK a b) (k:leK b a):a=b:=by
 obtain ⟨a1,a2⟩:=a;obtain ⟨b1,b2⟩:=b
 simp only [leK] at h k
 have:a1=b1:=by omega
 have:a2=b2:=by omega
 simp [*]
theorem sortK_perm (l:List (Int × Int)):(ba l).Perm l:=List.mergeSort_perm ..
theorem gK (l:List (Int × Int)):(ba l).Pairwise leK:=by
 have h:=List.pairwise_mergeSort (le:=fun x y => !ltOf iM y x) (fun a b c h1 h2=>by
  simp only [Bool.not_eq_true',dN] at *;omega) (fun a b=>by
  cases h:ltOf iM b a
  ·rfl
  ·have h':=(ltK b a).1 h
   simp only [Bool.not_true,Bool.false_or,Bool.not_eq_true',dN];omega) l
 refine h.imp fun {a b} h => ?_
 simp only [Bool.not_eq_true',dN] at h
 unfold leK;omega
theorem dM {l:List (Int × Int)} {k:Int × Int}:k∈ba l↔k∈l:=(sortK_perm l).mem_iff
theorem iu {l:List (Int × Int)} (h:l.Nodup):(ba l).Nodup:=(sortK_perm l).nodup_iff.2 h
theorem rU {l m:List (Int × Int)} (hl:l.Nodup) (hm:m.Nodup) (hs:m.Pairwise leK) (h:∀x,x∈l↔x∈m):ba l=m :=
 fL zV (gK l) hs (iu hl) hm fun x=>dM.trans (h x)
end Rg
end Go.Proofs.YtdekcppfpgeneaaGreatDoor
namespace Go.Proofs.YtdekcppfpgeneaaGreatDoor
open Go Go.RowKit
namespace Rg
open Av Nt
instance:DecidableEq Rt:=fun a b=>decidable_of_iff (a.neg=b.neg∧a.num=b.num∧a.den=b.den) (by
 cases a;cases b;simp)
structure Lk where
 company:Int
 holder:Int
 part:Rt
instance:DecidableEq Lk:=fun a b=>decidable_of_iff (a.company=b.company∧a.holder=b.holder∧a.part=b.part) (by
 cases a;cases b;simp)
structure Str where
 parties:List ByteArray
 capital:List Lk
 votes:List Lk
instance:DecidableEq Str:=fun a b=>decidable_of_iff (a.parties=b.parties∧a.capital=b.capital∧a.votes=b.votes) (by
 cases a;cases b;simp)
instance:DecidableEq Hd:=fun a b=>decidable_of_iff (a.id=b.id∧a.company=b.company∧a.holder=b.holder∧a.nominee=b.nominee∧a.pledged=b.pledged∧a.joint=b.joint∧a.capital=b.capital∧a.votes=b.votes∧a.fr=b.fr∧a.til=b.til) (by
 cases a;cases b;simp)
def lkP (x:Lk):List PD:=[.v (.int .i64 x.company),.v (.int .i64 x.holder),.v (.bool x.part.neg),.v (.string x.part.num),.v (.string x.part.den)]
def lkL (x:Lk):List AV:=[.d (.v (.int .i64 x.company)),.d (.v (.int .i64 x.holder)),.d (.v (.bool x.part.neg)),.d (.v (.string x.part.num)),.d (.v (.string x.part.den))]
def jv (l:List Lk):PD := .sl 5 (l.map lkP)
def yL (s:Str):List AV:=[.d (aN s.parties),.d (jv s.capital),.d (jv s.votes)]
def qz (s:Str):AV := .agg (yL s)
def jw (s:KSt) (p:Int × Int):Lk:=⟨p.1,p.2,ofR (s.2 p) 6000⟩
theorem mR (s:KSt) (ks:List (Int × Int)):sx s ks=jv (ks.map (jw s)):=by
 unfold sx jv
 rw [List.map_map];rfl
def cq (s:KSt):List Lk:=(ba s.1).map (jw s)
def atS (l:List Hd) (day:Int):Str:=if br l&&eR day then ⟨ay l,cq (cV (ixS (ay l)) day l),cq (cW (ixS (ay l)) day l)⟩ else ⟨[],[],[]⟩
def atE (l:List Hd) (day:Int):Int:=if br l&&eR day then 0 else 1
theorem DD (x y:Lk):eqL [.int .i64 x.company,.int .i64 x.holder,.bool x.part.neg,.string x.part.num,.string x.part.den] [.int .i64 y.company,.int .i64 y.holder,.bool y.part.neg,.string y.part.num,.string y.part.den]=decide (x=y):=by
 obtain ⟨a,b,c,d,e⟩:=x
 obtain ⟨f,g,h,i,j⟩:=y
 simp only [eqL,eqV,Lk.mk.injEq,Rt.mk.injEq]
 by_cases h1:a=f<;>by_cases h2:b=g<;>by_cases h3:c=h<;>by_cases h4:d=i<;>by_cases h5:e=j<;>simp [h1,h2,h3,h4,h5]
theorem nQ {l:List Lk} {k:Nat} (h:k<l.length):(l.map lkP).getD k []=lkP l[k]:=by simp [h]
def oV (h:Hd):Bool:=decide (h.id.size≤60)&&(decide (h.company.size≤60)&&(decide (h.holder.size≤60)&&(decide (h.nominee.size≤60)&&(decide (h.pledged.size≤60)&&decide (h.joint.length≤10)))))
def lE (h:Hd):Bool:=h.joint.all fun s=>decide (s.size≤60)
def lD (n:Int) (l:List Hd):Bool:=decide ((l.length:Int)≤n)&&l.all fun h=>oV h&&lE h
theorem DC {n:Int} {l:List Hd} {k:Nat} (hk:k<l.length) (h:(oV l[k]&&lE l[k])=false):lD n l=false:=by
 unfold lD
 have:(l.all fun h=>oV h&&lE h)=false:=by
  rw [List.all_eq_false];exact ⟨_,List.getElem_mem hk,by simp [h]⟩
 rw [this,Bool.and_false]
theorem BV {h:Hd} {j:Nat} (hj:j<h.joint.length) (e:¬h.joint[j].size≤60):lE h=false:=by
 unfold lE
 rw [List.all_eq_false];exact ⟨_,List.getElem_mem hj,by simpa using e⟩
theorem lC {n:Int} {l:List Hd} (h:lD n l=true):(l.length:Int)≤n∧∀x∈l,Small x∧x.joint.length≤10:=by
 unfold lD at h
 simp only [Bool.and_eq_true,decide_eq_true_eq] at h
 refine ⟨h.1,fun x hx => ?_⟩
 have:=List.all_eq_true.1 h.2 x hx
 unfold oV lE at this
 simp only [Bool.and_eq_true,decide_eq_true_eq] at this
 obtain ⟨⟨a,b,c,d,e,f⟩,g⟩:=this
 refine ⟨⟨by omega,by omega,by omega,by omega,by omega,fun t ht => ?_,by omega⟩,f⟩
 have:=List.all_eq_true.1 g t ht
 simp only [decide_eq_true_eq] at this
 omega
end Rg
end Go.Proofs.YtdekcppfpgeneaaGreatDoor
namespace Go.Proofs.YtdekcppfpgeneaaGreatDoor
open Go Go.RowKit
namespace Rg
open Av Nt
def AE (id:ByteArray) (d:Int) (h:Hd):Hd:=if h.id=id then { h with til:=d } else h
def uK (l:List Hd) (id:ByteArray) (d:Int):List Hd:=l.map (AE id d)
end Rg
end Go.Proofs.YtdekcppfpgeneaaGreatDoor
namespace Go.Proofs.YtdekcppfpgeneaaGreatDoor
open Go Go.RowKit
namespace Rg
open Av Nt
def iK (l:List Hd) (id:ByteArray) (d:Int):List Hd × Int :=
 if br l&&eR d then match l.find? (fun h=>decide (h.id=id)) with
  | none=>([],11)
  | some h=>if h.til = -1 then (if d≤h.fr then ([],14) else (uK l id d,0)) else ([],12)
 else ([],1)
end Rg
namespace Av
attribute [local irreducible] AW aQ aM
open Nt Rg
def hdI (h:Hd):List AV:=(hdC h).map AV.d
theorem Dw (l:List Hd):l.map hdI=dI (l.map hdC):=by rw [dI,List.map_map];rfl
theorem jf (l:List Hd):(l.map hdI).length=l.length:=List.length_map _
theorem qr (l:List Hd):unI (l.map hdI)=some (l.map hdC):=by rw [Dw];exact bt _
section
variable (base:World)
set_option maxRecDepth 100000 in
theorem tC {H:av} (l:List Hd) (hl:l.length≤1000000):bE Tryz.prog base 46 [.d (bM l)] H fun r H'=>r = .ms H.length 0 l.length∧H'=H++[.row 36 10 0 (l.map hdI)]:=by
 refine bV af Tryz.call46 Tryz.func46 rfl fun hB hb hF => ?_
 rw [Tryz.results46,Tryz.ntmps46]
 simp only [ax,List.length_cons,List.length_nil,List.replicate,List.cons_append,List.nil_append,Nat.reduceAdd,Nat.reduceSub]
 clear hF hb
 have la:=bY l
 simp only [bM]
 repeat refine ag ?_
 refine zr af ?_
 repeat (refine aa ?_;first | (apply ai;rfl;simp only [aj,avs,tts,seval]<;>exact rr) | (refine zg rfl ?_;first | refine ah ?_ | refine zo ?_))
 refine ae ?_
 repeat refine ag ?_
 refine zr af ?_
 repeat (refine aa ?_;first | (apply ai;rfl;simp only [aj,avs,tts,seval]<;>exact rr) | (refine zg rfl ?_;first | refine ah ?_ | refine zo ?_))
 refine tO rfl rfl rfl rfl fun b hn=>ae ?_
 repeat refine ag ?_
 refine an rfl rfl (fun hb => ?_) fun hb => ?_
 ·have hnl:=hn (by simpa using hb)
  have hl0:l=[]:=by simpa using hnl
  subst hl0
  repeat refine ag ?_
  refine zr af ?_
  repeat (refine aa ?_;first | (apply ai;rfl;simp only [aj,avs,tts,seval]<;>exact rr) | (refine zg rfl ?_;first | refine ah ?_ | refine zo ?_))
  refine ae ?_
  refine jq 2 36 10 rfl (by simp only [bi,bh]<;>rfl) ?_
  exact aw ⟨_,rfl,rfl,rfl⟩
 ·refine ap ?_
  have b1:l.length≤9223372036854775807:=by omega
  have b2:l.length * 136≤140737488355328:=by omega
  have e1:List.map (fun it=>List.map AV.d it) (l.map hdC)=l.map hdI:=by rw [List.map_map];rfl
  repeat' (first | (refine aa ?_;first | (refine zg rfl ?_;first | refine ah ?_ | refine zo ?_ | (refine zs ?_ ?_<;>intro hb<;>((try simp only [bn] at hb);first | subst hb | simp only [hb]))) | (apply ai;rfl;simp only [aj,avs,tts,seval,la,b1,b2,e1]<;>exact rr)) | refine ae ?_ | (refine ak ?_;first | (refine yg rfl ?_;first | refine aq ?_ | refine yo ?_ | (refine ys ?_ ?_<;>intro hb<;>((try simp only [bn] at hb);first | subst hb | simp only [hb]))) | (apply ar;rfl;simp only [aB,avs,tts,seval,la,b1,b2,e1]<;>exact rr;first | trivial | omega)) | refine al ?_ | refine ag ?_ | refine zr af ?_ | refine zR 0 af mixed ?_ | refine zR 1 af mixed ?_ | refine zR 2 af mixed ?_ | refine zR 3 af mixed ?_ | refine zf rfl rfl ?_ | refine zt rfl rfl ?_ | (refine an rfl rfl ?_ ?_<;>intro hb<;>((try simp only [bn] at hb);first | subst hb | simp only [hb])) | refine ap ?_ | refine au ?_ | refine am ?_)
  show AW _ _ _ _ _
  exact aw ⟨_,rfl,rfl,rfl⟩
theorem sZ {l:List Hd} {id:ByteArray} {k:Nat} (h:l.findIdx? (fun h=>decide (h.id=id))=some k):∃hk:k<l.length,l[k].id=id∧l.find? (fun h=>decide (h.id=id))=some l[k]:=by
 have h0:=h
 rw [List.findIdx?_eq_some_iff_getElem] at h
 obtain ⟨hk,h1,h2⟩:=h
 refine ⟨hk,of_decide_eq_true h1,?_⟩
 rw [List.find?_eq_some_iff_getElem]
 exact ⟨h1,k,hk,rfl,fun j hj=>by simpa using h2 j hj⟩
theorem pW {l:List Hd} {id:ByteArray} (h:l.findIdx? (fun h=>decide (h.id=id))=none):l.find? (fun h=>decide (h.id=id))=none:=by
 rw [List.findIdx?_eq_none_iff] at h
 rw [List.find?_eq_none]
 intro x hx
 simpa using h x hx
theorem tg {l:List Hd} {id:ByteArray} {d:Int} {k:Nat} (hk:k<l.length) (hid:l[k].id=id) (hn:(l.map Hd.id).Nodup):uK l id d=l.set k { l[k] with til:=d }:=by
 apply List.ext_getElem (by simp [uK])
 intro i h1 h2
 simp only [uK,List.length_map] at h1
 simp only [uK,List.getElem_map,List.getElem_set]
 by_cases e:k=i
 ·subst e
  rw [if_pos rfl];unfold AE;rw [if_pos hid]
 ·rw [if_neg e]
  unfold AE
  rw [if_neg fun hx => ?_]
  have hp:=List.pairwise_iff_getElem.1 hn
  rcases Nat.lt_or_gt_of_ne e with h | h
  ·exact hp k i (by simpa using hk) (by simpa using h1) h (by simp only [List.getElem_map];rw [hid,hx])
  ·exact hp i k (by simpa using h1) (by simpa using hk) h (by simp only [List.getElem_map];rw [hid,hx])
theorem pg {l:List Hd} (h:br l=true):(l.map Hd.id).Nodup:=by
 unfold br at h
 simp only [Bool.and_eq_true,decide_eq_true_eq] at h
 exact h.1.2
set_option maxRecDepth 100000 in
set_option maxHeartbeats 4000000 in
theorem E5 (l:List Hd) (id:ByteArray) (d:Int) (hs:∀h∈l,Small h) (hj:∀h∈l,h.joint.length≤1000) (hl:l.length≤900):aJ Tryz.prog base 19 [.d (bM l),tA id,iA d] (.tup [.d (bM (iK l id d).1),iA (iK l id d).2]):=by
 have c1:=jY (base:=base) l hs hj hl
 have c2:=wz base d
 have c3:=Au (base:=base) l id
 refine aA af Tryz.call19 Tryz.func19 rfl fun H hB hb hF => ?_
 rw [Tryz.results19,Tryz.ntmps19]
 simp only [ax,List.length_cons,List.length_nil,List.replicate,List.cons_append,List.nil_append,Nat.reduceAdd,Nat.reduceSub]
 clear hF hb
 have la:=bY l
 unfold iK
 simp only [iA,tA,boA,bM] at c1 c2 c3 ⊢
 obtain ⟨bv,hbv⟩:∃b,br l=b:=⟨_,rfl⟩
 obtain ⟨bd,hbd⟩:∃b,eR d=b:=⟨_,rfl⟩
 rw [hbv] at c1 ⊢
 rw [hbd] at c2 ⊢
 by_cases hvd:(bv&&bd)=true
 ·simp only [Bool.and_eq_true] at hvd
  obtain ⟨rfl,rfl⟩:=hvd
  simp only [Bool.and_true,if_true]
  have hnd:=pg hbv
  cases hfi:l.findIdx? (fun h=>decide (h.id=id)) with
  | none =>
   rw [pW hfi]
   have hI:cE l id = -1:=by unfold cE;rw [hfi]
   rw [hI] at c3
   repeat' (first | (refine aa ?_;first | (refine zg rfl ?_;first | refine ah ?_ | refine zo ?_ | (refine zs ?_ ?_<;>intro hb<;>((try simp only [bn] at hb);first | subst hb | simp only [hb]))) | (apply ai;rfl;simp only [aj,avs,tts,seval,la]<;>exact rr) | (refine za rfl ?_;first | refine zp (c1) ?_ | refine zp (c2) ?_ | refine zp (c3) ?_)) | refine ae ?_ | (refine ak ?_;first | (refine yg rfl ?_;first | refine aq ?_ | refine yo ?_ | (refine ys ?_ ?_<;>intro hb<;>((try simp only [bn] at hb);first | subst hb | simp only [hb]))) | (apply ar;rfl;simp only [aB,avs,tts,seval,la]<;>exact rr;first | trivial | omega) | (refine ya rfl ?_;first | refine yp (c1) ?_ | refine yp (c2) ?_ | refine yp (c3) ?_)) | refine al ?_ | refine ag ?_ | refine zr af ?_ | refine zR 0 af mixed ?_ | refine zR 1 af mixed ?_ | refine zR 2 af mixed ?_ | refine zR 3 af mixed ?_ | refine zf rfl rfl ?_ | refine zt rfl rfl ?_ | (refine an rfl rfl ?_ ?_<;>intro hb<;>((try simp only [bn] at hb);first | subst hb | simp only [hb])) | refine ap ?_ | refine au ?_ | refine am ?_)
   refine cL 6 10 rfl (by simp only [bi,bh]<;>rfl) ?_
   exact aw ⟨_,rfl,[],by simp,rfl⟩
  | some k =>
   obtain ⟨hk,hid,hf⟩:=sZ hfi
   have hI:cE l id=(k:Int):=by unfold cE;rw [hfi]
   rw [hI] at c3
   rw [hf,tg hk hid hnd]
   have hix:(0:Int)≤(k:Int):=by omega
   have hix2:decide ((k:Int)<0)=false:=decide_eq_false (by omega)
   have hgd:=dl hk
   have hgI:(l.map hdI)[k]?=some (hdI l[k]):=by rw [List.getElem?_map,List.getElem?_eq_getElem hk];rfl
   have hlI:=jf l
   have hset:∀y:Hd,(l.map hdI).set k (hdI y)=(l.set k y).map hdI:=fun y=>by rw [List.map_set]
   obtain ⟨h,hh⟩:∃h,l[k]=h:=⟨_,rfl⟩
   simp only [hh] at hgd hgI ⊢
   have hset2:=hset { h with til:=d }
   obtain ⟨hid',company,holder,nominee,pledged,joint,capital,votes,fr,til⟩:=h
   simp only at hset2 ⊢
   simp only [hdC] at hgd
   simp only [hdI,hdC,List.map_cons,List.map_nil] at hgI
   obtain ⟨ct,gt⟩:∃c,decide (til = -1)=c:=⟨_,rfl⟩
   obtain ⟨cf,gf⟩:∃c,decide (d≤fr)=c:=⟨_,rfl⟩
   have et:(til = -1)=(ct=true):=by rw [←gt];simp
   have ef:(d≤fr)=(cf=true):=by rw [←gf];simp
   simp only [et,ef]
   clear et ef hset
   repeat' (first | (refine aa ?_;first | (refine zg rfl ?_;first | refine ah ?_ | refine zo ?_ | (refine zs ?_ ?_<;>intro hb<;>((try simp only [bn] at hb);first | subst hb | simp only [hb]))) | (apply ai;rfl;simp only [aj,avs,tts,seval,la,hix,hix2,hk,hgd,gt,gf]<;>exact rr) | (refine za rfl ?_;first | refine zp (c1) ?_ | refine zp (c2) ?_ | refine zp (c3) ?_)) | refine ae ?_ | (refine ak ?_;first | (refine yg rfl ?_;first | refine aq ?_ | refine yo ?_ | (refine ys ?_ ?_<;>intro hb<;>((try simp only [bn] at hb);first | subst hb | simp only [hb]))) | (apply ar;rfl;simp only [aB,avs,tts,seval,la,hix,hix2,hk,hgd,gt,gf]<;>exact rr;first | trivial | omega) | (refine ya rfl ?_;first | refine yp (c1) ?_ | refine yp (c2) ?_ | refine yp (c3) ?_)) | refine al ?_ | refine ag ?_ | refine zr af ?_ | refine zR 0 af mixed ?_ | refine zR 1 af mixed ?_ | refine zR 2 af mixed ?_ | refine zR 3 af mixed ?_ | refine zf rfl rfl ?_ | refine zt rfl rfl ?_ | (refine an rfl rfl ?_ ?_<;>intro hb<;>((try simp only [bn] at hb);first | subst hb | simp only [hb])) | refine ap ?_ | refine au ?_ | refine am ?_)
   ·(try show AW _ _ _ _ _)
    refine cL 6 10 rfl (by simp only [bi,bh]<;>rfl) ?_
    exact aw ⟨_,rfl,[],by simp,rfl⟩
   ·(try show AW _ _ _ _ _)
    refine cL 6 10 rfl (by simp only [bi,bh]<;>rfl) ?_
    exact aw ⟨_,rfl,[],by simp,rfl⟩
   ·refine bQ rfl (by simp only [avs]<;>rfl) (⟨_,tC base l (by omega),?_⟩)
    rintro r H' ⟨rfl,rfl⟩ hle
    clear c1 c2 c3
    repeat' (first | (refine aa ?_;first | (refine zg rfl ?_;first | refine ah ?_ | refine zo ?_ | (refine zs ?_ ?_<;>intro hb<;>((try simp only [bn] at hb);first | subst hb | simp only [hb]))) | (apply ai;rfl;simp only [aj,avs,tts,seval,hlI,hix,hk,hgI]<;>exact rr)) | refine ae ?_ | (refine ak ?_;first | (refine yg rfl ?_;first | refine aq ?_ | refine yo ?_ | (refine ys ?_ ?_<;>intro hb<;>((try simp only [bn] at hb);first | subst hb | simp only [hb]))) | (apply ar;rfl;simp only [aB,avs,tts,seval,hlI,hix,hk,hgI]<;>exact rr;first | trivial | omega)) | refine al ?_ | refine ag ?_ | refine zr af ?_ | refine zR 0 af mixed ?_ | refine zR 1 af mixed ?_ | refine zR 2 af mixed ?_ | refine zR 3 af mixed ?_ | refine zf rfl rfl ?_ | refine zt rfl rfl ?_ | (refine an rfl rfl ?_ ?_<;>intro hb<;>((try simp only [bn] at hb);first | subst hb | simp only [hb])) | refine ap ?_ | refine au ?_ | refine am ?_)
    have hgD:(l.map hdI).getD k []=hdI ⟨hid',company,holder,nominee,pledged,joint,capital,votes,fr,til⟩:=by rw [List.getD_eq_getElem?_getD,hgI];rfl
    have e9:(l.map hdI).set k (List.take 9 ((l.map hdI).getD k []) ++ .d (.v (.int .i64 d))::List.drop 10 ((l.map hdI).getD k []))=(l.set k ⟨hid',company,holder,nominee,pledged,joint,capital,votes,fr,d⟩).map hdI:=by rw [hgD];exact hset2
    rw [e9]
    have hu:unI ((l.map hdI).set k (hdI ⟨hid',company,holder,nominee,pledged,joint,capital,votes,fr,d⟩))=some ((l.map hdC).set k (hdC ⟨hid',company,holder,nominee,pledged,joint,capital,votes,fr,d⟩)):=by rw [←List.map_set,←List.map_set];exact qr _
    show AW _ _ _ _ _
    refine aw ⟨_,rfl,_,rfl,?_⟩
    simp [bL,eU,hu]
 ·have hvd':(bv&&bd)=false:=by simpa using hvd
  rw [hvd']
  simp only [Bool.false_eq_true,if_false]
  clear hbv hbd hvd
  cases bv with
  | false =>
   repeat' (first | (refine aa ?_;first | (refine zg rfl ?_;first | refine ah ?_ | refine zo ?_ | (refine zs ?_ ?_<;>intro hb<;>((try simp only [bn] at hb);first | subst hb | simp only [hb]))) | (apply ai;rfl;simp only [aj,avs,tts,seval]<;>exact rr) | (refine za rfl ?_;first | refine zp (c1) ?_ | refine zp (c2) ?_)) | refine ae ?_ | (refine ak ?_;first | (refine yg rfl ?_;first | refine aq ?_ | refine yo ?_ | (refine ys ?_ ?_<;>intro hb<;>((try simp only [bn] at hb);first | subst hb | simp only [hb]))) | (apply ar;rfl;simp only [aB,avs,tts,seval]<;>exact rr;first | trivial | omega) | (refine ya rfl ?_;first | refine yp (c1) ?_ | refine yp (c2) ?_)) | refine al ?_ | refine ag ?_ | refine zr af ?_ | refine zR 0 af mixed ?_ | refine zR 1 af mixed ?_ | refine zR 2 af mixed ?_ | refine zR 3 af mixed ?_ | refine zf rfl rfl ?_ | refine zt rfl rfl ?_ | (refine an rfl rfl ?_ ?_<;>intro hb<;>((try simp only [bn] at hb);first | subst hb | simp only [hb])) | refine ap ?_ | refine au ?_ | refine am ?_)
   refine cL 6 10 rfl (by simp only [bi,bh]<;>rfl) ?_
   exact aw ⟨_,rfl,[],by simp,rfl⟩
  | true =>
   have:bd=false:=by simpa using hvd'
   subst this
   repeat' (first | (refine aa ?_;first | (refine zg rfl ?_;first | refine ah ?_ | refine zo ?_ | (refine zs ?_ ?_<;>intro hb<;>((try simp only [bn] at hb);first | subst hb | simp only [hb]))) | (apply ai;rfl;simp only [aj,avs,tts,seval]<;>exact rr) | (refine za rfl ?_;first | refine zp (c1) ?_ | refine zp (c2) ?_)) | refine ae ?_ | (refine ak ?_;first | (refine yg rfl ?_;first | refine aq ?_ | refine yo ?_ | (refine ys ?_ ?_<;>intro hb<;>((try simp only [bn] at hb);first | subst hb | simp only [hb]))) | (apply ar;rfl;simp only [aB,avs,tts,seval]<;>exact rr;first | trivial | omega) | (refine ya rfl ?_;first | refine yp (c1) ?_ | refine yp (c2) ?_)) | refine al ?_ | refine ag ?_ | refine zr af ?_ | refine zR 0 af mixed ?_ | refine zR 1 af mixed ?_ | refine zR 2 af mixed ?_ | refine zR 3 af mixed ?_ | refine zf rfl rfl ?_ | refine zt rfl rfl ?_ | (refine an rfl rfl ?_ ?_<;>intro hb<;>((try simp only [bn] at hb);first | subst hb | simp only [hb])) | refine ap ?_ | refine au ?_ | refine am ?_)
   refine cL 6 10 rfl (by simp only [bi,bh]<;>rfl) ?_
   exact aw ⟨_,rfl,[],by simp,rfl⟩
end
end Av
end Go.Proofs.YtdekcppfpgeneaaGreatDoor
namespace Go.Proofs.YtdekcppfpgeneaaGreatDoor
open Go Go.RowKit
namespace Av
attribute [local irreducible] AW aQ aM
open Nt Rg
theorem fS {n:Nat} {kt et:Nat} {ks:KS} (s:KSt):(aT.mp kt et ks (kE s)).bel n:=by
 show lM n (kE s)
 unfold kE mpE
 induction s.1 with
 | nil=>exact trivial
 | cons a r ih=>exact ⟨trivial,ih⟩
theorem mX {X:Ctx} {c y:Code} {Q Q2:Exit→List AV→av→Prop} {env:List AV} {H:av} (Q0:List AV→av→Prop) (h:AW X c (fun ex env' H'=>ex = .normal∧∃env1 H1 env0 H0,((∃l,cz H'[l]? l env'=env1∧H'.set l .dead=H1)∨(env'=env1∧H'=H1))∧mE X env1 H1 env0 H0∧Q0 env0 H0) env H) (k:∀env0 H0,Q0 env0 H0→AW X y Q2 env0 H0):AW X c (vp (fun env H=>AW X y Q2 env H) Q) env H :=
 h.mono fun ex env H ⟨e,env1,H1,env0,H0,f,g,q⟩=>by
  subst e
  rcases f with ⟨l,e1,e2⟩ | ⟨rfl,rfl⟩
  ·exact DK l e1 e2 (kF g (k _ _ q))
  ·exact kF g (k _ _ q)
theorem kd {t:ByteArray} (h:bx t=true):t≠⟨#[]⟩:=by
 unfold bx at h
 simp only [Bool.and_eq_true,Bool.not_eq_true',decide_eq_false_iff_not] at h
 exact h.2.1
theorem ux {h:Hd} (hp:aS h=true):∀x∈h.joint,bx x=true:=by
 unfold aS pr2 at hp
 simp only [Bool.and_eq_true] at hp
 exact fun x hx=>List.all_eq_true.1 hp.2.1.1 x hx
theorem ym {l:List Hd} {h:Hd} (hm:h∈l) (hp:aS h=true) {x:ByteArray} (hx:x=h.company∨x∈dK h∨x∈dV h):x∈ay l:=by
 rw [eA]
 have hc:x∈dK h→x∈bC h:=fun hx=>by
  unfold dK at hx
  split at hx
  ·rcases List.mem_cons.1 hx with rfl | hx
   ·simp [bC]
   ·have:=kd (ux hp _ hx)
    simp [bC,hx,this]
  ·rename_i hn
   simp only [List.mem_singleton] at hx
   subst hx
   have hn':h.nominee≠⟨#[]⟩:=hn
   simp [bC,hn']
 refine ⟨h,hm,?_⟩
 rcases hx with rfl | hx | hx
 ·simp [bC]
 ·exact hc hx
 ·unfold dV at hx
  split at hx
  ·exact hc hx
  ·rename_i hn
   simp only [List.mem_singleton] at hx
   subst hx
   have hn':h.pledged≠⟨#[]⟩:=hn
   simp [bC,hn']
theorem dw {l:List Hd} (h:br l=true):(∀x∈l,aS x=true)∧(ay l).length≤60:=by
 unfold br at h
 simp only [Bool.and_eq_true,decide_eq_true_eq] at h
 exact ⟨fun x hx=>List.all_eq_true.1 h.1.1 x hx,h.2.2.1⟩
theorem Dp (ps:List ByteArray) (x:ByteArray) (h:ps.length≤60):0≤ixS ps x∧ixS ps x≤60:=by
 unfold ixS
 have:=List.findIdx_le_length (xs:=ps) (p:=fun y=>decide (y=x))
 omega
def bD:AV := .d (.v (.slice none 0 0))
def Em (names:List ByteArray) (a b:PD):AV := .agg [.d (aN names),.d a,.d b]
def atA (l:List Hd) (day:Int):AV := .tup (if br l&&eR day then [Em (ay l) (sx (cV (ixS (ay l)) day l) (ba (cV (ixS (ay l)) day l).1)) (sx (cW (ixS (ay l)) day l) (ba (cW (ixS (ay l)) day l).1)),iA 0] else [.agg [bD,bD,bD],iA 1])
section
variable {base:World} (hT:dJ base)
include hT
set_option maxRecDepth 100000 in
set_option maxHeartbeats 8000000 in
theorem F1 (l:List Hd) (day:Int) (hs:∀h∈l,Small h) (hj:∀h∈l,h.joint.length≤1000) (hl:l.length≤900):aJ Tryz.prog base 13 [.d (bM l),iA day] (atA l day):=by
 have c1:=jY (base:=base) l hs hj hl
 have c2:=wz base day
 have c3:=ld (base:=base) l hs hj hl
 refine aA af Tryz.call13 Tryz.func13 rfl fun H hB hb hF => ?_
 rw [Tryz.results13,Tryz.ntmps13]
 simp only [ax,List.length_cons,List.length_nil,List.replicate,List.cons_append,List.nil_append,Nat.reduceAdd,Nat.reduceSub]
 clear hF hb
 simp only [iA,boA] at c1 c2 ⊢
 unfold atA
 obtain ⟨bv,hbv⟩:∃b,br l=b:=⟨_,rfl⟩
 obtain ⟨bd,hbd⟩:∃b,eR day=b:=⟨_,rfl⟩
 rw [hbv] at c1 ⊢
 rw [hbd] at c2 ⊢
 repeat' (first | (refine aa ?_;first | (refine zg rfl ?_;first | refine ah ?_ | refine zo ?_ | (refine zs ?_ ?_<;>intro hb<;>((try simp only [bn] at hb);first | subst hb | simp only [hb]))) | (apply ai;rfl;simp only [aj,avs,tts,seval,bY l]<;>exact rr) | (refine za rfl ?_;first | refine zp (c1) ?_ | refine zp (c2) ?_ | refine zp (c3) ?_)) | refine ae ?_ | (refine ak ?_;first | (refine yg rfl ?_;first | refine aq ?_ | refine yo ?_ | (refine ys ?_ ?_<;>intro hb<;>((try simp only [bn] at hb);first | subst hb | simp only [hb]))) | (apply ar;rfl;simp only [aB,avs,tts,seval,bY l]<;>exact rr;first | trivial | omega) | (refine ya rfl ?_;first | refine yp (c1) ?_ | refine yp (c2) ?_ | refine yp (c3) ?_)) | refine al ?_ | refine ag ?_ | refine zr af ?_ | refine zR 0 af mixed ?_ | refine zR 1 af mixed ?_ | refine zR 2 af mixed ?_ | refine zR 3 af mixed ?_ | refine zf rfl rfl ?_ | refine zt rfl rfl ?_ | (refine an rfl rfl ?_ ?_<;>intro hb<;>((try simp only [bn] at hb);first | subst hb | simp only [hb])) | refine ap ?_ | refine au ?_ | refine am ?_)
 ·show AW _ _ _ _ _
  refine aw ⟨.tup [.agg [.d (.v (.slice none 0 0)),.d (.v (.slice none 0 0)),.d (.v (.slice none 0 0))],.d (.v (.int .i64 1))],?_,_,rfl,?_⟩
  ·simp only [bj,cH,dO,avs,tts]<;>rfl
  ·simp only [Bool.and_false,Bool.false_and,Bool.false_eq_true,if_false];rfl
 ·clear c1 c2 c3
  have hln:=bY l
  obtain ⟨ix,hix⟩:∃ix,ixS (ay l)=ix:=⟨_,rfl⟩
  simp only [hix]
  refine bc (H0:=H++[.box 25 [bD,bD,bD],.box 25 [.d (aN (ay l)),bD,bD],.mp 63 3 (.flat [.int .i64,.int .i64]) (kE ez),.mp 63 3 (.flat [.int .i64,.int .i64]) (kE ez),.box 61 [.fn (.func 34) [] [.ptr (H.length+1) 0]]])
   (fun n env H'=>∃k,n=l.length - k∧k≤l.length∧H'=H++[.box 25 [bD,bD,bD],.box 25 [.d (aN (ay l)),bD,bD],.mp 63 3 (.flat [.int .i64,.int .i64]) (kE (cV ix day (l.take k))),.mp 63 3 (.flat [.int .i64,.int .i64]) (kE (cW ix day (l.take k))),.box 61 [.fn (.func 34) [] [.ptr (H.length+1) 0]]]∧env=(.d (bM l) :: .d (.v (.int .i64 day)) :: .undef :: .undef :: .ptr H.length 0 :: .undef :: .ptr (H.length+1) 0 :: .mp (H.length+2) :: .mp (H.length+3) :: .undef :: .fn (.func 36) [] [.ptr (H.length+4) 0]::List.replicate 19 .undef ++ .d (bM l) :: .d (.v (.int .i64 (l.length:Int))) :: .d (.v (.int .i64 (k:Int)))::List.replicate 49 .undef)) ?_ ⟨0,rfl,Nat.zero_le _,rfl,rfl⟩ ?_
  ·exact ⟨by simp [aH,List.replicate,bM,hln],.inl rfl⟩
  rintro n env H' ⟨k,rfl,hk,rfl,rfl⟩ hN
  simp only [List.replicate,List.cons_append,List.nil_append,bM]
  obtain ⟨c0,g0⟩:∃c0,decide ((k:Int)<(l.length:Int))=c0:=⟨_,rfl⟩
  repeat refine ag ?_
  refine zr af ?_
  repeat (refine aa ?_;first | (apply ai;rfl;simp only [aj,avs,tts,seval,g0]<;>exact rr) | (refine zg rfl ?_;first | refine ah ?_ | refine zo ?_))
  refine ae ?_
  cases c0 with
  | true =>
   have hlt:k<l.length:=by simpa using g0
   have hix2:(0:Int)≤(k:Int):=by omega
   have hgd:=dl hlt
   have cr:=yZ base l[k] day
   obtain ⟨rb,hrb⟩:∃rb,bW l[k] day=rb:=⟨_,rfl⟩
   rw [hrb] at cr
   have w1:IntKind.i64.wrap ((k:Int)+1)=((k+1:Nat):Int):=aP hlt (by omega)
   have hstC:cV ix day (l.take (k+1))=stC ix day (cV ix day (l.take k)) l[k]:=by rw [List.take_add_one,List.getElem?_eq_getElem hlt];exact lG ..
   have hstV:cW ix day (l.take (k+1))=stV ix day (cW ix day (l.take k)) l[k]:=by rw [List.take_add_one,List.getElem?_eq_getElem hlt];exact kL ..
   unfold stC at hstC
   unfold stV at hstV
   rw [hrb] at hstC hstV
   obtain ⟨h,hh⟩:∃h,l[k]=h:=⟨_,rfl⟩
   rw [hh] at hgd cr hstC hstV
   obtain ⟨id,company,holder,nominee,pledged,joint,capital,votes,fr,til⟩:=h
   simp only [hdC] at hgd
   simp only [hdA,hdL,tA,iA,boA] at cr
   repeat refine ag ?_
   refine an rfl rfl (fun hb => ?_) fun hb => ?_
   ·refine ap ?_
    cases rb with
    | false =>
     repeat' (first | (refine aa ?_;first | (refine zg rfl ?_;first | refine ah ?_ | refine zo ?_ | (refine zs ?_ ?_<;>intro hb<;>((try simp only [bn] at hb);first | subst hb | simp only [hb]))) | (apply ai;rfl;simp only [aj,avs,tts,seval,hix2,hlt,hgd,hln,w1]<;>exact rr) | (refine za rfl ?_;refine zp (cr) ?_)) | refine ae ?_ | (refine ak ?_;first | (refine yg rfl ?_;first | refine aq ?_ | refine yo ?_ | (refine ys ?_ ?_<;>intro hb<;>((try simp only [bn] at hb);first | subst hb | simp only [hb]))) | (apply ar;rfl;simp only [aB,avs,tts,seval,hix2,hlt,hgd,hln,w1]<;>exact rr;first | trivial | omega) | (refine ya rfl ?_;refine yp (cr) ?_)) | refine al ?_ | refine ag ?_ | refine zr af ?_ | refine zR 0 af mixed ?_ | refine zR 1 af mixed ?_ | refine zR 2 af mixed ?_ | refine zR 3 af mixed ?_ | refine zf rfl rfl ?_ | refine zt rfl rfl ?_ | (refine an rfl rfl ?_ ?_<;>intro hb<;>((try simp only [bn] at hb);first | subst hb | simp only [hb])) | refine ap ?_ | refine au ?_ | refine am ?_)
     simp only [Bool.false_eq_true,if_false] at hstC hstV
     refine ⟨l.length - (k+1),_,H++[.box 25 [bD,bD,bD],.box 25 [.d (aN (ay l)),bD,bD],.mp 63 3 (.flat [.int .i64,.int .i64]) (kE (cV ix day (l.take k))),.mp 63 3 (.flat [.int .i64,.int .i64]) (kE (cW ix day (l.take k))),.box 61 [.fn (.func 34) [] [.ptr (H.length+1) 0]]],by omega,⟨?_,.inr ⟨by simp,?_,.more hB (.cons (by simp [aT.bel,aY,bD,AV.bel]) (.cons (by simp [aT.bel,aY,bD,AV.bel]) (.cons (fS _) (.cons (fS _) (.cons (by simp [aT.bel,aY,AV.bel]) .nil))))),[.box 36 [.d (.v (.string id)),.d (.v (.string company)),.d (.v (.string holder)),.d (.v (.string nominee)),.d (.v (.string pledged)),.d (aN joint),.d (.v (.int .i64 capital)),.d (.v (.int .i64 votes)),.d (.v (.int .i64 fr)),.d (.v (.int .i64 til))]],by simp⟩⟩,k+1,rfl,hlt,by rw [hstC,hstV],rfl⟩
     ·simp [aH,List.replicate,bM]
     ·simp [aY,AV.bel,List.replicate]
    | true =>
     obtain ⟨hall,hp60⟩:=dw hbv
     have hmem:=List.getElem_mem hlt
     have hprop:=hall _ hmem
     have hjl:=hj _ hmem
     have hin:=fun x=>ym (x:=x) hmem hprop
     have hpc:=cY hprop
     have hkc:=mW ix day l (fun h hh=>⟨(cY (hall h hh)).c0,(cY (hall h hh)).c1⟩) hj k (by omega)
     have hkv:=mG ix day l (fun h hh=>⟨(cY (hall h hh)).v0,(cY (hall h hh)).v1⟩) hj k (by omega)
     have hwl:=jO hjl
     have hvl:=m6 hjl
     rw [hh] at hmem hprop hjl hin hpc hwl hvl
     simp only [if_true] at hstC hstV
     obtain ⟨hc0,hc1,hv0,hv1⟩:=hpc
     simp only at hc0 hc1 hv0 hv1 hjl
     obtain ⟨sc,hsc⟩:∃sc,cV ix day (l.take k)=sc:=⟨_,rfl⟩
     obtain ⟨sv,hsv⟩:∃sv,cW ix day (l.take k)=sv:=⟨_,rfl⟩
     rw [hsc] at hkc hstC ⊢
     rw [hsv] at hkv hstV ⊢
     clear hsc hsv
     have djl:(joint.map fun s=>[PD.v (.string s)]).length=joint.length:=by simp
     have dj:=re joint
     have b1:1+joint.length≤9223372036854775807:=by omega
     have b2:(1+joint.length) * 16≤140737488355328:=by omega
     have e2:(1+joint.length=joint.length+1)=True:=eq_true (by omega)
     have dj2:List.map (fun it=>List.map AV.d it) (List.map (fun s=>[PD.v (.string s)]) joint)=joint.map fun s=>[AV.d (.v (.string s))]:=by simp
     obtain ⟨c2,z2⟩:∃b,decide (nominee=⟨#[]⟩)=b:=⟨_,rfl⟩
     obtain ⟨c3,z3⟩:∃b,decide (pledged=⟨#[]⟩)=b:=⟨_,rfl⟩
     repeat refine ag ?_
     refine am ?_
     repeat refine ag ?_
     repeat refine ag ?_
     refine zr af ?_
     repeat (refine aa ?_;first | (apply ai;rfl;simp only [aj,avs,tts,seval,hix2,hlt,hgd,hln]<;>exact rr) | (refine zg rfl ?_;first | refine ah ?_ | refine zo ?_))
     refine ae ?_
     repeat refine ag ?_
     refine zr af ?_
     repeat (refine aa ?_;first | (apply ai;rfl;simp only [aj,avs,tts,seval]<;>exact rr) | (refine zg rfl ?_;first | refine ah ?_ | refine zo ?_))
     refine zP rfl (cr) ?_
     repeat (refine aa ?_;first | (apply ai;rfl;simp only [aj,avs,tts,seval]<;>exact rr) | (refine zg rfl ?_;first | refine ah ?_ | refine zo ?_))
     refine ae ?_
     repeat refine ag ?_
     refine an rfl rfl (fun hb => ?_) fun hb => ?_
     ·cases hb
     refine ap ?_
     simp only [aN]
     repeat refine ag ?_
     refine zr af ?_
     repeat (refine aa ?_;first | (apply ai;rfl;simp only [aj,avs,tts,seval,djl,dj,dj2,b1,b2,e2]<;>exact rr) | (refine zg rfl ?_;first | refine ah ?_ | refine zo ?_))
     refine ae ?_
     repeat refine ag ?_
     refine zr af ?_
     repeat (refine aa ?_;first | (apply ai;rfl;simp only [aj,avs,tts,seval,z2]<;>exact rr) | (refine zg rfl ?_;first | refine ah ?_ | refine zo ?_))
     refine ae ?_
     obtain ⟨wc,hwc⟩:∃w,dK ⟨id,company,holder,nominee,pledged,joint,capital,votes,fr,til⟩=w:=⟨_,rfl⟩
     rw [hwc] at hwl hin hstC
     refine mX (Q0:=fun env K=>K=H++[.box 25 [bD,bD,bD],.box 25 [.d (aN (ay l)),bD,bD],.mp 63 3 (.flat [.int .i64,.int .i64]) (kE (sc)),.mp 63 3 (.flat [.int .i64,.int .i64]) (kE (sv)),.box 61 [.fn (.func 34) [] [.ptr (H.length+1) 0]],.box 36 [.d (.v (.string id)),.d (.v (.string company)),.d (.v (.string holder)),.d (.v (.string nominee)),.d (.v (.string pledged)),.d (.sl 1 (joint.map fun s=>[PD.v (.string s)])),.d (.v (.int .i64 capital)),.d (.v (.int .i64 votes)),.d (.v (.int .i64 fr)),.d (.v (.int .i64 til))]]∧env=(.d (bM l) :: .d (.v (.int .i64 day)) :: .undef :: .undef :: .ptr H.length 0 :: .undef :: .ptr (H.length+1) 0 :: .mp (H.length+2) :: .mp (H.length+3) :: .undef :: .fn (.func 36) [] [.ptr (H.length+4) 0] :: .undef :: .ptr (H.length+5) 0 :: .d (aN (wc))::List.replicate 16 .undef ++ .d (bM l) :: .d (.v (.int .i64 (l.length:Int))) :: .d (.v (.int .i64 (k:Int)))::List.replicate 49 .undef)) ?_ ?_
     ·cases c2 with
      | true =>
       have hw:wc=holder::joint:=by rw [←hwc];exact if_pos (of_decide_eq_true z2)
       repeat refine ag ?_
       refine an rfl rfl (fun hb => ?_) fun hb => ?_
       ·cases hb
       have hfz:unI (joint.map fun s=>[AV.d (.v (.string s))])=some (joint.map fun s=>[PD.v (.string s)]):=by rw [←re];exact bt _
       refine ap ?_
       rw [hw]
       exact ⟨rfl,_,_,_,_,.inl ⟨H.length+6,(by simp only [avs,tts,Nat.reduceAdd,Nat.reduceMul,Nat.reduceSub,Nat.reduceEqDiff,Nat.reduceLT,Nat.reduceLeDiff,Int.reduceToNat,Int.reduceLE,Int.reduceLT,Int.toNat_natCast,reduceCtorEq,cz,cJ,di,bt,bw,unI,unL,Nat.add_eq_left,Nat.left_eq_add,Nat.one_ne_zero,hfz,djl,e2]<;>rfl),(by simp only [avs,tts,Nat.reduceAdd,Nat.reduceMul,Nat.reduceSub,Nat.reduceEqDiff,Nat.reduceLT,Nat.reduceLeDiff,Int.reduceToNat,Int.reduceLE,Int.reduceLT,Int.toNat_natCast,reduceCtorEq,cz,cJ,di,bt,bw,unI,unL,Nat.add_eq_left,Nat.left_eq_add,Nat.one_ne_zero]<;>rfl)⟩,⟨by simp [aH,List.replicate,aN,bM],.inr ⟨by simp,by simp [aY,AV.bel,List.replicate],.more hB (.cons (by simp [aT.bel,aY,bD,AV.bel]) (.cons (by simp [aT.bel,aY,bD,AV.bel]) (.cons (fS _) (.cons (fS _) (.cons (by simp [aT.bel,aY,AV.bel]) (.cons (by simp [aT.bel,aY,AV.bel]) .nil)))))),_,by simp only [List.append_assoc,List.cons_append,List.nil_append];rfl⟩⟩,rfl,rfl⟩
      | false =>
       have hw:wc=[nominee]:=by rw [←hwc];exact if_neg (of_decide_eq_false z2)
       repeat refine ag ?_
       refine an rfl rfl (fun hb => ?_) fun hb => ?_
       ·
        repeat refine ag ?_
        refine zr af ?_
        repeat (refine aa ?_;first | (apply ai;rfl;simp only [aj,avs,tts,seval]<;>exact rr) | (refine zg rfl ?_;first | refine ah ?_ | refine zo ?_))
        refine ae ?_
        rw [hw]
        exact ⟨rfl,_,_,_,_,.inl ⟨H.length+7,(by simp only [avs,tts,Nat.reduceAdd,Nat.reduceMul,Nat.reduceSub,Nat.reduceEqDiff,Nat.reduceLT,Nat.reduceLeDiff,Int.reduceToNat,Int.reduceLE,Int.reduceLT,Int.toNat_natCast,reduceCtorEq,cz,cJ,di,bt,bw,unI,unL,Nat.add_eq_left,Nat.left_eq_add,Nat.one_ne_zero]<;>rfl),(by simp only [avs,tts,Nat.reduceAdd,Nat.reduceMul,Nat.reduceSub,Nat.reduceEqDiff,Nat.reduceLT,Nat.reduceLeDiff,Int.reduceToNat,Int.reduceLE,Int.reduceLT,Int.toNat_natCast,reduceCtorEq,cz,cJ,di,bt,bw,unI,unL,Nat.add_eq_left,Nat.left_eq_add,Nat.one_ne_zero]<;>rfl)⟩,⟨by simp [aH,List.replicate,aN,bM],.inr ⟨by simp,by simp [aY,AV.bel,List.replicate],.more hB (.cons (by simp [aT.bel,aY,bD,AV.bel]) (.cons (by simp [aT.bel,aY,bD,AV.bel]) (.cons (fS _) (.cons (fS _) (.cons (by simp [aT.bel,aY,AV.bel]) (.cons (by simp [aT.bel,aY,AV.bel]) .nil)))))),_,by simp only [List.append_assoc,List.cons_append,List.nil_append];rfl⟩⟩,rfl,rfl⟩
       ·cases hb
     rintro env0 K0 ⟨rfl,rfl⟩
     simp only [rp]
     have lsim:∀(n i j:Nat),(n+i=n+j)=(i=j):=fun n i j=>by simp
     have sh1:=vw (base:=base) (H:=H++[.box 25 [bD,bD,bD],.box 25 [.d (aN (ay l)),bD,bD],.mp 63 3 (.flat [.int .i64,.int .i64]) (kE (sc)),.mp 63 3 (.flat [.int .i64,.int .i64]) (kE (sv)),.box 61 [.fn (.func 34) [] [.ptr (H.length+1) 0]],.box 36 [.d (.v (.string id)),.d (.v (.string company)),.d (.v (.string holder)),.d (.v (.string nominee)),.d (.v (.string pledged)),.d (.sl 1 (joint.map fun s=>[PD.v (.string s)])),.d (.v (.int .i64 capital)),.d (.v (.int .i64 votes)),.d (.v (.int .i64 fr)),.d (.v (.int .i64 til))]]) (lm:=H.length+2) (lc:=H.length+4) (ls:=H.length+1) ix company capital wc sc (6006000 * k) (by simp) (by simp) (by simp) (by simp) hkc.1 (by omega) (by have:=hkc.2;omega) (by simp) (fun x hx K hK=>by rw [←hix];exact si (base:=base) (H:=K) (c:=bD) (v:=bD) (ay l) (hZ l) (ey l) (hin x (by rcases hx with h | h;exact .inl h;exact .inr (.inl h))) (by rw [hK];simp) (by omega)) hc0 hc1 (by omega)
     simp only [tA,iA,aN] at sh1 ⊢
     repeat refine ag ?_
     refine zr af ?_
     repeat (refine aa ?_;first | (apply ai;rfl;simp only [aj,avs,tts,seval]<;>exact rr) | (refine zg rfl ?_;first | refine ah ?_ | refine zo ?_))
     refine bQ rfl (by simp only [avs]<;>rfl) (⟨_,sh1,?_⟩)
     rintro r1 K1 rfl hle1
     rw [tV]
     simp only [bh,bi,List.set_cons_succ,List.set_cons_zero,←hstC]
     repeat (refine aa ?_;first | (apply ai;rfl;simp only [aj,avs,tts,seval]<;>exact rr) | (refine zg rfl ?_;first | refine ah ?_ | refine zo ?_))
     refine ae ?_
     obtain ⟨sc2,hsc2⟩:∃s,cV ix day (l.take (k+1))=s:=⟨_,rfl⟩
     rw [hsc2]
     clear hstC sh1
     repeat refine ag ?_
     repeat refine ag ?_
     refine zr af ?_
     repeat (refine aa ?_;first | (apply ai;rfl;simp only [aj,avs,tts,seval,z3]<;>exact rr) | (refine zg rfl ?_;first | refine ah ?_ | refine zo ?_))
     refine ae ?_
     obtain ⟨wv,hwv⟩:∃w,dV ⟨id,company,holder,nominee,pledged,joint,capital,votes,fr,til⟩=w:=⟨_,rfl⟩
     rw [hwv] at hvl hin hstV
     refine mX (Q0:=fun env K=>K=H++[.box 25 [bD,bD,bD],.box 25 [.d (aN (ay l)),bD,bD],.mp 63 3 (.flat [.int .i64,.int .i64]) (kE (sc2)),.mp 63 3 (.flat [.int .i64,.int .i64]) (kE (sv)),.box 61 [.fn (.func 34) [] [.ptr (H.length+1) 0]],.box 36 [.d (.v (.string id)),.d (.v (.string company)),.d (.v (.string holder)),.d (.v (.string nominee)),.d (.v (.string pledged)),.d (.sl 1 (joint.map fun s=>[PD.v (.string s)])),.d (.v (.int .i64 capital)),.d (.v (.int .i64 votes)),.d (.v (.int .i64 fr)),.d (.v (.int .i64 til))]]∧env=(.d (bM l) :: .d (.v (.int .i64 day)) :: .undef :: .undef :: .ptr H.length 0 :: .undef :: .ptr (H.length+1) 0 :: .mp (H.length+2) :: .mp (H.length+3) :: .undef :: .fn (.func 36) [] [.ptr (H.length+4) 0] :: .undef :: .ptr (H.length+5) 0 :: .d (aN (wv))::List.replicate 16 .undef ++ .d (bM l) :: .d (.v (.int .i64 (l.length:Int))) :: .d (.v (.int .i64 (k:Int)))::List.replicate 49 .undef)) ?_ ?_
     ·cases c3 with
      | true =>
       have hw:wv=wc:=by rw [←hwv,←hwc];exact if_pos (of_decide_eq_true z3)
       repeat refine ag ?_
       refine an rfl rfl (fun hb => ?_) fun hb => ?_
       ·cases hb
       refine ap ?_
       rw [hw]
       exact ⟨rfl,_,_,_,_,.inr ⟨rfl,rfl⟩,⟨by simp [aH,List.replicate,aN,bM],.inl rfl⟩,rfl,rfl⟩
      | false =>
       have hw:wv=[pledged]:=by rw [←hwv];exact if_neg (of_decide_eq_false z3)
       repeat refine ag ?_
       refine an rfl rfl (fun hb => ?_) fun hb => ?_
       ·
        repeat refine ag ?_
        refine zr af ?_
        repeat (refine aa ?_;first | (apply ai;rfl;simp only [aj,avs,tts,seval]<;>exact rr) | (refine zg rfl ?_;first | refine ah ?_ | refine zo ?_))
        refine ae ?_
        rw [hw]
        exact ⟨rfl,_,_,_,_,.inl ⟨H.length+6,(by simp only [avs,tts,Nat.reduceAdd,Nat.reduceMul,Nat.reduceSub,Nat.reduceEqDiff,Nat.reduceLT,Nat.reduceLeDiff,Int.reduceToNat,Int.reduceLE,Int.reduceLT,Int.toNat_natCast,reduceCtorEq,cz,cJ,di,bt,bw,unI,unL,Nat.add_eq_left,Nat.left_eq_add,Nat.one_ne_zero]<;>rfl),(by simp only [avs,tts,Nat.reduceAdd,Nat.reduceMul,Nat.reduceSub,Nat.reduceEqDiff,Nat.reduceLT,Nat.reduceLeDiff,Int.reduceToNat,Int.reduceLE,Int.reduceLT,Int.toNat_natCast,reduceCtorEq,cz,cJ,di,bt,bw,unI,unL,Nat.add_eq_left,Nat.left_eq_add,Nat.one_ne_zero]<;>rfl)⟩,⟨by simp [aH,List.replicate,aN,bM],.inr ⟨by simp,by simp [aY,AV.bel,List.replicate],.more hB (.cons (by simp [aT.bel,aY,bD,AV.bel]) (.cons (by simp [aT.bel,aY,bD,AV.bel]) (.cons (fS _) (.cons (fS _) (.cons (by simp [aT.bel,aY,AV.bel]) (.cons (by simp [aT.bel,aY,AV.bel]) .nil)))))),_,by simp only [List.append_assoc,List.cons_append,List.nil_append];rfl⟩⟩,rfl,rfl⟩
       ·cases hb
     rintro env0 K0 ⟨rfl,rfl⟩
     simp only [rp]
     have sh2:=vw (base:=base) (H:=H++[.box 25 [bD,bD,bD],.box 25 [.d (aN (ay l)),bD,bD],.mp 63 3 (.flat [.int .i64,.int .i64]) (kE (sc2)),.mp 63 3 (.flat [.int .i64,.int .i64]) (kE (sv)),.box 61 [.fn (.func 34) [] [.ptr (H.length+1) 0]],.box 36 [.d (.v (.string id)),.d (.v (.string company)),.d (.v (.string holder)),.d (.v (.string nominee)),.d (.v (.string pledged)),.d (.sl 1 (joint.map fun s=>[PD.v (.string s)])),.d (.v (.int .i64 capital)),.d (.v (.int .i64 votes)),.d (.v (.int .i64 fr)),.d (.v (.int .i64 til))]]) (lm:=H.length+3) (lc:=H.length+4) (ls:=H.length+1) ix company votes wv sv (6006000 * k) (by simp) (by simp) (by simp) (by simp) hkv.1 (by omega) (by have:=hkv.2;omega) (by simp) (fun x hx K hK=>by rw [←hix];exact si (base:=base) (H:=K) (c:=bD) (v:=bD) (ay l) (hZ l) (ey l) (hin x (by rcases hx with h | h;exact .inl h;exact .inr (.inr h))) (by rw [hK];simp) (by omega)) hv0 hv1 (by omega)
     simp only [tA,iA,aN] at sh2 ⊢
     repeat refine ag ?_
     refine zr af ?_
     repeat (refine aa ?_;first | (apply ai;rfl;simp only [aj,avs,tts,seval]<;>exact rr) | (refine zg rfl ?_;first | refine ah ?_ | refine zo ?_))
     refine bQ rfl (by simp only [avs]<;>rfl) (⟨_,sh2,?_⟩)
     rintro r2 K2 rfl hle2
     rw [tV]
     simp only [bh,bi,List.set_cons_succ,List.set_cons_zero,←hstV]
     repeat (refine aa ?_;first | (apply ai;rfl;simp only [aj,avs,tts,seval]<;>exact rr) | (refine zg rfl ?_;first | refine ah ?_ | refine zo ?_))
     refine ae ?_
     show AW _ _ _ _ _
     repeat refine ag ?_
     refine zr af ?_
     repeat (refine aa ?_;first | (apply ai;rfl;simp only [aj,avs,tts,seval,w1]<;>exact rr) | (refine zg rfl ?_;first | refine ah ?_ | refine zo ?_))
     refine ae ?_
     refine ⟨l.length - (k+1),_,H++[.box 25 [bD,bD,bD],.box 25 [.d (aN (ay l)),bD,bD],.mp 63 3 (.flat [.int .i64,.int .i64]) (kE sc2),.mp 63 3 (.flat [.int .i64,.int .i64]) (kE (cW ix day (l.take (k+1)))),.box 61 [.fn (.func 34) [] [.ptr (H.length+1) 0]]],by omega,⟨?_,.inr ⟨by simp,?_,.more hB (.cons (by simp [aT.bel,aY,bD,AV.bel]) (.cons (by simp [aT.bel,aY,bD,AV.bel]) (.cons (fS _) (.cons (fS _) (.cons (by simp [aT.bel,aY,AV.bel]) .nil))))),_,by simp only [List.append_assoc,List.cons_append,List.nil_append];rfl⟩⟩,k+1,rfl,hlt,by rw [hsc2];rfl,rfl⟩
     ·simp [aH,List.replicate,bM]
     ·simp [aY,AV.bel,List.replicate]
   ·cases hb
  | false =>
   have hkl:k=l.length:=by
                  have:¬k<l.length:=by simpa using g0
                  omega
   subst hkl
   rw [List.take_length]
   obtain ⟨hall,hp60⟩:=dw hbv
   have hkc:=mW ix day l (fun h hh=>⟨(cY (hall h hh)).c0,(cY (hall h hh)).c1⟩) hj l.length (Nat.le_refl _)
   have hkv:=mG ix day l (fun h hh=>⟨(cY (hall h hh)).v0,(cY (hall h hh)).v1⟩) hj l.length (Nat.le_refl _)
   rw [List.take_length] at hkc hkv
   have hbd:∀x, -9223372036854775808≤ix x∧ix x≤9223372036854775807:=fun x=>by rw [←hix];have:=Dp (ay l) x hp60;omega
   have okg:∀{co:ByteArray} {pc:Int} {p:Int × Int} {x:ByteArray},fe ix co pc p x=true→okK p:=fun h=>by
    have h2:=(of_decide_eq_true h).2.2
    rw [←h2];exact ⟨hbd _,hbd _⟩
   have okc:∀p∈(cV ix day l).1,okK p:=fun p hp=>by
    obtain ⟨h,_,_,x,_,hg⟩:=(tH ..).1 hp
    exact okg hg
   have okv:∀p∈(cW ix day l).1,okK p:=fun p hp=>by
    obtain ⟨h,_,_,x,_,hg⟩:=(rG ..).1 hp
    exact okg hg
   generalize cV ix day l=sc at *
   generalize cW ix day l=sv at *
   have cl1:=fun G=>vX (base:=base) hT (H:=H++(.box 25 [bD,bD,bD] :: .box 25 [.d (aN (ay l)),bD,bD] :: .mp 63 3 (.flat [.int .i64,.int .i64]) (kE sc)::G)) (l:=H.length+2) sc (by simp) hkc.1 (by omega) okc (by have:=hkc.2;omega)
   have cl2:=fun G=>vX (base:=base) hT (H:=H++(.box 25 [bD,bD,bD] :: .box 25 [.d (aN (ay l)),bD,bD] :: .mp 63 3 (.flat [.int .i64,.int .i64]) (kE sc) :: .mp 63 3 (.flat [.int .i64,.int .i64]) (kE sv)::G)) (l:=H.length+3) sv (by simp) hkv.1 (by omega) okv (by have:=hkv.2;omega)
   clear hkc hkv okc okv okg
   simp only [sx] at cl1 cl2 ⊢
   generalize List.map (lkC sc) (ba sc.1)=pc at *
   generalize List.map (lkC sv) (ba sv.1)=pv at *
   repeat' (first | (refine aa ?_;first | (refine zg rfl ?_;first | refine ah ?_ | refine zo ?_ | (refine zs ?_ ?_<;>intro hb<;>((try simp only [bn] at hb);first | subst hb | simp only [hb]))) | (apply ai;rfl;simp only [aj,avs,tts,seval]<;>exact rr) | (refine za rfl ?_;first | refine zd (cl1 _) ?_ | refine zd (cl2 _) ?_)) | refine ae ?_ | (refine ak ?_;first | (refine yg rfl ?_;first | refine aq ?_ | refine yo ?_ | (refine ys ?_ ?_<;>intro hb<;>((try simp only [bn] at hb);first | subst hb | simp only [hb]))) | (apply ar;rfl;simp only [aB,avs,tts,seval]<;>exact rr;first | trivial | omega) | (refine ya rfl ?_;first | refine yd (cl1 _) ?_ | refine yd (cl2 _) ?_)) | refine al ?_ | refine ag ?_ | refine zr af ?_ | refine zR 0 af mixed ?_ | refine zR 1 af mixed ?_ | refine zR 2 af mixed ?_ | refine zR 3 af mixed ?_ | refine zf rfl rfl ?_ | refine zt rfl rfl ?_ | (refine an rfl rfl ?_ ?_<;>intro hb<;>((try simp only [bn] at hb);first | subst hb | simp only [hb])) | refine ap ?_ | refine au ?_ | refine am ?_)
   refine aw ⟨.tup [.agg [.d (aN (ay l)),.d (.sl 5 pc),.d (.sl 5 pv)],.d (.v (.int .i64 0))],?_,_,rfl,?_⟩
   ·simp only [bj,cH,dO,avs,tts]<;>rfl
   ·simp only [Bool.and_true,if_true];rfl
 ·show AW _ _ _ _ _
  refine aw ⟨.tup [.agg [.d (.v (.slice none 0 0)),.d (.v (.slice none 0 0)),.d (.v (.slice none 0 0))],.d (.v (.int .i64 1))],?_,_,rfl,?_⟩
  ·simp only [bj,cH,dO,avs,tts]<;>rfl
  ·simp only [Bool.and_false,Bool.false_and,Bool.false_eq_true,if_false];rfl
end
end Av
end Go.Proofs.YtdekcppfpgeneaaGreatDoor
namespace Go.Proofs.YtdekcppfpgeneaaGreatDoor
open Go Go.RowKit
namespace Rg
open Av Nt
theorem wh {ps:List ByteArray} {x:ByteArray} (hx:x∈ps):∃(i:Nat) (h:i<ps.length),ixS ps x=i∧ps[i]=x:=by
 have hi0:(ps.findIdx fun y=>decide (y=x))<ps.length:=List.findIdx_lt_length_of_exists ⟨x,hx,by simp⟩
 exact ⟨_,hi0,rfl,by simpa using List.findIdx_getElem (w:=hi0)⟩
theorem uy {ps:List ByteArray} {x y:ByteArray} (hx:x∈ps) (hy:y∈ps):ixS ps x=ixS ps y↔x=y:=by
 obtain ⟨i,hi,e1,e2⟩:=wh hx
 obtain ⟨j,hj,e3,e4⟩:=wh hy
 constructor
 ·intro h
  rw [e1,e3] at h
  have:i=j:=by omega
  subst this
  exact e2.symm.trans e4
 ·rintro rfl;rfl
theorem Am {ps:List ByteArray} (hn:ps.Nodup) {i:Nat} (hi:i<ps.length):ixS ps ps[i]=i:=by
 obtain ⟨j,hj,e1,e2⟩:=wh (List.getElem_mem hi)
 rw [e1]
 have hp:=List.pairwise_iff_getElem.1 hn
 rcases Nat.lt_trichotomy i j with h | h | h
 ·exact absurd e2.symm (hp i j hi hj h)
 ·omega
 ·exact absurd e2 (hp j i hj hi h)
structure Srt (ps:List ByteArray):Prop where
 srt:ps.Pairwise fun a b=>leT a b=true
 nd:ps.Nodup
theorem m7 {h:Hd} (hp:aS h=true) {x:ByteArray} (hx:x∈dK h):x∈bC h:=by
 rw [cX] at hp
 unfold dK at hx
 unfold bC
 simp only [List.mem_cons,List.mem_filter,Bool.not_eq_true',decide_eq_false_iff_not]
 by_cases e:h.nominee=emp
 ·rw [if_pos e] at hx
  rcases List.mem_cons.1 hx with rfl | hx
  ·exact .inr (.inl rfl)
  ·exact .inr (.inr ⟨.inr (.inr hx),kd (hp.joint x hx)⟩)
 ·rw [if_neg e] at hx
  rw [List.mem_singleton] at hx
  subst hx
  exact .inr (.inr ⟨.inl rfl,e⟩)
end Rg
end Go.Proofs.YtdekcppfpgeneaaGreatDoor
namespace Go.Proofs.YtdekcppfpgeneaaGreatDoor
open Go Go.RowKit
namespace Rg
open Av Nt
def vK (p:Int × Int) (c h:Int):Bool:=decide (c>p.1)||(decide (c=p.1)&&decide (h>p.2))
def l8 (l:List Lk):Int × Int:=match l.getLast? with
 | none=>(-1, -1)
 | some x=>(x.company,x.holder)
def ic (l:List Lk) (c:Int):Int:=bH (fun x=>decide (x.company=c)) (fun x=>er x.part) l
def o0 (n:Int) (pre:List Lk) (x:Lk):Bool:=decide (x.company<0)||(decide (x.company≥n)||(decide (x.holder<0)||(decide (x.holder≥n)||(decide (x.company=x.holder)||(!vK (l8 pre) x.company x.holder||(decide (er x.part=0)||decide (ic (pre++[x]) x.company>6000)))))))
def pQ (n:Int):List Lk→List Lk→Bool
 | _,[]=>true
 | pre,x::r => !o0 n pre x&&pQ n (pre++[x]) r
def iI (n:Int) (l:List Lk):Bool:=pQ n [] l
theorem sQ {n:Int}:∀{l pre:List Lk},pQ n pre l=true↔∀k (h:k<l.length),o0 n (pre++l.take k) l[k]=false
 | [],pre=>by simp [pQ]
 | x::r,pre=>by
  rw [pQ,Bool.and_eq_true,sQ]
  constructor
  ·rintro ⟨h1,h2⟩ k hk
   cases k with
   | zero=>simpa using h1
   | succ k=>have:=h2 k (by simpa using hk);simpa using this
  ·intro h
   refine ⟨by have:=h 0 (by simp);simpa using this,fun k hk => ?_⟩
   have:=h (k+1) (by simpa using hk)
   simpa using this
theorem sR {n:Int} {l:List Lk}:iI n l=true↔∀k (h:k<l.length),o0 n (l.take k) l[k]=false:=by
 unfold iI;rw [sQ];simp
theorem At {n:Int} {l:List Lk} {k:Nat} (h:k<l.length) (hb:o0 n (l.take k) l[k]=true):iI n l=false:=by
 cases hg:iI n l with
 | false=>rfl
 | true=>rw [sR.1 hg k h] at hb;cases hb
theorem pl (l:List Lk) (x:Lk) (c:Int):ic (l++[x]) c=ic l c+(if x.company=c then er x.part else 0):=by
 unfold ic
 rw [kQ]
 simp only [decide_eq_true_eq]
theorem rN (l:List Lk) (c:Int):0≤ic l c:=cQ fun x _ _=>(rL x.part).1
theorem uu {l:List Lk} {k:Nat} (h:k<l.length):l8 (l.take (k+1))=(l[k].company,l[k].holder):=by
 have e:l.take (k+1)=l.take k++[l[k]]:=by rw [List.take_add_one,List.getElem?_eq_getElem h];rfl
 rw [e]
 unfold l8
 rw [List.getLast?_concat]
def BW (i:Int):Value := .int .i64 i
theorem CQ (a b:Int):keyEq (BW a) (BW b)=decide (a=b):=by
 show keyEq (.int .i64 a) (.int .i64 b)=_
 simp [keyEq,eqV]
def yA (l:List Lk) (c:Int):AV := .d (.v (.int .i64 (ic l c)))
def jS (l:List Lk):List (Value × AV):=mpE BW (dy (l.map Lk.company)) (yA l)
theorem yB {l:List Lk} {c:Int} (h:¬c∈dy (l.map Lk.company)):ic l c=0:=by
 unfold ic
 refine Classical.byContradiction fun hn => ?_
 obtain ⟨x,hx,he⟩:=qx hn
 exact h (gi.2 (List.mem_map.2 ⟨x,hx,of_decide_eq_true he⟩))
theorem rO (l:List Lk) (c:Int):(iD (jS l) (.int .i64 c)).getD (.d (.v (.int .i64 0))) = .d (.v (.int .i64 (ic l c))) :=
 gc CQ (f:=yA l) (k:=c) fun h=>by unfold yA;rw [yB h]
theorem yD (l:List Lk) (x:Lk):li (jS l) (.int .i64 x.company) (.d (.v (.int .i64 (ic (l++[x]) x.company))))=jS (l++[x]):=by
 have:=nI CQ (eX (l.map Lk.company)) (yA l) x.company (.d (.v (.int .i64 (ic (l++[x]) x.company))))
 unfold jS
 rw [show (Value.int .i64 x.company)=BW x.company from rfl,this,List.map_append,List.map_cons,List.map_nil,uv]
 congr 1
 funext c
 unfold ip yA
 by_cases h:c=x.company
 ·subst h;rw [if_pos rfl]
 ·rw [if_neg h,pl,if_neg (fun e=>h e.symm),Int.add_zero]
theorem yE (l:List Lk):(jS l).length≤l.length:=by
 unfold jS
 rw [qJ]
 refine Nat.le_trans (pM _) ?_
 simp
theorem A3 {n:Nat} {kt et:Nat} {ks:KS} (l:List Lk):(aT.mp kt et ks (jS l)).bel n:=by
 show lM n (jS l)
 unfold jS mpE
 induction dy (l.map Lk.company) with
 | nil=>exact trivial
 | cons a r ih=>exact ⟨trivial,ih⟩
end Rg
namespace Av
attribute [local irreducible] AW aQ aM
open Nt Rg
section
variable {base:World} (hT:dJ base)
include hT
set_option maxRecDepth 100000 in
set_option maxHeartbeats 16000000 in
theorem As {H:av} {ln:Nat} (l:List Lk) (n:Int) (hn:H[ln]?=some (.box 3 [iA n])) (hl:l.length≤1000000000) (hsz:∀x∈l,x.part.num.size≤9223372036854775807∧x.part.den.size≤9223372036854775807) :
  dt Tryz.prog base 40 [.d (jv l),.ptr ln 0] H (boA (iI n l)):=by
 refine cN af Tryz.call40 Tryz.func40 rfl fun hB hb hF => ?_
 rw [Tryz.results40,Tryz.ntmps40]
 simp only [ax,List.length_cons,List.length_nil,List.replicate,List.cons_append,List.nil_append,Nat.reduceAdd,Nat.reduceSub]
 clear hF hb
 have la:(l.map lkP).length=l.length:=by simp
 have hnl:=aF hn
 have ksh:∀i,bu (.one (.int .i64)) (.int .i64 i)=true:=fun _=>rfl
 have ms0:jS (l.take 0)=[]:=rfl
 simp only [jv]
 obtain ⟨P,hP⟩:∃P,iI n l=P:=⟨_,rfl⟩
 rw [hP]
 repeat' (first | (refine aa ?_;first | (refine zg rfl ?_;first | refine ah ?_ | refine zo ?_ | (refine zs ?_ ?_<;>intro hb<;>((try simp only [bn] at hb);first | subst hb | simp only [hb]))) | (apply ai;rfl;simp only [aj,avs,tts,seval,la]<;>exact rr)) | refine ae ?_ | (refine ak ?_;first | (refine yg rfl ?_;first | refine aq ?_ | refine yo ?_ | (refine ys ?_ ?_<;>intro hb<;>((try simp only [bn] at hb);first | subst hb | simp only [hb]))) | (apply ar;rfl;simp only [aB,avs,tts,seval,la]<;>exact rr;first | trivial | omega)) | refine al ?_ | refine ag ?_ | refine zr af ?_ | refine zR 0 af mixed ?_ | refine zR 1 af mixed ?_ | refine zR 2 af mixed ?_ | refine zR 3 af mixed ?_ | refine zf rfl rfl ?_ | refine zt rfl rfl ?_ | (refine an rfl rfl ?_ ?_<;>intro hb<;>((try simp only [bn] at hb);first | subst hb | simp only [hb])) | refine ap ?_ | refine au ?_ | refine am ?_)
 refine bc (H0:=H++[.mp 3 3 (.one (.int .i64)) (jS (l.take 0)),.box 63 [.d (.v (.int .i64 (-1))),.d (.v (.int .i64 (-1)))]]) (fun r env K=>∃k,r=l.length - k∧k≤l.length∧(∀i (hi:i<l.length),i<k→o0 n (l.take i) l[i]=false)∧(∀c,ic (l.take k) c≤6000)∧K=H++[.mp 3 3 (.one (.int .i64)) (jS (l.take k)),.box 63 [.d (.v (.int .i64 (l8 (l.take k)).1)),.d (.v (.int .i64 (l8 (l.take k)).2))]]∧env=(.d (.sl 5 (l.map lkP)) :: .ptr ln 0 :: .undef :: .undef :: .mp H.length :: .ptr (H.length+1) 0::List.replicate 7 .undef ++ .d (.sl 5 (l.map lkP)) :: .d (.v (.int .i64 (l.length:Int))) :: .d (.v (.int .i64 (k:Int)))::List.replicate 80 .undef)) ?_ ⟨0,rfl,Nat.zero_le _,fun i _ h=>by omega,fun c=>by simp [ic,bH],rfl,rfl⟩ ?_
 ·exact ⟨by simp [aH,List.replicate],.inl rfl⟩
 rintro r env K ⟨k,rfl,hk,hok,htot,rfl,rfl⟩ hN
 simp only [rp]
 obtain ⟨c1,g1⟩:∃c1,decide ((k:Int)<(l.length:Int))=c1:=⟨_,rfl⟩
 cases c1 with
 | false =>
  have hka:k=l.length:=by
                 have:¬k<l.length:=by simpa using g1
                 omega
  have hp:P=true:=by rw [←hP];exact sR.2 fun i hi=>hok i hi (by omega)
  repeat' (first | (refine aa ?_;first | (refine zg rfl ?_;first | refine ah ?_ | refine zo ?_ | (refine zs ?_ ?_<;>intro hb<;>((try simp only [bn] at hb);first | subst hb | simp only [hb]))) | (apply ai;rfl;simp only [aj,avs,tts,seval,g1]<;>exact rr)) | refine ae ?_ | (refine ak ?_;first | (refine yg rfl ?_;first | refine aq ?_ | refine yo ?_ | (refine ys ?_ ?_<;>intro hb<;>((try simp only [bn] at hb);first | subst hb | simp only [hb]))) | (apply ar;rfl;simp only [aB,avs,tts,seval,g1]<;>exact rr;first | trivial | omega)) | refine al ?_ | refine ag ?_ | refine zr af ?_ | refine zR 0 af mixed ?_ | refine zR 1 af mixed ?_ | refine zR 2 af mixed ?_ | refine zR 3 af mixed ?_ | refine zf rfl rfl ?_ | refine zt rfl rfl ?_ | (refine an rfl rfl ?_ ?_<;>intro hb<;>((try simp only [bn] at hb);first | subst hb | simp only [hb])) | refine ap ?_ | refine au ?_ | refine am ?_)
  rw [hp]
  exact aw ⟨_,rfl,_,rfl,rfl⟩
 | true =>
  have hlt:k<l.length:=by simpa using g1
  have hix:(0:Int)≤(k:Int):=by omega
  have ga:=nQ hlt
  have w1:IntKind.i64.wrap ((k:Int)+1)=((k+1:Nat):Int):=aP hlt (by omega)
  have hsn:l.take (k+1)=l.take k++[l[k]]:=by rw [List.take_add_one,List.getElem?_eq_getElem hlt];rfl
  have hla:=uu hlt
  have hszk:=hsz _ (List.getElem_mem hlt)
  have hno:=fun hb=>At (n:=n) hlt hb
  have hoks:o0 n (l.take k) l[k]=false→∀i (hi:i<l.length),i<k+1→o0 n (l.take i) l[i]=false:=fun h i hi h2=>by
   rcases Nat.lt_succ_iff_lt_or_eq.1 h2 with h3 | h3
   ·exact hok i hi h3
   ·subst h3;exact h
  have hlen:=yE (l.take k)
  have hlenk:(l.take k).length=k:=by simp;omega
  have hub:=rL l[k].part
  have cu:=Bm hT l[k].part hszk.1 hszk.2
  obtain ⟨x,hx⟩:∃x,l[k]=x:=⟨_,rfl⟩
  simp only [hx] at ga hsn hla hno hoks hub cu
  obtain ⟨pre,hpre⟩:∃p,l.take k=p:=⟨_,rfl⟩
  rw [hpre] at hsn htot hno hoks hlen hlenk ⊢
  rw [hsn] at hla
  have t1:=rO pre x.company
  have t2:=rO (pre++[x]) x.company
  have t3:=yD pre x
  have t4:=pl pre x
  have t5:=rN pre x.company
  have t6:=htot x.company
  have hbad:o0 n pre x=(decide (x.company<0)||(decide (x.company≥n)||(decide (x.holder<0)||(decide (x.holder≥n)||(decide (x.company=x.holder)||(!vK (l8 pre) x.company x.holder||(decide (er x.part=0)||decide (ic (pre++[x]) x.company>6000)))))))):=rfl
  obtain ⟨lk,hlk⟩:∃p,l8 pre=p:=⟨_,rfl⟩
  rw [hlk] at hbad ⊢
  clear hlk
  obtain ⟨u,hu⟩:∃u,er x.part=u:=⟨_,rfl⟩
  obtain ⟨t,ht⟩:∃t,ic pre x.company=t:=⟨_,rfl⟩
  have ht':ic (pre++[x]) x.company=t+u:=by rw [t4,if_pos rfl,ht,hu]
  have hnext:o0 n pre x=false→∀c,ic (pre++[x]) c≤6000:=fun hb c=>by
   by_cases hc:x.company=c
   ·subst hc
    rw [hbad] at hb
    simp only [Bool.or_eq_false_iff,decide_eq_false_iff_not] at hb
    omega
   ·rw [t4,if_neg hc];have:=htot c;omega
  rw [ht'] at t2 t3 hbad
  rw [ht] at t1 t5 t6
  rw [hu] at cu hub hbad
  clear t4 ht ht' hu
  obtain ⟨xc,xh,xp⟩:=x
  obtain ⟨rn,ru,rd⟩:=xp
  simp only [cP,tA,iA] at cu hn
  simp only [lkP] at ga
  simp only at t1 t2 t3 hbad hla
  unfold vK at hbad
  have w2:IntKind.i64.wrap (t+u)=t+u:=by rw [IntKind.wrap_i64];omega
  have q4:((jS pre).length≤9223372036854775807)=True:=eq_true (by omega)
  obtain ⟨lk1,lk2⟩:=lk
  simp only at hbad ⊢
  obtain ⟨e1,f1⟩:∃c,decide (xc<0)=c:=⟨_,rfl⟩
  obtain ⟨e2,f2⟩:∃c,decide (xc≥n)=c:=⟨_,rfl⟩
  obtain ⟨e3,f3⟩:∃c,decide (xh<0)=c:=⟨_,rfl⟩
  obtain ⟨e4,f4⟩:∃c,decide (xh≥n)=c:=⟨_,rfl⟩
  obtain ⟨e5,f5⟩:∃c,decide (xc=xh)=c:=⟨_,rfl⟩
  obtain ⟨e6,f6⟩:∃c,decide (xc>lk1)=c:=⟨_,rfl⟩
  obtain ⟨e7,f7⟩:∃c,decide (xc=lk1)=c:=⟨_,rfl⟩
  obtain ⟨e8,f8⟩:∃c,decide (xh>lk2)=c:=⟨_,rfl⟩
  obtain ⟨e9,f9⟩:∃c,decide (u=0)=c:=⟨_,rfl⟩
  obtain ⟨e10,f10⟩:∃c,decide (t+u>6000)=c:=⟨_,rfl⟩
  rw [f1,f2,f3,f4,f5,f6,f7,f8,f9,f10] at hbad
  have hn2:=fun G=>got hn G
  repeat' (first | (refine aa ?_;first | (refine zg rfl ?_;first | refine ah ?_ | refine zo ?_ | (refine zs ?_ ?_<;>intro hb<;>((try simp only [bn] at hb);first | subst hb | simp only [hb]))) | (apply ai;rfl;simp only [aj,avs,tts,seval,hix,hlt,ga,la,g1,hn2,w1,w2,ksh,t1,t2,t3,q4,f1,f2,f3,f4,f5,f6,f7,f8,f9,f10,Bool.not_true,Bool.not_false]<;>exact rr) | (refine za rfl ?_;refine zp (cu) ?_)) | refine ae ?_ | (refine ak ?_;first | (refine yg rfl ?_;first | refine aq ?_ | refine yo ?_ | (refine ys ?_ ?_<;>intro hb<;>((try simp only [bn] at hb);first | subst hb | simp only [hb]))) | (apply ar;rfl;simp only [aB,avs,tts,seval,hix,hlt,ga,la,g1,hn2,w1,w2,ksh,t1,t2,t3,q4,f1,f2,f3,f4,f5,f6,f7,f8,f9,f10,Bool.not_true,Bool.not_false]<;>exact rr;first | trivial | omega) | (refine ya rfl ?_;refine yp (cu) ?_)) | refine al ?_ | refine ag ?_ | refine zr af ?_ | refine zR 0 af mixed ?_ | refine zR 1 af mixed ?_ | refine zR 2 af mixed ?_ | refine zR 3 af mixed ?_ | refine zf rfl rfl ?_ | refine zt rfl rfl ?_ | (refine an rfl rfl ?_ ?_<;>intro hb<;>((try simp only [bn] at hb);first | subst hb | simp only [hb])) | refine ap ?_ | refine au ?_ | refine am ?_)
  all_goals first
   | (have hp:P=false:=(by rw [←hP];exact hno (by rw [hbad];rfl));subst hp;show AW _ _ _ _ _;refine aw ⟨_,rfl,_,rfl,?_⟩;rfl)
   | (refine ⟨l.length - (k+1),_,H++[.mp 3 3 (.one (.int .i64)) (jS (pre++[⟨xc,xh,⟨rn,ru,rd⟩⟩])),.box 63 [.d (.v (.int .i64 xc)),.d (.v (.int .i64 xh))]],by omega,⟨?_,.inr ⟨by simp,?_,.more hB (.cons (A3 _) (.cons (by simp [aT.bel,aY,AV.bel]) .nil)),_,by simp only [List.append_assoc,List.cons_append,List.nil_append];rfl⟩⟩,k+1,rfl,hlt,hoks (by rw [hbad];rfl),by rw [hsn];exact hnext (by rw [hbad];rfl),by rw [hsn,hla],rfl⟩;(· simp [aH,List.replicate]);(· simp [aY,AV.bel,List.replicate];omega))
end
end Av
end Go.Proofs.YtdekcppfpgeneaaGreatDoor
namespace Go.Proofs.YtdekcppfpgeneaaGreatDoor
open Go Go.RowKit
namespace Rg
open Av Nt
def gH (c:Int) (s:KSt):Int:=bH (fun k:Int × Int=>decide (k.1=c)) s.2 s.1
theorem nh {α:Type} [DecidableEq α] (p:α→Bool) (g:α→Int) (k:α) (v:Int):∀{l:List α},l.Nodup→bH p (fun x=>if x=k then g k+v else g x) l=bH p g l+(if k∈l then (if p k then v else 0) else 0)
 | [],_=>by simp [bH]
 | a::r,hn=>by
  rw [List.nodup_cons] at hn
  have ih:=nh p g k v hn.2
  simp only [bH,ih,List.mem_cons]
  by_cases e:a=k
  ·subst e
   have hx:¬a∈r:=hn.1
   cases hp:p a with
   | true=>simp [hx];omega
   | false=>simp [hx]
  ·rw [if_neg e]
   by_cases h2:k∈r
   ·simp only [h2,or_true,if_true]
    omega
   ·have h3:¬(k=a∨k∈r):=fun h=>h.elim (fun h=>e h.symm) h2
    rw [if_neg h2,if_neg h3]
    omega
theorem yC {s:KSt} {M:Int} (hs:KOk s M) (k:Int × Int) (v c:Int):gH c (dR s k v)=gH c s+(if k.1=c then v else 0):=by
 unfold gH dR cF
 simp only
 by_cases h:k∈s.1
 ·rw [if_pos h,nh _ _ _ _ hs.nd,if_pos h]
  simp only [decide_eq_true_eq]
 ·rw [if_neg h,kQ,nh _ _ _ _ hs.nd,if_neg h,hs.out k h]
  simp only [decide_eq_true_eq,if_true]
  omega
def oZ (company:ByteArray) (who:List ByteArray):Int:=((who.countP fun x => !decide (x=company):Nat):Int)
theorem xZ (company x:ByteArray) (who:List ByteArray):oZ company (x::who)=(if x=company then 0 else 1)+oZ company who:=by
 unfold oZ
 rw [List.countP_cons]
 by_cases e:x=company<;>simp [e]<;>omega
theorem pU {ix:ByteArray→Int} {company:ByteArray} {pc:Int} (h0:0≤pc) (h1:pc≤100) {n:Nat} (c:Int):∀(who:List ByteArray),(0<n∨who=[])→∀{s:KSt} {M:Int},KOk s M→gH c (who.foldl (bK ix company pc n) s)=gH c s+(if ix company=c then (pc * 60).tdiv n * oZ company who else 0)
 | [],_,s,M,_=>by simp [oZ]
 | x::r,hn,s,M,hs=>by
  have hn':0<n:=by rcases hn with h | h;exact h;cases h
  have hst:=nk (ix:=ix) (company:=company) (x:=x) h0 h1 hn' hs
  rw [List.foldl_cons,pU h0 h1 c r (.inl hn') hst,xZ]
  have e:gH c (bK ix company pc n s x)=gH c s+(if ix company=c then (if x=company then 0 else (pc * 60).tdiv n) else 0):=by
   unfold bK
   by_cases h:pc>0∧x≠company
   ·rw [if_pos h,yC hs,if_neg h.2]
   ·rw [if_neg h]
    by_cases e2:x=company
    ·rw [if_pos e2];split<;>omega
    ·have hp:pc=0:=by
      have:¬pc>0:=fun h3=>h ⟨h3,e2⟩
      omega
     subst hp
     rw [if_neg e2]
     simp
  rw [e]
  by_cases h2:ix company=c
  ·simp only [if_pos h2]
   by_cases e2:x=company
   ·simp only [if_pos e2];rw [Int.zero_add,Int.add_zero]
   ·simp only [if_neg e2];rw [Int.mul_add,Int.mul_one];omega
  ·simp only [if_neg h2];omega
theorem i7 {pc:Int} (h0:0≤pc) {n:Nat} (h1:0<n) (h5:n≤5):(pc * 60).tdiv n * n=pc * 60:=by
 have:n=1∨n=2∨n=3∨n=4∨n=5:=by omega
 rcases this with rfl | rfl | rfl | rfl | rfl<;>(rw [Int.tdiv_eq_ediv_of_nonneg (by omega)];omega)
theorem tB {company:ByteArray} {who:List ByteArray} (h:¬company∈who):oZ company who=who.length:=by
 unfold oZ
 congr 1
 rw [List.countP_eq_length]
 intro x hx
 simp only [Bool.not_eq_true',decide_eq_false_iff_not]
 rintro rfl;exact h hx
def mf (pc:Hd→Int) (who:Hd→List ByteArray) (ix:ByteArray→Int) (c:Int) (h:Hd):Int:=if ix h.company=c then (pc h * 60).tdiv (who h).length * oZ h.company (who h) else 0
theorem kr (pc:Hd→Int) (who:Hd→List ByteArray) (ix:ByteArray→Int) (day c:Int):∀(l:List Hd),(∀h∈l,0≤pc h∧pc h≤100)→∀{s:KSt} {M:Int},KOk s M→gH c (l.foldl (eI pc who ix day) s)=gH c s+bH (fun h=>bW h day) (mf pc who ix c) l
 | [],_,s,M,_=>by simp [bH]
 | h::r,hp,s,M,hs=>by
  have hh:=hp h (List.mem_cons_self ..)
  rw [List.foldl_cons]
  simp only [bH]
  have hw:0<(who h).length∨who h=[]:=by cases who h with | nil=>exact .inr rfl | cons a r=>exact .inl (by simp)
  by_cases e:bW h day=true
  ·have e1:eI pc who ix day s h=eK ix h.company (pc h) (who h) s:=by unfold eI;rw [if_pos e]
   have hs2:=kW (ix:=ix) (company:=h.company) hh.1 hh.2 (who h) hs
   rw [e1,kr pc who ix day c r (fun x hx=>hp x (List.mem_cons_of_mem _ hx)) hs2,if_pos e]
   have:=pU (ix:=ix) (company:=h.company) hh.1 hh.2 c (who h) hw hs
   unfold eK mf
   rw [this];omega
  ·have e1:eI pc who ix day s h=s:=by unfold eI;rw [if_neg e]
   rw [e1,kr pc who ix day c r (fun x hx=>hp x (List.mem_cons_of_mem _ hx)) hs,if_neg e]
   omega
theorem fT {h:Hd} (hp:Prp h):¬h.company∈dK h∧0<(dK h).length∧(dK h).length≤5:=by
 unfold dK
 split
 ·exact ⟨hp.own,by simp,by have:=hp.joint4;simp;omega⟩
 ·exact ⟨by simpa using hp.nom,by simp,by simp⟩
theorem xH {h:Hd} (hp:Prp h) (h0:0≤h.capital) (ix:ByteArray→Int) (c:Int):mf Hd.capital dK ix c h=if ix h.company=c then h.capital * 60 else 0:=by
 obtain ⟨h1,h2,h3⟩:=fT hp
 unfold mf
 rw [tB h1,i7 h0 h2 h3]
def pp (h:Hd):Bool:=decide (h.pledged=h.company)
theorem xG {h:Hd} (hp:Prp h) (h0:0≤h.votes) (ix:ByteArray→Int) (c:Int):mf Hd.votes dV ix c h=if ix h.company=c then (if pp h=true then 0 else h.votes * 60) else 0:=by
 unfold mf dV pp
 by_cases e:h.pledged=emp
 ·rw [if_pos e]
  obtain ⟨h1,h2,h3⟩:=fT hp
  have hne:h.pledged≠h.company:=fun e2=>kd hp.company (e2.symm.trans e)
  rw [tB h1,i7 h0 h2 h3,decide_eq_false hne]
  simp
 ·rw [if_neg e]
  by_cases e2:h.pledged=h.company
  ·rw [decide_eq_true e2]
   unfold oZ
   simp [e2]
  ·rw [decide_eq_false e2]
   unfold oZ
   simp [e2]
theorem nb {α:Type} (p:α→Bool) (g:α→Int) (m:Int):∀l:List α,bH p (fun x=>g x * m) l=bH p g l * m
 | []=>by simp [bH]
 | a::r=>by
  simp only [bH,nb p g m r]
  split
  ·rw [Int.add_mul]
  ·rw [Int.add_mul];simp
theorem uT {l:List Hd} (hp:∀h∈l,aS h=true):∀h∈l,(0≤h.capital∧h.capital≤100)∧(0≤h.votes∧h.votes≤100):=fun h hh=>by
 have:=((cX h).1 (hp h hh)).pct
 unfold mz at this
 simp only [Bool.and_eq_true,decide_eq_true_eq] at this
 exact this
theorem B5 {l m:List Hd} (hp:∀h∈l,aS h=true) (hm:∀h∈l,h∈m) {i:Nat} (hi:i<(ay m).length) (day:Int):gH (i:Int) (cV (ixS (ay m)) day l)=capS l day (ay m)[i] * 60:=by
 have hc:=uT hp
 have h1:=kr Hd.capital dK (ixS (ay m)) day (i:Int) l (fun h hh=>(hc h hh).1) mP
 have e:cV (ixS (ay m)) day l=l.foldl (eI Hd.capital dK (ixS (ay m)) day) ez:=rfl
 rw [e,h1]
 have hz:gH (i:Int) ez=0:=rfl
 rw [hz,Int.zero_add]
 unfold capS
 rw [←nb]
 have aux:∀q:List Hd,(∀h∈q,h∈l)→bH (fun h=>bW h day) (mf Hd.capital dK (ixS (ay m)) (i:Int)) q=bH (inB day (ay m)[i]) (fun x=>x.capital * 60) q:=by
  intro q
  induction q with
  | nil=>intro _;rfl
  | cons h r ih =>
   intro hq
   have hl:=hq h (List.mem_cons_self ..)
   simp only [bH,ih fun x hx=>hq x (List.mem_cons_of_mem _ hx)]
   have hcm:h.company∈ay m:=eA.2 ⟨h,hm h hl,by unfold bC;exact List.mem_cons_self ..⟩
   have hx:=uy hcm (List.getElem_mem hi)
   have hxi:ixS (ay m) (ay m)[i]=i:=Am (ey m) hi
   rw [hxi] at hx
   rw [xH ((cX h).1 (hp h hl)) (hc h hl).1.1]
   have hd:decide (h.company=(ay m)[i])=decide (ixS (ay m) h.company=i):=decide_eq_decide.2 hx.symm
   unfold inB
   rw [hd]
   by_cases e1:bW h day=true<;>by_cases e2:ixS (ay m) h.company=i<;>simp [e1,e2]
 exact aux l fun h hh=>hh
theorem Bk {l m:List Hd} (hp:∀h∈l,aS h=true) (hm:∀h∈l,h∈m) {i:Nat} (hi:i<(ay m).length) (day:Int):gH (i:Int) (cW (ixS (ay m)) day l)=bH (fun h=>inB day (ay m)[i] h && !pp h) Hd.votes l * 60:=by
 have hc:=uT hp
 have h1:=kr Hd.votes dV (ixS (ay m)) day (i:Int) l (fun h hh=>(hc h hh).2) mP
 have e:cW (ixS (ay m)) day l=l.foldl (eI Hd.votes dV (ixS (ay m)) day) ez:=rfl
 rw [e,h1]
 have hz:gH (i:Int) ez=0:=rfl
 rw [hz,Int.zero_add]
 rw [←nb]
 have aux:∀q:List Hd,(∀h∈q,h∈l)→bH (fun h=>bW h day) (mf Hd.votes dV (ixS (ay m)) (i:Int)) q=bH (fun h=>inB day (ay m)[i] h && !pp h) (fun x=>x.votes * 60) q:=by
  intro q
  induction q with
  | nil=>intro _;rfl
  | cons h r ih =>
   intro hq
   have hl:=hq h (List.mem_cons_self ..)
   simp only [bH,ih fun x hx=>hq x (List.mem_cons_of_mem _ hx)]
   have hcm:h.company∈ay m:=eA.2 ⟨h,hm h hl,by unfold bC;exact List.mem_cons_self ..⟩
   have hx:=uy hcm (List.getElem_mem hi)
   have hxi:ixS (ay m) (ay m)[i]=i:=Am (ey m) hi
   rw [hxi] at hx
   rw [xG ((cX h).1 (hp h hl)) (hc h hl).2.1]
   have hd:decide (h.company=(ay m)[i])=decide (ixS (ay m) h.company=i):=decide_eq_decide.2 hx.symm
   unfold inB
   rw [hd]
   by_cases e1:bW h day=true<;>by_cases e2:ixS (ay m) h.company=i<;>by_cases e3:pp h=true<;>simp [e1,e2,e3]
 exact aux l fun h hh=>hh
theorem Do {l:List Hd} (p:Hd→Bool):(∃h∈l,p h=true)→∃h∈l,p h=true∧∀x∈l,p x=true→x.fr≤h.fr:=by
 induction l with
 | nil=>rintro ⟨h,hh,_⟩;cases hh
 | cons a r ih =>
  rintro ⟨h,hh,hp⟩
  by_cases hr:∃x∈r,p x=true
  ·obtain ⟨b,hb,h1,h2⟩:=ih hr
   by_cases hc:p a=true∧b.fr≤a.fr
   ·refine ⟨a,List.mem_cons_self ..,hc.1,fun x hx hpx => ?_⟩
    rcases List.mem_cons.1 hx with rfl | hx
    ·exact Int.le_refl _
    ·have:=h2 x hx hpx;omega
   ·refine ⟨b,List.mem_cons_of_mem _ hb,h1,fun x hx hpx => ?_⟩
    rcases List.mem_cons.1 hx with rfl | hx
    ·have:¬b.fr≤x.fr:=fun h3=>hc ⟨hpx,h3⟩
     omega
    ·exact h2 x hx hpx
  ·rcases List.mem_cons.1 hh with rfl | hh
   ·refine ⟨h,List.mem_cons_self ..,hp,fun x hx hpx => ?_⟩
    rcases List.mem_cons.1 hx with rfl | hx
    ·exact Int.le_refl _
    ·exact absurd ⟨x,hx,hpx⟩ hr
   ·exact absurd ⟨h,hh,hp⟩ hr
def jT (l:List Hd):Bool:=l.all fun h=>okC l h.fr h.company
theorem CX {l:List Hd} (hp:∀h∈l,aS h=true) (hb:jT l=true) (day:Int) (c:ByteArray):capS l day c≤100∧votS l day c≤100:=by
 have hc:=uT hp
 by_cases hr:∃h∈l,inB day c h=true
 ·obtain ⟨h,hh,h1,h2⟩:=Do _ hr
  have h4:=List.all_eq_true.1 hb h hh
  unfold inB at h1
  simp only [Bool.and_eq_true,decide_eq_true_eq] at h1
  rw [h1.2] at h4
  unfold okC at h4
  simp only [Bool.and_eq_true,decide_eq_true_eq] at h4
  have hle:∀x∈l,inB day c x=true→inB h.fr c x=true:=fun x hx hi=>by
   have h5:=h2 x hx hi
   unfold inB bW at hi ⊢
   simp only [Bool.and_eq_true,Bool.or_eq_true,decide_eq_true_eq] at hi ⊢
   have h1r:=h1.1
   unfold bW at h1r
   simp only [Bool.and_eq_true,Bool.or_eq_true,decide_eq_true_eq] at h1r
   refine ⟨⟨h5,?_⟩,hi.2⟩
   rcases hi.1.2 with h6 | h6
   ·exact .inl h6
   ·exact .inr (by omega)
  have s1:capS l day c≤capS l h.fr c:=by
   unfold capS
   refine mH fun x hx => ?_
   have h6:=(hc x hx).1.1
   by_cases e:inB day c x=true
   ·rw [if_pos e,if_pos (hle x hx e)];exact Int.le_refl _
   ·rw [if_neg e];split<;>omega
  have s2:votS l day c≤votS l h.fr c:=by
   unfold votS
   refine mH fun x hx => ?_
   have h6:=(hc x hx).2.1
   by_cases e:inB day c x=true
   ·rw [if_pos e,if_pos (hle x hx e)];exact Int.le_refl _
   ·rw [if_neg e];split<;>omega
  omega
 ·have z:∀g:Hd→Int,bH (inB day c) g l=0:=fun g=>i8 fun h hh e=>absurd ⟨h,hh,e⟩ hr
  unfold capS votS
  rw [z,z];omega
theorem zu {h:Hd} (hp:aS h=true):bW h h.fr=true:=by
 have:=((cX h).1 hp).days
 unfold pr4 at this
 unfold bW
 simp only [Bool.and_eq_true,Bool.or_eq_true,decide_eq_true_eq] at this ⊢
 exact ⟨Int.le_refl _,this.2.imp id fun h=>h.2⟩
theorem kP {l:List Hd} (hp:∀h∈l,aS h=true):jT l=fg l:=by
 rw [Bool.eq_iff_iff]
 constructor
 ·intro hb
  unfold fg onB
  refine List.all_eq_true.2 fun h hh=>List.all_eq_true.2 fun g hg => ?_
  have:=CX hp hb h.fr g.company
  unfold okC
  rw [decide_eq_true this.1,decide_eq_true this.2]
  simp
 ·intro hb
  unfold jT
  refine List.all_eq_true.2 fun h hh => ?_
  have h3:=List.all_eq_true.1 hb h hh
  have h4:=List.all_eq_true.1 h3 h hh
  rw [zu (hp h hh)] at h4
  simpa using h4
theorem xE {l:List Hd} (hp:∀h∈l,aS h=true) (hb:fg l=true) (day:Int) (c:ByteArray):capS l day c≤100∧votS l day c≤100:=CX hp (by rw [kP hp];exact hb) day c
end Rg
end Go.Proofs.YtdekcppfpgeneaaGreatDoor
namespace Go.Proofs.YtdekcppfpgeneaaGreatDoor
open Go Go.RowKit
namespace Av
attribute [local irreducible] AW aQ aM
open Nt Rg
theorem na {α:Type} {a b:List α} {k:Nat} (h1:k<a.length) (h2:k<b.length) (h:a.take k=b.take k) (e:a[k]=b[k]):a.take (k+1)=b.take (k+1):=by
 rw [List.take_add_one,List.take_add_one,List.getElem?_eq_getElem h1,List.getElem?_eq_getElem h2,h,e]
section
variable (base:World)
set_option maxRecDepth 100000 in
set_option maxHeartbeats 1000000 in
theorem qv (a b:List ByteArray) (ha:a.length≤1000000) (hbl:b.length≤1000000):aJ Tryz.prog base 29 [.d (aN a),.d (aN b)] (boA (decide (a=b))):=by
 refine aA af Tryz.call29 Tryz.func29 rfl fun H hB hb hF => ?_
 rw [Tryz.results29,Tryz.ntmps29]
 simp only [ax,List.length_cons,List.length_nil,List.replicate,List.cons_append,List.nil_append,Nat.reduceAdd,Nat.reduceSub]
 clear hF hb
 have la:(a.map fun s=>[PD.v (.string s)]).length=a.length:=by simp
 have lb:(b.map fun s=>[PD.v (.string s)]).length=b.length:=by simp
 simp only [aN]
 obtain ⟨c0,g0⟩:∃c,decide ((a.length:Int)=(b.length:Int))=c:=⟨_,rfl⟩
 repeat' (first | (refine aa ?_;first | (refine zg rfl ?_;first | refine ah ?_ | refine zo ?_ | (refine zs ?_ ?_<;>intro hb<;>((try simp only [bn] at hb);first | subst hb | simp only [hb]))) | (apply ai;rfl;simp only [aj,avs,tts,seval,la,lb,g0]<;>exact rr)) | refine ae ?_ | (refine ak ?_;first | (refine yg rfl ?_;first | refine aq ?_ | refine yo ?_ | (refine ys ?_ ?_<;>intro hb<;>((try simp only [bn] at hb);first | subst hb | simp only [hb]))) | (apply ar;rfl;simp only [aB,avs,tts,seval,la,lb,g0]<;>exact rr;first | trivial | omega)) | refine al ?_ | refine ag ?_ | refine zr af ?_ | refine zR 0 af mixed ?_ | refine zR 1 af mixed ?_ | refine zR 2 af mixed ?_ | refine zR 3 af mixed ?_ | refine zf rfl rfl ?_ | refine zt rfl rfl ?_ | (refine an rfl rfl ?_ ?_<;>intro hb<;>((try simp only [bn] at hb);first | subst hb | simp only [hb])) | refine ap ?_ | refine au ?_ | refine am ?_)
 ·have hne:decide (a=b)=false:=decide_eq_false fun e=>by subst e;simp at g0
  rw [hne];exact aw ⟨_,rfl,[],by simp,rfl⟩
 have hl:a.length=b.length:=by have:=of_decide_eq_true g0;omega
 refine bc (H0:=H) (fun r env K=>∃k,r=a.length - k∧k≤a.length∧a.take k=b.take k∧K=H∧env=(.d (.sl 1 (a.map fun s=>[PD.v (.string s)])) :: .d (.sl 1 (b.map fun s=>[PD.v (.string s)])) :: .undef :: .undef :: .undef :: .d (.v (.int .i64 (k:Int)))::List.replicate 20 .undef)) ?_ ⟨0,rfl,Nat.zero_le _,rfl,rfl,rfl⟩ ?_
 ·exact ⟨by simp [aH,List.replicate],.inl rfl⟩
 rintro r env K ⟨k,rfl,hk,hok,rfl,rfl⟩ hN
 simp only [rp]
 obtain ⟨c1,g1⟩:∃c1,decide ((k:Int)<(a.length:Int))=c1:=⟨_,rfl⟩
 cases c1 with
 | true =>
  have hlt:k<a.length:=by simpa using g1
  have hlt2:k<b.length:=by omega
  have hix:(0:Int)≤(k:Int):=by omega
  have ga:=bP hlt
  have gb:=bP hlt2
  have w1:IntKind.i64.wrap ((k:Int)+1)=((k+1:Nat):Int):=aP hlt (by omega)
  obtain ⟨c2,g2⟩:∃c,decide (a[k]=b[k])=c:=⟨_,rfl⟩
  repeat' (first | (refine aa ?_;first | (refine zg rfl ?_;first | refine ah ?_ | refine zo ?_ | (refine zs ?_ ?_<;>intro hb<;>((try simp only [bn] at hb);first | subst hb | simp only [hb]))) | (apply ai;rfl;simp only [aj,avs,tts,seval,hix,hlt,hlt2,ga,gb,la,lb,g1,g2,w1]<;>exact rr)) | refine ae ?_ | (refine ak ?_;first | (refine yg rfl ?_;first | refine aq ?_ | refine yo ?_ | (refine ys ?_ ?_<;>intro hb<;>((try simp only [bn] at hb);first | subst hb | simp only [hb]))) | (apply ar;rfl;simp only [aB,avs,tts,seval,hix,hlt,hlt2,ga,gb,la,lb,g1,g2,w1]<;>exact rr;first | trivial | omega)) | refine al ?_ | refine ag ?_ | refine zr af ?_ | refine zR 0 af mixed ?_ | refine zR 1 af mixed ?_ | refine zR 2 af mixed ?_ | refine zR 3 af mixed ?_ | refine zf rfl rfl ?_ | refine zt rfl rfl ?_ | (refine an rfl rfl ?_ ?_<;>intro hb<;>((try simp only [bn] at hb);first | subst hb | simp only [hb])) | refine ap ?_ | refine au ?_ | refine am ?_)
  ·have hne:decide (a=b)=false:=decide_eq_false fun e=>by subst e;simp at g2
   rw [hne];exact aw ⟨_,rfl,[],by simp,rfl⟩
  ·refine ⟨a.length - (k+1),_,_,by omega,⟨?_,.inl rfl⟩,k+1,rfl,hlt,na hlt hlt2 hok (of_decide_eq_true g2),rfl,rfl⟩
   simp [aH,List.replicate]
 | false =>
  have hka:k=a.length:=by
                 have:¬k<a.length:=by simpa using g1
                 omega
  have heq:a=b:=by
   rw [hka,List.take_length] at hok
   rw [hok,hl,List.take_length]
  repeat' (first | (refine aa ?_;first | (refine zg rfl ?_;first | refine ah ?_ | refine zo ?_ | (refine zs ?_ ?_<;>intro hb<;>((try simp only [bn] at hb);first | subst hb | simp only [hb]))) | (apply ai;rfl;simp only [aj,avs,tts,seval,la,lb,g1]<;>exact rr)) | refine ae ?_ | (refine ak ?_;first | (refine yg rfl ?_;first | refine aq ?_ | refine yo ?_ | (refine ys ?_ ?_<;>intro hb<;>((try simp only [bn] at hb);first | subst hb | simp only [hb]))) | (apply ar;rfl;simp only [aB,avs,tts,seval,la,lb,g1]<;>exact rr;first | trivial | omega)) | refine al ?_ | refine ag ?_ | refine zr af ?_ | refine zR 0 af mixed ?_ | refine zR 1 af mixed ?_ | refine zR 2 af mixed ?_ | refine zR 3 af mixed ?_ | refine zf rfl rfl ?_ | refine zt rfl rfl ?_ | (refine an rfl rfl ?_ ?_<;>intro hb<;>((try simp only [bn] at hb);first | subst hb | simp only [hb])) | refine ap ?_ | refine au ?_ | refine am ?_)
  rw [decide_eq_true heq]
  exact aw ⟨_,rfl,[],by simp,rfl⟩
set_option maxRecDepth 100000 in
set_option maxHeartbeats 1000000 in
theorem jX (a b:List Lk) (ha:a.length≤1000000) (hbl:b.length≤1000000):aJ Tryz.prog base 28 [.d (jv a),.d (jv b)] (boA (decide (a=b))):=by
 refine aA af Tryz.call28 Tryz.func28 rfl fun H hB hb hF => ?_
 rw [Tryz.results28,Tryz.ntmps28]
 simp only [ax,List.length_cons,List.length_nil,List.replicate,List.cons_append,List.nil_append,Nat.reduceAdd,Nat.reduceSub]
 clear hF hb
 have la:(a.map lkP).length=a.length:=by simp
 have lb:(b.map lkP).length=b.length:=by simp
 simp only [jv]
 obtain ⟨c0,g0⟩:∃c,decide ((a.length:Int)=(b.length:Int))=c:=⟨_,rfl⟩
 repeat' (first | (refine aa ?_;first | (refine zg rfl ?_;first | refine ah ?_ | refine zo ?_ | (refine zs ?_ ?_<;>intro hb<;>((try simp only [bn] at hb);first | subst hb | simp only [hb]))) | (apply ai;rfl;simp only [aj,avs,tts,seval,la,lb,g0]<;>exact rr)) | refine ae ?_ | (refine ak ?_;first | (refine yg rfl ?_;first | refine aq ?_ | refine yo ?_ | (refine ys ?_ ?_<;>intro hb<;>((try simp only [bn] at hb);first | subst hb | simp only [hb]))) | (apply ar;rfl;simp only [aB,avs,tts,seval,la,lb,g0]<;>exact rr;first | trivial | omega)) | refine al ?_ | refine ag ?_ | refine zr af ?_ | refine zR 0 af mixed ?_ | refine zR 1 af mixed ?_ | refine zR 2 af mixed ?_ | refine zR 3 af mixed ?_ | refine zf rfl rfl ?_ | refine zt rfl rfl ?_ | (refine an rfl rfl ?_ ?_<;>intro hb<;>((try simp only [bn] at hb);first | subst hb | simp only [hb])) | refine ap ?_ | refine au ?_ | refine am ?_)
 ·have hne:decide (a=b)=false:=decide_eq_false fun e=>by subst e;simp at g0
  rw [hne];exact aw ⟨_,rfl,[],by simp,rfl⟩
 have hl:a.length=b.length:=by have:=of_decide_eq_true g0;omega
 refine bc (H0:=H) (fun r env K=>∃k,r=a.length - k∧k≤a.length∧a.take k=b.take k∧K=H∧env=(.d (.sl 5 (a.map lkP)) :: .d (.sl 5 (b.map lkP)) :: .undef :: .undef :: .undef :: .d (.v (.int .i64 (k:Int)))::List.replicate 20 .undef)) ?_ ⟨0,rfl,Nat.zero_le _,rfl,rfl,rfl⟩ ?_
 ·exact ⟨by simp [aH,List.replicate],.inl rfl⟩
 rintro r env K ⟨k,rfl,hk,hok,rfl,rfl⟩ hN
 simp only [rp]
 obtain ⟨c1,g1⟩:∃c1,decide ((k:Int)<(a.length:Int))=c1:=⟨_,rfl⟩
 cases c1 with
 | true =>
  have hlt:k<a.length:=by simpa using g1
  have hlt2:k<b.length:=by omega
  have hix:(0:Int)≤(k:Int):=by omega
  have ga:=nQ hlt
  have gb:=nQ hlt2
  have w1:IntKind.i64.wrap ((k:Int)+1)=((k+1:Nat):Int):=aP hlt (by omega)
  have g2':=DD a[k] b[k]
  obtain ⟨c2,g2⟩:∃c,decide (a[k]=b[k])=c:=⟨_,rfl⟩
  rw [g2] at g2'
  simp only [lkP] at ga gb
  repeat' (first | (refine aa ?_;first | (refine zg rfl ?_;first | refine ah ?_ | refine zo ?_ | (refine zs ?_ ?_<;>intro hb<;>((try simp only [bn] at hb);first | subst hb | simp only [hb]))) | (apply ai;rfl;simp only [aj,avs,tts,seval,hix,hlt,hlt2,ga,gb,la,lb,g1,g2',w1]<;>exact rr)) | refine ae ?_ | (refine ak ?_;first | (refine yg rfl ?_;first | refine aq ?_ | refine yo ?_ | (refine ys ?_ ?_<;>intro hb<;>((try simp only [bn] at hb);first | subst hb | simp only [hb]))) | (apply ar;rfl;simp only [aB,avs,tts,seval,hix,hlt,hlt2,ga,gb,la,lb,g1,g2',w1]<;>exact rr;first | trivial | omega)) | refine al ?_ | refine ag ?_ | refine zr af ?_ | refine zR 0 af mixed ?_ | refine zR 1 af mixed ?_ | refine zR 2 af mixed ?_ | refine zR 3 af mixed ?_ | refine zf rfl rfl ?_ | refine zt rfl rfl ?_ | (refine an rfl rfl ?_ ?_<;>intro hb<;>((try simp only [bn] at hb);first | subst hb | simp only [hb])) | refine ap ?_ | refine au ?_ | refine am ?_)
  ·have hne:decide (a=b)=false:=decide_eq_false fun e=>by subst e;simp at g2
   rw [hne];exact aw ⟨_,rfl,[],by simp,rfl⟩
  ·refine ⟨a.length - (k+1),_,_,by omega,⟨?_,.inl rfl⟩,k+1,rfl,hlt,na hlt hlt2 hok (of_decide_eq_true g2),rfl,rfl⟩
   simp [aH,List.replicate]
 | false =>
  have hka:k=a.length:=by
                 have:¬k<a.length:=by simpa using g1
                 omega
  have heq:a=b:=by
   rw [hka,List.take_length] at hok
   rw [hok,hl,List.take_length]
  repeat' (first | (refine aa ?_;first | (refine zg rfl ?_;first | refine ah ?_ | refine zo ?_ | (refine zs ?_ ?_<;>intro hb<;>((try simp only [bn] at hb);first | subst hb | simp only [hb]))) | (apply ai;rfl;simp only [aj,avs,tts,seval,la,lb,g1]<;>exact rr)) | refine ae ?_ | (refine ak ?_;first | (refine yg rfl ?_;first | refine aq ?_ | refine yo ?_ | (refine ys ?_ ?_<;>intro hb<;>((try simp only [bn] at hb);first | subst hb | simp only [hb]))) | (apply ar;rfl;simp only [aB,avs,tts,seval,la,lb,g1]<;>exact rr;first | trivial | omega)) | refine al ?_ | refine ag ?_ | refine zr af ?_ | refine zR 0 af mixed ?_ | refine zR 1 af mixed ?_ | refine zR 2 af mixed ?_ | refine zR 3 af mixed ?_ | refine zf rfl rfl ?_ | refine zt rfl rfl ?_ | (refine an rfl rfl ?_ ?_<;>intro hb<;>((try simp only [bn] at hb);first | subst hb | simp only [hb])) | refine ap ?_ | refine au ?_ | refine am ?_)
  rw [decide_eq_true heq]
  exact aw ⟨_,rfl,[],by simp,rfl⟩
theorem ro {p q:Prop} [Decidable p] [Decidable q] [Decidable (p∧q)]:decide (p∧q)=(decide p&&decide q):=by
 by_cases h1:p<;>by_cases h2:q<;>simp [h1,h2]
theorem Bq (a b:Str):decide (a=b)=(decide (a.parties=b.parties)&&(decide (a.capital=b.capital)&&decide (a.votes=b.votes))):=by
 cases a;cases b
 simp only [Str.mk.injEq]
 rw [←ro,←ro]
set_option maxRecDepth 100000 in
set_option maxHeartbeats 1000000 in
theorem yX (a b:Str) (h1:a.parties.length≤1000000) (h2:b.parties.length≤1000000) (h3:a.capital.length≤1000000) (h4:b.capital.length≤1000000) (h5:a.votes.length≤1000000) (h6:b.votes.length≤1000000):aJ Tryz.prog base 16 [qz a,qz b] (boA (decide (a=b))):=by
 have c1:=qv base a.parties b.parties h1 h2
 have c2:=jX base a.capital b.capital h3 h4
 have c3:=jX base a.votes b.votes h5 h6
 refine aA af Tryz.call16 Tryz.func16 rfl fun H hB hb hF => ?_
 rw [Tryz.results16,Tryz.ntmps16]
 simp only [ax,List.length_cons,List.length_nil,List.replicate,List.cons_append,List.nil_append,Nat.reduceAdd,Nat.reduceSub]
 clear hF hb
 rw [Bq]
 simp only [qz,yL]
 generalize decide (a.parties=b.parties)=b1 at *
 generalize decide (a.capital=b.capital)=b2 at *
 generalize decide (a.votes=b.votes)=b3 at *
 repeat' (first | (refine aa ?_;first | (refine zg rfl ?_;first | refine ah ?_ | refine zo ?_ | (refine zs ?_ ?_<;>intro hb<;>((try simp only [bn] at hb);first | subst hb | simp only [hb]))) | (apply ai;rfl;simp only [aj,avs,tts,seval]<;>exact rr) | (refine za rfl ?_;first | refine zp (c1) ?_ | refine zp (c2) ?_ | refine zp (c3) ?_)) | refine ae ?_ | (refine ak ?_;first | (refine yg rfl ?_;first | refine aq ?_ | refine yo ?_ | (refine ys ?_ ?_<;>intro hb<;>((try simp only [bn] at hb);first | subst hb | simp only [hb]))) | (apply ar;rfl;simp only [aB,avs,tts,seval]<;>exact rr;first | trivial | omega) | (refine ya rfl ?_;first | refine yp (c1) ?_ | refine yp (c2) ?_ | refine yp (c3) ?_)) | refine al ?_ | refine ag ?_ | refine zr af ?_ | refine zR 0 af mixed ?_ | refine zR 1 af mixed ?_ | refine zR 2 af mixed ?_ | refine zR 3 af mixed ?_ | refine zf rfl rfl ?_ | refine zt rfl rfl ?_ | (refine an rfl rfl ?_ ?_<;>intro hb<;>((try simp only [bn] at hb);first | subst hb | simp only [hb])) | refine ap ?_ | refine au ?_ | refine am ?_)
 all_goals exact aw ⟨_,rfl,_,rfl,rfl⟩
end
end Av
end Go.Proofs.YtdekcppfpgeneaaGreatDoor
namespace Go.Proofs.YtdekcppfpgeneaaGreatDoor
open Go Go.RowKit
namespace Av
attribute [local irreducible] AW aQ aM
open Nt Rg
theorem BS (h:Hd):(hdC h).map AV.d=hdL h:=rfl
theorem Dv (a b:Hd):decide (a=b)=(decide (a.id=b.id)&&(decide (a.company=b.company)&&(decide (a.holder=b.holder)&&(decide (a.nominee=b.nominee)&&(decide (a.pledged=b.pledged)&&(decide (a.joint=b.joint)&&(decide (a.capital=b.capital)&&(decide (a.votes=b.votes)&&(decide (a.fr=b.fr)&&decide (a.til=b.til)))))))))):=by
 cases a;cases b
 simp only [Hd.mk.injEq]
 simp only [←ro]
section
variable (base:World)
set_option maxRecDepth 100000 in
set_option maxHeartbeats 4000000 in
theorem Bw (a b:Hd) (h1:a.joint.length≤1000000) (h2:b.joint.length≤1000000):aJ Tryz.prog base 25 [hdA a,hdA b] (boA (decide (a=b))):=by
 have c1:=qv base a.joint b.joint h1 h2
 refine aA af Tryz.call25 Tryz.func25 rfl fun H hB hb hF => ?_
 rw [Tryz.results25,Tryz.ntmps25]
 simp only [ax,List.length_cons,List.length_nil,List.replicate,List.cons_append,List.nil_append,Nat.reduceAdd,Nat.reduceSub]
 clear hF hb
 rw [Dv]
 obtain ⟨a1,a2,a3,a4,a5,a6,a7,a8,a9,a10⟩:=a
 obtain ⟨b1,b2,b3,b4,b5,b6,b7,b8,b9,b10⟩:=b
 simp only [hdA,hdL,tA,iA] at c1 ⊢
 obtain ⟨d1,g1⟩:∃d,decide (a1=b1)=d:=⟨_,rfl⟩
 obtain ⟨d2,g2⟩:∃d,decide (a2=b2)=d:=⟨_,rfl⟩
 obtain ⟨d3,g3⟩:∃d,decide (a3=b3)=d:=⟨_,rfl⟩
 obtain ⟨d4,g4⟩:∃d,decide (a4=b4)=d:=⟨_,rfl⟩
 obtain ⟨d5,g5⟩:∃d,decide (a5=b5)=d:=⟨_,rfl⟩
 obtain ⟨d6,g6⟩:∃d,decide (a6=b6)=d:=⟨_,rfl⟩
 obtain ⟨d7,g7⟩:∃d,decide (a7=b7)=d:=⟨_,rfl⟩
 obtain ⟨d8,g8⟩:∃d,decide (a8=b8)=d:=⟨_,rfl⟩
 obtain ⟨d9,g9⟩:∃d,decide (a9=b9)=d:=⟨_,rfl⟩
 obtain ⟨d10,g10⟩:∃d,decide (a10=b10)=d:=⟨_,rfl⟩
 rw [g6] at c1
 rw [g1,g2,g3,g4,g5,g6,g7,g8,g9,g10]
 clear g6
 repeat' (first | (refine aa ?_;first | (refine zg rfl ?_;first | refine ah ?_ | refine zo ?_ | (refine zs ?_ ?_<;>intro hb<;>((try simp only [bn] at hb);first | subst hb | simp only [hb]))) | (apply ai;rfl;simp only [aj,avs,tts,seval,g1,g2,g3,g4,g5,g7,g8,g9,g10]<;>exact rr) | (refine za rfl ?_;refine zp (c1) ?_)) | refine ae ?_ | (refine ak ?_;first | (refine yg rfl ?_;first | refine aq ?_ | refine yo ?_ | (refine ys ?_ ?_<;>intro hb<;>((try simp only [bn] at hb);first | subst hb | simp only [hb]))) | (apply ar;rfl;simp only [aB,avs,tts,seval,g1,g2,g3,g4,g5,g7,g8,g9,g10]<;>exact rr;first | trivial | omega) | (refine ya rfl ?_;refine yp (c1) ?_)) | refine al ?_ | refine ag ?_ | refine zr af ?_ | refine zR 0 af mixed ?_ | refine zR 1 af mixed ?_ | refine zR 2 af mixed ?_ | refine zR 3 af mixed ?_ | refine zf rfl rfl ?_ | refine zt rfl rfl ?_ | (refine an rfl rfl ?_ ?_<;>intro hb<;>((try simp only [bn] at hb);first | subst hb | simp only [hb])) | refine ap ?_ | refine au ?_ | refine am ?_)
 all_goals exact aw ⟨_,rfl,_,rfl,rfl⟩
set_option maxRecDepth 100000 in
set_option maxHeartbeats 1000000 in
theorem rX (a b:List Hd) (ha:a.length≤1000000) (hbl:b.length≤1000000) (hj:∀h∈a,h.joint.length≤1000000) (hj2:∀h∈b,h.joint.length≤1000000):aJ Tryz.prog base 24 [.d (bM a),.d (bM b)] (boA (decide (a=b))):=by
 refine aA af Tryz.call24 Tryz.func24 rfl fun H hB hb hF => ?_
 rw [Tryz.results24,Tryz.ntmps24]
 simp only [ax,List.length_cons,List.length_nil,List.replicate,List.cons_append,List.nil_append,Nat.reduceAdd,Nat.reduceSub]
 clear hF hb
 have la:=bY a
 have lb:=bY b
 simp only [bM]
 obtain ⟨c0,g0⟩:∃c,decide ((a.length:Int)=(b.length:Int))=c:=⟨_,rfl⟩
 repeat' (first | (refine aa ?_;first | (refine zg rfl ?_;first | refine ah ?_ | refine zo ?_ | (refine zs ?_ ?_<;>intro hb<;>((try simp only [bn] at hb);first | subst hb | simp only [hb]))) | (apply ai;rfl;simp only [aj,avs,tts,seval,la,lb,g0]<;>exact rr)) | refine ae ?_ | (refine ak ?_;first | (refine yg rfl ?_;first | refine aq ?_ | refine yo ?_ | (refine ys ?_ ?_<;>intro hb<;>((try simp only [bn] at hb);first | subst hb | simp only [hb]))) | (apply ar;rfl;simp only [aB,avs,tts,seval,la,lb,g0]<;>exact rr;first | trivial | omega)) | refine al ?_ | refine ag ?_ | refine zr af ?_ | refine zR 0 af mixed ?_ | refine zR 1 af mixed ?_ | refine zR 2 af mixed ?_ | refine zR 3 af mixed ?_ | refine zf rfl rfl ?_ | refine zt rfl rfl ?_ | (refine an rfl rfl ?_ ?_<;>intro hb<;>((try simp only [bn] at hb);first | subst hb | simp only [hb])) | refine ap ?_ | refine au ?_ | refine am ?_)
 ·have hne:decide (a=b)=false:=decide_eq_false fun e=>by subst e;simp at g0
  rw [hne];exact aw ⟨_,rfl,[],by simp,rfl⟩
 have hl:a.length=b.length:=by have:=of_decide_eq_true g0;omega
 refine bc (H0:=H) (fun r env K=>∃k,r=a.length - k∧k≤a.length∧a.take k=b.take k∧K=H∧env=(.d (.sl 10 (a.map hdC)) :: .d (.sl 10 (b.map hdC)) :: .undef :: .undef :: .undef :: .d (.v (.int .i64 (k:Int)))::List.replicate 21 .undef)) ?_ ⟨0,rfl,Nat.zero_le _,rfl,rfl,rfl⟩ ?_
 ·exact ⟨by simp [aH,List.replicate],.inl rfl⟩
 rintro r env K ⟨k,rfl,hk,hok,rfl,rfl⟩ hN
 simp only [rp]
 obtain ⟨c1,g1⟩:∃c1,decide ((k:Int)<(a.length:Int))=c1:=⟨_,rfl⟩
 cases c1 with
 | true =>
  have hlt:k<a.length:=by simpa using g1
  have hlt2:k<b.length:=by omega
  have hix:(0:Int)≤(k:Int):=by omega
  have ga:=dl hlt
  have gb:=dl hlt2
  have w1:IntKind.i64.wrap ((k:Int)+1)=((k+1:Nat):Int):=aP hlt (by omega)
  have cs:=Bw base a[k] b[k] (hj _ (List.getElem_mem hlt)) (hj2 _ (List.getElem_mem hlt2))
  obtain ⟨c2,g2⟩:∃c,decide (a[k]=b[k])=c:=⟨_,rfl⟩
  rw [g2] at cs
  simp only [hdA,←BS] at cs
  repeat' (first | (refine aa ?_;first | (refine zg rfl ?_;first | refine ah ?_ | refine zo ?_ | (refine zs ?_ ?_<;>intro hb<;>((try simp only [bn] at hb);first | subst hb | simp only [hb]))) | (apply ai;rfl;simp only [aj,avs,tts,seval,hix,hlt,hlt2,ga,gb,la,lb,g1,w1]<;>exact rr) | (refine za rfl ?_;refine zp (cs) ?_)) | refine ae ?_ | (refine ak ?_;first | (refine yg rfl ?_;first | refine aq ?_ | refine yo ?_ | (refine ys ?_ ?_<;>intro hb<;>((try simp only [bn] at hb);first | subst hb | simp only [hb]))) | (apply ar;rfl;simp only [aB,avs,tts,seval,hix,hlt,hlt2,ga,gb,la,lb,g1,w1]<;>exact rr;first | trivial | omega) | (refine ya rfl ?_;refine yp (cs) ?_)) | refine al ?_ | refine ag ?_ | refine zr af ?_ | refine zR 0 af mixed ?_ | refine zR 1 af mixed ?_ | refine zR 2 af mixed ?_ | refine zR 3 af mixed ?_ | refine zf rfl rfl ?_ | refine zt rfl rfl ?_ | (refine an rfl rfl ?_ ?_<;>intro hb<;>((try simp only [bn] at hb);first | subst hb | simp only [hb])) | refine ap ?_ | refine au ?_ | refine am ?_)
  ·have hne:decide (a=b)=false:=decide_eq_false fun e=>by subst e;simp at g2
   rw [hne];exact aw ⟨_,rfl,[],by simp,rfl⟩
  ·refine ⟨a.length - (k+1),_,_,by omega,⟨?_,.inl rfl⟩,k+1,rfl,hlt,na hlt hlt2 hok (of_decide_eq_true g2),rfl,rfl⟩
   simp [aH,List.replicate]
 | false =>
  have hka:k=a.length:=by
                 have:¬k<a.length:=by simpa using g1
                 omega
  have heq:a=b:=by
   rw [hka,List.take_length] at hok
   rw [hok,hl,List.take_length]
  repeat' (first | (refine aa ?_;first | (refine zg rfl ?_;first | refine ah ?_ | refine zo ?_ | (refine zs ?_ ?_<;>intro hb<;>((try simp only [bn] at hb);first | subst hb | simp only [hb]))) | (apply ai;rfl;simp only [aj,avs,tts,seval,la,lb,g1]<;>exact rr)) | refine ae ?_ | (refine ak ?_;first | (refine yg rfl ?_;first | refine aq ?_ | refine yo ?_ | (refine ys ?_ ?_<;>intro hb<;>((try simp only [bn] at hb);first | subst hb | simp only [hb]))) | (apply ar;rfl;simp only [aB,avs,tts,seval,la,lb,g1]<;>exact rr;first | trivial | omega)) | refine al ?_ | refine ag ?_ | refine zr af ?_ | refine zR 0 af mixed ?_ | refine zR 1 af mixed ?_ | refine zR 2 af mixed ?_ | refine zR 3 af mixed ?_ | refine zf rfl rfl ?_ | refine zt rfl rfl ?_ | (refine an rfl rfl ?_ ?_<;>intro hb<;>((try simp only [bn] at hb);first | subst hb | simp only [hb])) | refine ap ?_ | refine au ?_ | refine am ?_)
  rw [decide_eq_true heq]
  exact aw ⟨_,rfl,[],by simp,rfl⟩
theorem gV {a b:Nat} {c:Bool} (h:decide (a≤b)=c):decide ((a:Int)>(b:Int)) = !c:=by
 subst h
 by_cases h:a≤b
 ·rw [decide_eq_true h,decide_eq_false (by omega)];rfl
 ·rw [decide_eq_false h,decide_eq_true (by omega)];rfl
set_option maxRecDepth 100000 in
set_option maxHeartbeats 4000000 in
theorem E0 (l:List Hd) (n:Int) (hn:n≤1000000):aJ Tryz.prog base 31 [.d (bM l),iA n] (boA (lD n l)):=by
 refine aA af Tryz.call31 Tryz.func31 rfl fun H hB hb hF => ?_
 rw [Tryz.results31,Tryz.ntmps31]
 simp only [ax,List.length_cons,List.length_nil,List.replicate,List.cons_append,List.nil_append,Nat.reduceAdd,Nat.reduceSub]
 clear hF hb
 have la:=bY l
 simp only [bM,iA]
 obtain ⟨P,hP⟩:∃P,lD n l=P:=⟨_,rfl⟩
 rw [hP]
 obtain ⟨c0,g0⟩:∃c,decide ((l.length:Int)>n)=c:=⟨_,rfl⟩
 repeat' (first | (refine aa ?_;first | (refine zg rfl ?_;first | refine ah ?_ | refine zo ?_ | (refine zs ?_ ?_<;>intro hb<;>((try simp only [bn] at hb);first | subst hb | simp only [hb]))) | (apply ai;rfl;simp only [aj,avs,tts,seval,la,g0]<;>exact rr)) | refine ae ?_ | (refine ak ?_;first | (refine yg rfl ?_;first | refine aq ?_ | refine yo ?_ | (refine ys ?_ ?_<;>intro hb<;>((try simp only [bn] at hb);first | subst hb | simp only [hb]))) | (apply ar;rfl;simp only [aB,avs,tts,seval,la,g0]<;>exact rr;first | trivial | omega)) | refine al ?_ | refine ag ?_ | refine zr af ?_ | refine zR 0 af mixed ?_ | refine zR 1 af mixed ?_ | refine zR 2 af mixed ?_ | refine zR 3 af mixed ?_ | refine zf rfl rfl ?_ | refine zt rfl rfl ?_ | (refine an rfl rfl ?_ ?_<;>intro hb<;>((try simp only [bn] at hb);first | subst hb | simp only [hb])) | refine ap ?_ | refine au ?_ | refine am ?_)
 ·have:P=false:=by
   rw [←hP];unfold lD
   rw [decide_eq_false (by have:=of_decide_eq_true g0;omega),Bool.false_and]
  subst this
  exact aw ⟨_,rfl,[],by simp,rfl⟩
 have hl:l.length≤1000000:=by have:=of_decide_eq_false g0;omega
 refine bc (H0:=H) (fun r env K=>∃k,r=l.length - k∧k≤l.length∧(∀h∈l.take k,(oV h&&lE h)=true)∧K=H∧env=(.d (.sl 10 (l.map hdC)) :: .d (.v (.int .i64 n)) :: .undef :: .undef :: .undef :: .d (.v (.int .i64 (k:Int)))::List.replicate 64 .undef)) ?_ ⟨0,rfl,Nat.zero_le _,fun h hh=>by simp at hh,rfl,rfl⟩ ?_
 ·exact ⟨by simp [aH,List.replicate],.inl rfl⟩
 rintro r env K ⟨k,rfl,hk,hok,rfl,rfl⟩ hN
 simp only [rp]
 obtain ⟨c1,g1⟩:∃c1,decide ((k:Int)<(l.length:Int))=c1:=⟨_,rfl⟩
 cases c1 with
 | true =>
  have hlt:k<l.length:=by simpa using g1
  have hix:(0:Int)≤(k:Int):=by omega
  have ga:=dl hlt
  have w1:IntKind.i64.wrap ((k:Int)+1)=((k+1:Nat):Int):=aP hlt (by omega)
  have hno:=fun e=>DC (n:=n) hlt e
  have htk:(oV l[k]&&lE l[k])=true→∀h∈l.take (k+1),(oV h&&lE h)=true:=fun e h hh=>by
   rw [List.take_add_one,List.getElem?_eq_getElem hlt,Option.toList_some,List.mem_append,List.mem_singleton] at hh
   rcases hh with hh | rfl
   ·exact hok h hh
   ·exact e
  obtain ⟨h,hh⟩:∃h,l[k]=h:=⟨_,rfl⟩
  rw [hh] at hno ga htk
  obtain ⟨id,company,holder,nominee,pledged,joint,capital,votes,fr,til⟩:=h
  simp only [hdC] at ga
  obtain ⟨d1,e1⟩:∃d,decide (id.size≤60)=d:=⟨_,rfl⟩
  obtain ⟨d2,e2⟩:∃d,decide (company.size≤60)=d:=⟨_,rfl⟩
  obtain ⟨d3,e3⟩:∃d,decide (holder.size≤60)=d:=⟨_,rfl⟩
  obtain ⟨d4,e4⟩:∃d,decide (nominee.size≤60)=d:=⟨_,rfl⟩
  obtain ⟨d5,e5⟩:∃d,decide (pledged.size≤60)=d:=⟨_,rfl⟩
  obtain ⟨d6,e6⟩:∃d,decide (joint.length≤10)=d:=⟨_,rfl⟩
  have hf1:oV ⟨id,company,holder,nominee,pledged,joint,capital,votes,fr,til⟩=(d1&&(d2&&(d3&&(d4&&(d5&&d6))))):=by
   unfold oV;simp only [e1,e2,e3,e4,e5,e6]
  have f1:decide ((id.size:Int)>60) = !d1:=gV e1
  have f2:decide ((company.size:Int)>60) = !d2:=gV e2
  have f3:decide ((holder.size:Int)>60) = !d3:=gV e3
  have f4:decide ((nominee.size:Int)>60) = !d4:=gV e4
  have f5:decide ((pledged.size:Int)>60) = !d5:=gV e5
  have f6:decide ((joint.length:Int)>10) = !d6:=gV e6
  have jl:(joint.map fun s=>[PD.v (.string s)]).length=joint.length:=by simp
  clear e1 e2 e3 e4 e5
  simp only [aN] at ga
  repeat' (first | (refine aa ?_;first | (refine zg rfl ?_;first | refine ah ?_ | refine zo ?_ | (refine zs ?_ ?_<;>intro hb<;>((try simp only [bn] at hb);first | subst hb | simp only [hb]))) | (apply ai;rfl;simp only [aj,avs,tts,seval,hix,hlt,ga,la,jl,g1,w1,f1,f2,f3,f4,f5,f6,Bool.not_true,Bool.not_false]<;>exact rr)) | refine ae ?_ | (refine ak ?_;first | (refine yg rfl ?_;first | refine aq ?_ | refine yo ?_ | (refine ys ?_ ?_<;>intro hb<;>((try simp only [bn] at hb);first | subst hb | simp only [hb]))) | (apply ar;rfl;simp only [aB,avs,tts,seval,hix,hlt,ga,la,jl,g1,w1,f1,f2,f3,f4,f5,f6,Bool.not_true,Bool.not_false]<;>exact rr;first | trivial | omega)) | refine al ?_ | refine ag ?_ | refine zr af ?_ | refine zR 0 af mixed ?_ | refine zR 1 af mixed ?_ | refine zR 2 af mixed ?_ | refine zR 3 af mixed ?_ | refine zf rfl rfl ?_ | refine zt rfl rfl ?_ | (refine an rfl rfl ?_ ?_<;>intro hb<;>((try simp only [bn] at hb);first | subst hb | simp only [hb])) | refine ap ?_ | refine au ?_ | refine am ?_)
  all_goals try
   (have hp:P=false:=(by rw [←hP];exact hno (by rw [hf1];rfl));subst hp;(try show AW _ _ _ _ _);refine aw ⟨_,rfl,_,rfl,?_⟩;rfl)
  have hj10:=of_decide_eq_true e6
  refine bc (H0:=K++[.box 36 [.d (.v (.string id)),.d (.v (.string company)),.d (.v (.string holder)),.d (.v (.string nominee)),.d (.v (.string pledged)),.d (.sl 1 (joint.map fun s=>[PD.v (.string s)])),.d (.v (.int .i64 capital)),.d (.v (.int .i64 votes)),.d (.v (.int .i64 fr)),.d (.v (.int .i64 til))]]) (fun r env K2=>∃j,r=joint.length - j∧j≤joint.length∧(∀s∈joint.take j,s.size≤60)∧K2=K++[.box 36 [.d (.v (.string id)),.d (.v (.string company)),.d (.v (.string holder)),.d (.v (.string nominee)),.d (.v (.string pledged)),.d (.sl 1 (joint.map fun s=>[PD.v (.string s)])),.d (.v (.int .i64 capital)),.d (.v (.int .i64 votes)),.d (.v (.int .i64 fr)),.d (.v (.int .i64 til))]]∧env=(.d (.sl 10 (l.map hdC)) :: .d (.v (.int .i64 n)) :: .undef :: .undef :: .undef :: .d (.v (.int .i64 (k:Int))) :: .ptr K.length 0 :: .d (.v (.int .i64 (j:Int)))::List.replicate 62 .undef)) ?_ ⟨0,rfl,Nat.zero_le _,fun s hs=>by simp at hs,rfl,rfl⟩ ?_
  ·exact ⟨by simp [aH,List.replicate],.inl rfl⟩
  rintro r env K2 ⟨j,rfl,hj,hok2,rfl,rfl⟩ hN2
  simp only [rp]
  obtain ⟨c3,g3⟩:∃c3,decide ((j:Int)<(joint.length:Int))=c3:=⟨_,rfl⟩
  cases c3 with
  | true =>
   have hlt2:j<joint.length:=by simpa using g3
   have hix2:(0:Int)≤(j:Int):=by omega
   have gj:=bP hlt2
   have w2:IntKind.i64.wrap ((j:Int)+1)=((j+1:Nat):Int):=aP hlt2 (by omega)
   obtain ⟨d7,e7⟩:∃d,decide (joint[j].size≤60)=d:=⟨_,rfl⟩
   have f7:decide ((joint[j].size:Int)>60) = !d7:=gV e7
   repeat' (first | (refine aa ?_;first | (refine zg rfl ?_;first | refine ah ?_ | refine zo ?_ | (refine zs ?_ ?_<;>intro hb<;>((try simp only [bn] at hb);first | subst hb | simp only [hb]))) | (apply ai;rfl;simp only [aj,avs,tts,seval,hix2,hlt2,gj,jl,g3,w2,f7,Bool.not_true,Bool.not_false]<;>exact rr)) | refine ae ?_ | (refine ak ?_;first | (refine yg rfl ?_;first | refine aq ?_ | refine yo ?_ | (refine ys ?_ ?_<;>intro hb<;>((try simp only [bn] at hb);first | subst hb | simp only [hb]))) | (apply ar;rfl;simp only [aB,avs,tts,seval,hix2,hlt2,gj,jl,g3,w2,f7,Bool.not_true,Bool.not_false]<;>exact rr;first | trivial | omega)) | refine al ?_ | refine ag ?_ | refine zr af ?_ | refine zR 0 af mixed ?_ | refine zR 1 af mixed ?_ | refine zR 2 af mixed ?_ | refine zR 3 af mixed ?_ | refine zf rfl rfl ?_ | refine zt rfl rfl ?_ | (refine an rfl rfl ?_ ?_<;>intro hb<;>((try simp only [bn] at hb);first | subst hb | simp only [hb])) | refine ap ?_ | refine au ?_ | refine am ?_)
   ·have hf2:lE ⟨id,company,holder,nominee,pledged,joint,capital,votes,fr,til⟩=false:=BV (h:=⟨id,company,holder,nominee,pledged,joint,capital,votes,fr,til⟩) hlt2 (of_decide_eq_false e7)
    have hp:P=false:=by rw [←hP];exact hno (by rw [hf2,Bool.and_false])
    subst hp
    (try show AW _ _ _ _ _)
    exact aw ⟨_,rfl,_,rfl,rfl⟩
   ·refine ⟨joint.length - (j+1),_,_,by omega,⟨?_,.inl rfl⟩,j+1,rfl,hlt2,fun s hs => ?_,rfl,rfl⟩
    ·simp [aH,List.replicate]
    ·rw [List.take_add_one,List.getElem?_eq_getElem hlt2,Option.toList_some,List.mem_append,List.mem_singleton] at hs
     rcases hs with hs | rfl
     ·exact hok2 s hs
     ·exact of_decide_eq_true e7
  | false =>
   have hje:j=joint.length:=by
                    have:¬j<joint.length:=by simpa using g3
                    omega
   have hf2:lE ⟨id,company,holder,nominee,pledged,joint,capital,votes,fr,til⟩=true:=by
    unfold lE
    refine List.all_eq_true.2 fun s hs=>decide_eq_true (hok2 s ?_)
    rw [hje,List.take_length];exact hs
   repeat' (first | (refine aa ?_;first | (refine zg rfl ?_;first | refine ah ?_ | refine zo ?_ | (refine zs ?_ ?_<;>intro hb<;>((try simp only [bn] at hb);first | subst hb | simp only [hb]))) | (apply ai;rfl;simp only [aj,avs,tts,seval,jl,g3,w1]<;>exact rr)) | refine ae ?_ | (refine ak ?_;first | (refine yg rfl ?_;first | refine aq ?_ | refine yo ?_ | (refine ys ?_ ?_<;>intro hb<;>((try simp only [bn] at hb);first | subst hb | simp only [hb]))) | (apply ar;rfl;simp only [aB,avs,tts,seval,jl,g3,w1]<;>exact rr;first | trivial | omega)) | refine al ?_ | refine ag ?_ | refine zr af ?_ | refine zR 0 af mixed ?_ | refine zR 1 af mixed ?_ | refine zR 2 af mixed ?_ | refine zR 3 af mixed ?_ | refine zf rfl rfl ?_ | refine zt rfl rfl ?_ | (refine an rfl rfl ?_ ?_<;>intro hb<;>((try simp only [bn] at hb);first | subst hb | simp only [hb])) | refine ap ?_ | refine au ?_ | refine am ?_)
   refine ⟨l.length - (k+1),_,_,by omega,⟨?_,.inr ⟨Nat.le_refl _,?_,hB,_,rfl⟩⟩,k+1,rfl,hlt,htk (by rw [hf1,hf2];rfl),rfl,rfl⟩
   ·simp [aH,List.replicate]
   ·simp [aY,AV.bel,List.replicate]
 | false =>
  have hka:k=l.length:=by
                 have:¬k<l.length:=by simpa using g1
                 omega
  have heq:P=true:=by
   rw [hka,List.take_length] at hok
   rw [←hP]
   unfold lD
   rw [decide_eq_true (by have:=of_decide_eq_false g0;omega),List.all_eq_true.2 hok];rfl
  repeat' (first | (refine aa ?_;first | (refine zg rfl ?_;first | refine ah ?_ | refine zo ?_ | (refine zs ?_ ?_<;>intro hb<;>((try simp only [bn] at hb);first | subst hb | simp only [hb]))) | (apply ai;rfl;simp only [aj,avs,tts,seval,la,g1]<;>exact rr)) | refine ae ?_ | (refine ak ?_;first | (refine yg rfl ?_;first | refine aq ?_ | refine yo ?_ | (refine ys ?_ ?_<;>intro hb<;>((try simp only [bn] at hb);first | subst hb | simp only [hb]))) | (apply ar;rfl;simp only [aB,avs,tts,seval,la,g1]<;>exact rr;first | trivial | omega)) | refine al ?_ | refine ag ?_ | refine zr af ?_ | refine zR 0 af mixed ?_ | refine zR 1 af mixed ?_ | refine zR 2 af mixed ?_ | refine zR 3 af mixed ?_ | refine zf rfl rfl ?_ | refine zt rfl rfl ?_ | (refine an rfl rfl ?_ ?_<;>intro hb<;>((try simp only [bn] at hb);first | subst hb | simp only [hb])) | refine ap ?_ | refine au ?_ | refine am ?_)
  rw [heq]
  exact aw ⟨_,rfl,[],by simp,rfl⟩
end
end Av
end Go.Proofs.YtdekcppfpgeneaaGreatDoor
namespace Go.Proofs.YtdekcppfpgeneaaGreatDoor
open Go Go.RowKit
namespace Av
attribute [local irreducible] AW aQ aM
open Nt Rg
def LeA (a b:AV):Prop:=∀s v,Rep s a v→Rep s b v
theorem LeA.refl (a:AV):LeA a a:=fun _ _ h=>h
theorem LeA.nil (k:Nat):LeA (.d (.v (.slice none 0 0))) (.d (.sl k [])):=fun s v h=>by
 simp only [Rep,aV] at h ⊢
 exact ⟨none,0,h.1,Nat.le_refl _,by unfold maxLen;omega,.inl trivial⟩
def LeL:List AV→List AV→Prop
 | [],[]=>True
 | a::l,b::m=>LeA a b∧LeL l m
 | _,_=>False
theorem LeL.rep {s:St}:∀{l m:List AV} {vs:List Value},LeL l m→aC s l vs→aC s m vs
 | [],[],_,_,h=>h
 | [],_::_,_,h,_=>h.elim
 | _::_,[],_,h,_=>h.elim
 | a::l,b::m,vs,h,k=>by
  simp only [aC] at k ⊢
  obtain ⟨x,t,h1,h2,h3⟩:=k
  exact ⟨x,t,h1,h.1 s x h2,h.2.rep h3⟩
theorem LeA.agg {l m:List AV} (h:LeL l m):LeA (.agg l) (.agg m):=fun s v k=>by
 simp only [Rep] at k ⊢
 obtain ⟨c,h1,h2⟩:=k
 exact ⟨c,h1,h.rep h2⟩
theorem LeA.tup {l m:List AV} (h:LeL l m):LeA (.tup l) (.tup m):=fun s v k=>by
 simp only [Rep] at k ⊢
 obtain ⟨c,h1,h2⟩:=k
 exact ⟨c,h1,h.rep h2⟩
theorem aJ.le {P:Program} {base:World} {f:FuncId} {args:List AV} {r r':AV} (h:aJ P base f args r) (k:LeA r r'):aJ P base f args r':=fun H =>
 ⟨(h H).enter,fun μ w vs hs ha=>((h H).run μ w vs hs ha).mono fun e w' ⟨v,r0,H',μ',h1,⟨h2,h2'⟩,h3,h4,h5,h6⟩=>⟨v,r',H',μ',h1,⟨rfl,h2'⟩,h3,h4,k _ _ (h2 ▸ h5),h6⟩⟩
section
variable {base:World} (hT:dJ base)
include hT
theorem Cc (l:List Hd) (day:Int) (hs:∀h∈l,Small h) (hj:∀h∈l,h.joint.length≤1000) (hl:l.length≤900):aJ Tryz.prog base 13 [.d (bM l),iA day] (.tup [qz (atS l day),iA (atE l day)]):=by
 refine (F1 hT l day hs hj hl).le ?_
 unfold atA atS atE
 cases br l&&eR day with
 | true =>
  simp only [if_true]
  rw [mR,mR]
  exact LeA.refl _
 | false =>
  simp only [Bool.false_eq_true,if_false]
  exact LeA.tup ⟨LeA.agg ⟨.nil 1,.nil 5,.nil 5,trivial⟩,.refl _,trivial⟩
set_option maxRecDepth 100000 in
theorem CP (n d:Int) (h0 : -9223372036854775808≤n) (h1:n≤9223372036854775807) (k0 : -9223372036854775808≤d) (k1:d≤9223372036854775807):aJ Tryz.prog base 27 [iA n,iA d] (cP (ofR n d)):=by
 have co:=EO (base:=base) hT n d h0 h1 k0 k1
 refine aA af Tryz.call27 Tryz.func27 rfl fun H hB hb hF => ?_
 rw [Tryz.results27,Tryz.ntmps27]
 simp only [ax,List.length_cons,List.length_nil,List.replicate,List.cons_append,List.nil_append,Nat.reduceAdd,Nat.reduceSub]
 clear hF hb
 generalize ofR n d=r at co ⊢
 obtain ⟨a,b,c⟩:=r
 simp only [cP,tA,iA] at co ⊢
 repeat' (first | (refine aa ?_;first | (refine zg rfl ?_;first | refine ah ?_ | refine zo ?_ | (refine zs ?_ ?_<;>intro hb<;>((try simp only [bn] at hb);first | subst hb | simp only [hb]))) | (apply ai;rfl;simp only [aj,avs,tts,seval]<;>exact rr) | (refine za rfl ?_;refine zp (co) ?_)) | refine ae ?_ | (refine ak ?_;first | (refine yg rfl ?_;first | refine aq ?_ | refine yo ?_ | (refine ys ?_ ?_<;>intro hb<;>((try simp only [bn] at hb);first | subst hb | simp only [hb]))) | (apply ar;rfl;simp only [aB,avs,tts,seval]<;>exact rr;first | trivial | omega) | (refine ya rfl ?_;refine yp (co) ?_)) | refine al ?_ | refine ag ?_ | refine zr af ?_ | refine zR 0 af mixed ?_ | refine zR 1 af mixed ?_ | refine zR 2 af mixed ?_ | refine zR 3 af mixed ?_ | refine zf rfl rfl ?_ | refine zt rfl rfl ?_ | (refine an rfl rfl ?_ ?_<;>intro hb<;>((try simp only [bn] at hb);first | subst hb | simp only [hb])) | refine ap ?_ | refine au ?_ | refine am ?_)
 refine aw ⟨.agg [.d (.v (.bool a)),.d (.v (.string b)),.d (.v (.string c))],?_,_,rfl,rfl⟩
 simp only [bj,cH,dO,avs,tts]<;>rfl
omit hT in
set_option maxRecDepth 100000 in
theorem zT (l:List Hd):aJ Tryz.prog base 12 [.d (bM l)] (boA (lD 20 l)):=by
 have cf:=E0 base l 20 (by omega)
 refine aA af Tryz.call12 Tryz.func12 rfl fun H hB hb hF => ?_
 rw [Tryz.results12,Tryz.ntmps12]
 simp only [ax,List.length_cons,List.length_nil,List.replicate,List.cons_append,List.nil_append,Nat.reduceAdd,Nat.reduceSub]
 clear hF hb
 generalize lD 20 l=b at cf ⊢
 simp only [bM,iA] at cf ⊢
 repeat' (first | (refine aa ?_;first | (refine zg rfl ?_;first | refine ah ?_ | refine zo ?_ | (refine zs ?_ ?_<;>intro hb<;>((try simp only [bn] at hb);first | subst hb | simp only [hb]))) | (apply ai;rfl;simp only [aj,avs,tts,seval]<;>exact rr) | (refine za rfl ?_;refine zp (cf) ?_)) | refine ae ?_ | (refine ak ?_;first | (refine yg rfl ?_;first | refine aq ?_ | refine yo ?_ | (refine ys ?_ ?_<;>intro hb<;>((try simp only [bn] at hb);first | subst hb | simp only [hb]))) | (apply ar;rfl;simp only [aB,avs,tts,seval]<;>exact rr;first | trivial | omega) | (refine ya rfl ?_;refine yp (cf) ?_)) | refine al ?_ | refine ag ?_ | refine zr af ?_ | refine zR 0 af mixed ?_ | refine zR 1 af mixed ?_ | refine zR 2 af mixed ?_ | refine zR 3 af mixed ?_ | refine zf rfl rfl ?_ | refine zt rfl rfl ?_ | (refine an rfl rfl ?_ ?_<;>intro hb<;>((try simp only [bn] at hb);first | subst hb | simp only [hb])) | refine ap ?_ | refine au ?_ | refine am ?_)
 exact aw ⟨_,rfl,[],by simp,rfl⟩
end
end Av
end Go.Proofs.YtdekcppfpgeneaaGreatDoor
namespace Go.Proofs.YtdekcppfpgeneaaGreatDoor
open Go Go.RowKit
namespace Rg
open Av Nt
def iz (l:List Hd) (h:Hd):List Hd × Int :=
 if br l&&aS h then
  (if 0≤cE l h.id then ([],9)
  else if decide (l.length+1≤400)&&decide ((ay (l++[h])).length≤60) then (if fg (l++[h]) then (l++[h],0) else ([],10)) else ([],2))
 else ([],1)
def two (o a b:Bool) (x y:aT):av:=if a then (if b then (if o then [x,y] else [y,x]) else [x]) else if b then [y] else []
end Rg
namespace Av
attribute [local irreducible] AW aQ aM
open Nt Rg
section
variable {base:World}
set_option maxRecDepth 100000 in
set_option maxHeartbeats 8000000 in
theorem CE (l:List Hd) (h:Hd) (hs:∀h∈l,Small h) (hsh:Small h) (hj:∀h∈l,h.joint.length≤1000) (hjh:h.joint.length≤1000) (hl:l.length≤800):aJ Tryz.prog base 17 [.d (bM l),hdA h] (.tup [.d (bM (iz l h).1),iA (iz l h).2]):=by
 have c1:=jY (base:=base) l hs hj (by omega)
 have c2:=se base h hsh
 have c3:=Au (base:=base) l h.id
 have c4:=ld (base:=base) (l++[h]) (fun x hx=>by rcases List.mem_append.1 hx with hx | hx;exact hs x hx;rw [List.mem_singleton] at hx;rw [hx];exact hsh) (fun x hx=>by rcases List.mem_append.1 hx with hx | hx;exact hj x hx;rw [List.mem_singleton] at hx;rw [hx];exact hjh) (by simp;omega)
 have c5:=fun hp=>ow (base:=base) (l++[h]) hp (by simp;omega)
 refine aA af Tryz.call17 Tryz.func17 rfl fun H hB hb hF => ?_
 rw [Tryz.results17,Tryz.ntmps17]
 simp only [ax,List.length_cons,List.length_nil,List.replicate,List.cons_append,List.nil_append,Nat.reduceAdd,Nat.reduceSub]
 clear hF hb
 have la:=bY l
 have la2:=bY (l++[h])
 unfold iz
 simp only [iA,tA,boA,bM] at c1 c2 c3 c4 c5 ⊢
 obtain ⟨bv,hbv⟩:∃b,br l=b:=⟨_,rfl⟩
 obtain ⟨bp,hbp⟩:∃b,aS h=b:=⟨_,rfl⟩
 have hpct:bv=true→bp=true→∀x∈l++[h],Pct x:=fun e1 e2 x hx=>by
  subst e1 e2
  rcases List.mem_append.1 hx with hx | hx
  ·exact cY ((dw hbv).1 x hx)
  ·rw [List.mem_singleton] at hx;rw [hx];exact cY hbp
 rw [hbv] at c1 ⊢
 rw [hbp] at c2 ⊢
 clear hbv hbp
 obtain ⟨cb,hcb⟩:∃b,fg (l++[h])=b:=⟨_,rfl⟩
 obtain ⟨ps,hps⟩:∃ps,ay (l++[h])=ps:=⟨_,rfl⟩
 obtain ⟨cf,gf⟩:∃c,decide (cE l h.id≥0)=c:=⟨_,rfl⟩
 have ef:(0≤cE l h.id)=(cf=true):=by rw [←gf];simp
 rw [hcb] at c5 ⊢
 rw [hps] at c4 ⊢
 simp only [ef]
 clear ef hcb hps
 obtain ⟨m,hm⟩:∃m,cE l h.id=m:=⟨_,rfl⟩
 rw [hm] at c3 gf
 clear hm
 have hI:hdI h=hdL h:=rfl
 have hrow:(l.map hdI)++[hdL h]=(l++[h]).map hdI:=by simp [hI]
 have hun:=qr (l++[h])
 have hlen:(l++[h]).length=l.length+1:=by simp
 have hlI:=jf l
 obtain ⟨id,company,holder,nominee,pledged,joint,capital,votes,fr,til⟩:=h
 obtain ⟨L,hL⟩:∃L,l++[⟨id,company,holder,nominee,pledged,joint,capital,votes,fr,til⟩]=L:=⟨_,rfl⟩
 rw [hL] at la2 hun hlen hrow c4 c5 hpct ⊢
 clear hL
 simp only [hdA,hdL,tA,iA] at c2 c3 hrow ⊢
 obtain ⟨cp,gp⟩:∃c,decide (ps.length≤60)=c:=⟨_,rfl⟩
 obtain ⟨cl,gl⟩:∃c,decide (l.length+1≤400)=c:=⟨_,rfl⟩
 rw [gp,gl]
 have gp2:decide ((ps.length:Int)>60) = !cp:=by
  subst gp;by_cases h:ps.length≤60
  ·rw [decide_eq_true h,decide_eq_false (by omega)];rfl
  ·rw [decide_eq_false h,decide_eq_true (by omega)];rfl
 have gl2:decide (((l.length+1:Nat):Int)>400) = !cl:=by
  subst gl;by_cases h:l.length+1≤400
  ·rw [decide_eq_true h,decide_eq_false (by omega)];rfl
  ·rw [decide_eq_false h,decide_eq_true (by omega)];rfl
 have psl:(ps.map fun s=>[PD.v (.string s)]).length=ps.length:=by simp
 clear gp gl
 cases bv with
 | false =>
  repeat' (first | (refine aa ?_;first | (refine zg rfl ?_;first | refine ah ?_ | refine zo ?_ | (refine zs ?_ ?_<;>intro hb<;>((try simp only [bn] at hb);first | subst hb | simp only [hb]))) | (apply ai;rfl;simp only [aj,avs,tts,seval]<;>exact rr) | (refine za rfl ?_;first | refine zp (c1) ?_ | refine zp (c2) ?_)) | refine ae ?_ | (refine ak ?_;first | (refine yg rfl ?_;first | refine aq ?_ | refine yo ?_ | (refine ys ?_ ?_<;>intro hb<;>((try simp only [bn] at hb);first | subst hb | simp only [hb]))) | (apply ar;rfl;simp only [aB,avs,tts,seval]<;>exact rr;first | trivial | omega) | (refine ya rfl ?_;first | refine yp (c1) ?_ | refine yp (c2) ?_)) | refine al ?_ | refine ag ?_ | refine zr af ?_ | refine zR 0 af mixed ?_ | refine zR 1 af mixed ?_ | refine zR 2 af mixed ?_ | refine zR 3 af mixed ?_ | refine zf rfl rfl ?_ | refine zt rfl rfl ?_ | (refine an rfl rfl ?_ ?_<;>intro hb<;>((try simp only [bn] at hb);first | subst hb | simp only [hb])) | refine ap ?_ | refine au ?_ | refine am ?_)
  refine cL 4 10 rfl (by simp only [bi,bh]<;>rfl) ?_
  exact aw ⟨_,rfl,_,rfl,rfl⟩
 | true =>
 cases bp with
 | false =>
  repeat' (first | (refine aa ?_;first | (refine zg rfl ?_;first | refine ah ?_ | refine zo ?_ | (refine zs ?_ ?_<;>intro hb<;>((try simp only [bn] at hb);first | subst hb | simp only [hb]))) | (apply ai;rfl;simp only [aj,avs,tts,seval]<;>exact rr) | (refine za rfl ?_;first | refine zp (c1) ?_ | refine zp (c2) ?_)) | refine ae ?_ | (refine ak ?_;first | (refine yg rfl ?_;first | refine aq ?_ | refine yo ?_ | (refine ys ?_ ?_<;>intro hb<;>((try simp only [bn] at hb);first | subst hb | simp only [hb]))) | (apply ar;rfl;simp only [aB,avs,tts,seval]<;>exact rr;first | trivial | omega) | (refine ya rfl ?_;first | refine yp (c1) ?_ | refine yp (c2) ?_)) | refine al ?_ | refine ag ?_ | refine zr af ?_ | refine zR 0 af mixed ?_ | refine zR 1 af mixed ?_ | refine zR 2 af mixed ?_ | refine zR 3 af mixed ?_ | refine zf rfl rfl ?_ | refine zt rfl rfl ?_ | (refine an rfl rfl ?_ ?_<;>intro hb<;>((try simp only [bn] at hb);first | subst hb | simp only [hb])) | refine ap ?_ | refine au ?_ | refine am ?_)
  refine cL 4 10 rfl (by simp only [bi,bh]<;>rfl) ?_
  exact aw ⟨_,rfl,_,rfl,rfl⟩
 | true =>
 have c5:=c5 (hpct rfl rfl)
 cases cf with
 | true =>
  repeat' (first | (refine aa ?_;first | (refine zg rfl ?_;first | refine ah ?_ | refine zo ?_ | (refine zs ?_ ?_<;>intro hb<;>((try simp only [bn] at hb);first | subst hb | simp only [hb]))) | (apply ai;rfl;simp only [aj,avs,tts,seval,gf]<;>exact rr) | (refine za rfl ?_;first | refine zp (c1) ?_ | refine zp (c2) ?_ | refine zp (c3) ?_)) | refine ae ?_ | (refine ak ?_;first | (refine yg rfl ?_;first | refine aq ?_ | refine yo ?_ | (refine ys ?_ ?_<;>intro hb<;>((try simp only [bn] at hb);first | subst hb | simp only [hb]))) | (apply ar;rfl;simp only [aB,avs,tts,seval,gf]<;>exact rr;first | trivial | omega) | (refine ya rfl ?_;first | refine yp (c1) ?_ | refine yp (c2) ?_ | refine yp (c3) ?_)) | refine al ?_ | refine ag ?_ | refine zr af ?_ | refine zR 0 af mixed ?_ | refine zR 1 af mixed ?_ | refine zR 2 af mixed ?_ | refine zR 3 af mixed ?_ | refine zf rfl rfl ?_ | refine zt rfl rfl ?_ | (refine an rfl rfl ?_ ?_<;>intro hb<;>((try simp only [bn] at hb);first | subst hb | simp only [hb])) | refine ap ?_ | refine au ?_ | refine am ?_)
  refine cL 4 10 rfl (by simp only [bi,bh]<;>rfl) ?_
  exact aw ⟨_,rfl,_,rfl,rfl⟩
 | false =>
 repeat refine ag ?_
 refine zr af ?_
 repeat (refine aa ?_;first | (apply ai;rfl;simp only [aj,avs,tts,seval]<;>exact rr) | (refine zg rfl ?_;first | refine ah ?_ | refine zo ?_))
 refine ae ?_
 repeat refine ag ?_
 refine zr af ?_
 repeat (refine aa ?_;first | (apply ai;rfl;simp only [aj,avs,tts,seval]<;>exact rr) | (refine zg rfl ?_;first | refine ah ?_ | refine zo ?_))
 refine zP rfl (c1) ?_
 repeat (refine aa ?_;first | (apply ai;rfl;simp only [aj,avs,tts,seval]<;>exact rr) | (refine zg rfl ?_;first | refine ah ?_ | refine zo ?_))
 refine zP rfl (c2) ?_
 repeat (refine aa ?_;first | (apply ai;rfl;simp only [aj,avs,tts,seval]<;>exact rr) | (refine zg rfl ?_;first | refine ah ?_ | refine zo ?_))
 refine ae ?_
 repeat refine ag ?_
 refine an rfl rfl (fun hb => ?_) fun hb => ?_
 ·cases hb
 refine ap ?_
 repeat refine ag ?_
 refine zr af ?_
 repeat (refine aa ?_;first | (apply ai;rfl;simp only [aj,avs,tts,seval]<;>exact rr) | (refine zg rfl ?_;first | refine ah ?_ | refine zo ?_))
 refine zP rfl (c3) ?_
 repeat (refine aa ?_;first | (apply ai;rfl;simp only [aj,avs,tts,seval,gf]<;>exact rr) | (refine zg rfl ?_;first | refine ah ?_ | refine zo ?_))
 refine ae ?_
 repeat refine ag ?_
 refine an rfl rfl (fun hb => ?_) fun hb => ?_
 ·cases hb
 refine ap ?_
 repeat refine ag ?_
 have la3:(L.map hdC).length=l.length+1:=by rw [la2,hlen]
 have lI3:(L.map hdI).length=l.length+1:=by rw [jf,hlen]
 have b1:l.length+1≤9223372036854775807:=by omega
 have b2:(l.length+1) * 136≤140737488355328:=by omega
 refine mX (Q0:=fun env K=>K=H++[.box 36 [.d (.v (.string id)),.d (.v (.string company)),.d (.v (.string holder)),.d (.v (.string nominee)),.d (.v (.string pledged)),.d (aN joint),.d (.v (.int .i64 capital)),.d (.v (.int .i64 votes)),.d (.v (.int .i64 fr)),.d (.v (.int .i64 til))]]∧env=(.d (.sl 10 (l.map hdC)) :: .undef :: .undef :: .ptr H.length 0 :: .undef :: .undef :: .d (.sl 10 (L.map hdC))::List.replicate 33 .undef)) ?_ ?_
 ·refine eS af mixed (by kernel_rfl) (by kernel_rfl) (fun β env K=>∃o:Bool,(β 1=true→β 3=false→o=true)∧(β 3=true→β 1=false→o=false)∧(β 4=true→β 1=true∧β 3=true)∧(β 5=true→β 4=true)∧K=H ++ .box 36 [.d (.v (.string id)),.d (.v (.string company)),.d (.v (.string holder)),.d (.v (.string nominee)),.d (.v (.string pledged)),.d (aN joint),.d (.v (.int .i64 capital)),.d (.v (.int .i64 votes)),.d (.v (.int .i64 fr)),.d (.v (.int .i64 til))]::two o (β 1) (β 3) (.row 36 10 0 (if β 4=true then L.map hdI else l.map hdI)) (.row 36 10 0 [[.d (.v (.string id)),.d (.v (.string company)),.d (.v (.string holder)),.d (.v (.string nominee)),.d (.v (.string pledged)),.d (aN joint),.d (.v (.int .i64 capital)),.d (.v (.int .i64 votes)),.d (.v (.int .i64 fr)),.d (.v (.int .i64 til))]])∧env=(.d (.sl 10 (l.map hdC)) :: .undef :: .undef :: .ptr H.length 0 :: .undef :: .undef::(if β 5=true then .ms (H.length+if o=true then 1 else 2) 0 (l.length+1) else .undef)::List.replicate 13 .undef++(if β 0=true then .d (.sl 10 (l.map hdC)) else .undef)::(if β 1=true then .ms (H.length+if o=true then 1 else 2) 0 l.length else .undef)::(if β 2=true then .agg [.d (.v (.string id)),.d (.v (.string company)),.d (.v (.string holder)),.d (.v (.string nominee)),.d (.v (.string pledged)),.d (aN joint),.d (.v (.int .i64 capital)),.d (.v (.int .i64 votes)),.d (.v (.int .i64 fr)),.d (.v (.int .i64 til))] else .undef)::(if β 3=true then .ms (H.length+if o=true then 2 else 1) 0 1 else .undef)::(if β 4=true then .ms (H.length+if o=true then 1 else 2) 0 (l.length+1) else .undef)::List.replicate 15 .undef)) (H0:=H++[.box 36 [.d (.v (.string id)),.d (.v (.string company)),.d (.v (.string holder)),.d (.v (.string nominee)),.d (.v (.string pledged)),.d (aN joint),.d (.v (.int .i64 capital)),.d (.v (.int .i64 votes)),.d (.v (.int .i64 fr)),.d (.v (.int .i64 til))]]) (env0:=(.d (.sl 10 (l.map hdC)) :: .undef :: .undef :: .ptr H.length 0::List.replicate 36 .undef)) ⟨by simp [aH,List.replicate],.inl (by simp only [aN])⟩ ⟨true,by simp,by simp,by simp,by simp,by simp [two],by simp⟩ ?_ ?_
  ·rintro β env K ⟨o,h13,h31,h4,h5,rfl,rfl⟩ hN2 i op hget hβ hr
   simp only [rp]
   simp only [ax] at hget
   rcases i with _ | _ | _ | _ | _ | _ | i
   all_goals (try simp only [gU,gT,Option.some.injEq,List.getElem?_nil,reduceCtorEq] at hget)
   all_goals (try subst hget)
   all_goals (simp [gO,Region.binds] at hr)
   all_goals try (simp only [Nat.zero_add,Nat.reduceAdd] at hβ)
   ·simp only [aD,aL,aE,aK,avs,tts,Nat.reduceAdd,Nat.reduceSub,reduceCtorEq,hr]
    exact ⟨o,by simpa using h13,by simpa using h31,by simpa using h4,by simpa using h5,by simp,by simp⟩
   ·have h4':β 4=false:=by cases h:β 4 with
     | false=>rfl
     | true=>rw [(h4 h).1] at hβ;cases hβ
    have h5':β 5=false:=by cases h:β 5 with
     | false=>rfl
     | true=>rw [h5 h] at h4';cases h4'
    simp only [aD,aL,aE,aK,avs,tts,Nat.reduceAdd,Nat.reduceSub,reduceCtorEq,hr]
    refine ⟨_,tC base l (by omega),?_⟩
    rintro r H' ⟨rfl,rfl⟩ _
    cases h3:β 3 with
    | false=>exact ⟨true,by simp,by simp [h3],by simp [h4'],by simp [h5'],by simp [two,h3,h4',hβ],by simp [h3,h4',h5',hβ,two]⟩
    | true=>exact ⟨false,by simp [h3],by simp,by simp [h4'],by simp [h5'],by simp [two,h3,h4',hβ],by
      have:=h31 h3 hβ
      subst this
      simp [h3,h4',h5',hβ,two]⟩
   ·simp only [aD,aL,aE,aK,avs,tts,Nat.reduceAdd,Nat.reduceSub,reduceCtorEq,hr]
    exact ⟨o,by simpa using h13,by simpa using h31,by simpa using h4,by simpa using h5,by simp,by simp⟩
   ·have h4':β 4=false:=by cases h:β 4 with
     | false=>rfl
     | true=>rw [(h4 h).2] at hβ;cases hβ
    have h5':β 5=false:=by cases h:β 5 with
     | false=>rfl
     | true=>rw [h5 h] at h4';cases h4'
    rcases Bool.eq_false_or_eq_true (β 1) with h1 | h1
    rotate_left
    ·
     simp only [aD,aL,aE,aK,avs,tts,Nat.reduceAdd,Nat.reduceSub,reduceCtorEq,hr,hβ,h1,h4',two]
     exact ⟨false,by simp [h1],by simp,by simp [h4'],by simp [h5'],by simp [two,h1,h4',hβ],by simp [h1,h4',h5',hβ]⟩
    ·
     have:=h13 h1 hβ
     subst this
     simp only [aD,aL,aE,aK,avs,tts,Nat.reduceAdd,Nat.reduceSub,reduceCtorEq,hr,hβ,h1,h4',two]
     exact ⟨true,by simp,by simp [h1],by simp [h4'],by simp [h5'],by simp [two,h1,h4',hβ],by simp [h1,h4',h5',hβ]⟩
   ·cases o with
    | true =>
     simp only [aD,aL,aE,aK,avs,tts,Nat.reduceAdd,Nat.reduceSub,reduceCtorEq,hr,hβ,two,hlI,b1,b2,hrow]
     exact ⟨true,by simp,by simp [hr],by simp [hr],by simp,by simp [two,hr],by simp [hr]⟩
    | false =>
     simp only [aD,aL,aE,aK,avs,tts,Nat.reduceAdd,Nat.reduceSub,reduceCtorEq,hr,hβ,two,hlI,b1,b2,hrow]
     exact ⟨false,by simp [hr],by simp,by simp [hr],by simp,by simp [two,hr],by simp [hr]⟩
   ·simp only [aD,aL,aE,aK,avs,tts,Nat.reduceAdd,Nat.reduceSub,reduceCtorEq,hr]
    exact ⟨o,by first | simp | simpa using h13,by first | simp | simpa using h31,by first | simp | simpa using h4,by simp [hr],by simp,by simp [hr]⟩
  ·rintro β env K ⟨o,h13,h31,h4,h5,rfl,rfl⟩ hall
   simp only [List.replicate,List.cons_append,List.nil_append,hall 0 (by decide),hall 1 (by decide),hall 2 (by decide),hall 3 (by decide),hall 4 (by decide),hall 5 (by decide),aE,two]
   cases o with
   | true=>exact ⟨by first | trivial | rfl,_,_,_,_,.inl ⟨H.length+1,(by simp only [avs,tts,Nat.reduceAdd,Nat.reduceMul,Nat.reduceSub,Nat.reduceEqDiff,Nat.reduceLT,Nat.reduceLeDiff,Int.reduceToNat,Int.reduceLE,Int.reduceLT,Int.toNat_natCast,reduceCtorEq,cz,cJ,di,bt,bw,unI,unL,Nat.add_eq_left,Nat.left_eq_add,Nat.one_ne_zero,hun,lI3]<;>rfl),(by simp only [avs,tts,Nat.reduceAdd,Nat.reduceMul,Nat.reduceSub,Nat.reduceEqDiff,Nat.reduceLT,Nat.reduceLeDiff,Int.reduceToNat,Int.reduceLE,Int.reduceLT,Int.toNat_natCast,reduceCtorEq,cz,cJ,di,bt,bw,unI,unL,Nat.add_eq_left,Nat.left_eq_add,Nat.one_ne_zero]<;>rfl)⟩,⟨by simp [aH,List.replicate],.inr ⟨by simp,by simp [aY,AV.bel,List.replicate],.more hB (.cons (by simp [aT.bel,aY,AV.bel,aN]) .nil),_,by simp only [List.append_assoc,List.cons_append,List.nil_append];rfl⟩⟩,rfl,rfl⟩
   | false=>exact ⟨by first | trivial | rfl,_,_,_,_,.inl ⟨H.length+2,(by simp only [avs,tts,Nat.reduceAdd,Nat.reduceMul,Nat.reduceSub,Nat.reduceEqDiff,Nat.reduceLT,Nat.reduceLeDiff,Int.reduceToNat,Int.reduceLE,Int.reduceLT,Int.toNat_natCast,reduceCtorEq,cz,cJ,di,bt,bw,unI,unL,Nat.add_eq_left,Nat.left_eq_add,Nat.one_ne_zero,hun,lI3]<;>rfl),(by simp only [avs,tts,Nat.reduceAdd,Nat.reduceMul,Nat.reduceSub,Nat.reduceEqDiff,Nat.reduceLT,Nat.reduceLeDiff,Int.reduceToNat,Int.reduceLE,Int.reduceLT,Int.toNat_natCast,reduceCtorEq,cz,cJ,di,bt,bw,unI,unL,Nat.add_eq_left,Nat.left_eq_add,Nat.one_ne_zero]<;>rfl)⟩,⟨by simp [aH,List.replicate],.inr ⟨by simp,by simp [aY,AV.bel,List.replicate],.more hB (.cons (by simp [aT.bel,aY,AV.bel,aN]) .nil),_,by simp only [List.append_assoc,List.cons_append,List.nil_append];rfl⟩⟩,rfl,rfl⟩
 rintro env0 K0 ⟨rfl,rfl⟩
 simp only [rp]
 repeat' (first | (refine aa ?_;first | (refine zg rfl ?_;first | refine ah ?_ | refine zo ?_ | (refine zs ?_ ?_<;>intro hb<;>((try simp only [bn] at hb);first | subst hb | simp only [hb]))) | (apply ai;rfl;simp only [aj,avs,tts,seval,la3,gp2,gl2,psl]<;>exact rr) | (refine za rfl ?_;first | refine zp (c4) ?_ | refine zp (c5) ?_)) | refine ae ?_ | (refine ak ?_;first | (refine yg rfl ?_;first | refine aq ?_ | refine yo ?_ | (refine ys ?_ ?_<;>intro hb<;>((try simp only [bn] at hb);first | subst hb | simp only [hb]))) | (apply ar;rfl;simp only [aB,avs,tts,seval,la3,gp2,gl2,psl]<;>exact rr;first | trivial | omega) | (refine ya rfl ?_;first | refine yp (c4) ?_ | refine yp (c5) ?_)) | refine al ?_ | refine ag ?_ | refine zr af ?_ | refine zR 0 af mixed ?_ | refine zR 1 af mixed ?_ | refine zR 2 af mixed ?_ | refine zR 3 af mixed ?_ | refine zf rfl rfl ?_ | refine zt rfl rfl ?_ | (refine an rfl rfl ?_ ?_<;>intro hb<;>((try simp only [bn] at hb);first | subst hb | simp only [hb])) | refine ap ?_ | refine au ?_ | refine am ?_)
 all_goals first
  | (show AW _ _ _ _ _;refine cL 4 10 rfl (by simp only [bi,bh]<;>rfl) ?_;refine aw ⟨_,rfl,_,rfl,?_⟩;rfl)
  | (show AW _ _ _ _ _;refine aw ⟨_,rfl,_,rfl,?_⟩;rfl)
end
end Av
end Go.Proofs.YtdekcppfpgeneaaGreatDoor
namespace Go.Proofs.YtdekcppfpgeneaaGreatDoor
open Go Go.RowKit
namespace Rg
open Av Nt
def nF (pre:List ByteArray) (x:ByteArray):Bool := !bx x||(match pre.getLast? with
 | none=>false
 | some p=>(ltT x p||decide (x=p)))
def fN:List ByteArray→List ByteArray→Bool
 | _,[]=>true
 | pre,x::r => !nF pre x&&fN (pre++[x]) r
theorem pE:∀{l pre:List ByteArray},fN pre l=true↔∀k (h:k<l.length),nF (pre++l.take k) l[k]=false
 | [],pre=>by simp [fN]
 | x::r,pre=>by
  rw [fN,Bool.and_eq_true,pE]
  constructor
  ·rintro ⟨h1,h2⟩ k hk
   cases k with
   | zero=>simpa using h1
   | succ k=>have:=h2 k (by simpa using hk);simpa using this
  ·intro h
   refine ⟨by have:=h 0 (by simp);simpa using this,fun k hk => ?_⟩
   have:=h (k+1) (by simpa using hk)
   simpa using this
theorem so {l:List ByteArray}:fN [] l=true↔∀k (h:k<l.length),nF (l.take k) l[k]=false:=by
 rw [pE];simp
theorem zH {l:List ByteArray} {k:Nat} (h:k<l.length) (hb:nF (l.take k) l[k]=true):fN [] l=false:=by
 cases hg:fN [] l with
 | false=>rfl
 | true=>rw [so.1 hg k h] at hb;cases hb
def np (s:Str):Bool:=fN [] s.parties&&(decide (s.parties.length≤60)&&(iI s.parties.length s.capital&&iI s.parties.length s.votes))
theorem xd {l:List ByteArray} (h:0<l.length):nF (l.take 0) l[0] = !bx l[0]:=by
 unfold nF;simp
theorem xe {l:List ByteArray} {j:Nat} (h:j+1<l.length):nF (l.take (j+1)) l[j+1]=(!bx l[j+1]||(ltT l[j+1] l[j]||decide (l[j+1]=l[j]))):=by
 have e:l.take (j+1)=l.take j++[l[j]]:=by rw [List.take_add_one,List.getElem?_eq_getElem (by omega)];rfl
 rw [e]
 unfold nF
 rw [List.getLast?_concat]
end Rg
namespace Av
attribute [local irreducible] AW aQ aM
open Nt Rg
section
variable {base:World} (hT:dJ base)
include hT
set_option maxRecDepth 100000 in
set_option maxHeartbeats 8000000 in
theorem Bu (s:Str) (h1:s.parties.length≤1000000) (h0:∀t∈s.parties,t.size≤9223372036854775807) (h2:s.capital.length≤1000000000) (h3:s.votes.length≤1000000000) (h4:∀x∈s.capital,x.part.num.size≤9223372036854775807∧x.part.den.size≤9223372036854775807) (h5:∀x∈s.votes,x.part.num.size≤9223372036854775807∧x.part.den.size≤9223372036854775807) :
  aJ Tryz.prog base 14 [qz s] (boA (np s)):=by
 obtain ⟨ps,cs,vs⟩:=s
 simp only at h0 h1 h2 h3 h4 h5
 have cg:=fun (H:av) (ln:Nat) hn=>As (base:=base) hT (H:=H) (ln:=ln) cs (ps.length:Int) hn h2 h4
 have cv:=fun (H:av) (ln:Nat) hn=>As (base:=base) hT (H:=H) (ln:=ln) vs (ps.length:Int) hn h3 h5
 refine aA af Tryz.call14 Tryz.func14 rfl fun H hB hb hF => ?_
 rw [Tryz.results14,Tryz.ntmps14]
 simp only [ax,List.length_cons,List.length_nil,List.replicate,List.cons_append,List.nil_append,Nat.reduceAdd,Nat.reduceSub]
 clear hF hb
 have la:(ps.map fun s=>[PD.v (.string s)]).length=ps.length:=by simp
 obtain ⟨P,hP⟩:∃P,np ⟨ps,cs,vs⟩=P:=⟨_,rfl⟩
 rw [hP]
 unfold np at hP
 simp only [qz,yL,aN] at hP ⊢
 generalize iI (ps.length:Int) cs=b1 at *
 generalize iI (ps.length:Int) vs=b2 at *
 simp only [jv,iA] at cg cv ⊢
 generalize cs.map lkP=cs at *
 generalize vs.map lkP=vs at *
 repeat' (first | (refine aa ?_;first | (refine zg rfl ?_;first | refine ah ?_ | refine zo ?_ | (refine zs ?_ ?_<;>intro hb<;>((try simp only [bn] at hb);first | subst hb | simp only [hb]))) | (apply ai;rfl;simp only [aj,avs,tts,Nat.reduceAdd,Nat.reduceMul,Nat.reduceSub,Nat.reduceEqDiff,Nat.reduceLT,Nat.reduceLeDiff,Int.reduceToNat,Int.reduceLE,Int.reduceLT,Int.toNat_natCast,reduceCtorEq,la]<;>exact rr)) | refine ae ?_ | (refine ak ?_;first | (refine yg rfl ?_;first | refine aq ?_ | refine yo ?_ | (refine ys ?_ ?_<;>intro hb<;>((try simp only [bn] at hb);first | subst hb | simp only [hb]))) | (apply ar;rfl;simp only [aB,avs,tts,Nat.reduceAdd,Nat.reduceMul,Nat.reduceSub,Nat.reduceEqDiff,Nat.reduceLT,Nat.reduceLeDiff,Int.reduceToNat,Int.reduceLE,Int.reduceLT,Int.toNat_natCast,reduceCtorEq,la]<;>exact rr;first | trivial | omega)) | refine al ?_ | refine ag ?_ | refine zr af ?_ | refine zR 0 af mixed ?_ | refine zR 1 af mixed ?_ | refine zR 2 af mixed ?_ | refine zR 3 af mixed ?_ | refine zf rfl rfl ?_ | refine zt rfl rfl ?_ | (refine an rfl rfl ?_ ?_<;>intro hb<;>((try simp only [bn] at hb);first | subst hb | simp only [hb])) | refine ap ?_ | refine au ?_ | refine am ?_)
 refine bc (H0:=H++[.box 25 [.d (.sl 1 (ps.map fun s=>[PD.v (.string s)])),.d (.sl 5 cs),.d (.sl 5 vs)]]) (fun r env K=>∃k,r=ps.length - k∧k≤ps.length∧(∀i (hi:i<ps.length),i<k→nF (ps.take i) ps[i]=false)∧K=H++[.box 25 [.d (.sl 1 (ps.map fun s=>[PD.v (.string s)])),.d (.sl 5 cs),.d (.sl 5 vs)]]∧env=(.undef :: .ptr H.length 0 :: .undef :: .undef :: .undef :: .undef :: .undef :: .undef :: .d (.sl 1 (ps.map fun s=>[PD.v (.string s)])) :: .d (.v (.int .i64 (ps.length:Int))) :: .d (.v (.int .i64 (k:Int)))::List.replicate 40 .undef)) ?_ ⟨0,rfl,Nat.zero_le _,fun i _ h=>by omega,rfl,rfl⟩ ?_
 ·exact ⟨by simp [aH,List.replicate],.inl rfl⟩
 rintro r env K ⟨k,rfl,hk,hok,rfl,rfl⟩ hN
 simp only [rp]
 obtain ⟨c1,g1⟩:∃c1,decide ((k:Int)<(ps.length:Int))=c1:=⟨_,rfl⟩
 cases c1 with
 | false =>
  have hka:k=ps.length:=by
                  have:¬k<ps.length:=by simpa using g1
                  omega
  have hp:fN [] ps=true:=so.2 fun i hi=>hok i hi (by omega)
  rw [hp] at hP
  obtain ⟨c2,g2⟩:∃c,decide (ps.length≤60)=c:=⟨_,rfl⟩
  rw [g2] at hP
  have g3:decide ((ps.length:Int)≤60)=c2:=by rw [←g2];exact decide_eq_decide.2 (by omega)
  clear g2
  have cg2:=fun G=>cg (H++(.box 25 [.d (.sl 1 (ps.map fun s=>[PD.v (.string s)])),.d (.sl 5 cs),.d (.sl 5 vs)] :: .box 3 [.d (.v (.int .i64 (ps.length:Int)))]::G)) (H.length+1) (by simp)
  have cv2:=fun G=>cv (H++(.box 25 [.d (.sl 1 (ps.map fun s=>[PD.v (.string s)])),.d (.sl 5 cs),.d (.sl 5 vs)] :: .box 3 [.d (.v (.int .i64 (ps.length:Int)))]::G)) (H.length+1) (by simp)
  repeat' (first | (refine aa ?_;first | (refine zg rfl ?_;first | refine ah ?_ | refine zo ?_ | (refine zs ?_ ?_<;>intro hb<;>((try simp only [bn] at hb);first | subst hb | simp only [hb]))) | (apply ai;rfl;simp only [aj,avs,tts,Nat.reduceAdd,Nat.reduceMul,Nat.reduceSub,Nat.reduceEqDiff,Nat.reduceLT,Nat.reduceLeDiff,Int.reduceToNat,Int.reduceLE,Int.reduceLT,Int.toNat_natCast,reduceCtorEq,g1,g3,la]<;>exact rr) | (refine za rfl ?_;first | refine zd (cg2 _) ?_ | refine zd (cv2 _) ?_)) | refine ae ?_ | (refine ak ?_;first | (refine yg rfl ?_;first | refine aq ?_ | refine yo ?_ | (refine ys ?_ ?_<;>intro hb<;>((try simp only [bn] at hb);first | subst hb | simp only [hb]))) | (apply ar;rfl;simp only [aB,avs,tts,Nat.reduceAdd,Nat.reduceMul,Nat.reduceSub,Nat.reduceEqDiff,Nat.reduceLT,Nat.reduceLeDiff,Int.reduceToNat,Int.reduceLE,Int.reduceLT,Int.toNat_natCast,reduceCtorEq,g1,g3,la]<;>exact rr;first | trivial | omega) | (refine ya rfl ?_;first | refine yd (cg2 _) ?_ | refine yd (cv2 _) ?_)) | refine al ?_ | refine ag ?_ | refine zr af ?_ | refine zR 0 af mixed ?_ | refine zR 1 af mixed ?_ | refine zR 2 af mixed ?_ | refine zR 3 af mixed ?_ | refine zf rfl rfl ?_ | refine zt rfl rfl ?_ | (refine an rfl rfl ?_ ?_<;>intro hb<;>((try simp only [bn] at hb);first | subst hb | simp only [hb])) | refine ap ?_ | refine au ?_ | refine am ?_)
  all_goals (rw [←hP];exact aw ⟨_,rfl,_,rfl,rfl⟩)
 | true =>
  have hlt:k<ps.length:=by simpa using g1
  have hix:(0:Int)≤(k:Int):=by omega
  have ga:=bP hlt
  have w1:IntKind.i64.wrap ((k:Int)+1)=((k+1:Nat):Int):=aP hlt (by omega)
  have hno:=fun hb=>zH hlt hb
  have hoks:nF (ps.take k) ps[k]=false→∀i (hi:i<ps.length),i<k+1→nF (ps.take i) ps[i]=false:=fun h i hi h2=>by
   rcases Nat.lt_succ_iff_lt_or_eq.1 h2 with h3 | h3
   ·exact hok i hi h3
   ·subst h3;exact h
  have cn:=lh base ps[k] (h0 _ (List.getElem_mem hlt))
  cases k with
  | zero =>
   rw [xd hlt] at hno hoks
   obtain ⟨x,hx⟩:∃x,ps[0]=x:=⟨_,rfl⟩
   rw [hx] at hno hoks ga cn
   generalize bx x=b at *
   have gz:decide (((0:Nat):Int)>0)=false:=rfl
   simp only [tA] at cn
   repeat' (first | (refine aa ?_;first | (refine zg rfl ?_;first | refine ah ?_ | refine zo ?_ | (refine zs ?_ ?_<;>intro hb<;>((try simp only [bn] at hb);first | subst hb | simp only [hb]))) | (apply ai;rfl;simp only [aj,avs,tts,Nat.reduceAdd,Nat.reduceMul,Nat.reduceSub,Nat.reduceEqDiff,Nat.reduceLT,Nat.reduceLeDiff,Int.reduceToNat,Int.reduceLE,Int.reduceLT,Int.toNat_natCast,reduceCtorEq,hix,hlt,ga,la,g1,w1,gz,Bool.not_true,Bool.not_false]<;>exact rr) | (refine za rfl ?_;refine zp (cn) ?_)) | refine ae ?_ | (refine ak ?_;first | (refine yg rfl ?_;first | refine aq ?_ | refine yo ?_ | (refine ys ?_ ?_<;>intro hb<;>((try simp only [bn] at hb);first | subst hb | simp only [hb]))) | (apply ar;rfl;simp only [aB,avs,tts,Nat.reduceAdd,Nat.reduceMul,Nat.reduceSub,Nat.reduceEqDiff,Nat.reduceLT,Nat.reduceLeDiff,Int.reduceToNat,Int.reduceLE,Int.reduceLT,Int.toNat_natCast,reduceCtorEq,hix,hlt,ga,la,g1,w1,gz,Bool.not_true,Bool.not_false]<;>exact rr;first | trivial | omega) | (refine ya rfl ?_;refine yp (cn) ?_)) | refine al ?_ | refine ag ?_ | refine zr af ?_ | refine zR 0 af mixed ?_ | refine zR 1 af mixed ?_ | refine zR 2 af mixed ?_ | refine zR 3 af mixed ?_ | refine zf rfl rfl ?_ | refine zt rfl rfl ?_ | (refine an rfl rfl ?_ ?_<;>intro hb<;>((try simp only [bn] at hb);first | subst hb | simp only [hb])) | refine ap ?_ | refine au ?_ | refine am ?_)
   all_goals first
    | (have hp:P=false:=(by rw [←hP,hno (by rfl)];rfl);subst hp;show AW _ _ _ _ _;refine aw ⟨_,rfl,_,rfl,?_⟩;rfl)
    | (refine ⟨ps.length - (0+1),_,_,by omega,⟨?_,.inl rfl⟩,0+1,rfl,hlt,hoks (by rfl),rfl,rfl⟩;simp [aH,List.replicate])
  | succ j =>
   rw [xe hlt] at hno hoks
   have hlt3:j<ps.length:=by omega
   have ga3:=bP hlt3
   have hix3:(0:Int)≤(j:Int):=by omega
   have gz:decide (((j+1:Nat):Int)>0)=true:=decide_eq_true (by omega)
   have w3:IntKind.i64.wrap (((j+1:Nat):Int) - 1)=(j:Int):=by rw [IntKind.wrap_i64];omega
   have hls:=mS ps[j+1] ps[j]
   obtain ⟨x,hx⟩:∃x,ps[j+1]=x:=⟨_,rfl⟩
   rw [hx] at hno hoks ga cn hls
   obtain ⟨y,hy⟩:∃y,ps[j]=y:=⟨_,rfl⟩
   rw [hy] at hno hoks ga3 hls
   generalize bx x=b at *
   generalize ltT x y=b3 at *
   obtain ⟨b4,g4⟩:∃c,decide (x=y)=c:=⟨_,rfl⟩
   rw [g4] at hno hoks
   obtain ⟨b5,g5⟩:∃c,(b3||b4)=c:=⟨_,rfl⟩
   rw [g5] at hno hoks
   simp only [tA] at cn
   repeat' (first | (refine aa ?_;first | (refine zg rfl ?_;first | refine ah ?_ | refine zo ?_ | (refine zs ?_ ?_<;>intro hb<;>((try simp only [bn] at hb);first | subst hb | simp only [hb]))) | (apply ai;rfl;simp only [aj,avs,tts,Nat.reduceAdd,Nat.reduceMul,Nat.reduceSub,Nat.reduceEqDiff,Nat.reduceLT,Nat.reduceLeDiff,Int.reduceToNat,Int.reduceLE,Int.reduceLT,Int.toNat_natCast,reduceCtorEq,hix,hlt,ga,la,g1,w1,gz,w3,hix3,hlt3,ga3,hls,g4,g5,Bool.not_true,Bool.not_false]<;>exact rr) | (refine za rfl ?_;refine zp (cn) ?_)) | refine ae ?_ | (refine ak ?_;first | (refine yg rfl ?_;first | refine aq ?_ | refine yo ?_ | (refine ys ?_ ?_<;>intro hb<;>((try simp only [bn] at hb);first | subst hb | simp only [hb]))) | (apply ar;rfl;simp only [aB,avs,tts,Nat.reduceAdd,Nat.reduceMul,Nat.reduceSub,Nat.reduceEqDiff,Nat.reduceLT,Nat.reduceLeDiff,Int.reduceToNat,Int.reduceLE,Int.reduceLT,Int.toNat_natCast,reduceCtorEq,hix,hlt,ga,la,g1,w1,gz,w3,hix3,hlt3,ga3,hls,g4,g5,Bool.not_true,Bool.not_false]<;>exact rr;first | trivial | omega) | (refine ya rfl ?_;refine yp (cn) ?_)) | refine al ?_ | refine ag ?_ | refine zr af ?_ | refine zR 0 af mixed ?_ | refine zR 1 af mixed ?_ | refine zR 2 af mixed ?_ | refine zR 3 af mixed ?_ | refine zf rfl rfl ?_ | refine zt rfl rfl ?_ | (refine an rfl rfl ?_ ?_<;>intro hb<;>((try simp only [bn] at hb);first | subst hb | simp only [hb])) | refine ap ?_ | refine au ?_ | refine am ?_)
   all_goals first
    | (have hp:P=false:=(by rw [←hP,hno (by rfl)];rfl);subst hp;show AW _ _ _ _ _;refine aw ⟨_,rfl,_,rfl,?_⟩;rfl)
    | (refine ⟨ps.length - ((j+1)+1),_,_,by omega,⟨?_,.inl rfl⟩,(j+1)+1,rfl,hlt,hoks (by rfl),rfl,rfl⟩;simp [aH,List.replicate])
end
end Av
end Go.Proofs.YtdekcppfpgeneaaGreatDoor
namespace Go.Proofs.YtdekcppfpgeneaaGreatDoor
open Go Go.RowKit
namespace Rg
open Av Nt
theorem nO {n d n' d':Nat} (hd:0<d) (hd':0<d') (h:n * d'=n' * d):gR false n d=gR false n' d':=by
 obtain ⟨h1,h2⟩:=xl hd hd' h
 unfold gR
 rw [h1,h2]
 rfl
theorem gP (n d:Nat) (hd:0<d):ofR (n:Int) (d:Int)=gR false n d:=by
 unfold ofR
 rw [if_neg (by omega),decide_eq_false (by omega),decide_eq_false (by omega)]
 rfl
theorem fk {n d n' d':Nat} (hd:0<d) (hd':0<d') (h:n * d'=n' * d):ofR (n:Int) (d:Int)=ofR (n':Int) (d':Int):=by
 rw [gP _ _ hd,gP _ _ hd',nO hd hd' h]
theorem rc {n:Nat} (h:n<10000):(aI n).size≤4:=by
 rw [cU];exact iL 3 n h
theorem wN {n d:Nat} (hn:0<n) (hd:0<d) (h1:n<tp 300) (h2:d<tp 300):io (gR false n d)=true:=by
 have hg:0<Nat.gcd n d:=Nat.gcd_pos_of_pos_right _ hd
 have l1:n / Nat.gcd n d<tp 300:=Nat.lt_of_le_of_lt (Nat.div_le_self _ _) h1
 have l2:d / Nat.gcd n d<tp 300:=Nat.lt_of_le_of_lt (Nat.div_le_self _ _) h2
 have p1:0<n / Nat.gcd n d:=Nat.div_pos (Nat.le_of_dvd hn (Nat.gcd_dvd_left n d)) hg
 have p2:=vT (n:=n) hd
 have c:=vU (n:=n) hd
 unfold io gR okN
 simp only
 rw [kp (oe (k:=299) l1),kp (oe (k:=299) l2),dn,dn]
 simp only [Bool.and_self,if_true]
 rw [if_neg (by omega),if_neg (by omega)]
 exact decide_eq_true c
theorem rK {v:Nat} (h0:0<v) (h1:v≤6000):er (ofR (v:Int) 6000)=v:=by
 rw [show (6000:Int)=((6000:Nat):Int) from rfl,gP v 6000 (by omega)]
 have hv:=wN (n:=v) (d:=6000) h0 (by omega) (Nat.lt_of_le_of_lt h1 (Nat.lt_of_lt_of_le (by decide:6000<tp 4) (iq (by decide)))) (Nat.lt_of_lt_of_le (by decide:6000<tp 4) (iq (by decide)))
 have hu:=xk (n:=v) (N:=6000) (by omega)
 have hg:0<Nat.gcd v 6000:=Nat.gcd_pos_of_pos_right _ (by omega)
 have l1:v / Nat.gcd v 6000≤v:=Nat.div_le_self _ _
 have l2:6000 / Nat.gcd v 6000≤6000:=Nat.div_le_self _ _
 have l3:v / Nat.gcd v 6000≤6000 / Nat.gcd v 6000:=Nat.div_le_div_right h1
 unfold er
 rw [hv]
 unfold gR
 simp only [Bool.false_and,Bool.not_false,Bool.true_and]
 rw [decide_eq_true (rc (by omega)),decide_eq_true (rc (by omega)),dn,dn]
 simp only [Bool.and_self,if_true]
 rw [if_pos ⟨l3,hu.1⟩,hu.2]
def nmA:ByteArray:=⟨#[97]⟩
def nmP:ByteArray:=⟨#[112]⟩
def nmQ:ByteArray:=⟨#[113]⟩
def nmR:ByteArray:=⟨#[114]⟩
def nmZ:ByteArray:=⟨#[122]⟩
def hd1:Hd:=⟨⟨#[104,49]⟩,nmA,nmP,⟨#[]⟩,⟨#[]⟩,[],60,60,0, -1⟩
def hd2:Hd:=⟨⟨#[104,50]⟩,nmA,nmQ,⟨#[]⟩,⟨#[]⟩,[nmR],30,0,0, -1⟩
def hd3:Hd:=⟨⟨#[104,51]⟩,nmA,nmZ,⟨#[]⟩,⟨#[]⟩,[],50,0,0, -1⟩
def hdN:Hd:=⟨⟨#[104,49]⟩,nmA,nmP,nmQ,nmR,[],60,60,0, -1⟩
def mB:Hd:=⟨⟨#[104,49]⟩,nmA,nmP,⟨#[]⟩,⟨#[]⟩,[],60,60,6, -1⟩
theorem ft {l:List Hd} {m:List ByteArray} (hm:m.Nodup) (hs:m.Pairwise fun a b=>leT a b=true) (h:∀x,x∈l.flatMap bC↔x∈m):ay l=m :=
 rT (eX _) hm hs fun x=>by rw [gi];exact h x
theorem Ew:ay [hd1,hd2]=[nmA,nmP,nmQ,nmR]:=ft (by decide) (by decide) fun x=>by
 rw [show [hd1,hd2].flatMap bC=[nmA,nmP,nmA,nmQ,nmR] from by kernel_rfl]
 simp only [List.mem_cons,List.not_mem_nil,or_false]
 constructor
 ·rintro (h | h | h | h | h)<;>simp [h]
 ·rintro (h | h | h | h)<;>simp [h]
theorem psN:ay [hdN]=[nmA,nmP,nmQ,nmR]:=ft (by decide) (by decide) fun x=>by
 rw [show [hdN].flatMap bC=[nmA,nmP,nmQ,nmR] from by kernel_rfl]
theorem psL:ay [mB]=[nmA,nmP]:=ft (by decide) (by decide) fun x=>by
 rw [show [mB].flatMap bC=[nmA,nmP] from by kernel_rfl]
theorem ps1:ay [hd1]=[nmA,nmP]:=ft (by decide) (by decide) fun x=>by
 rw [show [hd1].flatMap bC=[nmA,nmP] from by kernel_rfl]
theorem Fs:ay [hd1,hd3]=[nmA,nmP,nmZ]:=ft (by decide) (by decide) fun x=>by
 rw [show [hd1,hd3].flatMap bC=[nmA,nmP,nmA,nmZ] from by kernel_rfl]
 simp only [List.mem_cons,List.not_mem_nil,or_false]
 constructor
 ·rintro (h | h | h | h)<;>simp [h]
 ·rintro (h | h | h)<;>simp [h]
theorem jR {l:List Hd} {m:List ByteArray} (hp:ay l=m) (h:((l.all aS&&decide ((l.map Hd.id).Nodup))&&(decide (l.length≤400)&&(decide (m.length≤60)&&fg l)))=true):br l=true:=by
 unfold br;rw [hp];exact h
theorem v12:br [hd1,hd2]=true:=jR Ew (by kernel_rfl)
theorem vN:br [hdN]=true:=jR psN (by kernel_rfl)
theorem vL:br [mB]=true:=jR psL (by kernel_rfl)
theorem v1:br [hd1]=true:=jR ps1 (by kernel_rfl)
theorem iv {l:List (Int × Int)} (hn:l.Nodup) (hs:l.Pairwise leK):ba l=l:=rU hn hn hs fun _=>Iff.rfl
theorem Fc:atS [hd1,hd2] 5=⟨[nmA,nmP,nmQ,nmR],[⟨0,1,ofR 3 5⟩,⟨0,2,ofR 3 20⟩,⟨0,3,ofR 3 20⟩],[⟨0,1,ofR 3 5⟩]⟩∧atE [hd1,hd2] 5=0:=by
 unfold atS atE
 rw [v12,Ew,show eR 5=true from rfl]
 simp only [Bool.and_self,if_true]
 refine ⟨?_,trivial⟩
 unfold cq
 rw [show (cV (ixS [nmA,nmP,nmQ,nmR]) 5 [hd1,hd2]).1=[(0,1),(0,2),(0,3)] from by kernel_rfl,show (cW (ixS [nmA,nmP,nmQ,nmR]) 5 [hd1,hd2]).1=[(0,1)] from by kernel_rfl]
 rw [iv (by decide) (by simp [leK]),iv (by decide) (by simp [leK])]
 simp only [List.map_cons,List.map_nil,jw]
 rw [show (cV (ixS [nmA,nmP,nmQ,nmR]) 5 [hd1,hd2]).2 (0,1)=3600 from by kernel_rfl,show (cV (ixS [nmA,nmP,nmQ,nmR]) 5 [hd1,hd2]).2 (0,2)=900 from by kernel_rfl,show (cV (ixS [nmA,nmP,nmQ,nmR]) 5 [hd1,hd2]).2 (0,3)=900 from by kernel_rfl,show (cW (ixS [nmA,nmP,nmQ,nmR]) 5 [hd1,hd2]).2 (0,1)=3600 from by kernel_rfl]
 rw [show ofR 3600 6000=ofR 3 5 from fk (n:=3600) (d:=6000) (n':=3) (d':=5) (by decide) (by decide) (by decide),show ofR 900 6000=ofR 3 20 from fk (n:=900) (d:=6000) (n':=3) (d':=20) (by decide) (by decide) (by decide)]
theorem atN:(atS [hdN] 5).capital=[⟨0,2,ofR 3 5⟩]∧(atS [hdN] 5).votes=[⟨0,3,ofR 3 5⟩]∧atE [hdN] 5=0:=by
 unfold atS atE
 rw [vN,psN,show eR 5=true from rfl]
 simp only [Bool.and_self,if_true,and_true]
 unfold cq
 rw [show (cV (ixS [nmA,nmP,nmQ,nmR]) 5 [hdN]).1=[(0,2)] from by kernel_rfl,show (cW (ixS [nmA,nmP,nmQ,nmR]) 5 [hdN]).1=[(0,3)] from by kernel_rfl]
 rw [iv (by decide) (by simp [leK]),iv (by decide) (by simp [leK])]
 simp only [List.map_cons,List.map_nil,jw]
 rw [show (cV (ixS [nmA,nmP,nmQ,nmR]) 5 [hdN]).2 (0,2)=3600 from by kernel_rfl,show (cW (ixS [nmA,nmP,nmQ,nmR]) 5 [hdN]).2 (0,3)=3600 from by kernel_rfl]
 rw [show ofR 3600 6000=ofR 3 5 from fk (n:=3600) (d:=6000) (n':=3) (d':=5) (by decide) (by decide) (by decide)]
 exact ⟨rfl,rfl⟩
theorem atL:atS [mB] 5=⟨[nmA,nmP],[],[]⟩∧atE [mB] 5=0:=by
 unfold atS atE
 rw [vL,psL,show eR 5=true from rfl]
 simp only [Bool.and_self,if_true,and_true]
 unfold cq
 rw [show (cV (ixS [nmA,nmP]) 5 [mB]).1=[] from by kernel_rfl,show (cW (ixS [nmA,nmP]) 5 [mB]).1=[] from by kernel_rfl]
 rw [iv (by decide) (by simp)]
 rfl
theorem Fq:iz [hd1] hd3=([],10):=by
 unfold iz
 rw [v1,show aS hd3=true from by kernel_rfl,show [hd1]++[hd3]=[hd1,hd3] from rfl,Fs,show fg [hd1,hd3]=false from by kernel_rfl,show cE [hd1] hd3.id = -1 from by kernel_rfl]
 rfl
theorem u35:er (ofR 3 5)=3600:=by
 rw [show ofR 3 5=ofR 3600 6000 from fk (n:=3) (d:=5) (n':=3600) (d':=6000) (by decide) (by decide) (by decide)]
 exact rK (v:=3600) (by decide) (by decide)
theorem Fo:er (ofR 3 20)=900:=by
 rw [show ofR 3 20=ofR 900 6000 from fk (n:=3) (d:=20) (n':=900) (d':=6000) (by decide) (by decide) (by decide)]
 exact rK (v:=900) (by decide) (by decide)
theorem Bv:np ⟨[nmA,nmP,nmQ,nmR],[⟨0,1,ofR 3 5⟩,⟨0,2,ofR 3 20⟩,⟨0,3,ofR 3 20⟩],[⟨0,1,ofR 3 5⟩]⟩=true:=by
 unfold np
 rw [show fN [] [nmA,nmP,nmQ,nmR]=true from by kernel_rfl]
 simp only [iI,pQ,o0,l8,vK,ic,bH,u35,Fo,List.nil_append,List.cons_append,List.length_cons,List.length_nil]
 decide
end Rg
end Go.Proofs.YtdekcppfpgeneaaGreatDoor
