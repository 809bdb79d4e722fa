import Derived.Test.YtdekcppfpgeneaaGreatDoorW2
import Derived.Shelf.Strings.BuilderK
import Derived.Lib.UnsafeStr
import Derived.Shelf.Strconv.ParseUint10b64
import Derived.Lib.Atoi
import Derived.Lib.AtoiErrMem
import Derived.Shelf.SlIter.Nil
import Derived.Shelf.SortM.Plain
import Derived.Shelf.SortM.SortNone
import Derived.Test.YtdekcppfpgeneaaGreatDoorProg
import Derived.StringKeys
set_option linter.unusedVariables false
set_option linter.unusedSimpArgs false
namespace Go.Proofs.YtdekcppfpgeneaaGreatDoor
open Go Go.RowKit
namespace Av
attribute [local irreducible] AW aL aH
def yC:AV := .d (.v (.pointer none))
theorem v7 {s:St} {r:List AV} {vs:List Value} (h:ax s (yC::r) vs):∃t,vs = .pointer none::t∧ax s r t:=gQ h
theorem mY {s:St} {a:AV} {vs:List Value} (h:ax s [a] vs):∃v,vs=[v]∧Rep s a v:=by
 simp only [ax] at h
 obtain ⟨v,t,e,h,rfl⟩:=h
 exact ⟨v,e,h⟩
theorem Bn (base:World) {H:av} {l:Nat} {x:AV} (h:H[l]?=some (.box 196 [yC,x])):bR Tryz.prog base 220 [.ptr l 0] H fun r H'=>r = .tup []∧H'=H.set l (.box 196 [.ptr l 0,x]) :=
 ⟨Tryz.call220,fun μ w vs hs ha=>by
  obtain ⟨v,e,hv⟩:=mY ha
  simp only [Rep,cE,h] at hv
  obtain ⟨_,b,m1,rfl⟩:=hv
  rw [C2 e]
  obtain ⟨b',arr,q1,q2,q3,q4⟩:=hs.obj l _ h
  have q1':μ l=some b':=q1
  rw [m1] at q1';cases q1'
  obtain ⟨t,e1,q5⟩:=v7 q4
  obtain ⟨vx,rfl,hx⟩:=mY q5
  have harr:arr = #[.pointer none,vx]:=Array.toList_inj.1 e1
  subst harr
  have q3':w.heap[b]?=some (.cells #[.pointer none,vx] 196 (0,0)):=q3
  refine (Any.Builder_copyCheck_fresh (P:=Tryz.prog) (ρ:=Tryz.lays105_ren) { Tryz.lays105 with } Tryz.Builder_Extra_105.toX72 b w (by rw [Lib.cell_of_heap q3'];rfl) (by simp [World.shape?,q3'];rfl) (Lib.frozen_of_heap q3' 0)).mono ?_
  rintro e w' ⟨rfl,rfl⟩
  have hu:=hs.upd h (w':=w.setCell ⟨b,0,none⟩ (.pointer (some ⟨b,0,none⟩))) (b:=b) (o' := .box 196 [.ptr l 0,x]) rfl rfl rfl (by simp [World.setCell]) (fun c hc _=>Below.heap_setCell _ _ _ _ hc) (.inr ⟨rfl,m1⟩)
   ⟨#[.pointer (some ⟨b,0,none⟩),vx],by simp [World.setCell,Array.getElem?_modify,q3'],.cons (by simp only [Rep,cE,h];exact ⟨⟨_,rfl⟩,b,m1,rfl⟩) (.cons hx .nil)⟩ (by
    unfold aW
    rw [h]
    exact .inr ⟨_,aE (aF h),(upd_same _ _ _).trans m1.symm⟩)
  exact ⟨_,.tup [],_,_,rfl,⟨rfl,rfl⟩,by simp,hu.1,by simp only [Rep];exact ⟨_,rfl,.nil⟩,hu.2⟩⟩
theorem xW {H:av} {l:Nat} {o:aN} (h:H[l]?=some o):H.set l o=H:=by
 apply List.ext_getElem?
 intro i
 by_cases hi:i=l
 ·subst hi;rw [aE (aF h),h]
 ·rw [aV hi]
set_option maxRecDepth 100000 in
theorem zX (base:World) {H:av} {l:Nat} {x:AV} (h:H[l]?=some (.box 196 [.ptr l 0,x])):da Tryz.prog base 220 [.ptr l 0] H (.tup []):=by
 refine cC af Tryz.call220 Tryz.func220 rfl fun hB hb hF => ?_
 rw [Tryz.results220,Tryz.ntmps220]
 simp only [aA,List.length_cons,List.length_nil,List.replicate,List.cons_append,List.nil_append,Nat.reduceAdd,Nat.reduceSub]
 repeat refine ag ?_
 refine zr af ?_
 repeat (refine aa ?_;first | (apply ai;rfl;simp only [aj,avs,tts,seval,h]<;>exact rr) | (refine zg rfl ?_;first | refine ah ?_ | refine zo ?_))
 refine ae ?_
 repeat refine ag ?_
 refine am rfl rfl (fun hb => ?_) fun hb => ?_
 ·cases hb
 repeat refine ag ?_
 refine zr af ?_
 repeat (refine aa ?_;first | (apply ai;rfl;simp only [aj,avs,tts,seval,h]<;>exact rr) | (refine zg rfl ?_;first | refine ah ?_ | refine zo ?_))
 refine ae ?_
 repeat refine ag ?_
 refine am rfl rfl (fun hb => ?_) fun hb => ?_
 ·cases hb
 refine ap ?_
 exact ⟨_,rfl,[],by simp,rfl⟩
theorem qA (a s:ByteArray):iF a++iF s=iF (a++s):=by simp [iF,xM,ByteArray.toList_data_append]
def kb (l r ver n:Nat):aN := .box 196 [.ptr l 0,.ms r ver n]
def lf (ver:Nat) (a:ByteArray):aN := .row 5 1 ver (iF a)
set_option maxRecDepth 100000 in
theorem C4 (base:World) {H:av} {l r ver:Nat} {a s:ByteArray} (h:H[l]?=some (kb l r ver a.size)) (hr:H[r]?=some (lf ver a)) (hs:a.size+s.size≤1000000000):bR Tryz.prog base 190 [.ptr l 0,.d (.v (.string s))] H fun q H'=>q = .tup [iA s.size,.d (.v .nilIface)]∧H'=(H.set r (lf ver (a++s))).set l (kb l r ver (a.size+s.size)):=by
 have hlr:l≠r:=fun e=>by subst e;rw [h] at hr;simp [kb,lf] at hr
 simp only [kb,lf] at h hr ⊢
 refine b9 af Tryz.call190 Tryz.func190 rfl fun hB hb hF => ?_
 rw [Tryz.results190,Tryz.ntmps190]
 simp only [aA,List.length_cons,List.length_nil,List.replicate,List.cons_append,List.nil_append,Nat.reduceAdd,Nat.reduceSub]
 repeat refine ag ?_
 refine zr af ?_
 repeat (refine aa ?_;first | (apply ai;rfl;simp only [aj,avs,tts,seval]<;>exact rr) | (refine zg rfl ?_;first | refine ah ?_ | refine zo ?_))
 refine ae ?_
 repeat refine ag ?_
 refine zr af ?_
 repeat (refine aa ?_;first | (apply ai;rfl;simp only [aj,avs,tts,seval]<;>exact rr) | (refine zg rfl ?_;first | refine ah ?_ | refine zo ?_))
 refine zD rfl ((zX base h)) ?_
 repeat (refine aa ?_;first | (apply ai;rfl;simp only [aj,avs,tts,seval]<;>exact rr) | (refine zg rfl ?_;first | refine ah ?_ | refine zo ?_))
 refine ae ?_
 have h2:∀o,(H.set r o)[l]?=some (.box 196 [.ptr l 0,.ms r ver a.size]):=fun o=>by rw [aV hlr];exact h
 have c1:a.size+s.size≤9223372036854775807:=by omega
 have c2:(a.size+s.size) * 1≤140737488355328:=by omega
 repeat refine ag ?_
 refine zr af ?_
 repeat (refine aa ?_;first | (apply ai;rfl;simp only [aj,avs,tts,seval,h,hr,gr,c1,c2,h2,bQ,qA]<;>exact rr) | (refine zg rfl ?_;first | refine ah ?_ | refine zo ?_))
 refine ae ?_
 repeat refine ag ?_
 refine zr af ?_
 repeat (refine aa ?_;first | (apply ai;rfl;simp only [aj,avs,tts,seval]<;>exact rr) | (refine zg rfl ?_;first | refine ah ?_ | refine zo ?_))
 refine ae ?_
 exact aw ⟨_,rfl,rfl,rfl⟩
set_option maxRecDepth 100000 in
theorem Et (base:World) {H:av} {l:Nat} {s:ByteArray} (h:H[l]?=some (.box 196 [yC,jQ])) (hs:s.size≤1000000000):bR Tryz.prog base 190 [.ptr l 0,.d (.v (.string s))] H fun q H'=>q = .tup [iA s.size,.d (.v .nilIface)]∧H'=(H++[lf 0 s]).set l (kb l H.length 0 s.size):=by
 simp only [kb,lf]
 refine b9 af Tryz.call190 Tryz.func190 rfl fun hB hb hF => ?_
 rw [Tryz.results190,Tryz.ntmps190]
 simp only [aA,List.length_cons,List.length_nil,List.replicate,List.cons_append,List.nil_append,Nat.reduceAdd,Nat.reduceSub]
 repeat refine ag ?_
 refine zr af ?_
 repeat (refine aa ?_;first | (apply ai;rfl;simp only [aj,avs,tts,seval]<;>exact rr) | (refine zg rfl ?_;first | refine ah ?_ | refine zo ?_))
 refine ae ?_
 repeat refine ag ?_
 refine zr af ?_
 repeat (refine aa ?_;first | (apply ai;rfl;simp only [aj,avs,tts,seval]<;>exact rr) | (refine zg rfl ?_;first | refine ah ?_ | refine zo ?_))
 refine bZ rfl (by simp only [avs]<;>rfl) (⟨_,Bn base h,?_⟩)
 rintro r1 H1 ⟨rfl,hH1⟩ hl1
 have h1:H1[l]?=some (.box 196 [.ptr l 0,jQ]):=by rw [hH1];exact aE (aF h)
 have h2:∀G,(H1++G)[l]?=some (.box 196 [.ptr l 0,jQ]):=got h1
 simp only [jQ] at h1 h2
 have hln:H1.length=H.length:=by rw [hH1];simp
 repeat (refine aa ?_;first | (apply ai;rfl;simp only [aj,avs,tts,seval]<;>exact rr) | (refine zg rfl ?_;first | refine ah ?_ | refine zo ?_))
 refine ae ?_
 have c1:s.size≤9223372036854775807:=by omega
 have c2:s.size * 1≤140737488355328:=by omega
 repeat refine ag ?_
 refine zr af ?_
 repeat (refine aa ?_;first | (apply ai;rfl;simp only [aj,avs,tts,seval,h1,gr,c1,c2,h2,bQ]<;>exact rr) | (refine zg rfl ?_;first | refine ah ?_ | refine zo ?_))
 refine ae ?_
 repeat refine ag ?_
 refine zr af ?_
 repeat (refine aa ?_;first | (apply ai;rfl;simp only [aj,avs,tts,seval]<;>exact rr) | (refine zg rfl ?_;first | refine ah ?_ | refine zo ?_))
 refine ae ?_
 refine aw ⟨_,rfl,rfl,?_⟩
 rw [hln,hH1,←List.set_append_left _ _ (aF h),List.set_set]
end Av
end Go.Proofs.YtdekcppfpgeneaaGreatDoor
namespace Go.Proofs.YtdekcppfpgeneaaGreatDoor
open Go Go.RowKit
namespace Av
attribute [local irreducible] AW aL aH
set_option maxRecDepth 100000 in
theorem D5 (base:World) {H:av} {l r ver:Nat} {a:ByteArray} (h:H[l]?=some (kb l r ver a.size)) (hr:H[r]?=some (lf ver a)):da Tryz.prog base 192 [.ptr l 0] H (iA a.size):=by
 simp only [kb,lf] at h hr
 refine cC af Tryz.call192 Tryz.func192 rfl fun hB hb hF => ?_
 rw [Tryz.results192,Tryz.ntmps192]
 simp only [aA,List.length_cons,List.length_nil,List.replicate,List.cons_append,List.nil_append,Nat.reduceAdd,Nat.reduceSub]
 repeat refine ag ?_
 refine zr af ?_
 repeat (refine aa ?_;first | (apply ai;rfl;simp only [aj,avs,tts,seval]<;>exact rr) | (refine zg rfl ?_;first | refine ah ?_ | refine zo ?_))
 refine ae ?_
 repeat refine ag ?_
 refine zr af ?_
 repeat (refine aa ?_;first | (apply ai;rfl;simp only [aj,avs,tts,seval,h,hr,gr]<;>exact rr) | (refine zg rfl ?_;first | refine ah ?_ | refine zo ?_))
 refine ae ?_
 exact aw ⟨_,rfl,[],by simp,rfl⟩
set_option maxHeartbeats 2000000 in
set_option maxRecDepth 100000 in
theorem ue (b g cap:Nat) (p:Value) (cur:Array Value) (s:ByteArray) (w:World) (h0:s.size≠0) (hbk:w.heap[b]?=some (.cells #[p,.slice (some ⟨g,0,none⟩) s.size cap] 196 (0,0))) (hg:w.heap[g]?=some (.cells cur 5 (0,0))) (hnc:s.size≤cap) (hcm:cap≤maxLen) (hcs:cur.size=cap) (hcell:∀(j:Nat) (x:UInt8),s.data.toList[j]?=some x→cur[j]?=some (Value.int .u8 x.toNat)) :
  Calls Tryz.prog 193 #[.pointer (some ⟨b,0,none⟩)] w fun e w'=>e = .returned (.string s)∧w'=w.drew.freeze ⟨g,0,none⟩ s.size:=by
 have hmix:=mixed
 have hl:s.data.toList≠[]:=fun e=>h0 (by rw [Lib.size_eq,e];rfl)
 have hsl:s.data.toList.length=s.size:=(Lib.size_eq s).symm
 have es:(⟨s.data.toList.toArray⟩:ByteArray)=s:=by apply ByteArray.ext;simp
 have c1:w.drew.cell? ⟨b,1,none⟩=some (.slice (some ⟨g,0,none⟩) s.size cap):=by
  have:w.drew.heap[b]?=some (.cells #[p,.slice (some ⟨g,0,none⟩) s.size cap] 196 (0,0)):=hbk
  rw [Lib.cell_of_heap this];rfl
 have hg':w.drew.heap[g]?=some (.cells cur 5 (0,0)):=hg
 have hSD:(Builtin.unsafeSliceData_ #[138] 217 #[.slice (some ⟨g,0,none⟩) s.size cap]).run Tryz.prog w.drew = .ok (.pointer (some ⟨g,0,none⟩)) w.drew :=
  Lib.run_unsafeSliceData_row _ _ _ _ _ _ (by omega)
 have hUS:(Builtin.unsafeString_ #[217,3] 9 #[.pointer (some ⟨g,0,none⟩),.int .i64 s.size]).run Tryz.prog w.drew = .ok (.string s) (w.drew.freeze ⟨g,0,none⟩ s.size):=by
  have:=Lib.run_unsafeString_row w.drew 217 3 9 5 (P:=Tryz.prog) (by kernel_rfl) (by kernel_rfl) g cur.size (by simp [World.shape?,hg']) s.data.toList hl (by omega) (by unfold maxLen at hcm;omega) (fun j x hx=>by
   rw [Lib.add_plain,Lib.cell_of_heap hg',Nat.zero_add]
   exact hcell j x hx)
  rw [hsl,es] at this
  exact this
 go_enter Tryz.func193,Tryz.ntmps193
 go_wp2
 go_region_o
 all_goals (go_wp2;go_ret;exact ⟨rfl,rfl⟩)
theorem qg (w:World) (g n k:Nat) (h:k≠g):(w.freeze ⟨g,0,none⟩ n).heap[k]?=w.heap[k]?:=by
 unfold World.freeze
 split
 ·rfl
 ·simp only [Array.getElem?_modify]
  rw [if_neg (fun e=>h e.symm)]
theorem sb (w:World) (a:Addr) (n:Nat):(w.freeze a n).heap.size=w.heap.size:=by
 unfold World.freeze
 split<;>simp
theorem se (w:World) (a:Addr) (n:Nat):(w.freeze a n).os=w.os∧(w.freeze a n).tape=w.tape∧(w.freeze a n).output=w.output:=by
 unfold World.freeze
 split<;>exact ⟨rfl,rfl,rfl⟩
theorem DC (base:World) {H:av} {l r ver:Nat} {s:ByteArray} (h:H[l]?=some (kb l r ver s.size)) (hr:H[r]?=some (lf ver s)) (h0:s.size≠0) (h9:s.size≤9223372036854775807):bR Tryz.prog base 193 [.ptr l 0] H fun q H'=>q = .d (.v (.string s))∧H'=H.set r .dead :=
 ⟨Tryz.call193,fun μ w vs hs ha=>by
  simp only [kb,lf] at h hr
  obtain ⟨v,e,hv⟩:=mY ha
  simp only [Rep,cE,h] at hv
  obtain ⟨_,b,m1,rfl⟩:=hv
  rw [C2 e]
  obtain ⟨b',arr,q1,q2,q3,q4⟩:=hs.obj l _ h
  have q1':μ l=some b':=q1
  rw [m1] at q1';cases q1'
  simp only [ax] at q4
  obtain ⟨v1,t1,e1,_,v2,t2,e2,hx,e3⟩:=q4
  subst e3 e2
  have harr:arr = #[v1,v2]:=Array.toList_inj.1 e1
  subst harr
  simp only [Rep,cB,hr] at hx
  obtain ⟨_,_,hx⟩:=hx
  obtain ⟨k0,k9,ko⟩:=hs.obj r _ hr
  rcases hx trivial (by rw [gr]) with ⟨_,_,hz⟩ | ⟨g,cap,m2,rfl,m3,m4,m5⟩
  ·exact absurd hz h0
  rcases ko with ⟨n1,_⟩ | ⟨g',cur,f,rs,n1,n2,n3,n4,n5⟩
  ·have:μ r=none:=n1
   rw [m2] at this;cases this
  have n1':μ r=some g':=n1
  rw [m2] at n1';cases n1'
  rw [ee n3,Nat.mul_one] at m5
  have hf:f=Lib.strCells s:=by
   have:=py (s:=⟨μ,H,w⟩) s
   have inj:∀(l:List UInt8) (x y:List Value),ax ⟨μ,H,w⟩ ((l.map fun b=>[PD.v (.int .u8 b.toNat)]).map fun it=>it.map AV.d).flatten x→ax ⟨μ,H,w⟩ ((l.map fun b=>[PD.v (.int .u8 b.toNat)]).map fun it=>it.map AV.d).flatten y→x=y:=by
    intro l
    induction l with
    | nil=>intro x y hx hy;simp only [List.map_nil,List.flatten_nil] at hx hy;rw [iI hx,iI hy]
    | cons a l ih =>
     intro x y hx hy
     simp only [List.map_cons,List.map_nil,List.flatten_cons,List.cons_append,List.nil_append] at hx hy
     obtain ⟨tx,rfl,hx'⟩:=gQ hx
     obtain ⟨ty,rfl,hy'⟩:=gQ hy
     rw [ih _ _ hx' hy']
   exact inj _ _ _ n5 this
  have hbk:w.heap[b]?=some (.cells #[v1,.slice (some ⟨g,0,none⟩) s.size cap] 196 (0,0)):=q3
  have hgk:w.heap[g]?=some (.cells cur 5 (0,0)):=n3
  refine (ue b g cap v1 cur s w h0 hbk hgk m3 m4 m5.symm (fun j x hx => ?_)).mono ?_
  ·have h1:(Lib.strCells s)[j]?=some (.int .u8 x.toNat):=by simp [Lib.strCells,hx]
   have h2:cur.toList[j]?=some (.int .u8 x.toNat):=by
    rw [n4,hf,List.getElem?_append_left (List.getElem?_eq_some_iff.1 h1).1]
    exact h1
   simpa using h2
  rintro e w' ⟨rfl,rfl⟩
  have fr:=se w.drew ⟨g,0,none⟩ s.size
  have hd:=hs.die hr rfl m2 (w':=w.drew.freeze ⟨g,0,none⟩ s.size) fr.1 fr.2.1 fr.2.2 (by rw [sb];exact Nat.le_refl _) (fun c hc _=>qg _ _ _ _ hc)
  exact ⟨_,.d (.v (.string s)),_,_,rfl,⟨rfl,rfl⟩,by simp,hd.1,by simp only [Rep,aQ];exact ⟨trivial,h9⟩,hd.2 _⟩⟩
end Av
end Go.Proofs.YtdekcppfpgeneaaGreatDoor
namespace Go.Proofs.YtdekcppfpgeneaaGreatDoor
open Go Go.RowKit
namespace Av
attribute [local irreducible] AW aL aH
open Nt
theorem BW (k:Nat):Lib.repeatL [48] k=List.replicate k 48:=by
 induction k with
 | zero=>rfl
 | succ k ih=>rw [Lib.repeatL,ih];rfl
theorem Bj {v x:Nat} (hv:0<v) (hx:x<B9):aD v++(⟨(Lib.repeatL [48] (9 - (aD x).size)).toArray⟩:ByteArray)++aD x=aD (x+B9 * v):=by
 have:=CW hv hx
 apply ByteArray.ext
 simp only [aD,ByteArray.data_append,this,DJ,BW]
 rw [show (ByteArray.mk (Lib.decDigits x).toArray).size=(Lib.decDigits x).length from by rw [Lib.size_eq]]
 simp
theorem nI {n:Nat} (h:(limbs n).length≤900) {v:Nat} (hv:v≤n):(aD v).size≤8101:=by
 rw [aX]
 have h1:=gE (ce n)
 rw [bG,←tC] at h1
 have:=gO (9 * (limbs n).length) v (Nat.lt_of_le_of_lt hv (Nat.lt_of_lt_of_le h1 (Nat.pow_le_pow_right (by decide) (by omega))))
 omega
def th (n:Nat):AV:=if 300<(Lib.decDigits n).length then .tup [.d (.v (.string ByteArray.empty)),iA 2] else .tup [.d (.v (.string (aD n))),iA 0]
def xr:ByteArray:=⟨#[48]⟩
theorem kZ:aD 0=xr:=by
 unfold aD xr
 rw [dK (by decide)]
 rfl
set_option maxRecDepth 100000 in
set_option maxHeartbeats 4000000 in
theorem Ct {base:World} (hT:dt base) (n:Nat) (hn:(limbs n).length≤900):aI Tryz.prog base 149 [.d (aO (limbs n))] (th n):=by
 refine aC af Tryz.call149 Tryz.func149 rfl fun H hB hb hF => ?_
 rw [Tryz.results149,Tryz.ntmps149]
 simp only [aA,List.length_cons,List.length_nil,List.replicate,List.cons_append,List.nil_append,Nat.reduceAdd,Nat.reduceSub]
 clear hF hb
 have hnl:=bO (limbs n)
 repeat refine ag ?_
 refine zr af ?_
 repeat (refine aa ?_;first | (apply ai;rfl;simp only [aj,avs,tts,seval]<;>exact rr) | (refine zg rfl ?_;first | refine ah ?_ | refine zo ?_))
 refine ae ?_
 repeat refine ag ?_
 refine zr af ?_
 repeat (refine aa ?_;first | (apply ai;rfl;simp only [aj,avs,tts,seval,aO,hnl]<;>exact rr) | (refine zg rfl ?_;first | refine ah ?_ | refine zo ?_))
 refine ae ?_
 repeat refine ag ?_
 refine am rfl rfl (fun hb => ?_) fun hb => ?_
 ·have h0:n=0:=dW.1 (List.eq_nil_of_length_eq_zero (by simpa using hb))
  subst h0
  repeat refine ag ?_
  refine zr af ?_
  repeat (refine aa ?_;first | (apply ai;rfl;simp only [aj,avs,tts,seval]<;>exact rr) | (refine zg rfl ?_;first | refine ah ?_ | refine zo ?_))
  refine ae ?_
  refine aw ⟨_,(by simp only [bk,cN,er,avs,tts]<;>rfl),_,rfl,?_⟩
  have e:th 0 = .tup [.d (.v (.string xr)),iA 0]:=by
   unfold th
   rw [kZ,dK (by decide)]
   rfl
  rw [e]
  rfl
 have hn0:n≠0:=fun e=>by subst e;rw [bE] at hb;simp at hb
 have hL:0<(limbs n).length:=List.length_pos_iff.2 fun e=>hn0 (dW.1 e)
 refine ap ?_
 clear hb
 have cb:=ui base (limbs n)
 repeat refine ag ?_
 refine zr af ?_
 repeat (refine aa ?_;first | (apply ai;rfl;simp only [aj,avs,tts,seval]<;>exact rr) | (refine zg rfl ?_;first | refine ah ?_ | refine zo ?_))
 refine ae ?_
 repeat refine ag ?_
 refine zr af ?_
 repeat (refine aa ?_;first | (apply ai;rfl;simp only [aj,avs,tts,seval]<;>exact rr) | (refine zg rfl ?_;first | refine ah ?_ | refine zo ?_))
 refine zP rfl (cb) ?_
 repeat (refine aa ?_;first | (apply ai;rfl;simp only [aj,avs,tts,seval]<;>exact rr) | (refine zg rfl ?_;first | refine ah ?_ | refine zo ?_))
 refine ae ?_
 repeat refine ag ?_
 refine an ?_
 refine nT (gf:=213) (caps:=[.rp [aO (limbs n)]]) (jk (limbs n)) rfl rfl Tryz.call213 (fun μ w lb hs hr=>nP (ce n) (by omega) μ w lb hs hr)
  (fun k H'=>k=0∧H'=H++[.box 136 [.d (aO (limbs n))],.box 196 [yC,jQ]]∨0<k∧H'=H++[.box 136 [.d (aO (limbs n))],kb (H.length+1) (H.length+2) 0 (aD (n / B9 ^ ((limbs n).length - k))).size,lf 0 (aD (n / B9 ^ ((limbs n).length - k)))])
  (fun c H'=>False) (.inl ⟨rfl,rfl⟩) ?_ ?_ (fun c H' h=>h.elim)
 ·rintro l k H' hk hJ hN
  rw [dP] at hk
  rw [jb _ hk]
  obtain ⟨m,hm⟩:∃m,m=(limbs n).length - 1 - k:=⟨_,rfl⟩
  rw [←hm]
  have hmp:m<(limbs n).length:=by omega
  have hnext:(limbs n).length - (k+1)=m:=by omega
  have hthis:(limbs n).length - k=m+1:=by omega
  rw [hthis] at hJ
  have hx:=o3 n m hmp
  have hx9:(limbs n).getD m 0<1000000000:=dc (ce n) m
  have hst:=wz n m
  rw [←hx.1] at hst
  obtain ⟨x,ex⟩:∃x,x=(limbs n).getD m 0:=⟨_,rfl⟩
  rw [←ex] at hst hx9 ⊢
  have cf:=Ea hT x hx9
  have h9:=zN hx9
  simp only [gS,aA,List.zip_cons_cons,List.zip_nil_left,List.foldl_cons,List.foldl_nil,List.set_cons_succ,List.set_cons_zero,iA,uA,aO]
  have w1:IntKind.i64.wrap (((limbs n).length:Int) - 1)=(((limbs n).length - 1:Nat):Int):=by rw [IntKind.wrap_i64];omega
  rcases hJ with ⟨rfl,rfl⟩ | ⟨hk0,rfl⟩
  ·have hv0:n / B9 ^ (m+1)=0:=by rw [show m+1=(limbs n).length by omega];exact wy n
   rw [hv0,Nat.mul_zero,Nat.add_zero] at hst
   have c0:decide ((m:Int)<(((limbs n).length - 1:Nat):Int))=false:=by simp;omega
   repeat refine ag ?_
   refine zr af ?_
   repeat (refine aa ?_;first | (apply ai;rfl;simp only [aj,avs,tts,seval]<;>exact rr) | (refine zg rfl ?_;first | refine ah ?_ | refine zo ?_))
   refine ae ?_
   repeat refine ag ?_
   refine zr af ?_
   repeat (refine aa ?_;first | (apply ai;rfl;simp only [aj,avs,tts,seval]<;>exact rr) | (refine zg rfl ?_;first | refine ah ?_ | refine zo ?_))
   refine ae ?_
   refine ⟨rfl,?_⟩
   refine an ?_
   repeat refine ag ?_
   refine zr af ?_
   repeat (refine aa ?_;first | (apply ai;rfl;simp only [aj,avs,tts,seval]<;>exact rr) | (refine zg rfl ?_;first | refine ah ?_ | refine zo ?_))
   refine zP rfl (cf) ?_
   repeat (refine aa ?_;first | (apply ai;rfl;simp only [aj,avs,tts,seval]<;>exact rr) | (refine zg rfl ?_;first | refine ah ?_ | refine zo ?_))
   refine ae ?_
   repeat refine ag ?_
   refine zr af ?_
   repeat (refine aa ?_;first | (apply ai;rfl;simp only [aj,avs,tts,seval,hnl,w1,c0]<;>exact rr) | (refine zg rfl ?_;first | refine ah ?_ | refine zo ?_))
   refine ae ?_
   repeat refine ag ?_
   refine am rfl rfl (fun hb => ?_) fun hb => ?_
   ·cases hb
   refine ap ?_
   repeat refine ag ?_
   refine zr af ?_
   repeat (refine aa ?_;first | (apply ai;rfl;simp only [aj,avs,tts,seval]<;>exact rr) | (refine zg rfl ?_;first | refine ah ?_ | refine zo ?_))
   refine bZ rfl (by simp only [avs]<;>rfl) (⟨_,Et base (l:=H.length+1) (by simp [yC,jQ]) (by omega),?_⟩)
   rintro r1 H1 ⟨rfl,hH1⟩ hl1
   repeat (refine aa ?_;first | (apply ai;rfl;simp only [aj,avs,tts,seval]<;>exact rr) | (refine zg rfl ?_;first | refine ah ?_ | refine zo ?_))
   refine ae ?_
   simp only [yf]
   refine .inr ⟨by omega,?_⟩
   rw [hnext,hst,hH1]
   simp [kb,jQ,aO]
  ·obtain ⟨v,hv⟩:∃v,v=n / B9 ^ (m+1):=⟨_,rfl⟩
   have hvn:n / B9 ^ (m+1)≤n:=Nat.div_le_self _ _
   have hmn:n / B9 ^ m≤n:=Nat.div_le_self _ _
   have hv0:0<v:=by
    have:=(o3 n (m+1) (by omega)).2
    omega
   have hlv:=nI hn hvn
   have hlm:=nI hn hmn
   rw [←hv] at hst hlv ⊢
   have c0:decide ((m:Int)<(((limbs n).length - 1:Nat):Int))=true:=by simp;omega
   have w2:IntKind.i64.wrap (9 - ((aD x).size:Int))=((9 - (aD x).size:Nat):Int):=by rw [IntKind.wrap_i64];omega
   have cr:=DE (base:=base) ⟨#[48]⟩ (9 - (aD x).size) (by omega) (by decide)
   simp only at cr
   obtain ⟨pd,hpd⟩:∃pd,pd=(⟨(Lib.repeatL [48] (9 - (aD x).size)).toArray⟩:ByteArray):=⟨_,rfl⟩
   have hps:pd.size≤9:=by rw [hpd,BW,Lib.size_eq];simp
   have hfin:=Bj hv0 hx9
   rw [←hpd] at hfin cr
   repeat refine ag ?_
   refine zr af ?_
   repeat (refine aa ?_;first | (apply ai;rfl;simp only [aj,avs,tts,seval]<;>exact rr) | (refine zg rfl ?_;first | refine ah ?_ | refine zo ?_))
   refine ae ?_
   repeat refine ag ?_
   refine zr af ?_
   repeat (refine aa ?_;first | (apply ai;rfl;simp only [aj,avs,tts,seval]<;>exact rr) | (refine zg rfl ?_;first | refine ah ?_ | refine zo ?_))
   refine ae ?_
   refine ⟨rfl,?_⟩
   refine an ?_
   repeat refine ag ?_
   refine zr af ?_
   repeat (refine aa ?_;first | (apply ai;rfl;simp only [aj,avs,tts,seval]<;>exact rr) | (refine zg rfl ?_;first | refine ah ?_ | refine zo ?_))
   refine zP rfl (cf) ?_
   repeat (refine aa ?_;first | (apply ai;rfl;simp only [aj,avs,tts,seval]<;>exact rr) | (refine zg rfl ?_;first | refine ah ?_ | refine zo ?_))
   refine ae ?_
   repeat refine ag ?_
   refine zr af ?_
   repeat (refine aa ?_;first | (apply ai;rfl;simp only [aj,avs,tts,seval,hnl,w1,c0]<;>exact rr) | (refine zg rfl ?_;first | refine ah ?_ | refine zo ?_))
   refine ae ?_
   repeat refine ag ?_
   refine am rfl rfl (fun hb => ?_) fun hb => ?_
   ·repeat refine ag ?_
    refine zr af ?_
    repeat (refine aa ?_;first | (apply ai;rfl;simp only [aj,avs,tts,seval,w2]<;>exact rr) | (refine zg rfl ?_;first | refine ah ?_ | refine zo ?_))
    refine zP rfl (cr) ?_
    repeat (refine aa ?_;first | (apply ai;rfl;simp only [aj,avs,tts,seval]<;>exact rr) | (refine zg rfl ?_;first | refine ah ?_ | refine zo ?_))
    refine bZ rfl (by simp only [avs]<;>rfl) (⟨_,C4 base (l:=H.length+1) (r:=H.length+2) (ver:=0) (a:=aD v) (s:=pd) (by simp) (by simp) (by omega),?_⟩)
    rintro r1 H1 ⟨rfl,hH1⟩ hl1
    have e1:H1=H++[.box 136 [.d (aO (limbs n))],kb (H.length+1) (H.length+2) 0 (aD v++pd).size,lf 0 (aD v++pd)]:=by
     rw [hH1];simp [ByteArray.size_append,aO]
    subst e1
    repeat (refine aa ?_;first | (apply ai;rfl;simp only [aj,avs,tts,seval]<;>exact rr) | (refine zg rfl ?_;first | refine ah ?_ | refine zo ?_))
    refine ae ?_
    repeat refine ag ?_
    refine zr af ?_
    repeat (refine aa ?_;first | (apply ai;rfl;simp only [aj,avs,tts,seval]<;>exact rr) | (refine zg rfl ?_;first | refine ah ?_ | refine zo ?_))
    refine bZ rfl (by simp only [avs]<;>rfl) (⟨_,C4 base (l:=H.length+1) (r:=H.length+2) (ver:=0) (a:=aD v++pd) (s:=aD x) (by simp) (by simp) (by rw [ByteArray.size_append];omega),?_⟩)
    rintro r2 H2 ⟨rfl,hH2⟩ hl2
    have e2:H2=H++[.box 136 [.d (aO (limbs n))],kb (H.length+1) (H.length+2) 0 (aD (x+B9 * v)).size,lf 0 (aD (x+B9 * v))]:=by
     rw [hH2,←hfin];simp [ByteArray.size_append,aO]
    repeat (refine aa ?_;first | (apply ai;rfl;simp only [aj,avs,tts,seval]<;>exact rr) | (refine zg rfl ?_;first | refine ah ?_ | refine zo ?_))
    refine ae ?_
    simp only [yf]
    refine .inr ⟨by omega,?_⟩
    rw [hnext,hst,e2]
    rfl
   ·cases hb
 ·rintro H' hJ hN
  rw [dP,Nat.sub_self,Nat.pow_zero,Nat.div_one] at hJ
  obtain ⟨_,rfl⟩:=hJ.resolve_left fun h=>by omega
  have hln:=nI hn (Nat.le_refl n)
  have hps:0<(aD n).size:=by rw [aX];exact dec_pos n
  have hsz:300<(Lib.decDigits n).length↔((aD n).size:Int)>300:=by rw [aX];omega
  show AW _ _ _ _ _
  repeat refine ag ?_
  refine zr af ?_
  repeat (refine aa ?_;first | (apply ai;rfl;simp only [aj,avs,tts,seval]<;>exact rr) | (refine zg rfl ?_;first | refine ah ?_ | refine zo ?_))
  refine zD rfl ((D5 base (l:=H.length+1) (r:=H.length+2) (ver:=0) (a:=aD n) (by simp) (by simp))) ?_
  repeat (refine aa ?_;first | (apply ai;rfl;simp only [aj,avs,tts,seval,iA]<;>exact rr) | (refine zg rfl ?_;first | refine ah ?_ | refine zo ?_))
  refine ae ?_
  repeat refine ag ?_
  refine am rfl rfl (fun hb => ?_) fun hb => ?_
  ·have hgt:((aD n).size:Int)>300:=by simpa using hb
   repeat refine ag ?_
   refine zr af ?_
   repeat (refine aa ?_;first | (apply ai;rfl;simp only [aj,avs,tts,seval]<;>exact rr) | (refine zg rfl ?_;first | refine ah ?_ | refine zo ?_))
   refine ae ?_
   refine aw ⟨_,(by simp only [bk,cN,er,avs,tts]<;>rfl),_,rfl,?_⟩
   rw [th,if_pos (hsz.2 hgt)]
   rfl
  ·have hgt:¬((aD n).size:Int)>300:=by simpa using hb
   refine ap ?_
   repeat refine ag ?_
   refine zr af ?_
   repeat (refine aa ?_;first | (apply ai;rfl;simp only [aj,avs,tts,seval]<;>exact rr) | (refine zg rfl ?_;first | refine ah ?_ | refine zo ?_))
   refine bZ rfl (by simp only [avs]<;>rfl) (⟨_,DC base (l:=H.length+1) (r:=H.length+2) (ver:=0) (s:=aD n) (by simp) (by simp) (by omega) (by omega),?_⟩)
   rintro r1 H1 ⟨rfl,hH1⟩ hl1
   repeat (refine aa ?_;first | (apply ai;rfl;simp only [aj,avs,tts,seval]<;>exact rr) | (refine zg rfl ?_;first | refine ah ?_ | refine zo ?_))
   refine ae ?_
   rw [hH1]
   refine aw ⟨_,(by simp only [bk,cN,er,avs,tts]<;>rfl),_,by simp;rfl,?_⟩
   rw [th,if_neg fun h=>hgt (hsz.1 h)]
   rfl
end Av
end Go.Proofs.YtdekcppfpgeneaaGreatDoor
namespace Go.Proofs.YtdekcppfpgeneaaGreatDoor
open Go Go.RowKit
namespace Av
attribute [local irreducible] AW aL aH
open Nt
theorem yn (t:ByteArray) (hd:t.data.toList.all aM=true) (h0:t.size≠0) (hl:t.size≤18) (w:World) :
  Calls Tryz.prog 180 #[.string t,.int .i64 10,.int .i64 64] w fun e w'=>e = .returned (.tuple #[.int .u64 (aG t.data.toList:Nat),.nilIface])∧Below w.heap.size w w':=by
 have hc:=Any.internal_strconv_ParseUint_10_b64 Tryz.lays287 t h0 (by omega) w
 rw [AT hd (by rw [←Lib.size_eq];exact hl)] at hc
 go_enter Tryz.func180,Tryz.ntmps180
 go_wp2_with fail
 refine hc.mono ?_
 rintro e w1 ⟨rfl,rfl⟩
 simp only [Lib.uintTuple]
 go_wp2
 go_ret2
 exact ⟨rfl,Lib.below_freeze ((Below.drew (Below.refl w.heap.size w)).alloc (Nat.le_refl _) _) (p:=⟨w.heap.size,_,none⟩) (Nat.le_refl _) _⟩
theorem Ey {base:World} (t:ByteArray) (hd:t.data.toList.all aM=true) (h0:t.size≠0) (hl:t.size≤18):aI Tryz.prog base 180 [.d (.v (.string t)),.d (.v (.int .i64 10)),.d (.v (.int .i64 64))] (.tup [.d (.v (.int .u64 ((aG t.data.toList:Nat):Int))),.d (.v .nilIface)]) :=
 lD Tryz.call180 fun s vs hs ha=>by
  rw [Ek ha]
  refine (yn t hd h0 hl s.w).mono fun e w' ⟨h1,h2⟩=>⟨_,h1,h2,fun s' _ _ => ?_⟩
  have h18:=cA hd
  have:aG t.data.toList<18446744073709551616:=Nat.lt_of_lt_of_le h18 (Nat.le_trans (Nat.pow_le_pow_right (by decide) (by rw [←Lib.size_eq];exact hl)) (by decide))
  simp only [Rep]
  refine ⟨_,rfl,.cons ?_ (.cons ?_ .nil)⟩
  ·simp only [Rep,aQ,true_and,small,IntKind.min,IntKind.max,IntKind.signed,IntKind.bits]
   simp
   omega
  ·simp only [Rep,aQ,true_and,small]
set_option maxRecDepth 100000 in
set_option maxHeartbeats 4000000 in
theorem ml {base:World} (t:ByteArray) (hd:t.data.toList.all aM=true) (hl:t.size≤1000000):aI Tryz.prog base 143 [.d (.v (.string t))] (.d (aO (limbs (aG t.data.toList)))):=by
 refine aC af Tryz.call143 Tryz.func143 rfl fun H hB hb hF => ?_
 rw [Tryz.results143,Tryz.ntmps143]
 simp only [aA,List.length_cons,List.length_nil,List.replicate,List.cons_append,List.nil_append,Nat.reduceAdd,Nat.reduceSub]
 clear hF hb
 have hsz:=Lib.size_eq t
 repeat refine ag ?_
 refine zr af ?_
 repeat (refine aa ?_;first | (apply ai;rfl;simp only [aj,avs,tts,seval]<;>exact rr) | (refine zg rfl ?_;first | refine ah ?_ | refine zo ?_))
 refine ae ?_
 repeat refine ag ?_
 refine zr af ?_
 repeat (refine aa ?_;first | (apply ai;rfl;simp only [aj,avs,tts,seval]<;>exact rr) | (refine zg rfl ?_;first | refine ah ?_ | refine zo ?_))
 refine ae ?_
 repeat refine ag ?_
 refine zr af ?_
 repeat (refine aa ?_;first | (apply ai;rfl;simp only [aj,avs,tts,seval]<;>exact rr) | (refine zg rfl ?_;first | refine ah ?_ | refine zo ?_))
 refine ae ?_
 repeat refine ag ?_
 refine gv 3 167 1 rfl (by simp only [bx,bw]<;>rfl) ?_
 refine an (aZ (H0:=H++[.row 167 1 0 (dI (cw []))]) (fun r env K'=>∃out z,(∃e:Nat,z=(e:Int)∧r=e∧jw t.data.toList e out∨z≤0∧r=0∧bt out∧out.length≤1000000∧dy out=limbs (aG t.data.toList))∧K'=H++[.row 167 1 0 (dI (cw out))]∧env = .d (.v (.string t)) :: .undef :: .d (.v (.slice none 0 0)) :: .ms H.length 0 out.length :: .d (.v (.int .i64 z))::List.replicate 24 .undef) ?_ ⟨[],(t.size:Int),⟨t.size,.inl ⟨rfl,rfl,by rw [hsz];exact jw.start _⟩⟩,rfl,rfl⟩ ?_)
 ·exact ⟨by simp [aJ,List.replicate],.inl rfl⟩
 rintro r env K' ⟨out,z,⟨e,hJ⟩,rfl,rfl⟩ hN
 simp only [List.replicate]
 by_cases hz:0<z
 ·obtain ⟨rfl,rfl,hP⟩:=hJ.resolve_right fun h=>by omega
  have he0:0<r:=by omega
  have hle:=hP.le
  rw [←hsz] at hle
  have g0:decide ((r:Int)>0)=true:=by simpa using he0
  repeat refine ag ?_
  refine zr af ?_
  repeat (refine aa ?_;first | (apply ai;rfl;simp only [aj,avs,tts,seval,g0]<;>exact rr) | (refine zg rfl ?_;first | refine ah ?_ | refine zo ?_))
  refine ae ?_
  repeat refine ag ?_
  refine am rfl rfl (fun hb => ?_) fun hb => ?_
  ·refine ap ?_
   repeat refine ag ?_
   refine an ?_
   have w1:IntKind.i64.wrap ((r:Int) - 9)=(r:Int) - 9:=by rw [IntKind.wrap_i64];omega
   have m1:(if (0:Int)<(r:Int) - 9 then (r:Int) - 9 else 0)=((r - 9:Nat):Int):=by split<;>omega
   have b0:(0:Int)≤((r - 9:Nat):Int):=by omega
   have b1:(0:Int)≤(r:Int):=by omega
   have b2:(r - 9≤r)=True:=by simp
   obtain ⟨sg,hsg⟩:∃sg,sg=t.extract (r - 9) r:=⟨_,rfl⟩
   have hsl:sg.data.toList=kC t.data.toList r:=by
    rw [hsg,ByteArray.data_extract,Array.toList_extract,List.extract_eq_take_drop]
    rfl
   have hln:=uF hP.le
   have cu:=Ey (base:=base) sg (by rw [hsl];exact uG hd r) (by rw [Lib.size_eq,hsl,hln];omega) (by rw [Lib.size_eq,hsl,hln];omega)
   rw [hsl] at cu
   repeat refine ag ?_
   refine zr af ?_
   repeat (refine aa ?_;first | (apply ai;rfl;simp only [aj,avs,tts,seval,w1,m1,b0,b1,b2,hle,←hsg]<;>exact rr) | (refine zg rfl ?_;first | refine ah ?_ | refine zo ?_))
   refine zP rfl (cu) ?_
   repeat (refine aa ?_;first | (apply ai;rfl;simp only [aj,avs,tts,seval]<;>exact rr) | (refine zg rfl ?_;first | refine ah ?_ | refine zo ?_))
   refine ae ?_
   have e9:9 * out.length=t.size - r:=by rw [hsz];exact hP.len
   have d0:(dI (cw out)).length=out.length:=by rw [bc,bO]
   have d1:out.length+1≤9223372036854775807:=by omega
   have d2:(out.length+1) * 8≤140737488355328:=by omega
   show AW _ _ _ _ _
   repeat refine ag ?_
   refine zr af ?_
   repeat (refine aa ?_;first | (apply ai;rfl;simp only [aj,avs,tts,seval,d0,d1,d2,wi]<;>exact rr) | (refine zg rfl ?_;first | refine ah ?_ | refine zo ?_))
   refine ae ?_
   show AW _ _ _ _ _
   repeat refine ag ?_
   refine zr af ?_
   repeat (refine aa ?_;first | (apply ai;rfl;simp only [aj,avs,tts,seval,w1]<;>exact rr) | (refine zg rfl ?_;first | refine ah ?_ | refine zo ?_))
   refine ae ?_
   refine ⟨if 9≤r then r - 9 else 0,_,_,by split<;>omega,⟨?_,.inr ⟨by simp,?_,.more hB (.cons (fM _) .nil),[.row 167 1 0 [[.d (.v (.int .u64 ((aG (kC t.data.toList r):Nat):Int)))]]],by simp⟩⟩,out++[aG (kC t.data.toList r)],(r:Int) - 9,⟨r - 9,?_⟩,rfl,rfl⟩
   ·simp [aJ,List.replicate]
   ·simp [aS,AV.bel,List.replicate]
   ·by_cases h9:9≤r
    ·exact .inl ⟨by omega,by rw [if_pos h9],hP.step hd h9⟩
    ·refine .inr ⟨by omega,by rw [if_neg h9],hP.ok' hd,by simp;omega,hP.last hd (by omega)⟩
  ·cases hb
 ·have hfin:dy out=limbs (aG t.data.toList)∧out.length≤1000000:=by
   rcases hJ with ⟨rfl,rfl,hP⟩ | ⟨_,_,_,h1,h2⟩
   ·have h0:r=0:=by omega
    subst h0
    exact ⟨hP.fin,by have:=hP.len;omega⟩
   ·exact ⟨h2,h1⟩
  have g0:decide (z>0)=false:=by simpa using hz
  have ct:=mJ base out (by omega)
  rw [hfin.1] at ct
  have hol:=bO out
  repeat refine ag ?_
  refine zr af ?_
  repeat (refine aa ?_;first | (apply ai;rfl;simp only [aj,avs,tts,seval,g0]<;>exact rr) | (refine zg rfl ?_;first | refine ah ?_ | refine zo ?_))
  refine ae ?_
  repeat refine ag ?_
  refine am rfl rfl (fun hb => ?_) fun hb => ?_
  ·cases hb
  refine aq ?_
  repeat refine ag ?_
  refine zr af ?_
  repeat (refine aa ?_;first | (apply ai;rfl;simp only [aj,avs,tts,seval]<;>exact rr) | (refine zg rfl ?_;first | refine ah ?_ | refine zo ?_))
  refine eD ((H.length)) rfl (by simp only [avs]<;>rfl) (by simp only [avs,tts,seval,bU,bY,cP,bh,bc,unI,unL,Nat.add_eq_left,Nat.left_eq_add,Nat.one_ne_zero,hol]<;>rfl) (by simp only [avs,tts,seval,bU,bY,cP,bh,bc,unI,unL,Nat.add_eq_left,Nat.left_eq_add,Nat.one_ne_zero,hol]<;>rfl) (ct) (by simp only [avs]<;>rfl) ?_
  repeat (refine aa ?_;first | (apply ai;rfl;simp only [aj,avs,tts,seval]<;>exact rr) | (refine zg rfl ?_;first | refine ah ?_ | refine zo ?_))
  refine ae ?_
  exact aw ⟨_,rfl,_,rfl,rfl⟩
end Av
end Go.Proofs.YtdekcppfpgeneaaGreatDoor
namespace Go.Proofs.YtdekcppfpgeneaaGreatDoor
open Go Go.RowKit
namespace Av
attribute [local irreducible] AW aL aH
open Nt
def sD:ByteArray:=⟨#[48,49,50,51,52,53,54,55,56,57]⟩
def lx (t:ByteArray):ByteArray:=⟨(Lib.trimS t.data.toList sD.data.toList).toArray⟩
theorem Ak (c:UInt8):sD.data.toList.contains c=aM c:=by
 have:∀n:Fin 256,sD.data.toList.contains (UInt8.ofNat n.val)=aM (UInt8.ofNat n.val):=by decide +kernel
 have h:=this ⟨c.toNat,UInt8.toNat_lt c⟩
 simpa using h
theorem xz (t:ByteArray):decide (lx t=⟨#[]⟩)=t.data.toList.all aM:=by
 have hb:(lx t=⟨#[]⟩)↔t.data.toList.all aM=true:=by
  have h1:(lx t=⟨#[]⟩)↔Lib.trimS t.data.toList sD.data.toList=[]:=by
   constructor
   ·intro e
    have:=congrArg (fun b:ByteArray=>b.data.toList) e
    simpa [lx] using this
   ·intro e
    unfold lx;rw [e]
  rw [h1,xx,List.all_eq_true]
  simp only [Ak]
 cases hi:t.data.toList.all aM with
 | true=>exact decide_eq_true (hb.2 hi)
 | false=>exact decide_eq_false (fun e=>by rw [hb.1 e] at hi;cases hi)
theorem tl (t:ByteArray):(lx t).size≤t.size:=by
 rw [Lib.size_eq,Lib.size_eq]
 simp only [lx,Lib.trimS,Lib.trimLeftS,Lib.trimRightS]
 have h1:=(List.dropWhile_sublist (p:=fun x=>sD.data.toList.contains x) (l:=t.data.toList.reverse)).length_le
 have h2:=(List.dropWhile_sublist (p:=fun x=>sD.data.toList.contains x) (l:=(t.data.toList.reverse.dropWhile fun x=>sD.data.toList.contains x).reverse)).length_le
 simp at h1 h2 ⊢
 omega
theorem Ax {base:World} (t:ByteArray) (ht:t.size≤9223372036854775807):aI Tryz.prog base 124 [.d (.v (.string t)),.d (.v (.string ⟨#[48,49,50,51,52,53,54,55,56,57]⟩))] (.d (.v (.string (lx t)))) :=
 dN Tryz.call124 (Nat.le_trans (tl t) ht) fun s vs hs ha=>by
  rw [vv ha]
  exact Any.strings_Trim_laid Tryz.lays160 (by kernel_rfl) t sD s.w ht (by decide) (ascii_of_all (by decide))
def gi (t:ByteArray):UInt8:=t.data.toList.getD 0 0
def isN (t:ByteArray):Bool := !decide (t=⟨#[]⟩)&&(decide (t.size≤300)&&(t.data.toList.all aM&&(decide (t.size=1) || !decide (gi t=48))))
set_option maxRecDepth 100000 in
set_option maxHeartbeats 4000000 in
theorem wF {base:World} (t:ByteArray) (ht:t.size≤9223372036854775807):aI Tryz.prog base 97 [.d (.v (.string t))] (.d (.v (.bool (isN t)))):=by
 refine aC af Tryz.call97 Tryz.func97 rfl fun H hB hb hF => ?_
 rw [Tryz.results97,Tryz.ntmps97]
 simp only [aA,List.length_cons,List.length_nil,List.replicate,List.cons_append,List.nil_append,Nat.reduceAdd,Nat.reduceSub]
 clear hF hb
 have ct:=Ax (base:=base) t ht
 have ht2:=xz t
 repeat refine ag ?_
 refine zr af ?_
 repeat (refine aa ?_;first | (apply ai;rfl;simp only [aj,avs,tts,seval]<;>exact rr) | (refine zg rfl ?_;first | refine ah ?_ | refine zo ?_))
 refine ae ?_
 cases h1:decide (t=⟨#[]⟩) with
 | true =>
  repeat refine ag ?_
  refine zr af ?_
  repeat (refine aa ?_;first | (apply ai;rfl;simp only [aj,avs,tts,seval,h1,Bool.not_true,Bool.not_false]<;>exact rr) | (refine zg rfl ?_;first | refine ah ?_ | refine zo ?_))
  refine ae ?_
  rw [isN,h1]
  exact aw ⟨_,rfl,[],by simp,rfl⟩
 | false =>
  cases h2:decide ((t.size:Int)≤300) with
  | false =>
   repeat refine ag ?_
   refine zr af ?_
   repeat (refine aa ?_;first | (apply ai;rfl;simp only [aj,avs,tts,seval,h1,h2,Bool.not_true,Bool.not_false]<;>exact rr) | (refine zg rfl ?_;first | refine ah ?_ | refine zo ?_))
   refine ae ?_
   have h2':decide (t.size≤300)=false:=by simp at h2 ⊢;omega
   rw [isN,h1,h2']
   exact aw ⟨_,rfl,[],by simp,rfl⟩
  | true =>
   have h2':decide (t.size≤300)=true:=by simp at h2 ⊢;omega
   cases h3:t.data.toList.all aM with
   | false =>
    rw [h3] at ht2
    repeat refine ag ?_
    refine zr af ?_
    repeat (refine aa ?_;first | (apply ai;rfl;simp only [aj,avs,tts,seval,h1,h2,Bool.not_true,Bool.not_false]<;>exact rr) | (refine zg rfl ?_;first | refine ah ?_ | refine zo ?_))
    refine zP rfl (ct) ?_
    repeat (refine aa ?_;first | (apply ai;rfl;simp only [aj,avs,tts,seval,ht2,Bool.not_true,Bool.not_false]<;>exact rr) | (refine zg rfl ?_;first | refine ah ?_ | refine zo ?_))
    refine ae ?_
    rw [isN,h1,h2',h3]
    exact aw ⟨_,rfl,[],by simp,rfl⟩
   | true =>
    rw [h3] at ht2
    cases h4:decide ((t.size:Int)=1) with
    | true =>
     have h4':decide (t.size=1)=true:=by simp at h4 ⊢;omega
     repeat refine ag ?_
     refine zr af ?_
     repeat (refine aa ?_;first | (apply ai;rfl;simp only [aj,avs,tts,seval,h1,h2,Bool.not_true,Bool.not_false]<;>exact rr) | (refine zg rfl ?_;first | refine ah ?_ | refine zo ?_))
     refine zP rfl (ct) ?_
     repeat (refine aa ?_;first | (apply ai;rfl;simp only [aj,avs,tts,seval,ht2,h4,Bool.not_true,Bool.not_false]<;>exact rr) | (refine zg rfl ?_;first | refine ah ?_ | refine zo ?_))
     refine ae ?_
     rw [isN,h1,h2',h3,h4']
     exact aw ⟨_,rfl,[],by simp,rfl⟩
    | false =>
     have h4':decide (t.size=1)=false:=by simp at h4 ⊢;omega
     have h0:0<t.size:=by
      rcases Nat.eq_zero_or_pos t.size with h | h
      ·exfalso
       have e:t=⟨#[]⟩:=by
        apply ByteArray.ext
        rw [Lib.size_eq] at h
        have:=List.eq_nil_of_length_eq_zero h
        simpa using this
       rw [e] at h1
       cases h1
      ·exact h
     have h5:decide (((t.data.toList.getD 0 0).toNat:Int)=48)=decide (gi t=48):=by
      have e:((t.data.toList.getD 0 0).toNat:Int)=48↔gi t=48:=by
       constructor
       ·intro h
        have:(gi t).toNat=48:=by unfold gi;omega
        exact UInt8.toNat_inj.1 this
       ·intro h
        have:(gi t).toNat=48:=by rw [h];rfl
        unfold gi at this
        omega
      exact decide_eq_decide.2 e
     repeat refine ag ?_
     refine zr af ?_
     repeat (refine aa ?_;first | (apply ai;rfl;simp only [aj,avs,tts,seval,h1,h2,Bool.not_true,Bool.not_false]<;>exact rr) | (refine zg rfl ?_;first | refine ah ?_ | refine zo ?_))
     refine zP rfl (ct) ?_
     repeat (refine aa ?_;first | (apply ai;rfl;simp only [aj,avs,tts,seval,ht2,h4,h0,h5,Int.le_refl,Bool.not_true,Bool.not_false]<;>exact rr) | (refine zg rfl ?_;first | refine ah ?_ | refine zo ?_))
     refine ae ?_
     rw [isN,h1,h2',h3,h4']
     exact aw ⟨_,rfl,[],by simp,rfl⟩
end Av
end Go.Proofs.YtdekcppfpgeneaaGreatDoor
namespace Go.Proofs.YtdekcppfpgeneaaGreatDoor
open Go Go.RowKit
namespace Nt
open Av
def bj (t:ByteArray):Nat:=aG t.data.toList
theorem lF {c:UInt8} (h:aM c=true):UInt8.ofNat (48+(c.toNat - 48))=c:=by
 simp [aM] at h
 have:48+(c.toNat - 48)=c.toNat:=by omega
 rw [this];simp
theorem Ck:∀(n:Nat) (l:List UInt8),l.length=n+1→l.all aM=true→(n=0∨l.getD 0 0≠48)→Lib.decDigits (aG l)=l:=by
 intro n
 induction n with
 | zero =>
  intro l hl ha _
  match l,hl with
  | [c],_ =>
   simp only [List.all_cons,List.all_nil,Bool.and_true] at ha
   have h2:aG [c]=c.toNat - 48:=by simp [aG]
   have h3:=lF ha
   simp [aM] at ha
   rw [h2,dK (by omega),h3]
 | succ n ih =>
  intro l hl ha hh
  have hne:l≠[]:=fun e=>by subst e;cases hl
  obtain ⟨c,hc⟩:∃c,c=l.getLast hne:=⟨_,rfl⟩
  obtain ⟨i,hi⟩:∃i,i=l.dropLast:=⟨_,rfl⟩
  have he:l=i++[c]:=by rw [hi,hc,List.dropLast_concat_getLast]
  have hil:i.length=n+1:=by rw [hi,List.length_dropLast,hl];rfl
  subst he
  rw [List.all_append,Bool.and_eq_true] at ha
  have hg:(i++[c]).getD 0 0=i.getD 0 0:=by
   match i,hil with
   | a::r,_=>rfl
  have h48:i.getD 0 0≠48:=by
   rw [←hg]
   exact hh.resolve_left (by omega)
  have h1:=ih i hil ha.1 (.inr h48)
  have hv:aG i≠0:=fun e=>by
   rw [e,dK (by decide)] at h1
   rw [←h1] at h48
   exact h48 rfl
  have h2:aG [c]=c.toNat - 48:=by simp [aG]
  have h3:aM c=true:=by simpa using ha.2
  have h4:=lF h3
  simp [aM] at h3
  have e10:(10:Nat) ^ [c].length=10:=rfl
  rw [cV,h2,e10,gP (by omega),show (aG i * 10+(c.toNat - 48)) / 10=aG i by omega,show (aG i * 10+(c.toNat - 48)) % 10=c.toNat - 48 by omega,h1,h4]
structure fq (t:ByteArray):Prop where
 pos:0<t.size
 le:t.size≤300
 digits:t.data.toList.all aM=true
 can:aD (bj t)=t
theorem dX {t:ByteArray} (h:isN t=true):fq t:=by
 unfold isN at h
 simp only [Bool.and_eq_true,Bool.or_eq_true,Bool.not_eq_true',decide_eq_true_eq,decide_eq_false_iff_not] at h
 obtain ⟨h1,h2,h3,h4⟩:=h
 have h0:0<t.size:=by
  rcases Nat.eq_zero_or_pos t.size with h | h
  ·exfalso
   apply h1
   apply ByteArray.ext
   rw [Lib.size_eq] at h
   have:=List.eq_nil_of_length_eq_zero h
   simpa using this
  ·exact h
 refine ⟨h0,h2,h3,?_⟩
 have hs:=Lib.size_eq t
 have:=Ck (t.size - 1) t.data.toList (by omega) h3 (by
  rcases h4 with h4 | h4
  ·exact .inl (by omega)
  ·exact .inr h4)
 apply ByteArray.ext
 simp only [aD,bj,this]
def tp (k:Nat):Nat:=10 ^ k
theorem hU {a b:Nat} (h:a≤b):tp a≤tp b:=Nat.pow_le_pow_right (by decide) h
theorem fq.lt {t:ByteArray} (h:fq t):bj t<tp 300:=by
 refine Nat.lt_of_lt_of_le (cA h.digits) (hU ?_)
 rw [←Lib.size_eq];exact h.le
theorem bK (n:Nat):(Lib.decDigits n).all aM=true:=by
 induction n using Nat.strongRecOn with
 | _ n ih =>
  have one:∀m,m<10→aM (UInt8.ofNat (48+m))=true:=by
   intro m hm
   have:∀k:Fin 10,aM (UInt8.ofNat (48+k.val))=true:=by decide
   exact this ⟨m,hm⟩
  by_cases h:n<10
  ·rw [dK h];simp only [List.all_cons,List.all_nil,Bool.and_true];exact one n h
  ·rw [gP (by omega),List.all_append,ih (n / 10) (by omega)]
   simp only [List.all_cons,List.all_nil,Bool.and_true,Bool.true_and]
   exact one _ (Nat.mod_lt _ (by decide))
theorem zK (n:Nat):10≤n→(Lib.decDigits n).getD 0 0≠48:=by
 induction n using Nat.strongRecOn with
 | _ n ih =>
  intro h
  have one:∀m,m<10→0<m→UInt8.ofNat (48+m)≠48:=by
   intro m hm h0
   have:∀k:Fin 10,0<k.val→UInt8.ofNat (48+k.val)≠48:=by decide
   exact this ⟨m,hm⟩ h0
  rw [gP h]
  have hp:=dec_pos (n / 10)
  have hg:∀(i:List UInt8) (c:UInt8),0<i.length→(i++[c]).getD 0 0=i.getD 0 0:=fun i c hi=>by
   match i,hi with
   | a::r,_=>rfl
  rw [hg _ _ hp]
  by_cases h2:n / 10<10
  ·rw [dK h2]
   exact one _ h2 (by omega)
  ·exact ih (n / 10) (by omega) (by omega)
theorem cz (n:Nat):bj (aD n)=n:=by
 unfold bj
 rw [dx,cK]
theorem j9 {n m:Nat} (h:aD n=aD m):n=m:=by rw [←cz n,h,cz]
theorem iu {n:Nat} (h:(Lib.decDigits n).length≤300):isN (aD n)=true:=by
 have hp:=dec_pos n
 have hs:=aX n
 unfold isN gi
 rw [dx,bK]
 have h1:decide (aD n=⟨#[]⟩)=false:=decide_eq_false fun e=>by
  have:(aD n).size=0:=by rw [e];rfl
  omega
 have h2:decide ((aD n).size≤300)=true:=decide_eq_true (by omega)
 rw [h1,h2]
 by_cases h10:n<10
 ·have:(aD n).size=1:=by rw [hs,dK h10];rfl
  simp [this]
 ·have:=zK n (by omega)
  rw [decide_eq_false this]
  simp
theorem nH {n k:Nat} (h:n<tp (k+1)):(Lib.decDigits n).length≤k+1:=gO k n h
theorem jT {n:Nat} (k:Nat) (h:n<tp (9 * k)):(limbs n).length≤k:=dV (by rw [←tC];exact h)
theorem fq.limbs {t:ByteArray} (h:fq t):(limbs (bj t)).length≤34:=jT 34 (Nat.lt_of_lt_of_le h.lt (hU (by decide)))
theorem gh {t:ByteArray} (h:fq t):t=⟨#[48]⟩↔bj t=0:=by
 constructor
 ·rintro rfl;rfl
 ·intro e
  rw [←h.can,e]
  exact kZ
end Nt
end Go.Proofs.YtdekcppfpgeneaaGreatDoor
namespace Go.Proofs.YtdekcppfpgeneaaGreatDoor
open Go Go.RowKit
namespace Nt
open Av
theorem iB (l:List UInt8) (c:UInt8):aG (l++[c])=aG l * 10+(c.toNat - 48):=by
 unfold aG;rw [List.foldl_append];rfl
theorem iC (c:UInt8) (r:List UInt8):aG (c::r)=(c.toNat - 48) * 10 ^ r.length+aG r:=by
 have:=cV [c] r
 have h2:aG [c]=c.toNat - 48:=by simp [aG]
 rw [h2] at this
 exact this
theorem fi {a b:Nat} (h:(Lib.decDigits a).length<(Lib.decDigits b).length):a<b:=by
 have h1:=cA (bK a)
 rw [cK] at h1
 refine Classical.byContradiction fun hn => ?_
 have hb:b<10 ^ (Lib.decDigits a).length:=by omega
 have h0:=dec_pos a
 have h2:=gO ((Lib.decDigits a).length - 1) b (by rw [show (Lib.decDigits a).length - 1+1=(Lib.decDigits a).length by omega];exact hb)
 omega
theorem drop_zero {l:List UInt8}:∀(i:Nat),i≤l.length→(∀j (h:j<l.length),j<i→l[j]=48)→aG (l.drop i)=aG l
 | 0,_,_=>rfl
 | i+1,hi,hz=>by
  have h1:=drop_zero i (by omega) fun j h hj=>hz j h (by omega)
  rw [List.drop_eq_getElem_cons (show i<l.length by omega),iC,hz i (by omega) (by omega)] at h1
  simpa using h1
theorem xy {t:ByteArray} (hd:t.data.toList.all aM=true) {i:Nat} (hi:i<t.data.toList.length) (hz:∀j (h:j<t.data.toList.length),j<i→t.data.toList[j]=48) (hex:i+1=t.data.toList.length∨t.data.toList[i]≠48):(⟨(t.data.toList.drop i).toArray⟩:ByteArray)=aD (bj t):=by
 have h1:=drop_zero i (by omega) hz
 have h2:=Ck (t.data.toList.length - i - 1) (t.data.toList.drop i) (by rw [List.length_drop];omega) (by
  rw [List.all_eq_true] at hd ⊢
  exact fun x hx=>hd x (List.mem_of_mem_drop hx)) (by
  rcases hex with h | h
  ·exact .inl (by omega)
  ·refine .inr ?_
   rw [List.drop_eq_getElem_cons hi]
   exact h)
 unfold aD bj
 rw [←h1,h2]
def de (n i:Nat):Nat:=n / 10 ^ i % 10
theorem kX (n i:Nat):de n i<10:=Nat.mod_lt _ (by decide)
theorem zF:∀(i n:Nat) (h:i<(Lib.decDigits n).length),((Lib.decDigits n)[(Lib.decDigits n).length - 1 - i]'(by omega)).toNat=48+de n i:=by
 intro i
 induction i with
 | zero =>
  intro n h
  by_cases h10:n<10
  ·have e:=dK h10
   simp only [e,List.length_cons,List.length_nil,Nat.zero_add,Nat.sub_self,List.getElem_cons_zero]
   rw [gm n h10];unfold de;simp;omega
  ·have e:=gP (n:=n) (by omega)
   have hl:(Lib.decDigits n).length - 1 - 0=(Lib.decDigits (n / 10)).length:=by rw [e];simp
   simp only [hl]
   simp only [e,List.getElem_concat_length]
   rw [gm _ (Nat.mod_lt _ (by decide))];unfold de;simp
 | succ i ih =>
  intro n h
  by_cases h10:n<10
  ·rw [dK h10] at h;simp at h
  ·have e:=gP (n:=n) (by omega)
   have hlen:(Lib.decDigits n).length=(Lib.decDigits (n / 10)).length+1:=by rw [e];simp
   have hi:i<(Lib.decDigits (n / 10)).length:=by omega
   have h1:=ih (n / 10) hi
   have hl:(Lib.decDigits n).length - 1 - (i+1)=(Lib.decDigits (n / 10)).length - 1 - i:=by omega
   simp only [hl]
   simp only [e]
   rw [List.getElem_append_left (by omega),h1]
   unfold de
   rw [Nat.div_div_eq_div_mul,Nat.pow_succ,Nat.mul_comm (10 ^ i) 10]
theorem zE {n i:Nat} (h:(Lib.decDigits n).length≤i):de n i=0:=by
 have h1:=cA (bK n)
 rw [cK] at h1
 unfold de
 rw [Nat.div_eq_of_lt (Nat.lt_of_lt_of_le h1 (Nat.pow_le_pow_right (by decide) h))]
theorem uO (n i:Nat):n % 10 ^ (i+1)=n % 10 ^ i+10 ^ i * de n i:=by
 unfold de
 rw [Nat.pow_succ,Nat.mod_mul]
def fO:List Nat→Nat
 | []=>0
 | d::r=>d+10 * fO r
theorem vI (l:List Nat) (d:Nat):fO (l++[d])=fO l+10 ^ l.length * d:=by
 induction l with
 | nil=>simp [fO]
 | cons a r ih =>
  simp only [List.cons_append,fO,ih,List.length_cons,Nat.pow_succ,Nat.mul_add]
  rw [Nat.mul_comm (10 ^ r.length) 10,Nat.mul_assoc,Nat.add_assoc]
theorem Au {l:List Nat} (h:∀x∈l,x<10):fO l<10 ^ l.length:=by
 induction l with
 | nil=>simp [fO]
 | cons a r ih =>
  have h1:=ih fun x hx=>h x (List.mem_cons_of_mem _ hx)
  have h2:=h a (List.mem_cons_self ..)
  simp only [fO,List.length_cons,Nat.pow_succ]
  omega
def qr (l:List Nat):ByteArray:=⟨(l.reverse.map fun d=>UInt8.ofNat (48+d)).toArray⟩
theorem eC (l:List Nat):(qr l).data.toList=l.reverse.map fun d=>UInt8.ofNat (48+d):=by simp [qr]
theorem lP {l:List Nat} (h:∀x∈l,x<10):(qr l).data.toList.all aM=true:=by
 rw [eC,List.all_eq_true]
 intro x hx
 obtain ⟨d,hd,rfl⟩:=List.mem_map.1 hx
 have h1:=h d (List.mem_reverse.1 hd)
 have h2:=gm d h1
 simp [aM]
 omega
theorem sC {l:List Nat} (h:∀x∈l,x<10):bj (qr l)=fO l:=by
 unfold bj
 rw [eC]
 induction l with
 | nil=>rfl
 | cons a r ih =>
  have h1:=ih fun x hx=>h x (List.mem_cons_of_mem _ hx)
  have h2:=gm a (h a (List.mem_cons_self ..))
  rw [List.reverse_cons,List.map_append,List.map_cons,List.map_nil,iB,h1,h2]
  simp only [fO];omega
theorem tG {a b i c:Nat} {out:List Nat} (hl:out.length=i) (hi:fO out+b % 10 ^ i=a % 10 ^ i+c * 10 ^ i) (hc:c≤1) :
  ∃d c':Nat,d<10∧c'≤1∧(de b i+c≤de a i→c'=0∧(d:Int)=(de a i:Int) - de b i - c)∧(¬de b i+c≤de a i→c'=1∧(d:Int)=(de a i:Int) - de b i - c+10)∧fO (out++[d])+b % 10 ^ (i+1)=a % 10 ^ (i+1)+c' * 10 ^ (i+1):=by
 have ha:=kX a i
 have hb:=kX b i
 have key:∀d c':Nat,d+de b i+c=de a i+10 * c'→fO (out++[d])+b % 10 ^ (i+1)=a % 10 ^ (i+1)+c' * 10 ^ (i+1):=fun d c' e=>by
  rw [vI,hl,uO a,uO b,Nat.pow_succ]
  have:10 ^ i * (d+de b i+c)=10 ^ i * (de a i+10 * c'):=by rw [e]
  simp only [Nat.mul_add] at this
  rw [Nat.mul_comm c] at hi
  rw [show c' * (10 ^ i * 10)=10 ^ i * (10 * c') by rw [Nat.mul_comm c',Nat.mul_assoc]]
  omega
 by_cases h:de b i+c≤de a i
 ·exact ⟨de a i - de b i - c,0,by omega,by omega,fun _=>⟨rfl,by omega⟩,fun k=>absurd h k,key _ _ (by omega)⟩
 ·exact ⟨de a i+10 - de b i - c,1,by omega,by omega,fun k=>absurd k h,fun _=>⟨rfl,by omega⟩,key _ _ (by omega)⟩
theorem wl {a b c:Nat} {out:List Nat} (hd:∀x∈out,x<10) (hl:out.length=(Lib.decDigits a).length) (hi:fO out+b % 10 ^ out.length=a % 10 ^ out.length+c * 10 ^ out.length) (hc:c≤1) (hab:b≤a):fO out=a - b:=by
 have h1:=cA (bK a)
 rw [cK,←hl] at h1
 rw [Nat.mod_eq_of_lt h1,Nat.mod_eq_of_lt (Nat.lt_of_le_of_lt hab h1)] at hi
 have h2:=Au hd
 have:c=0∨c=1:=by omega
 rcases this with rfl | rfl<;>omega
theorem yq {n L i:Nat} (hi:i<L):n / 10 ^ (L - (i+1))=n / 10 ^ (L - i) * 10+de n (L - 1 - i):=by
 obtain ⟨k,hk⟩:∃k,L - (i+1)=k:=⟨_,rfl⟩
 have e1:L - i=k+1:=by omega
 have e2:L - 1 - i=k:=by omega
 rw [hk,e1,e2]
 unfold de
 rw [Nat.pow_succ,←Nat.div_div_eq_div_mul]
 omega
theorem wb {p m d:Nat} (hm:0<m):(p * 10+d) / m=p / m * 10+(p % m * 10+d) / m∧(p * 10+d) % m=(p % m * 10+d) % m:=by
 have h:=Nat.div_add_mod p m
 have e:p * 10+d=p % m * 10+d+m * (p / m * 10):=by
  have:m * (p / m * 10)=m * (p / m) * 10:=(Nat.mul_assoc ..).symm
  omega
 constructor
 ·rw [e,Nat.add_mul_div_left _ _ hm];omega
 ·rw [e,Nat.add_mul_mod_self_left]
theorem uK {p m d:Nat} (hm:0<m) (hd:d<10):(p % m * 10+d) / m<10:=by
 have:=Nat.mod_lt p hm
 exact (Nat.div_lt_iff_lt_mul hm).2 (by omega)
theorem zH (n:Nat) {i:Nat} (hi:i≤(Lib.decDigits n).length):aG ((Lib.decDigits n).take i)=n / 10 ^ ((Lib.decDigits n).length - i):=by
 have h1:aG (Lib.decDigits n)=aG ((Lib.decDigits n).take i) * 10 ^ ((Lib.decDigits n).length - i)+aG ((Lib.decDigits n).drop i):=by
  have:=cV ((Lib.decDigits n).take i) ((Lib.decDigits n).drop i)
  rw [List.take_append_drop,List.length_drop] at this
  exact this
 have h2:aG ((Lib.decDigits n).drop i)<10 ^ ((Lib.decDigits n).length - i):=by
  have:=cA (l:=(Lib.decDigits n).drop i) (by
   have h:=bK n
   rw [List.all_eq_true] at h ⊢
   exact fun x hx=>h x (List.mem_of_mem_drop hx))
  rw [List.length_drop] at this
  exact this
 rw [cK] at h1
 generalize 10 ^ ((Lib.decDigits n).length - i)=q at *
 have hq:0<q:=by omega
 conv=>rhs;rw [h1]
 rw [Nat.mul_comm,Nat.add_comm,Nat.add_mul_div_left _ _ hq,Nat.div_eq_of_lt h2,Nat.zero_add]
end Nt
end Go.Proofs.YtdekcppfpgeneaaGreatDoor
namespace Go.Proofs.YtdekcppfpgeneaaGreatDoor
open Go Go.RowKit
namespace Av
attribute [local irreducible] AW aL aH
open Nt
abbrev tA (t:ByteArray):AV := .d (.v (.string t))
def vK (n:Nat):ByteArray:=if 300<(Lib.decDigits n).length then ⟨#[]⟩ else aD n
def vM (n:Nat):Int:=if 300<(Lib.decDigits n).length then 2 else 0
theorem Cs (n:Nat):th n = .tup [tA (vK n),iA (vM n)]:=by
 unfold th vK vM
 split<;>rfl
theorem tn {base:World} (hT:dt base) (n:Nat) (hn:(limbs n).length≤900):aI Tryz.prog base 149 [.d (aO (limbs n))] (.tup [tA (vK n),iA (vM n)]):=by
 rw [←Cs];exact Ct hT n hn
theorem kq {n:Nat} (h:n<tp 300):vK n=aD n∧vM n=0:=by
 have:=nH h
 unfold vK vM
 rw [if_neg (by omega),if_neg (by omega)]
 exact ⟨rfl,rfl⟩
def okN (a b:ByteArray):Bool:=isN a&&isN b
def qB (F:Nat→Nat→Nat) (a b:ByteArray):ByteArray:=if okN a b=true then vK (F (bj a) (bj b)) else ⟨#[]⟩
def qC (F:Nat→Nat→Nat) (a b:ByteArray):Int:=if okN a b=true then vM (F (bj a) (bj b)) else 1
theorem jW {t:ByteArray} (h:fq t):t.size≤1000000:=by have:=h.le;omega
set_option maxRecDepth 100000 in
set_option maxHeartbeats 4000000 in
theorem Bw {base:World} (hT:dt base) (g:FuncId) (F:Nat→Nat→Nat) (a b:ByteArray) (ha:a.size≤9223372036854775807) (hb2:b.size≤9223372036854775807)
  (hg:isN a=true→isN b=true→aI Tryz.prog base g [.d (aO (limbs (bj a))),.d (aO (limbs (bj b)))] (.d (aO (limbs (F (bj a) (bj b)))))∧(limbs (F (bj a) (bj b))).length≤900) :
  aI Tryz.prog base 125 [tA a,tA b,.fn (.func g) [] []] (.tup [tA (qB F a b),iA (qC F a b)]):=by
 refine aC af Tryz.call125 Tryz.func125 rfl fun H hB hb hF => ?_
 rw [Tryz.results125,Tryz.ntmps125]
 simp only [aA,List.length_cons,List.length_nil,List.replicate,List.cons_append,List.nil_append,Nat.reduceAdd,Nat.reduceSub]
 clear hF hb
 have ca:=wF (base:=base) a ha
 have cb:=wF (base:=base) b hb2
 repeat refine ag ?_
 refine zr af ?_
 repeat (refine aa ?_;first | (apply ai;rfl;simp only [aj,avs,tts,seval]<;>exact rr) | (refine zg rfl ?_;first | refine ah ?_ | refine zo ?_))
 refine ae ?_
 cases h1:isN a with
 | false =>
  rw [h1] at ca
  repeat refine ag ?_
  refine zr af ?_
  repeat (refine aa ?_;first | (apply ai;rfl;simp only [aj,avs,tts,seval]<;>exact rr) | (refine zg rfl ?_;first | refine ah ?_ | refine zo ?_))
  refine zP rfl (ca) ?_
  repeat (refine aa ?_;first | (apply ai;rfl;simp only [aj,avs,tts,seval,Bool.not_true,Bool.not_false]<;>exact rr) | (refine zg rfl ?_;first | refine ah ?_ | refine zo ?_))
  refine ae ?_
  repeat refine ag ?_
  refine am rfl rfl (fun hb => ?_) fun hb => ?_
  ·repeat refine ag ?_
   refine zr af ?_
   repeat (refine aa ?_;first | (apply ai;rfl;simp only [aj,avs,tts,seval]<;>exact rr) | (refine zg rfl ?_;first | refine ah ?_ | refine zo ?_))
   refine ae ?_
   simp only [qB,qC,okN,h1,Bool.false_and]
   exact aw ⟨_,(by simp only [bk,cN,er,avs,tts]<;>rfl),[],by simp,rfl⟩
  ·cases hb
 | true =>
  rw [h1] at ca
  cases h2:isN b with
  | false =>
   rw [h2] at cb
   repeat refine ag ?_
   refine zr af ?_
   repeat (refine aa ?_;first | (apply ai;rfl;simp only [aj,avs,tts,seval]<;>exact rr) | (refine zg rfl ?_;first | refine ah ?_ | refine zo ?_))
   refine zP rfl (ca) ?_
   repeat (refine aa ?_;first | (apply ai;rfl;simp only [aj,avs,tts,seval,Bool.not_true,Bool.not_false]<;>exact rr) | (refine zg rfl ?_;first | refine ah ?_ | refine zo ?_))
   refine zP rfl (cb) ?_
   repeat (refine aa ?_;first | (apply ai;rfl;simp only [aj,avs,tts,seval,Bool.not_true,Bool.not_false]<;>exact rr) | (refine zg rfl ?_;first | refine ah ?_ | refine zo ?_))
   refine ae ?_
   repeat refine ag ?_
   refine am rfl rfl (fun hb => ?_) fun hb => ?_
   ·repeat refine ag ?_
    refine zr af ?_
    repeat (refine aa ?_;first | (apply ai;rfl;simp only [aj,avs,tts,seval]<;>exact rr) | (refine zg rfl ?_;first | refine ah ?_ | refine zo ?_))
    refine ae ?_
    simp only [qB,qC,okN,h1,h2,Bool.true_and]
    exact aw ⟨_,(by simp only [bk,cN,er,avs,tts]<;>rfl),[],by simp,rfl⟩
   ·cases hb
  | true =>
   rw [h2] at cb
   have n1:=dX h1
   have n2:=dX h2
   have p1:=ml (base:=base) a n1.digits (jW n1)
   have p2:=ml (base:=base) b n2.digits (jW n2)
   obtain ⟨hg1,hg2⟩:=hg h1 h2
   have ct:=tn hT _ hg2
   repeat refine ag ?_
   refine zr af ?_
   repeat (refine aa ?_;first | (apply ai;rfl;simp only [aj,avs,tts,seval]<;>exact rr) | (refine zg rfl ?_;first | refine ah ?_ | refine zo ?_))
   refine zP rfl (ca) ?_
   repeat (refine aa ?_;first | (apply ai;rfl;simp only [aj,avs,tts,seval,Bool.not_true,Bool.not_false]<;>exact rr) | (refine zg rfl ?_;first | refine ah ?_ | refine zo ?_))
   refine zP rfl (cb) ?_
   repeat (refine aa ?_;first | (apply ai;rfl;simp only [aj,avs,tts,seval,Bool.not_true,Bool.not_false]<;>exact rr) | (refine zg rfl ?_;first | refine ah ?_ | refine zo ?_))
   refine ae ?_
   repeat refine ag ?_
   refine am rfl rfl (fun hb => ?_) fun hb => ?_
   ·cases hb
   refine ap ?_
   repeat refine ag ?_
   refine zr af ?_
   repeat (refine aa ?_;first | (apply ai;rfl;simp only [aj,avs,tts,seval]<;>exact rr) | (refine zg rfl ?_;first | refine ah ?_ | refine zo ?_))
   refine zP rfl (p1) ?_
   repeat (refine aa ?_;first | (apply ai;rfl;simp only [aj,avs,tts,seval]<;>exact rr) | (refine zg rfl ?_;first | refine ah ?_ | refine zo ?_))
   refine zP rfl (p2) ?_
   repeat (refine aa ?_;first | (apply ai;rfl;simp only [aj,avs,tts,seval]<;>exact rr) | (refine zg rfl ?_;first | refine ah ?_ | refine zo ?_))
   refine zP rfl (hg1) ?_
   repeat (refine aa ?_;first | (apply ai;rfl;simp only [aj,avs,tts,seval]<;>exact rr) | (refine zg rfl ?_;first | refine ah ?_ | refine zo ?_))
   refine zP rfl (ct) ?_
   repeat (refine aa ?_;first | (apply ai;rfl;simp only [aj,avs,tts,seval]<;>exact rr) | (refine zg rfl ?_;first | refine ah ?_ | refine zo ?_))
   refine ae ?_
   simp only [qB,qC,okN,h1,h2,Bool.true_and,if_true]
   exact aw ⟨_,(by simp only [bk,cN,er,avs,tts]<;>rfl),[],by simp,rfl⟩
theorem CU (base:World):Es base (tp 8000):=fun a b ha hb h0=>Ci base a b h0 (Nat.le_trans (jT 889 (Nat.lt_of_lt_of_le ha (hU (by decide)))) (by decide)) (Nat.le_trans (jT 889 (Nat.lt_of_lt_of_le hb (hU (by decide)))) (by decide))
section
variable {base:World} (hT:dt base) (a b:ByteArray) (ha:a.size≤9223372036854775807) (hb2:b.size≤9223372036854775807)
include hT ha hb2
set_option maxRecDepth 100000 in
theorem yD:aI Tryz.prog base 98 [tA a,tA b] (.tup [tA (qB Nat.gcd a b),iA (qC Nat.gcd a b)]):=by
 have cc:=Bw hT 126 Nat.gcd a b ha hb2 fun h1 h2=>by
  have n1:=dX h1
  have n2:=dX h2
  have l1:bj a<tp 8000:=Nat.lt_of_lt_of_le n1.lt (hU (by decide))
  have l2:bj b<tp 8000:=Nat.lt_of_lt_of_le n2.lt (hU (by decide))
  refine ⟨D9 base (CU base) _ _ l1 l2,?_⟩
  rcases Nat.eq_zero_or_pos (bj a) with h | h
  ·rw [h,Nat.gcd_zero_left];have:=n2.limbs;omega
  ·have:=nr (Nat.gcd_le_left (bj b) h)
   have:=n1.limbs
   omega
 refine aC af Tryz.call98 Tryz.func98 rfl fun H hB hb hF => ?_
 rw [Tryz.results98,Tryz.ntmps98]
 simp only [aA,List.length_cons,List.length_nil,List.replicate,List.cons_append,List.nil_append,Nat.reduceAdd,Nat.reduceSub]
 repeat refine ag ?_
 refine zr af ?_
 repeat (refine aa ?_;first | (apply ai;rfl;simp only [aj,avs,tts,seval]<;>exact rr) | (refine zg rfl ?_;first | refine ah ?_ | refine zo ?_))
 refine ae ?_
 repeat refine ag ?_
 refine zr af ?_
 repeat (refine aa ?_;first | (apply ai;rfl;simp only [aj,avs,tts,seval]<;>exact rr) | (refine zg rfl ?_;first | refine ah ?_ | refine zo ?_))
 refine zP rfl (cc) ?_
 repeat (refine aa ?_;first | (apply ai;rfl;simp only [aj,avs,tts,seval]<;>exact rr) | (refine zg rfl ?_;first | refine ah ?_ | refine zo ?_))
 refine ae ?_
 exact aw ⟨_,(by simp only [bk,cN,er,avs,tts]<;>rfl),[],by simp,rfl⟩
end
end Av
end Go.Proofs.YtdekcppfpgeneaaGreatDoor
namespace Go.Proofs.YtdekcppfpgeneaaGreatDoor
open Go Go.RowKit
namespace Av
attribute [local irreducible] AW aL aH
open Nt
def tZ (a b:ByteArray):ByteArray:=if okN a b=true then (if bj b=0 then ⟨#[]⟩ else aD (bj a / bj b)) else ⟨#[]⟩
def tY (a b:ByteArray):ByteArray:=if okN a b=true then (if bj b=0 then ⟨#[]⟩ else aD (bj a % bj b)) else ⟨#[]⟩
def t7 (a b:ByteArray):Int:=if okN a b=true then (if bj b=0 then 15 else 0) else 1
section
variable {base:World} (hT:dt base) (a b:ByteArray) (ha:a.size≤9223372036854775807) (hb2:b.size≤9223372036854775807)
include hT ha hb2
set_option maxRecDepth 100000 in
set_option maxHeartbeats 4000000 in
theorem CC:aI Tryz.prog base 117 [tA a,tA b] (.tup [tA (tZ a b),tA (tY a b),iA (t7 a b)]):=by
 refine aC af Tryz.call117 Tryz.func117 rfl fun H hB hb hF => ?_
 rw [Tryz.results117,Tryz.ntmps117]
 simp only [aA,List.length_cons,List.length_nil,List.replicate,List.cons_append,List.nil_append,Nat.reduceAdd,Nat.reduceSub]
 clear hF hb
 have ca:=wF (base:=base) a ha
 have cb:=wF (base:=base) b hb2
 repeat refine ag ?_
 refine zr af ?_
 repeat (refine aa ?_;first | (apply ai;rfl;simp only [aj,avs,tts,seval]<;>exact rr) | (refine zg rfl ?_;first | refine ah ?_ | refine zo ?_))
 refine ae ?_
 cases h1:isN a with
 | false =>
  rw [h1] at ca
  repeat refine ag ?_
  refine zr af ?_
  repeat (refine aa ?_;first | (apply ai;rfl;simp only [aj,avs,tts,seval]<;>exact rr) | (refine zg rfl ?_;first | refine ah ?_ | refine zo ?_))
  refine zP rfl (ca) ?_
  repeat (refine aa ?_;first | (apply ai;rfl;simp only [aj,avs,tts,seval,Bool.not_true,Bool.not_false]<;>exact rr) | (refine zg rfl ?_;first | refine ah ?_ | refine zo ?_))
  refine ae ?_
  repeat refine ag ?_
  refine am rfl rfl (fun hb => ?_) fun hb => ?_
  ·repeat refine ag ?_
   refine zr af ?_
   repeat (refine aa ?_;first | (apply ai;rfl;simp only [aj,avs,tts,seval]<;>exact rr) | (refine zg rfl ?_;first | refine ah ?_ | refine zo ?_))
   refine ae ?_
   simp only [tZ,tY,t7,okN,h1,Bool.false_and]
   exact aw ⟨_,(by simp only [bk,cN,er,avs,tts]<;>rfl),[],by simp,rfl⟩
  ·cases hb
 | true =>
  rw [h1] at ca
  cases h2:isN b with
  | false =>
   rw [h2] at cb
   repeat refine ag ?_
   refine zr af ?_
   repeat (refine aa ?_;first | (apply ai;rfl;simp only [aj,avs,tts,seval]<;>exact rr) | (refine zg rfl ?_;first | refine ah ?_ | refine zo ?_))
   refine zP rfl (ca) ?_
   repeat (refine aa ?_;first | (apply ai;rfl;simp only [aj,avs,tts,seval,Bool.not_true,Bool.not_false]<;>exact rr) | (refine zg rfl ?_;first | refine ah ?_ | refine zo ?_))
   refine zP rfl (cb) ?_
   repeat (refine aa ?_;first | (apply ai;rfl;simp only [aj,avs,tts,seval,Bool.not_true,Bool.not_false]<;>exact rr) | (refine zg rfl ?_;first | refine ah ?_ | refine zo ?_))
   refine ae ?_
   repeat refine ag ?_
   refine am rfl rfl (fun hb => ?_) fun hb => ?_
   ·repeat refine ag ?_
    refine zr af ?_
    repeat (refine aa ?_;first | (apply ai;rfl;simp only [aj,avs,tts,seval]<;>exact rr) | (refine zg rfl ?_;first | refine ah ?_ | refine zo ?_))
    refine ae ?_
    simp only [tZ,tY,t7,okN,h1,h2,Bool.true_and]
    exact aw ⟨_,(by simp only [bk,cN,er,avs,tts]<;>rfl),[],by simp,rfl⟩
   ·cases hb
  | true =>
   rw [h2] at cb
   have n1:=dX h1
   have n2:=dX h2
   have p1:=ml (base:=base) a n1.digits (jW n1)
   have p2:=ml (base:=base) b n2.digits (jW n2)
   repeat refine ag ?_
   refine zr af ?_
   repeat (refine aa ?_;first | (apply ai;rfl;simp only [aj,avs,tts,seval]<;>exact rr) | (refine zg rfl ?_;first | refine ah ?_ | refine zo ?_))
   refine zP rfl (ca) ?_
   repeat (refine aa ?_;first | (apply ai;rfl;simp only [aj,avs,tts,seval,Bool.not_true,Bool.not_false]<;>exact rr) | (refine zg rfl ?_;first | refine ah ?_ | refine zo ?_))
   refine zP rfl (cb) ?_
   repeat (refine aa ?_;first | (apply ai;rfl;simp only [aj,avs,tts,seval,Bool.not_true,Bool.not_false]<;>exact rr) | (refine zg rfl ?_;first | refine ah ?_ | refine zo ?_))
   refine ae ?_
   repeat refine ag ?_
   refine am rfl rfl (fun hb => ?_) fun hb => ?_
   ·cases hb
   refine ap ?_
   by_cases h0:bj b=0
   ·have e0:decide (b=⟨#[48]⟩)=true:=decide_eq_true ((gh n2).2 h0)
    repeat refine ag ?_
    refine zr af ?_
    repeat (refine aa ?_;first | (apply ai;rfl;simp only [aj,avs,tts,seval,e0]<;>exact rr) | (refine zg rfl ?_;first | refine ah ?_ | refine zo ?_))
    refine ae ?_
    repeat refine ag ?_
    refine am rfl rfl (fun hb => ?_) fun hb => ?_
    ·repeat refine ag ?_
     refine zr af ?_
     repeat (refine aa ?_;first | (apply ai;rfl;simp only [aj,avs,tts,seval]<;>exact rr) | (refine zg rfl ?_;first | refine ah ?_ | refine zo ?_))
     refine ae ?_
     simp only [tZ,tY,t7,okN,h1,h2,Bool.true_and,if_true,if_pos h0]
     exact aw ⟨_,(by simp only [bk,cN,er,avs,tts]<;>rfl),[],by simp,rfl⟩
    ·cases hb
   ·have e0:decide (b=⟨#[48]⟩)=false:=decide_eq_false fun e=>h0 ((gh n2).1 e)
    have cd:=Ci base (bj a) (bj b) (by omega) (by have:=n1.limbs;omega) (by have:=n2.limbs;omega)
    have l1:bj a / bj b<tp 300:=Nat.lt_of_le_of_lt (Nat.div_le_self _ _) n1.lt
    have l2:bj a % bj b<tp 300:=Nat.lt_of_le_of_lt (Nat.mod_le _ _) n1.lt
    have t1:=tn hT (bj a / bj b) (Nat.le_trans (jT 34 (Nat.lt_of_lt_of_le l1 (hU (by decide)))) (by decide))
    have t2:=tn hT (bj a % bj b) (Nat.le_trans (jT 34 (Nat.lt_of_lt_of_le l2 (hU (by decide)))) (by decide))
    rw [(kq l1).1,(kq l1).2] at t1
    rw [(kq l2).1,(kq l2).2] at t2
    repeat refine ag ?_
    refine zr af ?_
    repeat (refine aa ?_;first | (apply ai;rfl;simp only [aj,avs,tts,seval,e0]<;>exact rr) | (refine zg rfl ?_;first | refine ah ?_ | refine zo ?_))
    refine ae ?_
    repeat refine ag ?_
    refine am rfl rfl (fun hb => ?_) fun hb => ?_
    ·cases hb
    refine ap ?_
    repeat refine ag ?_
    refine zr af ?_
    repeat (refine aa ?_;first | (apply ai;rfl;simp only [aj,avs,tts,seval]<;>exact rr) | (refine zg rfl ?_;first | refine ah ?_ | refine zo ?_))
    refine zP rfl (p1) ?_
    repeat (refine aa ?_;first | (apply ai;rfl;simp only [aj,avs,tts,seval]<;>exact rr) | (refine zg rfl ?_;first | refine ah ?_ | refine zo ?_))
    refine zP rfl (p2) ?_
    repeat (refine aa ?_;first | (apply ai;rfl;simp only [aj,avs,tts,seval]<;>exact rr) | (refine zg rfl ?_;first | refine ah ?_ | refine zo ?_))
    refine zP rfl (cd) ?_
    repeat (refine aa ?_;first | (apply ai;rfl;simp only [aj,avs,tts,seval]<;>exact rr) | (refine zg rfl ?_;first | refine ah ?_ | refine zo ?_))
    refine ae ?_
    repeat refine ag ?_
    refine zr af ?_
    repeat (refine aa ?_;first | (apply ai;rfl;simp only [aj,avs,tts,seval]<;>exact rr) | (refine zg rfl ?_;first | refine ah ?_ | refine zo ?_))
    refine zP rfl (t1) ?_
    repeat (refine aa ?_;first | (apply ai;rfl;simp only [aj,avs,tts,seval]<;>exact rr) | (refine zg rfl ?_;first | refine ah ?_ | refine zo ?_))
    refine ae ?_
    repeat refine ag ?_
    refine zr af ?_
    repeat (refine aa ?_;first | (apply ai;rfl;simp only [aj,avs,tts,seval]<;>exact rr) | (refine zg rfl ?_;first | refine ah ?_ | refine zo ?_))
    refine zP rfl (t2) ?_
    repeat (refine aa ?_;first | (apply ai;rfl;simp only [aj,avs,tts,seval]<;>exact rr) | (refine zg rfl ?_;first | refine ah ?_ | refine zo ?_))
    refine ae ?_
    repeat refine ag ?_
    refine zr af ?_
    repeat (refine aa ?_;first | (apply ai;rfl;simp only [aj,avs,tts,seval]<;>exact rr) | (refine zg rfl ?_;first | refine ah ?_ | refine zo ?_))
    refine ae ?_
    simp only [tZ,tY,t7,okN,h1,h2,Bool.true_and,if_true,if_neg h0]
    exact aw ⟨_,(by simp only [bk,cN,er,avs,tts]<;>rfl),[],by simp,rfl⟩
end
end Av
end Go.Proofs.YtdekcppfpgeneaaGreatDoor
namespace Go.Proofs.YtdekcppfpgeneaaGreatDoor
open Go Go.RowKit
namespace Av
attribute [local irreducible] AW aL aH
open Nt
structure Rt where
 neg:Bool
 num:ByteArray
 den:ByteArray
def fF (r:Rt):AV := .agg [.d (.v (.bool r.neg)),tA r.num,tA r.den]
def AU:ByteArray:=⟨#[49]⟩
def dF (r:Rt):Bool:=if okN r.num r.den=true then (if bj r.den=0 then false else if bj r.num=0 then !r.neg&&decide (r.den=AU) else decide (Nat.gcd (bj r.num) (bj r.den)=1)) else false
def E2:Rt:=⟨false,⟨#[]⟩,⟨#[]⟩⟩
def np (neg:Bool) (n d:Nat):Rt:=⟨neg&&decide (n≠0),aD (n / Nat.gcd n d),aD (d / Nat.gcd n d)⟩
theorem mA {n:Nat} (h:n<tp 300):isN (aD n)=true:=iu (nH h)
theorem mz {n:Nat} (h:n<tp 300):(aD n).size≤9223372036854775807:=by
 have:=nH h
 rw [aX]
 omega
theorem CZ {F:Nat→Nat→Nat} {n d:Nat} (hn:n<tp 300) (hd:d<tp 300) (hF:F n d<tp 300):qB F (aD n) (aD d)=aD (F n d)∧qC F (aD n) (aD d)=0:=by
 have h1:=kq hF
 unfold qB qC okN
 rw [mA hn,mA hd,cz,cz]
 exact h1
theorem Bg {n d:Nat} (hn:n<tp 300) (hd:d<tp 300) (h0:d≠0):tZ (aD n) (aD d)=aD (n / d)∧tY (aD n) (aD d)=aD (n % d)∧t7 (aD n) (aD d)=0:=by
 unfold tZ tY t7 okN
 rw [mA hn,mA hd,cz,cz]
 simp [h0]
section
variable {base:World} (hT:dt base)
include hT
theorem CL {n d:Nat} (hn:n<tp 300) (hd:d<tp 300) (h0:0<d):aI Tryz.prog base 98 [tA (aD n),tA (aD d)] (.tup [tA (aD (Nat.gcd n d)),iA 0]):=by
 have:=yD hT (aD n) (aD d) (mz hn) (mz hd)
 have hb:=CZ (F:=Nat.gcd) hn hd (Nat.lt_of_le_of_lt (Nat.gcd_le_right n h0) hd)
 rw [hb.1,hb.2] at this
 exact this
theorem vj {n d:Nat} (hn:n<tp 300) (hd:d<tp 300) (h0:d≠0):aI Tryz.prog base 117 [tA (aD n),tA (aD d)] (.tup [tA (aD (n / d)),tA (aD (n % d)),iA 0]):=by
 have:=CC hT (aD n) (aD d) (mz hn) (mz hd)
 have hb:=Bg hn hd h0
 rw [hb.1,hb.2.1,hb.2.2] at this
 exact this
omit hT in
theorem kY (n:Nat):decide (aD n=⟨#[48]⟩)=decide (n=0):=by
 refine decide_eq_decide.2 ⟨fun h => ?_,fun h=>by rw [h];exact kZ⟩
 exact j9 (h.trans kZ.symm)
set_option maxRecDepth 100000 in
set_option maxHeartbeats 4000000 in
theorem yH (neg:Bool) {n d:Nat} (hn:n<tp 300) (hd:d<tp 300) (h0:0<d):aI Tryz.prog base 89 [.d (.v (.bool neg)),tA (aD n),tA (aD d)] (.tup [fF (np neg n d),iA 0]):=by
 have cg:=CL hT hn hd h0
 obtain ⟨g,hg⟩:∃g,g=Nat.gcd n d:=⟨_,rfl⟩
 have hgd:g≤d:=hg ▸ Nat.gcd_le_right n h0
 have hg0:g≠0:=by have:=Nat.gcd_pos_of_pos_right n h0;omega
 have hgl:g<tp 300:=Nat.lt_of_le_of_lt hgd hd
 have c1:=vj hT hn hgl hg0
 have c2:=vj hT hd hgl hg0
 have hz:decide (aD (n / g)=⟨#[48]⟩)=decide (n=0):=by
  rw [kY]
  refine decide_eq_decide.2 ⟨fun h => ?_,fun h=>by rw [h];exact Nat.zero_div _⟩
  have hdv:g ∣ n:=hg ▸ Nat.gcd_dvd_left n d
  have:=Nat.div_mul_cancel hdv
  rw [h,Nat.zero_mul] at this
  exact this.symm
 unfold np
 rw [←hg]
 rw [←hg] at cg
 simp only [iA] at cg c1 c2
 refine aC af Tryz.call89 Tryz.func89 rfl fun H hB hb hF => ?_
 rw [Tryz.results89,Tryz.ntmps89]
 simp only [aA,List.length_cons,List.length_nil,List.replicate,List.cons_append,List.nil_append,Nat.reduceAdd,Nat.reduceSub]
 clear hF hb
 repeat refine ag ?_
 refine zr af ?_
 repeat (refine aa ?_;first | (apply ai;rfl;simp only [aj,avs,tts,seval]<;>exact rr) | (refine zg rfl ?_;first | refine ah ?_ | refine zo ?_))
 refine ae ?_
 repeat refine ag ?_
 refine zr af ?_
 repeat (refine aa ?_;first | (apply ai;rfl;simp only [aj,avs,tts,seval]<;>exact rr) | (refine zg rfl ?_;first | refine ah ?_ | refine zo ?_))
 refine zP rfl (cg) ?_
 repeat (refine aa ?_;first | (apply ai;rfl;simp only [aj,avs,tts,seval]<;>exact rr) | (refine zg rfl ?_;first | refine ah ?_ | refine zo ?_))
 refine ae ?_
 repeat refine ag ?_
 refine zr af ?_
 repeat (refine aa ?_;first | (apply ai;rfl;simp only [aj,avs,tts,seval]<;>exact rr) | (refine zg rfl ?_;first | refine ah ?_ | refine zo ?_))
 refine ae ?_
 repeat refine ag ?_
 refine am rfl rfl (fun hb => ?_) fun hb => ?_
 ·cases hb
 refine ap ?_
 repeat refine ag ?_
 refine zr af ?_
 repeat (refine aa ?_;first | (apply ai;rfl;simp only [aj,avs,tts,seval]<;>exact rr) | (refine zg rfl ?_;first | refine ah ?_ | refine zo ?_))
 refine ae ?_
 repeat refine ag ?_
 refine zr af ?_
 repeat (refine aa ?_;first | (apply ai;rfl;simp only [aj,avs,tts,seval]<;>exact rr) | (refine zg rfl ?_;first | refine ah ?_ | refine zo ?_))
 refine zP rfl (c1) ?_
 repeat (refine aa ?_;first | (apply ai;rfl;simp only [aj,avs,tts,seval,bQ]<;>exact rr) | (refine zg rfl ?_;first | refine ah ?_ | refine zo ?_))
 refine ae ?_
 repeat refine ag ?_
 refine zr af ?_
 repeat (refine aa ?_;first | (apply ai;rfl;simp only [aj,avs,tts,seval]<;>exact rr) | (refine zg rfl ?_;first | refine ah ?_ | refine zo ?_))
 refine ae ?_
 repeat refine ag ?_
 refine am rfl rfl (fun hb => ?_) fun hb => ?_
 ·cases hb
 refine ap ?_
 repeat refine ag ?_
 refine zr af ?_
 repeat (refine aa ?_;first | (apply ai;rfl;simp only [aj,avs,tts,seval]<;>exact rr) | (refine zg rfl ?_;first | refine ah ?_ | refine zo ?_))
 refine zP rfl (c2) ?_
 repeat (refine aa ?_;first | (apply ai;rfl;simp only [aj,avs,tts,seval,bQ]<;>exact rr) | (refine zg rfl ?_;first | refine ah ?_ | refine zo ?_))
 refine ae ?_
 repeat refine ag ?_
 refine zr af ?_
 repeat (refine aa ?_;first | (apply ai;rfl;simp only [aj,avs,tts,seval]<;>exact rr) | (refine zg rfl ?_;first | refine ah ?_ | refine zo ?_))
 refine ae ?_
 repeat refine ag ?_
 refine am rfl rfl (fun hb => ?_) fun hb => ?_
 ·cases hb
 refine ap ?_
 cases neg with
 | true =>
  repeat refine ag ?_
  refine zr af ?_
  repeat (refine aa ?_;first | (apply ai;rfl;simp only [aj,avs,tts,seval,hz,bQ]<;>exact rr) | (refine zg rfl ?_;first | refine ah ?_ | refine zo ?_))
  refine ae ?_
  repeat refine ag ?_
  refine zr af ?_
  repeat (refine aa ?_;first | (apply ai;rfl;simp only [aj,avs,tts,seval,bQ]<;>exact rr) | (refine zg rfl ?_;first | refine ah ?_ | refine zo ?_))
  refine ae ?_
  refine aw ⟨_,(by simp only [bk,cN,er,avs,tts]<;>rfl),_,rfl,?_⟩
  simp [cM,fF]
  rfl
 | false =>
  repeat refine ag ?_
  refine zr af ?_
  repeat (refine aa ?_;first | (apply ai;rfl;simp only [aj,avs,tts,seval,bQ]<;>exact rr) | (refine zg rfl ?_;first | refine ah ?_ | refine zo ?_))
  refine ae ?_
  repeat refine ag ?_
  refine zr af ?_
  repeat (refine aa ?_;first | (apply ai;rfl;simp only [aj,avs,tts,seval,bQ]<;>exact rr) | (refine zg rfl ?_;first | refine ah ?_ | refine zo ?_))
  refine ae ?_
  refine aw ⟨_,(by simp only [bk,cN,er,avs,tts]<;>rfl),_,rfl,?_⟩
  simp [cM,fF]
  rfl
set_option maxRecDepth 100000 in
set_option maxHeartbeats 4000000 in
theorem At (r:Rt) (h1:r.num.size≤9223372036854775807) (h2:r.den.size≤9223372036854775807):aI Tryz.prog base 69 [fF r] (.d (.v (.bool (dF r)))):=by
 obtain ⟨neg,num,den⟩:=r
 simp only at h1 h2
 have c1:=wF (base:=base) num h1
 have c2:=wF (base:=base) den h2
 have c3:=yD hT num den h1 h2
 unfold dF fF
 simp only
 refine aC af Tryz.call69 Tryz.func69 rfl fun H hB hb hF => ?_
 rw [Tryz.results69,Tryz.ntmps69]
 simp only [aA,List.length_cons,List.length_nil,List.replicate,List.cons_append,List.nil_append,Nat.reduceAdd,Nat.reduceSub]
 clear hF hb
 repeat refine ag ?_
 refine zr af ?_
 repeat (refine aa ?_;first | (apply ai;rfl;simp only [aj,avs,tts,seval]<;>exact rr) | (refine zg rfl ?_;first | refine ah ?_ | refine zo ?_))
 refine ae ?_
 cases e1:isN num with
 | false =>
  rw [e1] at c1
  repeat refine ag ?_
  refine zr af ?_
  repeat (refine aa ?_;first | (apply ai;rfl;simp only [aj,avs,tts,seval]<;>exact rr) | (refine zg rfl ?_;first | refine ah ?_ | refine zo ?_))
  refine zP rfl (c1) ?_
  repeat (refine aa ?_;first | (apply ai;rfl;simp only [aj,avs,tts,seval,Bool.not_true,Bool.not_false]<;>exact rr) | (refine zg rfl ?_;first | refine ah ?_ | refine zo ?_))
  refine ae ?_
  repeat refine ag ?_
  refine am rfl rfl (fun hb => ?_) fun hb => ?_
  ·repeat refine ag ?_
   refine zr af ?_
   repeat (refine aa ?_;first | (apply ai;rfl;simp only [aj,avs,tts,seval]<;>exact rr) | (refine zg rfl ?_;first | refine ah ?_ | refine zo ?_))
   refine ae ?_
   simp only [okN,e1,Bool.false_and]
   exact aw ⟨_,rfl,_,rfl,rfl⟩
  ·cases hb
 | true =>
  rw [e1] at c1
  have n1:=dX e1
  cases e2:isN den with
  | false =>
   rw [e2] at c2
   repeat refine ag ?_
   refine zr af ?_
   repeat (refine aa ?_;first | (apply ai;rfl;simp only [aj,avs,tts,seval]<;>exact rr) | (refine zg rfl ?_;first | refine ah ?_ | refine zo ?_))
   refine zP rfl (c1) ?_
   repeat (refine aa ?_;first | (apply ai;rfl;simp only [aj,avs,tts,seval,Bool.not_true,Bool.not_false]<;>exact rr) | (refine zg rfl ?_;first | refine ah ?_ | refine zo ?_))
   refine zP rfl (c2) ?_
   repeat (refine aa ?_;first | (apply ai;rfl;simp only [aj,avs,tts,seval,Bool.not_true,Bool.not_false]<;>exact rr) | (refine zg rfl ?_;first | refine ah ?_ | refine zo ?_))
   refine ae ?_
   repeat refine ag ?_
   refine am rfl rfl (fun hb => ?_) fun hb => ?_
   ·repeat refine ag ?_
    refine zr af ?_
    repeat (refine aa ?_;first | (apply ai;rfl;simp only [aj,avs,tts,seval]<;>exact rr) | (refine zg rfl ?_;first | refine ah ?_ | refine zo ?_))
    refine ae ?_
    simp only [okN,e1,e2,Bool.true_and]
    exact aw ⟨_,rfl,_,rfl,rfl⟩
   ·cases hb
  | true =>
   rw [e2] at c2
   have n2:=dX e2
   have ok:okN num den=true:=by simp [okN,e1,e2]
   by_cases hd0:bj den=0
   ·have z0:decide (den=⟨#[48]⟩)=true:=decide_eq_true ((gh n2).2 hd0)
    repeat refine ag ?_
    refine zr af ?_
    repeat (refine aa ?_;first | (apply ai;rfl;simp only [aj,avs,tts,seval]<;>exact rr) | (refine zg rfl ?_;first | refine ah ?_ | refine zo ?_))
    refine zP rfl (c1) ?_
    repeat (refine aa ?_;first | (apply ai;rfl;simp only [aj,avs,tts,seval,Bool.not_true,Bool.not_false]<;>exact rr) | (refine zg rfl ?_;first | refine ah ?_ | refine zo ?_))
    refine zP rfl (c2) ?_
    repeat (refine aa ?_;first | (apply ai;rfl;simp only [aj,avs,tts,seval,Bool.not_true,Bool.not_false,z0]<;>exact rr) | (refine zg rfl ?_;first | refine ah ?_ | refine zo ?_))
    refine ae ?_
    repeat refine ag ?_
    refine am rfl rfl (fun hb => ?_) fun hb => ?_
    ·repeat refine ag ?_
     refine zr af ?_
     repeat (refine aa ?_;first | (apply ai;rfl;simp only [aj,avs,tts,seval]<;>exact rr) | (refine zg rfl ?_;first | refine ah ?_ | refine zo ?_))
     refine ae ?_
     simp only [ok,if_true,if_pos hd0]
     exact aw ⟨_,rfl,_,rfl,rfl⟩
    ·cases hb
   ·have z0:decide (den=⟨#[48]⟩)=false:=decide_eq_false fun e=>hd0 ((gh n2).1 e)
    repeat refine ag ?_
    refine zr af ?_
    repeat (refine aa ?_;first | (apply ai;rfl;simp only [aj,avs,tts,seval]<;>exact rr) | (refine zg rfl ?_;first | refine ah ?_ | refine zo ?_))
    refine zP rfl (c1) ?_
    repeat (refine aa ?_;first | (apply ai;rfl;simp only [aj,avs,tts,seval,Bool.not_true,Bool.not_false]<;>exact rr) | (refine zg rfl ?_;first | refine ah ?_ | refine zo ?_))
    refine zP rfl (c2) ?_
    repeat (refine aa ?_;first | (apply ai;rfl;simp only [aj,avs,tts,seval,Bool.not_true,Bool.not_false,z0]<;>exact rr) | (refine zg rfl ?_;first | refine ah ?_ | refine zo ?_))
    refine ae ?_
    repeat refine ag ?_
    refine am rfl rfl (fun hb => ?_) fun hb => ?_
    ·cases hb
    refine ap ?_
    by_cases hn0:bj num=0
    ·have z1:decide (num=⟨#[48]⟩)=true:=decide_eq_true ((gh n1).2 hn0)
     repeat refine ag ?_
     refine zr af ?_
     repeat (refine aa ?_;first | (apply ai;rfl;simp only [aj,avs,tts,seval,z1]<;>exact rr) | (refine zg rfl ?_;first | refine ah ?_ | refine zo ?_))
     refine ae ?_
     repeat refine ag ?_
     refine am rfl rfl (fun hb => ?_) fun hb => ?_
     ·repeat refine ag ?_
      refine zr af ?_
      repeat (refine aa ?_;first | (apply ai;rfl;simp only [aj,avs,tts,seval,bT,eH,eqL,eqV]<;>exact rr) | (refine zg rfl ?_;first | refine ah ?_ | refine zo ?_))
      refine ae ?_
      simp only [ok,if_true,if_neg hd0,if_pos hn0]
      have e:(neg == false&&(decide (num=⟨#[48]⟩)&&decide (den=⟨#[49]⟩)))=(!neg&&decide (den=AU)):=by rw [z1];cases neg<;>rfl
      rw [←e]
      exact aw ⟨_,rfl,_,rfl,rfl⟩
     ·cases hb
    ·have z1:decide (num=⟨#[48]⟩)=false:=decide_eq_false fun e=>hn0 ((gh n1).1 e)
     have hg:=kq (n:=Nat.gcd (bj num) (bj den)) (Nat.lt_of_le_of_lt (Nat.gcd_le_right _ (by omega)) n2.lt)
     have hS:qB Nat.gcd num den=aD (Nat.gcd (bj num) (bj den)):=by unfold qB;rw [if_pos ok];exact hg.1
     have hE:qC Nat.gcd num den=0:=by unfold qC;rw [if_pos ok];exact hg.2
     rw [hS,hE] at c3
     simp only [iA] at c3
     have z2:decide (aD (Nat.gcd (bj num) (bj den))=⟨#[49]⟩)=decide (Nat.gcd (bj num) (bj den)=1):=by
      have e49:aD 1=⟨#[49]⟩:=by unfold aD;rw [dK (by decide)];rfl
      rw [←e49]
      exact decide_eq_decide.2 ⟨j9,fun h=>by rw [h]⟩
     repeat refine ag ?_
     refine zr af ?_
     repeat (refine aa ?_;first | (apply ai;rfl;simp only [aj,avs,tts,seval,z1]<;>exact rr) | (refine zg rfl ?_;first | refine ah ?_ | refine zo ?_))
     refine ae ?_
     repeat refine ag ?_
     refine am rfl rfl (fun hb => ?_) fun hb => ?_
     ·cases hb
     refine ap ?_
     repeat refine ag ?_
     refine zr af ?_
     repeat (refine aa ?_;first | (apply ai;rfl;simp only [aj,avs,tts,seval]<;>exact rr) | (refine zg rfl ?_;first | refine ah ?_ | refine zo ?_))
     refine zP rfl (c3) ?_
     repeat (refine aa ?_;first | (apply ai;rfl;simp only [aj,avs,tts,seval]<;>exact rr) | (refine zg rfl ?_;first | refine ah ?_ | refine zo ?_))
     refine ae ?_
     repeat refine ag ?_
     refine zr af ?_
     repeat (refine aa ?_;first | (apply ai;rfl;simp only [aj,avs,tts,seval,z2]<;>exact rr) | (refine zg rfl ?_;first | refine ah ?_ | refine zo ?_))
     refine ae ?_
     simp only [ok,if_true,if_neg hd0,if_neg hn0]
     exact aw ⟨_,rfl,_,rfl,rfl⟩
end
end Av
end Go.Proofs.YtdekcppfpgeneaaGreatDoor
namespace Go.Proofs.YtdekcppfpgeneaaGreatDoor
open Go Go.RowKit
namespace Av
theorem gx (k:Nat) {X:Ctx} {Q:Exit→List AV→av→Prop} {env:List AV} {H:av} {id:Nat} {ops:Array Oper} (hT:bD X.P X.tt) (hm:X.P.follows .mixedOrders=true) (hc:fV ops=true) (hB:jV .any ops (ops.size - k)=true) (hTl:lz .any ops (ops.size - k)=true) (hO:((ops.toList.take (ops.size - k)).all fun o=>fe o.op)=true)
  (h:aH X.P X.tt X.base H.length ops (ops.toList.take (ops.size - k)) env H fun env' H'=>aL X.P X.tt X.base ops (ops.toList.drop (ops.size - k)) env' H' fun env H=>Q .normal env H):AW X (.region id ops true) Q env H :=
 qF (ops.size - k) hT hm hc hB hTl h
theorem zR (k:Nat) {X:Ctx} {Q:Exit→List AV→av→Prop} {env:List AV} {H:av} {id:Nat} {ops:Array Oper} (hT:bD X.P X.tt) (hm:X.P.follows .mixedOrders=true)
  (h:aH X.P X.tt X.base H.length ops (ops.toList.take (ops.size - k)) env H fun env' H'=>aL X.P X.tt X.base ops (ops.toList.drop (ops.size - k)) env' H' fun env H=>Q .normal env H) (hc:fV ops=true:=by kernel_rfl) (hB:jV .any ops (ops.size - k)=true:=by kernel_rfl) (hTl:lz .any ops (ops.size - k)=true:=by kernel_rfl) (hO:((ops.toList.take (ops.size - k)).all fun o=>fe o.op)=true:=by rfl):AW X (.region id ops true) Q env H:=gx k hT hm hc hB hTl hO h
def mZ (o:Oper) (β:Nat→Bool):Bool:=o.after.all fun e => !Region.binds .any e||β e.on
def Cj (ops:Array Oper):Bool:=(List.range ops.size).all fun j=>match ops[j]? with
 | some o=>o.after.all fun e => !Region.binds .any e||decide (e.on<j)
 | none=>true
def qy (L:Array Bool):Nat:=L.toList.countP (fun b => !b)
theorem zS {L:Array Bool} {i:Nat} (hi:i<L.size) (h:L.getD i true=false):qy (L.setIfInBounds i true)+1=qy L:=by
 have h1:L[i]=false:=by rw [Array.getD_eq_getD_getElem?,Array.getElem?_eq_getElem hi] at h;exact h
 have e:∀(l:List Bool) (i:Nat) (hi:i<l.length),l[i]=false→(l.set i true).countP (fun b => !b)+1=l.countP (fun b => !b):=by
  intro l
  induction l with
  | nil=>intro i hi;simp at hi
  | cons a r ih =>
   intro i hi h
   cases i with
   | zero=>simp at h;subst h;simp
   | succ i =>
    have:=ih i (by simpa using hi) (by simpa using h)
    simp only [List.set_cons_succ,List.countP_cons]
    omega
 unfold qy
 rw [Array.toList_setIfInBounds]
 exact e L.toList i (by simpa using hi) (by simpa using h1)
theorem xa {L:Array Bool} (h:qy L=0) {i:Nat} (hi:i<L.size):L.getD i true=true:=by
 unfold qy at h
 rw [List.countP_eq_zero] at h
 have:=h L[i] (by simp)
 rw [Array.getD_eq_getD_getElem?,Array.getElem?_eq_getElem hi]
 simpa using this
section
variable {X:Ctx} {ops:Array Oper}
theorem wg (hT:bD X.P X.tt) (hc:fV ops=true) (hd:Cj ops=true) (J:(Nat→Bool)→List AV→av→Prop) {Q:Exit→List AV→av→Prop}
  (step:∀β env H,J β env H→X.N≤H.length→∀i o,ops[i]?=some o→β i=false→mZ o β=true→be ops env o.guard (bP X.P X.tt X.base env H o.op fun r H'=>J (fun j=>j == i||β j) (ba env o.dst r) H') (J (fun j=>j == i||β j) (ba env o.dst c9) H))
  (done:∀β env H,J β env H→(∀i,i<ops.size→β i=true)→Q .normal env H) (s0:St) :
  ∀(m:Nat) (L:Array Bool) (env:List AV) (H:av) (μ:Nat→Option Nat) (w:World) (a:Act),qy L=m→L.size=ops.size→J (fun i=>L.getD i false) env H→X.N≤H.length→Sim X.base ⟨μ,H,w⟩→bz (flr X.rd s0) ⟨μ,H,w⟩ env a→Evo X.N s0 ⟨μ,H,w⟩ →
   wpAny X.P .any ops (fun x a w=>x = .normal∧km X s0 Q x a w) m L a w:=by
 have gd:∀{L:Array Bool} {i:Nat},i<L.size→L.getD i true=L.getD i false:=fun {L i} hi=>by
  rw [Array.getD_eq_getD_getElem?,Array.getD_eq_getD_getElem?,Array.getElem?_eq_getElem hi];rfl
 have fin:∀(L:Array Bool) (env:List AV) (H:av) (μ:Nat→Option Nat) (w:World) (a:Act),L.size=ops.size→J (fun i=>L.getD i false) env H→X.N≤H.length→Sim X.base ⟨μ,H,w⟩→bz (flr X.rd s0) ⟨μ,H,w⟩ env a→Evo X.N s0 ⟨μ,H,w⟩→Region.ready .any ops L=[]→(Exit.normal=Exit.normal∧km X s0 Q .normal a w):=by
  intro L env H μ w a hsz hJ hN hs he hev hr
  have hall:∀n i,i<n→i<ops.size→L.getD i false=true:=by
   intro n
   induction n with
   | zero=>intro i hi;omega
   | succ n ih =>
    intro i hi hio
    rcases Nat.lt_succ_iff_lt_or_eq.1 hi with h | rfl
    ·exact ih i h hio
    ·refine Classical.byContradiction fun hf => ?_
     have hf':L.getD i true=false:=by rw [gd (by omega)];simpa using hf
     have hget:ops[i]?=some ops[i]:=Array.getElem?_eq_getElem hio
     have hm:i∈Region.ready .any ops L:=by
      unfold Region.ready
      rw [List.mem_filter]
      refine ⟨by simpa using hio,?_⟩
      rw [hf',hget]
      simp only [Bool.not_false,Bool.true_and,Option.map_some,Option.getD_some]
      rw [Array.all_eq_true']
      intro e he'
      have h1:=List.all_eq_true.1 hd i (by simpa using hio)
      rw [hget] at h1
      have h2:=(Array.all_eq_true'.1 h1) e he'
      cases hb:Region.binds .any e with
      | false=>rfl
      | true =>
       rw [hb] at h2
       simp only [Bool.not_true,Bool.false_or,decide_eq_true_eq] at h2 ⊢
       exact ih e.on h2 (by omega)
     rw [hr] at hm;cases hm
  exact ⟨rfl,μ,env,H,done _ _ _ hJ (fun i hi=>hall (i+1) i (by omega) hi),hN,hs,he,hev⟩
 intro m
 induction m with
 | zero =>
  intro L env H μ w a hm hsz hJ hN hs he hev
  have hr:Region.ready .any ops L=[]:=by
   unfold Region.ready
   rw [List.filter_eq_nil_iff]
   intro i hi
   have hi':i<L.size:=by rw [hsz];simpa using hi
   rw [xa hm hi']
   simp
  exact ⟨hr,fin L env H μ w a hsz hJ hN hs he hev hr⟩
 | succ m ih =>
  intro L env H μ w a hm hsz hJ hN hs he hev
  refine ⟨fin L env H μ w a hsz hJ hN hs he hev,fun i hi => ?_⟩
  unfold Region.ready at hi
  rw [List.mem_filter] at hi
  obtain ⟨hi1,hi2⟩:=hi
  have hio:i<ops.size:=by simpa using hi1
  have hget:ops[i]?=some ops[i]:=Array.getElem?_eq_getElem hio
  obtain ⟨o,ho⟩:∃o,ops[i]=o:=⟨_,rfl⟩
  rw [ho] at hget
  rw [hget] at hi2
  simp only [Bool.and_eq_true,Bool.not_eq_true',Option.map_some,Option.getD_some] at hi2
  have hLi:i<L.size:=by omega
  have hset:(fun j=>(L.setIfInBounds i true).getD j false)=fun j=>j == i||L.getD j false:=by
   funext j
   rw [Array.getD_eq_getD_getElem?,Array.getElem?_setIfInBounds,Array.getD_eq_getD_getElem?]
   by_cases e:i=j
   ·subst e;simp [hLi]
   ·have:(j == i)=false:=by simp;exact fun h=>e h.symm
    rw [if_neg e,this];rfl
  have hst:=step _ env H hJ hN i o hget (by show L.getD i false=false;rw [←gd hLi];exact hi2.1) hi2.2
  have hmem:o∈ops.toList:=List.mem_of_getElem? (i:=i) (by simpa using hget)
  have hco:=List.all_eq_true.1 (mj hc) o hmem
  have hcnt:qy (L.setIfInBounds i true)=m:=by have:=zS hLi hi2.1;omega
  have hsz':(L.setIfInBounds i true).size=ops.size:=by simp [hsz]
  have hA:bP X.P X.tt X.base env H o.op (fun r H'=>J (fun j=>j == i||L.getD j false) (ba env o.dst r) H')→o.wp X.P a w (wpAny X.P .any ops (fun x a w=>x = .normal∧km X s0 Q x a w) m (L.setIfInBounds i true)) (fun x a w=>x = .normal∧km X s0 Q x a w):=fun h =>
   sU hT hs he hco h fun r v H' μ' w' h1 h2 h3 h4 h5=>ih _ _ H' μ' w' _ hcnt hsz' (by rw [hset];exact h1) (Nat.le_trans hN h2) h3 h4 (hev.trans (h5.mono hN))
  have hB:J (fun j=>j == i||L.getD j false) (ba env o.dst c9) H→wpAny X.P .any ops (fun x a w=>x = .normal∧km X s0 Q x a w) m (L.setIfInBounds i true) (a.put o.dst Go.undef) w:=fun h =>
   ih _ _ H μ w _ hcnt hsz' (by rw [hset];exact h) hN hs (he.put (by simp only [c9,Rep,aQ];exact ⟨rfl,trivial⟩)) hev
  unfold wpOp
  rw [hget]
  simp only
  cases hg:o.guard with
  | none =>
   rw [hg] at hst
   simp only [be] at hst
   simp only [Region.wanted,hg,if_true]
   exact .inl (hA hst)
  | some g =>
   obtain ⟨j,want⟩:=g
   rw [hg] at hst
   simp only [be] at hst
   cases hy:bM ops env j with
   | none=>rw [hy] at hst;exact hst.elim
   | some b =>
    rw [hy] at hst
    simp only at hst
    have:=mC he hy
    simp only [Region.wanted,hg,this]
    rw [gZ] at hst
    by_cases hb:(b == some want)=true
    ·rw [if_pos hb] at hst
     rw [if_pos hb]
     exact .inl (hA hst)
    ·rw [if_neg hb] at hst
     rw [if_neg hb]
     exact hB hst
theorem li {Q:Exit→List AV→av→Prop} {env env0:List AV} {H H0:av} {id:Nat} (hT:bD X.P X.tt) (hm:X.P.follows .mixedOrders=true) (hc:fV ops=true) (hd:Cj ops=true) (J:(Nat→Bool)→List AV→av→Prop) (hg:mc X env H env0 H0) (h0:J (fun _=>false) env0 H0)
  (step:∀β env H,J β env H→X.N≤H.length→∀i o,ops.toList[i]?=some o→β i=false→mZ o β=true→be ops env o.guard (bP X.P X.tt X.base env H o.op fun r H'=>J (fun j=>j == i||β j) (ba env o.dst r) H') (J (fun j=>j == i||β j) (ba env o.dst c9) H))
  (done:∀β env H,J β env H→(∀i,i<ops.size→β i=true)→Q .normal env H):AW X (.region id ops true) Q env H:=by
 refine ke hg ?_
 clear hg env H
 revert h0
 generalize env0=env
 generalize H0=H
 intro h0 s0 μ a w hN hs he hev
 have hw:Sim X.base ⟨μ,H,{ w with drawn:=w.drawn+1 }⟩∧Evo H.length ⟨μ,H,w⟩ ⟨μ,H,{ w with drawn:=w.drawn+1 }⟩:=hs.heapEq rfl rfl rfl rfl
 let Q0:Exit→Act→World→Prop:=fun x a w=>x = .normal∧km X s0 Q x a w
 refine Go.wpIn_mono (Q:=Q0) (wpIn_region_any hm (kg (pT hc) (fun ⟨a,w,h⟩=>by cases h.1) _ _ _ _ ?_)) fun x a w h=>h.2
 have hcn:qy (Array.replicate ops.size false)=ops.size:=by
  unfold qy
  rw [Array.toList_replicate,List.countP_replicate]
  simp
 have:=wg hT hc hd J (Q:=Q) (fun β env H hJ hN i o hg=>step β env H hJ hN i o (by simpa using hg)) done s0 ops.size (Array.replicate ops.size false) env H μ { w with drawn:=w.drawn+1 } a hcn (by simp) (by
  have e:(fun i=>(Array.replicate ops.size false).getD i false)=fun _=>false:=by
   funext i;exact getD_replicate_false _ _
  rw [e];exact h0) hN hw.1 ⟨he.defers.keeps hw.2.keeps,ax.evo hw.2 _ _ he.rep⟩ (hev.trans (hw.2.mono hN))
 exact this
end
end Av
end Go.Proofs.YtdekcppfpgeneaaGreatDoor
namespace Go.Proofs.YtdekcppfpgeneaaGreatDoor
open Go Go.RowKit
namespace Av
theorem zQ (k:Nat) {X:Ctx} {Q:Exit→List AV→av→Prop} {env:List AV} {H:av} {id:Nat} {ops:Array Oper} (hT:bD X.P X.tt) (hm:X.P.follows .mixedOrders=true)
  (h:aH X.P X.tt X.base H.length ops (ops.toList.take (ops.size - k)) env H fun env' H'=>aL X.P X.tt X.base ops (ops.toList.drop (ops.size - k)) env' H' fun env H=>Q .normal env H) (hO:((ops.toList.take (ops.size - k)).all fun o=>fe o.op)=true:=by rfl) (hK:(fV ops&&(jV .any ops (ops.size - k)&&lz .any ops (ops.size - k)))=true:=by decide +kernel):AW X (.region id ops true) Q env H:=by
 simp only [Bool.and_eq_true] at hK
 exact gx k hT hm hK.1 hK.2.1 hK.2.2 hO h
end Av
end Go.Proofs.YtdekcppfpgeneaaGreatDoor
namespace Go.Proofs.YtdekcppfpgeneaaGreatDoor
open Go Go.RowKit
namespace Av
attribute [local irreducible] AW aL aH
open Nt
theorem fK (t:ByteArray) {k n:Nat} (hn:n≤t.size):(t.extract k n).data.toList=(t.data.toList.take n).drop k:=by
 rw [ByteArray.data_extract,Array.toList_extract,List.extract_eq_take_drop,List.drop_take]
theorem pw {a b:ByteArray} (h:a.data.toList=b.data.toList):a=b:=by
 obtain ⟨⟨a⟩⟩:=a
 obtain ⟨⟨b⟩⟩:=b
 simp only at h
 rw [h]
def bI (l:List Int):List (List AV):=l.map fun n=>[.d (.v (.int .u8 n))]
theorem uj (l:List Int):(bI l).length=l.length:=List.length_map ..
theorem ld:∀l:List Int,iE (bI l)=some l
 | []=>rfl
 | n::r=>by
  show iE ([AV.d (.v (.int .u8 n))]::bI r)=_
  unfold iE
  rw [ld r]
theorem tu (l:List Int):(strOf l).data.toList=l.map fun n=>UInt8.ofNat n.toNat:=by
 have h:∀(l:List Int) (r:ByteArray),(l.foldl (fun r n=>r.push (UInt8.ofNat n.toNat)) r).data.toList=r.data.toList++l.map fun n=>UInt8.ofNat n.toNat:=fun l=>by
  induction l with
  | nil=>intro r;simp
  | cons n l ih=>intro r;rw [List.foldl_cons,ih];simp [ByteArray.push]
 unfold strOf
 rw [h];simp
def d8 (l:List Nat):List Int:=l.map fun d:Nat=>((48+d:Nat):Int)
theorem rh (l:List Nat):strOf (d8 l.reverse)=qr l:=by
 refine pw ?_
 rw [tu,eC,d8,List.map_map]
 rfl
section
variable (base:World)
set_option maxRecDepth 100000 in
theorem pS (t:ByteArray) (hd:t.data.toList.all aM=true) (hp:0<t.size) (ht:t.size≤1000000):aI Tryz.prog base 174 [tA t] (tA (aD (bj t))):=by
 refine aC af Tryz.call174 Tryz.func174 rfl fun H hB hb hF => ?_
 rw [Tryz.results174,Tryz.ntmps174]
 simp only [aA,List.length_cons,List.length_nil,List.replicate,List.cons_append,List.nil_append,Nat.reduceAdd,Nat.reduceSub]
 clear hF hb
 have hsz:t.size=t.data.toList.length:=Lib.size_eq t
 have w0:IntKind.i64.wrap ((t.size:Int) - 1)=((t.size - 1:Nat):Int):=by rw [IntKind.wrap_i64];omega
 simp only [tA]
 repeat' (first | (refine aa ?_;first | (refine zg rfl ?_;first | refine ah ?_ | refine zo ?_ | (refine zs ?_ ?_<;>intro hb<;>((try simp only [bn] at hb);first | subst hb | simp only [hb]))) | (apply ai;rfl;simp only [aj,avs,tts,seval]<;>exact rr)) | refine ae ?_ | (refine ak ?_;first | (refine yg rfl ?_;first | refine ar ?_ | refine yo ?_ | (refine ys ?_ ?_<;>intro hb<;>((try simp only [bn] at hb);first | subst hb | simp only [hb]))) | (apply au;rfl;simp only [aB,avs,tts,seval]<;>exact rr;first | trivial | omega)) | refine al ?_ | refine ag ?_ | refine zr af ?_ | refine zQ 0 af mixed ?_ | refine zQ 1 af mixed ?_ | refine zQ 2 af mixed ?_ | refine zQ 3 af mixed ?_ | refine zf rfl rfl ?_ | refine zt rfl rfl ?_ | (refine am rfl rfl ?_ ?_<;>intro hb<;>((try simp only [bn] at hb);first | subst hb | simp only [hb])) | refine ap ?_ | refine aq ?_ | refine an ?_)
 refine aZ (H0:=H) (fun r env K=>∃k,r=t.size - k∧k<t.size∧(∀j (h:j<t.data.toList.length),j<k→t.data.toList[j]=48)∧K=H∧env=(.d (.v (.string t)) :: .undef :: .undef :: .d (.v (.int .i64 (k:Int)))::List.replicate 16 .undef)) ?_ ⟨0,rfl,hp,fun j h hj=>by omega,rfl,rfl⟩ ?_
 ·exact ⟨by simp [aJ,List.replicate],.inl rfl⟩
 rintro r env K ⟨k,rfl,hk,hz,rfl,rfl⟩ hN
 simp only [rp]
 have hlt2:k<t.data.toList.length:=by omega
 have hle:k≤t.size:=by omega
 have hix:(0:Int)≤(k:Int):=by omega
 have hbt:t.data.toList.getD k 0=t.data.toList[k]:=by rw [List.getD_eq_getElem?_getD,List.getElem?_eq_getElem hlt2];rfl
 have w1:IntKind.i64.wrap ((k:Int)+1)=((k+1:Nat):Int):=aP hk (by omega)
 have hend:(k+1=t.data.toList.length∨t.data.toList[k]≠48)→t.extract k t.size=aD (bj t):=fun h=>by
  rw [←xy hd hlt2 hz h]
  refine pw ?_
  rw [fK t (Nat.le_refl _),hsz,List.take_length]
 obtain ⟨c0,g0⟩:∃c,decide ((k:Int)<((t.size - 1:Nat):Int))=c:=⟨_,rfl⟩
 obtain ⟨c1,g1⟩:∃c,decide (((t.data.toList[k]).toNat:Int)=48)=c:=⟨_,rfl⟩
 have e48:t.data.toList[k]=48↔c1=true:=by
  rw [←g1,decide_eq_true_eq,←UInt8.toNat_inj]
  show _=48↔_
  omega
 generalize hx:t.data.toList[k]=x at *
 cases c0 with
 | false =>
  have he:=hend (.inl (by
               have:¬(k:Int)<((t.size - 1:Nat):Int):=by simpa using g0
               omega))
  repeat' (first | (refine aa ?_;first | (refine zg rfl ?_;first | refine ah ?_ | refine zo ?_ | (refine zs ?_ ?_<;>intro hb<;>((try simp only [bn] at hb);first | subst hb | simp only [hb]))) | (apply ai;rfl;simp only [aj,avs,tts,seval,w0,g0,hix,hle,Nat.le_refl,he]<;>exact rr)) | refine ae ?_ | (refine ak ?_;first | (refine yg rfl ?_;first | refine ar ?_ | refine yo ?_ | (refine ys ?_ ?_<;>intro hb<;>((try simp only [bn] at hb);first | subst hb | simp only [hb]))) | (apply au;rfl;simp only [aB,avs,tts,seval,w0,g0,hix,hle,Nat.le_refl,he]<;>exact rr;first | trivial | omega)) | refine al ?_ | refine ag ?_ | refine zr af ?_ | refine zQ 0 af mixed ?_ | refine zQ 1 af mixed ?_ | refine zQ 2 af mixed ?_ | refine zQ 3 af mixed ?_ | refine zf rfl rfl ?_ | refine zt rfl rfl ?_ | (refine am rfl rfl ?_ ?_<;>intro hb<;>((try simp only [bn] at hb);first | subst hb | simp only [hb])) | refine ap ?_ | refine aq ?_ | refine an ?_)
  exact aw ⟨_,rfl,[],by simp,rfl⟩
 | true =>
  have hlt1:k+1<t.size:=by
                   have:(k:Int)<((t.size - 1:Nat):Int):=by simpa using g0
                   omega
  cases c1 with
  | false =>
   have he:=hend (.inr fun e=>by have:=e48.1 e;cases this)
   repeat' (first | (refine aa ?_;first | (refine zg rfl ?_;first | refine ah ?_ | refine zo ?_ | (refine zs ?_ ?_<;>intro hb<;>((try simp only [bn] at hb);first | subst hb | simp only [hb]))) | (apply ai;rfl;simp only [aj,avs,tts,seval,w0,g0,g1,hix,hk,hbt,hle,Nat.le_refl,he]<;>exact rr)) | refine ae ?_ | (refine ak ?_;first | (refine yg rfl ?_;first | refine ar ?_ | refine yo ?_ | (refine ys ?_ ?_<;>intro hb<;>((try simp only [bn] at hb);first | subst hb | simp only [hb]))) | (apply au;rfl;simp only [aB,avs,tts,seval,w0,g0,g1,hix,hk,hbt,hle,Nat.le_refl,he]<;>exact rr;first | trivial | omega)) | refine al ?_ | refine ag ?_ | refine zr af ?_ | refine zQ 0 af mixed ?_ | refine zQ 1 af mixed ?_ | refine zQ 2 af mixed ?_ | refine zQ 3 af mixed ?_ | refine zf rfl rfl ?_ | refine zt rfl rfl ?_ | (refine am rfl rfl ?_ ?_<;>intro hb<;>((try simp only [bn] at hb);first | subst hb | simp only [hb])) | refine ap ?_ | refine aq ?_ | refine an ?_)
   exact aw ⟨_,rfl,[],by simp,rfl⟩
  | true =>
   have hx48:=e48.2 rfl
   repeat' (first | (refine aa ?_;first | (refine zg rfl ?_;first | refine ah ?_ | refine zo ?_ | (refine zs ?_ ?_<;>intro hb<;>((try simp only [bn] at hb);first | subst hb | simp only [hb]))) | (apply ai;rfl;simp only [aj,avs,tts,seval,w0,g0,g1,hix,hk,hbt,w1]<;>exact rr)) | refine ae ?_ | (refine ak ?_;first | (refine yg rfl ?_;first | refine ar ?_ | refine yo ?_ | (refine ys ?_ ?_<;>intro hb<;>((try simp only [bn] at hb);first | subst hb | simp only [hb]))) | (apply au;rfl;simp only [aB,avs,tts,seval,w0,g0,g1,hix,hk,hbt,w1]<;>exact rr;first | trivial | omega)) | refine al ?_ | refine ag ?_ | refine zr af ?_ | refine zQ 0 af mixed ?_ | refine zQ 1 af mixed ?_ | refine zQ 2 af mixed ?_ | refine zQ 3 af mixed ?_ | refine zf rfl rfl ?_ | refine zt rfl rfl ?_ | (refine am rfl rfl ?_ ?_<;>intro hb<;>((try simp only [bn] at hb);first | subst hb | simp only [hb])) | refine ap ?_ | refine aq ?_ | refine an ?_)
   exact ⟨t.size - (k+1),_,_,by omega,⟨by (try simp only [rp]);(repeat (first | exact trivial | refine ⟨.inr rfl,?_⟩ | refine ⟨.inl rfl,?_⟩)),.inl rfl⟩,k+1,rfl,hlt1,fun j h hj=>by
    rcases Nat.lt_or_ge j k with h1 | h1
    ·exact hz j h h1
    ·have:j=k:=by omega
     subst this;rw [hx];exact hx48,rfl,rfl⟩
set_option maxRecDepth 100000 in
theorem rv (n i:Nat) (hs:(aD n).size≤1000000) (hi:i≤1000000):aI Tryz.prog base 176 [tA (aD n),iA i] (iA (de n i)):=by
 refine aC af Tryz.call176 Tryz.func176 rfl fun H hB hb hF => ?_
 rw [Tryz.results176,Tryz.ntmps176]
 simp only [aA,List.length_cons,List.length_nil,List.replicate,List.cons_append,List.nil_append,Nat.reduceAdd,Nat.reduceSub]
 clear hF hb
 have hsz:(aD n).size=(Lib.decDigits n).length:=aX n
 have hl:(aD n).data.toList=Lib.decDigits n:=dx n
 have hda:=zF i n
 have hdn:=zE (n:=n) (i:=i)
 have hdl:=kX n i
 generalize aD n=t at *
 simp only [tA,iA]
 obtain ⟨c0,g0⟩:∃c,decide ((i:Int)<(t.size:Int))=c:=⟨_,rfl⟩
 have g1:decide ((t.size:Int)≤(i:Int)) = !c0:=by rw [←g0,←decide_not];exact decide_eq_decide.2 (by omega)
 cases c0 with
 | false =>
  have:¬i<t.size:=by simpa using g0
  rw [hdn (by omega)]
  repeat' (first | (refine aa ?_;first | (refine zg rfl ?_;first | refine ah ?_ | refine zo ?_ | (refine zs ?_ ?_<;>intro hb<;>((try simp only [bn] at hb);first | subst hb | simp only [hb]))) | (apply ai;rfl;simp only [aj,avs,tts,seval,g1,ge_iff_le]<;>exact rr)) | refine ae ?_ | (refine ak ?_;first | (refine yg rfl ?_;first | refine ar ?_ | refine yo ?_ | (refine ys ?_ ?_<;>intro hb<;>((try simp only [bn] at hb);first | subst hb | simp only [hb]))) | (apply au;rfl;simp only [aB,avs,tts,seval,g1,ge_iff_le]<;>exact rr;first | trivial | omega)) | refine al ?_ | refine ag ?_ | refine zr af ?_ | refine zQ 0 af mixed ?_ | refine zQ 1 af mixed ?_ | refine zQ 2 af mixed ?_ | refine zQ 3 af mixed ?_ | refine zf rfl rfl ?_ | refine zt rfl rfl ?_ | (refine am rfl rfl ?_ ?_<;>intro hb<;>((try simp only [bn] at hb);first | subst hb | simp only [hb])) | refine ap ?_ | refine aq ?_ | refine an ?_)
  exact aw ⟨_,rfl,[],by simp,rfl⟩
 | true =>
  have hlt:i<t.size:=by simpa using g0
  have hda:=hda (by omega)
  obtain ⟨k,hk⟩:∃k,t.size - 1 - i=k:=⟨_,rfl⟩
  have hkl:k<t.data.toList.length:=by rw [hl];omega
  have w0:IntKind.i64.wrap ((t.size:Int) - 1)=((t.size - 1:Nat):Int):=by rw [IntKind.wrap_i64];omega
  have w1:IntKind.i64.wrap (((t.size - 1:Nat):Int) - (i:Int))=(k:Int):=by rw [IntKind.wrap_i64];omega
  have hix:(0:Int)≤(k:Int):=by omega
  have hks:k<t.size:=by omega
  have hbt:t.data.toList.getD k 0=t.data.toList[k]:=by rw [List.getD_eq_getElem?_getD,List.getElem?_eq_getElem hkl];rfl
  have hx:(t.data.toList[k]).toNat=48+de n i:=by
   rw [←hda]
   congr 1
   simp only [hl]
   congr 1
   omega
  generalize t.data.toList[k]=x at *
  have w2:IntKind.u8.wrap ((x.toNat:Int) - 48)=((de n i:Nat):Int):=by rw [IntKind.wrap_u8];omega
  have w3:IntKind.i64.wrap ((de n i:Nat):Int)=((de n i:Nat):Int):=by rw [IntKind.wrap_i64];omega
  repeat' (first | (refine aa ?_;first | (refine zg rfl ?_;first | refine ah ?_ | refine zo ?_ | (refine zs ?_ ?_<;>intro hb<;>((try simp only [bn] at hb);first | subst hb | simp only [hb]))) | (apply ai;rfl;simp only [aj,avs,tts,seval,g1,ge_iff_le,w0,w1,hix,hks,hbt,w2,w3]<;>exact rr)) | refine ae ?_ | (refine ak ?_;first | (refine yg rfl ?_;first | refine ar ?_ | refine yo ?_ | (refine ys ?_ ?_<;>intro hb<;>((try simp only [bn] at hb);first | subst hb | simp only [hb]))) | (apply au;rfl;simp only [aB,avs,tts,seval,g1,ge_iff_le,w0,w1,hix,hks,hbt,w2,w3]<;>exact rr;first | trivial | omega)) | refine al ?_ | refine ag ?_ | refine zr af ?_ | refine zQ 0 af mixed ?_ | refine zQ 1 af mixed ?_ | refine zQ 2 af mixed ?_ | refine zQ 3 af mixed ?_ | refine zf rfl rfl ?_ | refine zt rfl rfl ?_ | (refine am rfl rfl ?_ ?_<;>intro hb<;>((try simp only [bn] at hb);first | subst hb | simp only [hb])) | refine ap ?_ | refine aq ?_ | refine an ?_)
  exact aw ⟨_,rfl,[],by simp,rfl⟩
end
def dgP (l:List Nat):List (List PD):=l.map fun d:Nat=>[.v (.int .i64 (d:Int))]
theorem qt (l:List Nat):(dgP l).length=l.length:=List.length_map ..
theorem Bh {l:List Nat} {k:Nat} (h:k<l.length):(dgP l).getD k []=[.v (.int .i64 ((l[k]:Nat):Int))]:=by
 unfold dgP
 rw [List.getD_eq_getElem?_getD,List.getElem?_map,List.getElem?_eq_getElem h];rfl
def jf (l:List Nat) (i:Nat):List Int:=List.replicate (l.length - i) 0++d8 (l.take i).reverse
theorem rq (l:List Nat) {i:Nat} (hi:i≤l.length):(jf l i).length=l.length:=by
 unfold jf d8
 simp [Nat.min_eq_left hi]
 omega
theorem vZ (l:List Nat):bI (jf l 0)=List.replicate l.length [.d (.v (.int .u8 0))]:=by
 unfold jf d8 bI
 simp
theorem ye (l:List Nat):jf l l.length=d8 l.reverse:=by
 unfold jf
 rw [List.take_length,Nat.sub_self];rfl
theorem yb (l:List Nat) {i:Nat} (hi:i<l.length):(bI (jf l i)).getD (l.length - 1 - i) []=[.d (.v (.int .u8 0))]:=by
 unfold bI jf
 rw [List.getD_eq_getElem?_getD,List.getElem?_map,List.getElem?_append_left (by simp;omega),List.getElem?_replicate,if_pos (by omega)]
 rfl
theorem x9 (l:List Nat) {i:Nat} (hi:i<l.length):(bI (jf l i)).set (l.length - 1 - i) [.d (.v (.int .u8 ((48+l[i]:Nat):Int)))]=bI (jf l (i+1)):=by
 have e1:l.length - i=(l.length - 1 - i)+1:=by omega
 have e2:l.length - (i+1)=l.length - 1 - i:=by omega
 have e3:(l.take (i+1)).reverse=l[i]::(l.take i).reverse:=by rw [List.take_add_one,List.getElem?_eq_getElem hi];simp
 unfold jf
 rw [e1,e2,e3]
 generalize l.length - 1 - i=n
 unfold bI d8
 rw [List.replicate_succ',List.map_append,List.map_append,List.append_assoc,List.set_append_right _ _ (by simp),List.map_append]
 simp
section
variable (base:World)
set_option maxRecDepth 100000 in
set_option maxHeartbeats 4000000 in
theorem AJ (l:List Nat) (h10:∀x∈l,x<10) (hp:0<l.length) (hl:l.length≤1000000):aI Tryz.prog base 177 [.d (.sl 1 (dgP l))] (tA (aD (fO l))):=by
 have ct:=pS base (qr l) (lP h10) (by rw [Lib.size_eq,eC];simpa using hp) (by rw [Lib.size_eq,eC];simpa using hl)
 rw [sC h10] at ct
 refine aC af Tryz.call177 Tryz.func177 rfl fun H hB hb hF => ?_
 rw [Tryz.results177,Tryz.ntmps177]
 simp only [aA,List.length_cons,List.length_nil,List.replicate,List.cons_append,List.nil_append,Nat.reduceAdd,Nat.reduceSub]
 clear hF hb
 have la:=qt l
 have c1:(0:Int)≤(l.length:Int):=by omega
 have c2:(l.length:Int)≤9223372036854775807:=by omega
 have c3:(1:Int) * (l.length:Int)≤281474976710656:=by omega
 simp only [tA] at ct ⊢
 repeat' (first | (refine aa ?_;first | (refine zg rfl ?_;first | refine ah ?_ | refine zo ?_ | (refine zs ?_ ?_<;>intro hb<;>((try simp only [bn] at hb);first | subst hb | simp only [hb]))) | (apply ai;rfl;simp only [aj,avs,tts,seval,la,c1,c2,c3,Int.le_refl]<;>exact rr)) | refine ae ?_ | (refine ak ?_;first | (refine yg rfl ?_;first | refine ar ?_ | refine yo ?_ | (refine ys ?_ ?_<;>intro hb<;>((try simp only [bn] at hb);first | subst hb | simp only [hb]))) | (apply au;rfl;simp only [aB,avs,tts,seval,la,c1,c2,c3,Int.le_refl]<;>exact rr;first | trivial | omega)) | refine al ?_ | refine ag ?_ | refine zr af ?_ | refine zQ 0 af mixed ?_ | refine zQ 1 af mixed ?_ | refine zQ 2 af mixed ?_ | refine zQ 3 af mixed ?_ | refine zf rfl rfl ?_ | refine zt rfl rfl ?_ | (refine am rfl rfl ?_ ?_<;>intro hb<;>((try simp only [bn] at hb);first | subst hb | simp only [hb])) | refine ap ?_ | refine aq ?_ | refine an ?_)
 refine aZ (H0:=H++[.row 5 1 0 (List.replicate l.length [.d (.v (.int .u8 0))])]) (fun r env K=>∃i,r=l.length - i∧i≤l.length∧K=H++[.row 5 1 0 (bI (jf l i))]∧env=(.d (.sl 1 (dgP l)) :: .undef :: .undef :: .ms H.length 0 l.length :: .d (.v (.int .i64 (i:Int)))::List.replicate 25 .undef)) ?_ ⟨0,rfl,Nat.zero_le _,by rw [vZ],rfl⟩ ?_
 ·exact ⟨by (try simp only [rp]);(repeat (first | exact trivial | refine ⟨.inr rfl,?_⟩ | refine ⟨.inl rfl,?_⟩)),.inl rfl⟩
 rintro r env K ⟨i,rfl,hi,rfl,rfl⟩ hN
 simp only [rp]
 obtain ⟨c0,g0⟩:∃c,decide ((i:Int)<(l.length:Int))=c:=⟨_,rfl⟩
 cases c0 with
 | false =>
  have hie:i=l.length:=by
                 have:¬i<l.length:=by simpa using g0
                 omega
  subst hie
  have e1:(bI (jf l l.length)).length=l.length:=by rw [uj,rq l (Nat.le_refl _)]
  have e2:=ld (jf l l.length)
  have e3:strOf (jf l l.length)=qr l:=by rw [ye];exact rh l
  have e4:l.length≤9223372036854775807:=by omega
  repeat' (first | (refine aa ?_;first | (refine zg rfl ?_;first | refine ah ?_ | refine zo ?_ | (refine zs ?_ ?_<;>intro hb<;>((try simp only [bn] at hb);first | subst hb | simp only [hb]))) | (apply ai;rfl;simp only [aj,avs,tts,seval,g0,la,e1,e2,e3,e4]<;>exact rr) | (refine za rfl ?_;refine zp (ct) ?_)) | refine ae ?_ | (refine ak ?_;first | (refine yg rfl ?_;first | refine ar ?_ | refine yo ?_ | (refine ys ?_ ?_<;>intro hb<;>((try simp only [bn] at hb);first | subst hb | simp only [hb]))) | (apply au;rfl;simp only [aB,avs,tts,seval,g0,la,e1,e2,e3,e4]<;>exact rr;first | trivial | omega) | (refine ya rfl ?_;refine yp (ct) ?_)) | refine al ?_ | refine ag ?_ | refine zr af ?_ | refine zQ 0 af mixed ?_ | refine zQ 1 af mixed ?_ | refine zQ 2 af mixed ?_ | refine zQ 3 af mixed ?_ | refine zf rfl rfl ?_ | refine zt rfl rfl ?_ | (refine am rfl rfl ?_ ?_<;>intro hb<;>((try simp only [bn] at hb);first | subst hb | simp only [hb])) | refine ap ?_ | refine aq ?_ | refine an ?_)
  exact aw ⟨_,rfl,_,rfl,rfl⟩
 | true =>
  have hlt:i<l.length:=by simpa using g0
  have hix:(0:Int)≤(i:Int):=by omega
  have w1:IntKind.i64.wrap ((i:Int)+1)=((i+1:Nat):Int):=aP hlt (by omega)
  have hgd:=Bh hlt
  have hd:=h10 _ (List.getElem_mem hlt)
  have hrs:=x9 l hlt
  have hrg:=yb l hlt
  have hrl:(bI (jf l i)).length=l.length:=by rw [uj,rq l hi]
  obtain ⟨p,hpe⟩:∃p,l.length - 1 - i=p:=⟨_,rfl⟩
  rw [hpe] at hrs hrg
  generalize l[i]=d at *
  have w2:IntKind.i64.wrap ((l.length:Int) - 1)=((l.length - 1:Nat):Int):=by rw [IntKind.wrap_i64];omega
  have w3:IntKind.i64.wrap (((l.length - 1:Nat):Int) - (i:Int))=(p:Int):=by rw [IntKind.wrap_i64];omega
  have w4:IntKind.i64.wrap (48+(d:Int))=((48+d:Nat):Int):=by rw [IntKind.wrap_i64];omega
  have w5:IntKind.u8.wrap ((48+d:Nat):Int)=((48+d:Nat):Int):=by rw [IntKind.wrap_u8];omega
  have hpx:(0:Int)≤(p:Int):=by omega
  have hpl:p<l.length:=by omega
  repeat' (first | (refine aa ?_;first | (refine zg rfl ?_;first | refine ah ?_ | refine zo ?_ | (refine zs ?_ ?_<;>intro hb<;>((try simp only [bn] at hb);first | subst hb | simp only [hb]))) | (apply ai;rfl;simp only [aj,avs,tts,seval,g0,la,hix,hlt,hgd,w1,w2,w3,w4,w5,hpx,hpl,hrl,hrg,hrs]<;>exact rr)) | refine ae ?_ | (refine ak ?_;first | (refine yg rfl ?_;first | refine ar ?_ | refine yo ?_ | (refine ys ?_ ?_<;>intro hb<;>((try simp only [bn] at hb);first | subst hb | simp only [hb]))) | (apply au;rfl;simp only [aB,avs,tts,seval,g0,la,hix,hlt,hgd,w1,w2,w3,w4,w5,hpx,hpl,hrl,hrg,hrs]<;>exact rr;first | trivial | omega)) | refine al ?_ | refine ag ?_ | refine zr af ?_ | refine zQ 0 af mixed ?_ | refine zQ 1 af mixed ?_ | refine zQ 2 af mixed ?_ | refine zQ 3 af mixed ?_ | refine zf rfl rfl ?_ | refine zt rfl rfl ?_ | (refine am rfl rfl ?_ ?_<;>intro hb<;>((try simp only [bn] at hb);first | subst hb | simp only [hb])) | refine ap ?_ | refine aq ?_ | refine an ?_)
  exact ⟨l.length - (i+1),_,_,by omega,⟨by (try simp only [rp]);(repeat (first | exact trivial | refine ⟨.inr rfl,?_⟩ | refine ⟨.inl rfl,?_⟩)),.inl rfl⟩,i+1,rfl,hlt,rfl,rfl⟩
theorem zG (l:List Nat) (d:Nat):dI (dgP l)++[[.d (.v (.int .i64 (d:Int)))]]=dI (dgP (l++[d])):=by
 unfold dgP dI
 simp [dL]
set_option maxRecDepth 100000 in
set_option maxHeartbeats 4000000 in
theorem yi (a b:Nat) (hab:b≤a) (ha:(aD a).size≤1000000):aI Tryz.prog base 140 [tA (aD a),tA (aD b)] (tA (aD (a - b))):=by
 have hb0:(aD b).size≤(aD a).size:=by
  rcases Nat.lt_or_ge (aD a).size (aD b).size with h | h
  ·rw [aX,aX] at h
   have:=fi h
   omega
  ·exact h
 have ca:=fun i hi=>rv base a i ha hi
 have cb:=fun i hi=>rv base b i (by omega) hi
 have hsz:(aD a).size=(Lib.decDigits a).length:=aX a
 have hp:0<(aD a).size:=by rw [hsz];exact dec_pos a
 refine aC af Tryz.call140 Tryz.func140 rfl fun H hB hb hF => ?_
 rw [Tryz.results140,Tryz.ntmps140]
 simp only [aA,List.length_cons,List.length_nil,List.replicate,List.cons_append,List.nil_append,Nat.reduceAdd,Nat.reduceSub]
 clear hF hb
 generalize aD a=ta at *
 generalize aD b=tb at *
 simp only [tA,iA] at ca cb ⊢
 repeat refine ag ?_
 refine zr af ?_
 repeat (refine aa ?_;first | (apply ai;rfl;simp only [aj,avs,tts,seval]<;>exact rr) | (refine zg rfl ?_;first | refine ah ?_ | refine zo ?_))
 refine ae ?_
 repeat refine ag ?_
 refine zr af ?_
 repeat (refine aa ?_;first | (apply ai;rfl;simp only [aj,avs,tts,seval]<;>exact rr) | (refine zg rfl ?_;first | refine ah ?_ | refine zo ?_))
 refine ae ?_
 refine gv 5 3 1 rfl (by simp only [bx,bw]<;>rfl) ?_
 repeat' (first | (refine aa ?_;first | (refine zg rfl ?_;first | refine ah ?_ | refine zo ?_ | (refine zs ?_ ?_<;>intro hb<;>((try simp only [bn] at hb);first | subst hb | simp only [hb]))) | (apply ai;rfl;simp only [aj,avs,tts,seval]<;>exact rr)) | refine ae ?_ | (refine ak ?_;first | (refine yg rfl ?_;first | refine ar ?_ | refine yo ?_ | (refine ys ?_ ?_<;>intro hb<;>((try simp only [bn] at hb);first | subst hb | simp only [hb]))) | (apply au;rfl;simp only [aB,avs,tts,seval]<;>exact rr;first | trivial | omega)) | refine al ?_ | refine ag ?_ | refine zr af ?_ | refine zQ 0 af mixed ?_ | refine zQ 1 af mixed ?_ | refine zQ 2 af mixed ?_ | refine zQ 3 af mixed ?_ | refine zf rfl rfl ?_ | refine zt rfl rfl ?_ | (refine am rfl rfl ?_ ?_<;>intro hb<;>((try simp only [bn] at hb);first | subst hb | simp only [hb])) | refine ap ?_ | refine aq ?_ | refine an ?_)
 refine aZ (H0:=H++[.row 3 1 0 []]) (fun r env K=>∃(i:Nat) (out:List Nat) (c:Nat),r=ta.size - i∧i≤ta.size∧out.length=i∧(∀x∈out,x<10)∧c≤1∧fO out+b % 10 ^ i=a % 10 ^ i+c * 10 ^ i∧K=H++[.row 3 1 0 (dI (dgP out))]∧env=(.d (.v (.string ta)) :: .d (.v (.string tb)) :: .undef :: .undef :: .undef :: .ms H.length 0 i :: .d (.v (.int .i64 (c:Int))) :: .d (.v (.int .i64 (i:Int)))::List.replicate 26 .undef)) ?_ ⟨0,[],0,rfl,Nat.zero_le _,rfl,by simp,by omega,by simp [fO,Nat.mod_one],rfl,rfl⟩ ?_
 ·exact ⟨by (try simp only [rp]);(repeat (first | exact trivial | refine ⟨.inr rfl,?_⟩ | refine ⟨.inl rfl,?_⟩)),.inl rfl⟩
 rintro r env K ⟨i,out,c,rfl,hi,hol,ho10,hc,hinv,rfl,rfl⟩ hN
 simp only [rp]
 obtain ⟨c0,g0⟩:∃c,decide ((i:Int)<(ta.size:Int))=c:=⟨_,rfl⟩
 have hol2:(dI (dgP out)).length=i:=by rw [bc,qt,hol]
 cases c0 with
 | false =>
  have hie:i=ta.size:=by
                 have:¬i<ta.size:=by simpa using g0
                 omega
  have hv:=wl (a:=a) (b:=b) (c:=c) ho10 (by omega) (by rw [hol];exact hinv) hc hab
  have ct:=AJ base out ho10 (by omega) (by omega)
  rw [hv] at ct
  simp only [tA] at ct
  have hol3:(dgP out).length=i:=by rw [qt,hol]
  repeat refine ag ?_
  refine zr af ?_
  repeat (refine aa ?_;first | (apply ai;rfl;simp only [aj,avs,tts,seval,g0]<;>exact rr) | (refine zg rfl ?_;first | refine ah ?_ | refine zo ?_))
  refine ae ?_
  repeat refine ag ?_
  refine am rfl rfl (fun hb => ?_) fun hb => ?_
  ·cases hb
  refine aq ?_
  repeat refine ag ?_
  refine zr af ?_
  repeat (refine aa ?_;first | (apply ai;rfl;simp only [aj,avs,tts,seval]<;>exact rr) | (refine zg rfl ?_;first | refine ah ?_ | refine zo ?_))
  refine eD (H.length) rfl (by simp only [avs]<;>rfl) (by simp only [avs,tts,seval,bU,bY,cP,bh,bc,unI,unL,Nat.add_eq_left,Nat.left_eq_add,Nat.one_ne_zero,hol3]<;>rfl) (by simp only [avs,tts,seval,bU,bY,cP,bh,bc,unI,unL,Nat.add_eq_left,Nat.left_eq_add,Nat.one_ne_zero,hol3]<;>rfl) (ct) (by simp only [avs]<;>rfl) ?_
  repeat (refine aa ?_;first | (apply ai;rfl;simp only [aj,avs,tts,seval]<;>exact rr) | (refine zg rfl ?_;first | refine ah ?_ | refine zo ?_))
  refine ae ?_
  exact aw ⟨_,rfl,_,rfl,rfl⟩
 | true =>
  have hlt:i<ta.size:=by simpa using g0
  have hix:(0:Int)≤(i:Int):=by omega
  have w1:IntKind.i64.wrap ((i:Int)+1)=((i+1:Nat):Int):=aP hlt (by omega)
  have ca:=ca i (by omega)
  have cb:=cb i (by omega)
  have h1:=kX a i
  have h2:=kX b i
  obtain ⟨d,c',hd10,hc',hno,hyes,hnew⟩:=tG hol hinv hc
  generalize de a i=x at *
  generalize de b i=y at *
  have w2:IntKind.i64.wrap ((x:Int) - (y:Int))=(x:Int) - (y:Int):=by rw [IntKind.wrap_i64];omega
  have w3:IntKind.i64.wrap ((x:Int) - (y:Int) - (c:Int))=(x:Int) - (y:Int) - (c:Int):=by rw [IntKind.wrap_i64];omega
  have d1:i+1≤9223372036854775807:=by omega
  have d2:(i+1) * 8≤140737488355328:=by omega
  obtain ⟨c1,g1⟩:∃e,decide ((x:Int) - (y:Int) - (c:Int)<0)=e:=⟨_,rfl⟩
  have hsn:=zG out d
  have hout:∀z∈out++[d],z<10:=fun z hz=>by
   rcases List.mem_append.1 hz with h | h
   ·exact ho10 z h
   ·rw [List.mem_singleton] at h;rw [h];exact hd10
  cases c1 with
  | false =>
   have hge:y+c≤x:=by
                 have:¬(x:Int) - (y:Int) - (c:Int)<0:=by simpa using g1
                 omega
   obtain ⟨rfl,hde⟩:=hno hge
   have w3:IntKind.i64.wrap ((x:Int) - (y:Int) - (c:Int))=(d:Int):=by rw [IntKind.wrap_i64];omega
   rw [←hde] at g1
   repeat' (first | (refine aa ?_;first | (refine zg rfl ?_;first | refine ah ?_ | refine zo ?_ | (refine zs ?_ ?_<;>intro hb<;>((try simp only [bn] at hb);first | subst hb | simp only [hb]))) | (apply ai;rfl;simp only [aj,avs,tts,seval,g0,w1,w2,w3,g1,hol2,d1,d2]<;>exact rr) | (refine za rfl ?_;first | refine zp (ca) ?_ | refine zp (cb) ?_)) | refine ae ?_ | (refine ak ?_;first | (refine yg rfl ?_;first | refine ar ?_ | refine yo ?_ | (refine ys ?_ ?_<;>intro hb<;>((try simp only [bn] at hb);first | subst hb | simp only [hb]))) | (apply au;rfl;simp only [aB,avs,tts,seval,g0,w1,w2,w3,g1,hol2,d1,d2]<;>exact rr;first | trivial | omega) | (refine ya rfl ?_;first | refine yp (ca) ?_ | refine yp (cb) ?_)) | refine al ?_ | refine ag ?_ | refine zr af ?_ | refine zQ 0 af mixed ?_ | refine zQ 1 af mixed ?_ | refine zQ 2 af mixed ?_ | refine zQ 3 af mixed ?_ | refine zf rfl rfl ?_ | refine zt rfl rfl ?_ | (refine am rfl rfl ?_ ?_<;>intro hb<;>((try simp only [bn] at hb);first | subst hb | simp only [hb])) | refine ap ?_ | refine aq ?_ | refine an ?_)
   refine ⟨ta.size - (i+1),_,H++[.row 3 1 0 (dI (dgP (out++[d])))],by omega,⟨?_,.inr ⟨by simp,?_,.more hB (.cons (fM _) .nil),?_⟩⟩,i+1,out++[d],0,rfl,hlt,by simp [hol],hout,by omega,hnew,rfl,rfl⟩
   ·(try simp only [rp]);(repeat (first | exact trivial | refine ⟨.inr rfl,?_⟩ | refine ⟨.inl rfl,?_⟩))
   ·simp [aS,AV.bel,List.replicate]
   ·rw [←hsn];exact ⟨_,by simp only [List.append_assoc,List.cons_append,List.nil_append];rfl⟩
  | true =>
   have hge:¬y+c≤x:=by
                  have:(x:Int) - (y:Int) - (c:Int)<0:=by simpa using g1
                  omega
   obtain ⟨rfl,hde⟩:=hyes hge
   have w4:IntKind.i64.wrap ((x:Int) - (y:Int) - (c:Int)+10)=(d:Int):=by rw [IntKind.wrap_i64];omega
   repeat' (first | (refine aa ?_;first | (refine zg rfl ?_;first | refine ah ?_ | refine zo ?_ | (refine zs ?_ ?_<;>intro hb<;>((try simp only [bn] at hb);first | subst hb | simp only [hb]))) | (apply ai;rfl;simp only [aj,avs,tts,seval,g0,w1,w2,w3,g1,w4,hol2,d1,d2]<;>exact rr) | (refine za rfl ?_;first | refine zp (ca) ?_ | refine zp (cb) ?_)) | refine ae ?_ | (refine ak ?_;first | (refine yg rfl ?_;first | refine ar ?_ | refine yo ?_ | (refine ys ?_ ?_<;>intro hb<;>((try simp only [bn] at hb);first | subst hb | simp only [hb]))) | (apply au;rfl;simp only [aB,avs,tts,seval,g0,w1,w2,w3,g1,w4,hol2,d1,d2]<;>exact rr;first | trivial | omega) | (refine ya rfl ?_;first | refine yp (ca) ?_ | refine yp (cb) ?_)) | refine al ?_ | refine ag ?_ | refine zr af ?_ | refine zQ 0 af mixed ?_ | refine zQ 1 af mixed ?_ | refine zQ 2 af mixed ?_ | refine zQ 3 af mixed ?_ | refine zf rfl rfl ?_ | refine zt rfl rfl ?_ | (refine am rfl rfl ?_ ?_<;>intro hb<;>((try simp only [bn] at hb);first | subst hb | simp only [hb])) | refine ap ?_ | refine aq ?_ | refine an ?_)
   refine ⟨ta.size - (i+1),_,H++[.row 3 1 0 (dI (dgP (out++[d])))],by omega,⟨?_,.inr ⟨by simp,?_,.more hB (.cons (fM _) .nil),?_⟩⟩,i+1,out++[d],1,rfl,hlt,by simp [hol],hout,by omega,hnew,rfl,rfl⟩
   ·(try simp only [rp]);(repeat (first | exact trivial | refine ⟨.inr rfl,?_⟩ | refine ⟨.inl rfl,?_⟩))
   ·simp [aS,AV.bel,List.replicate]
   ·rw [←hsn];exact ⟨_,by simp only [List.append_assoc,List.cons_append,List.nil_append];rfl⟩
end
end Av
end Go.Proofs.YtdekcppfpgeneaaGreatDoor
namespace Go.Proofs.YtdekcppfpgeneaaGreatDoor
open Go Go.RowKit
namespace Av
attribute [local irreducible] AW aL aH
open Nt
def nB (n:Int):ByteArray:=⟨(Lib.itoa n).toArray⟩
theorem y8 {n:Int} (h0 : -9223372036854775808≤n) (h1:n≤9223372036854775807):(nB n).size≤21:=by
 have hd:∀m:Nat,m≤9223372036854775808→(Lib.decDigits m).length≤19:=fun m hm=>gO 18 m (by omega)
 rw [Lib.size_eq]
 simp only [nB,Lib.itoa]
 split
 ·have:=hd n.natAbs (by omega)
  simp;omega
 ·have:=hd n.toNat (by omega)
  simp;omega
theorem CH {base:World} (hT:dt base) (n:Int) (h0 : -9223372036854775808≤n) (h1:n≤9223372036854775807):aI Tryz.prog base 88 [iA n] (tA (nB n)) :=
 dN Tryz.call88 (by have:=y8 h0 h1;show _≤_;omega) fun s vs hs ha=>by
  rw [Cn ha]
  refine (Tryz.strconv_Itoa n h0 h1 s.w (xH hs hT).1).mono ?_
  rintro e w' ⟨rfl,k,os,rfl⟩
  exact ⟨rfl,Lib.below_grow _ _ (Nat.le_refl _) _ _⟩
theorem vP (n:Int):Lib.trimPrefix (Lib.itoa n) [45]=Lib.decDigits n.natAbs:=by
 unfold Lib.itoa Lib.trimPrefix
 split
 ·simp [Lib.hasPrefix]
 ·have e:n.toNat=n.natAbs:=by omega
  rw [e]
  have hd:=bK n.natAbs
  have hp:=dec_pos n.natAbs
  cases hl:Lib.decDigits n.natAbs with
  | nil=>rw [hl] at hp;simp at hp
  | cons c r =>
   rw [hl] at hd
   simp only [List.all_cons,Bool.and_eq_true] at hd
   have hc:=hd.1
   simp [aM] at hc
   have:c≠45:=fun e=>by subst e;simp at hc
   simp [Lib.hasPrefix,this]
   exact fun h=>this h.symm
theorem Ay {base:World} (n:Int) (h0 : -9223372036854775808≤n) (h1:n≤9223372036854775807):aI Tryz.prog base 87 [tA (nB n),tA ⟨#[45]⟩] (tA (aD n.natAbs)) :=
 dN Tryz.call87 (by have:(Lib.decDigits n.natAbs).length≤19:=gO 18 _ (by omega);show (aD n.natAbs).size≤_;rw [aX];omega) fun s vs hs ha=>by
  rw [vv ha]
  refine (Tryz.strings_TrimPrefix (nB n) ⟨#[45]⟩ s.w).mono ?_
  rintro e w' ⟨rfl,rfl⟩
  refine ⟨?_,Below.refl _ _⟩
  have:(⟨(Lib.trimPrefix (nB n).data.toList (ByteArray.mk #[45]).data.toList).toArray⟩:ByteArray)=aD n.natAbs:=by
   simp only [nB,aD]
   rw [←vP n]
  rw [this]
set_option maxRecDepth 100000 in
theorem xT {base:World} (hT:dt base) (n:Int) (h0 : -9223372036854775808≤n) (h1:n≤9223372036854775807):aI Tryz.prog base 86 [iA n] (tA (aD n.natAbs)):=by
 have c1:=CH hT n h0 h1
 have c2:=Ay (base:=base) n h0 h1
 refine aC af Tryz.call86 Tryz.func86 rfl fun H hB hb hF => ?_
 rw [Tryz.results86,Tryz.ntmps86]
 simp only [aA,List.length_cons,List.length_nil,List.replicate,List.cons_append,List.nil_append,Nat.reduceAdd,Nat.reduceSub]
 simp only [iA] at c1 ⊢
 repeat refine ag ?_
 refine zr af ?_
 repeat (refine aa ?_;first | (apply ai;rfl;simp only [aj,avs,tts,seval]<;>exact rr) | (refine zg rfl ?_;first | refine ah ?_ | refine zo ?_))
 refine ae ?_
 repeat refine ag ?_
 refine zr af ?_
 repeat (refine aa ?_;first | (apply ai;rfl;simp only [aj,avs,tts,seval]<;>exact rr) | (refine zg rfl ?_;first | refine ah ?_ | refine zo ?_))
 refine zP rfl (c1) ?_
 repeat (refine aa ?_;first | (apply ai;rfl;simp only [aj,avs,tts,seval]<;>exact rr) | (refine zg rfl ?_;first | refine ah ?_ | refine zo ?_))
 refine zP rfl (c2) ?_
 repeat (refine aa ?_;first | (apply ai;rfl;simp only [aj,avs,tts,seval]<;>exact rr) | (refine zg rfl ?_;first | refine ah ?_ | refine zo ?_))
 refine ae ?_
 exact aw ⟨_,rfl,[],by simp,rfl⟩
def ofR (n d:Int):Rt:=if d=0 then E2 else np (decide (n<0) != decide (d<0)) n.natAbs d.natAbs
def ofE (d:Int):Int:=if d=0 then 15 else 0
theorem Ao {n:Int} (h0 : -9223372036854775808≤n) (h1:n≤9223372036854775807):n.natAbs<tp 300:=by
 have h:n.natAbs<10 ^ 19:=by omega
 exact Nat.lt_of_lt_of_le h (hU (a:=19) (by decide))
set_option maxRecDepth 100000 in
set_option maxHeartbeats 4000000 in
theorem DY {base:World} (hT:dt base) (n d:Int) (h0 : -9223372036854775808≤n) (h1:n≤9223372036854775807) (k0 : -9223372036854775808≤d) (k1:d≤9223372036854775807):aI Tryz.prog base 60 [iA n,iA d] (.tup [fF (ofR n d),iA (ofE d)]):=by
 have c1:=xT hT n h0 h1
 have c2:=xT hT d k0 k1
 simp only [iA] at c1 c2
 refine aC af Tryz.call60 Tryz.func60 rfl fun H hB hb hF => ?_
 rw [Tryz.results60,Tryz.ntmps60]
 simp only [aA,List.length_cons,List.length_nil,List.replicate,List.cons_append,List.nil_append,Nat.reduceAdd,Nat.reduceSub]
 clear hF hb
 simp only [iA]
 repeat refine ag ?_
 refine zr af ?_
 repeat (refine aa ?_;first | (apply ai;rfl;simp only [aj,avs,tts,seval]<;>exact rr) | (refine zg rfl ?_;first | refine ah ?_ | refine zo ?_))
 refine ae ?_
 repeat refine ag ?_
 refine zr af ?_
 repeat (refine aa ?_;first | (apply ai;rfl;simp only [aj,avs,tts,seval]<;>exact rr) | (refine zg rfl ?_;first | refine ah ?_ | refine zo ?_))
 refine ae ?_
 by_cases hd:d=0
 ·have z:decide (d=0)=true:=decide_eq_true hd
  repeat refine ag ?_
  refine zr af ?_
  repeat (refine aa ?_;first | (apply ai;rfl;simp only [aj,avs,tts,seval,z]<;>exact rr) | (refine zg rfl ?_;first | refine ah ?_ | refine zo ?_))
  refine ae ?_
  repeat refine ag ?_
  refine am rfl rfl (fun hb => ?_) fun hb => ?_
  ·repeat refine ag ?_
   refine zr af ?_
   repeat (refine aa ?_;first | (apply ai;rfl;simp only [aj,avs,tts,seval,bQ]<;>exact rr) | (refine zg rfl ?_;first | refine ah ?_ | refine zo ?_))
   refine ae ?_
   simp only [ofR,ofE,if_pos hd]
   refine aw ⟨_,(by simp only [bk,cN,er,avs,tts]<;>rfl),_,rfl,?_⟩
   simp [cM,fF]
   rfl
  ·cases hb
 ·have z:decide (d=0)=false:=decide_eq_false hd
  have c3:=yH hT (decide (n<0) != decide (d<0)) (Ao h0 h1) (Ao k0 k1) (by omega)
  simp only [iA] at c3
  repeat refine ag ?_
  refine zr af ?_
  repeat (refine aa ?_;first | (apply ai;rfl;simp only [aj,avs,tts,seval,z]<;>exact rr) | (refine zg rfl ?_;first | refine ah ?_ | refine zo ?_))
  refine ae ?_
  repeat refine ag ?_
  refine am rfl rfl (fun hb => ?_) fun hb => ?_
  ·cases hb
  refine ap ?_
  repeat refine ag ?_
  refine zr af ?_
  repeat (refine aa ?_;first | (apply ai;rfl;simp only [aj,avs,tts,seval]<;>exact rr) | (refine zg rfl ?_;first | refine ah ?_ | refine zo ?_))
  refine zP rfl (c1) ?_
  repeat (refine aa ?_;first | (apply ai;rfl;simp only [aj,avs,tts,seval]<;>exact rr) | (refine zg rfl ?_;first | refine ah ?_ | refine zo ?_))
  refine zP rfl (c2) ?_
  repeat (refine aa ?_;first | (apply ai;rfl;simp only [aj,avs,tts,seval]<;>exact rr) | (refine zg rfl ?_;first | refine ah ?_ | refine zo ?_))
  refine zP rfl (c3) ?_
  repeat (refine aa ?_;first | (apply ai;rfl;simp only [aj,avs,tts,seval,bQ,fF]<;>exact rr) | (refine zg rfl ?_;first | refine ah ?_ | refine zo ?_))
  refine ae ?_
  simp only [ofR,ofE,if_neg hd]
  refine aw ⟨_,(by simp only [bk,cN,er,avs,tts]<;>rfl),_,rfl,?_⟩
  simp [cM,fF]
  rfl
end Av
end Go.Proofs.YtdekcppfpgeneaaGreatDoor
namespace Go.Proofs.YtdekcppfpgeneaaGreatDoor
open Go Go.RowKit
namespace Rg
open Av Nt
structure Hd where
 id:ByteArray
 company:ByteArray
 holder:ByteArray
 nominee:ByteArray
 pledged:ByteArray
 joint:List ByteArray
 capital:Int
 votes:Int
 fr:Int
 til:Int
def bq (l:List ByteArray):PD := .sl 1 (l.map fun s=>[PD.v (.string s)])
def hdC (h:Hd):List PD:=[.v (.string h.id),.v (.string h.company),.v (.string h.holder),.v (.string h.nominee),.v (.string h.pledged),bq h.joint,.v (.int .i64 h.capital),.v (.int .i64 h.votes),.v (.int .i64 h.fr),.v (.int .i64 h.til)]
def hdL (h:Hd):List AV:=[tA h.id,tA h.company,tA h.holder,tA h.nominee,tA h.pledged,.d (bq h.joint),iA h.capital,iA h.votes,iA h.fr,iA h.til]
def hdA (h:Hd):AV := .agg (hdL h)
def cO (l:List Hd):PD := .sl 10 (l.map hdC)
def emp:ByteArray:=⟨#[]⟩
def xe (t:ByteArray) (i:Nat):Nat:=(t.data.toList.getD i 0).toNat
def kN (c:Nat):Bool:=(decide (97≤c)&&decide (c≤122))||(decide (65≤c)&&decide (c≤90))
def t8 (c:Nat):Bool:=decide (48≤c)&&decide (c≤57)
def jg (t:ByteArray) (i:Nat):Bool:=kN (xe t i)||(decide (i≠0)&&(decide (xe t i=95)||t8 (xe t i)))
def bL (t:ByteArray):Bool:=(List.range t.size).all (jg t)&&(!decide (t=⟨#[]⟩)&&decide (t.size≤24))
theorem rE {t:ByteArray} {i:Nat} (hi:i<t.size) (h:jg t i=false):bL t=false:=by
 unfold bL
 have:(List.range t.size).all (jg t)=false:=by
  rw [List.all_eq_false]
  exact ⟨i,by simpa using hi,by simp [h]⟩
 rw [this,Bool.false_and]
theorem oY {t:ByteArray} (h:∀i,i<t.size→jg t i=true):bL t=(!decide (t=⟨#[]⟩)&&decide (t.size≤24)):=by
 unfold bL
 have:(List.range t.size).all (jg t)=true:=by
  rw [List.all_eq_true]
  exact fun i hi=>h i (by simpa using hi)
 rw [this,Bool.true_and]
def tE (t:ByteArray):Bool:=decide (t=⟨#[]⟩)||bL t
def gW (n:Int):Bool:=decide (0≤n)&&decide (n≤100000)
def oq (n:Int):Bool:=decide (0≤n)&&decide (n≤100)
def cF (h:Hd) (day:Int):Bool:=decide (h.fr≤day)&&(decide (h.til = -1)||decide (day<h.til))
structure Small (h:Hd):Prop where
 id:h.id.size≤9223372036854775807
 company:h.company.size≤9223372036854775807
 holder:h.holder.size≤9223372036854775807
 nominee:h.nominee.size≤9223372036854775807
 pledged:h.pledged.size≤9223372036854775807
 joint:∀t∈h.joint,t.size≤9223372036854775807
 jlen:h.joint.length≤1000000
end Rg
end Go.Proofs.YtdekcppfpgeneaaGreatDoor
namespace Go.Proofs.YtdekcppfpgeneaaGreatDoor
open Go Go.RowKit
namespace Av
attribute [local irreducible] AW aL aH
open Nt Rg
abbrev boA (b:Bool):AV := .d (.v (.bool b))
section
variable (base:World)
set_option maxRecDepth 100000 in
theorem zO (n:Int):aI Tryz.prog base 32 [iA n] (boA (gW n)):=by
 refine aC af Tryz.call32 Tryz.func32 rfl fun H hB hb hF => ?_
 rw [Tryz.results32,Tryz.ntmps32]
 simp only [aA,List.length_cons,List.length_nil,List.replicate,List.cons_append,List.nil_append,Nat.reduceAdd,Nat.reduceSub]
 clear hF hb
 simp only [iA]
 repeat refine ag ?_
 refine zr af ?_
 repeat (refine aa ?_;first | (apply ai;rfl;simp only [aj,avs,tts,seval]<;>exact rr) | (refine zg rfl ?_;first | refine ah ?_ | refine zo ?_))
 refine ae ?_
 unfold gW
 cases h1:decide (0≤n) with
 | false =>
  have h1':decide (n≥0)=false:=h1
  repeat refine ag ?_
  refine zr af ?_
  repeat (refine aa ?_;first | (apply ai;rfl;simp only [aj,avs,tts,seval,h1']<;>exact rr) | (refine zg rfl ?_;first | refine ah ?_ | refine zo ?_))
  refine ae ?_
  exact aw ⟨_,rfl,[],by simp,rfl⟩
 | true =>
  have h1':decide (n≥0)=true:=h1
  repeat refine ag ?_
  refine zr af ?_
  repeat (refine aa ?_;first | (apply ai;rfl;simp only [aj,avs,tts,seval,h1']<;>exact rr) | (refine zg rfl ?_;first | refine ah ?_ | refine zo ?_))
  refine ae ?_
  exact aw ⟨_,rfl,[],by simp,rfl⟩
set_option maxRecDepth 100000 in
theorem BZ (n:Int):aI Tryz.prog base 73 [iA n] (boA (oq n)):=by
 refine aC af Tryz.call73 Tryz.func73 rfl fun H hB hb hF => ?_
 rw [Tryz.results73,Tryz.ntmps73]
 simp only [aA,List.length_cons,List.length_nil,List.replicate,List.cons_append,List.nil_append,Nat.reduceAdd,Nat.reduceSub]
 clear hF hb
 simp only [iA]
 repeat refine ag ?_
 refine zr af ?_
 repeat (refine aa ?_;first | (apply ai;rfl;simp only [aj,avs,tts,seval]<;>exact rr) | (refine zg rfl ?_;first | refine ah ?_ | refine zo ?_))
 refine ae ?_
 unfold oq
 cases h1:decide (0≤n) with
 | false =>
  have h1':decide (n≥0)=false:=h1
  repeat refine ag ?_
  refine zr af ?_
  repeat (refine aa ?_;first | (apply ai;rfl;simp only [aj,avs,tts,seval,h1']<;>exact rr) | (refine zg rfl ?_;first | refine ah ?_ | refine zo ?_))
  refine ae ?_
  exact aw ⟨_,rfl,[],by simp,rfl⟩
 | true =>
  have h1':decide (n≥0)=true:=h1
  repeat refine ag ?_
  refine zr af ?_
  repeat (refine aa ?_;first | (apply ai;rfl;simp only [aj,avs,tts,seval,h1']<;>exact rr) | (refine zg rfl ?_;first | refine ah ?_ | refine zo ?_))
  refine ae ?_
  exact aw ⟨_,rfl,[],by simp,rfl⟩
set_option maxRecDepth 100000 in
theorem x0 (h:Hd) (day:Int):aI Tryz.prog base 37 [hdA h,iA day] (boA (cF h day)):=by
 refine aC af Tryz.call37 Tryz.func37 rfl fun H hB hb hF => ?_
 rw [Tryz.results37,Tryz.ntmps37]
 simp only [aA,List.length_cons,List.length_nil,List.replicate,List.cons_append,List.nil_append,Nat.reduceAdd,Nat.reduceSub]
 clear hF hb
 obtain ⟨id,company,holder,nominee,pledged,joint,capital,votes,fr,til⟩:=h
 simp only [iA,hdA,hdL,tA]
 repeat refine ag ?_
 refine zr af ?_
 repeat (refine aa ?_;first | (apply ai;rfl;simp only [aj,avs,tts,seval]<;>exact rr) | (refine zg rfl ?_;first | refine ah ?_ | refine zo ?_))
 refine ae ?_
 unfold cF
 simp only
 cases h1:decide (fr≤day) with
 | false =>
  have h1':decide (day≥fr)=false:=h1
  repeat refine ag ?_
  refine zr af ?_
  repeat (refine aa ?_;first | (apply ai;rfl;simp only [aj,avs,tts,seval,h1']<;>exact rr) | (refine zg rfl ?_;first | refine ah ?_ | refine zo ?_))
  refine ae ?_
  exact aw ⟨_,rfl,_,rfl,rfl⟩
 | true =>
  have h1':decide (day≥fr)=true:=h1
  cases h2:decide (til = -1) with
  | true =>
   repeat refine ag ?_
   refine zr af ?_
   repeat (refine aa ?_;first | (apply ai;rfl;simp only [aj,avs,tts,seval,h1',h2]<;>exact rr) | (refine zg rfl ?_;first | refine ah ?_ | refine zo ?_))
   refine ae ?_
   exact aw ⟨_,rfl,_,rfl,rfl⟩
  | false =>
   repeat refine ag ?_
   refine zr af ?_
   repeat (refine aa ?_;first | (apply ai;rfl;simp only [aj,avs,tts,seval,h1',h2]<;>exact rr) | (refine zg rfl ?_;first | refine ah ?_ | refine zo ?_))
   refine ae ?_
   exact aw ⟨_,rfl,_,rfl,rfl⟩
theorem b8 (t:ByteArray) (i:Nat):xe t i<256:=UInt8.toNat_lt _
set_option maxRecDepth 100000 in
set_option maxHeartbeats 4000000 in
theorem kK (t:ByteArray) (ht:t.size≤9223372036854775807):aI Tryz.prog base 39 [tA t] (boA (bL t)):=by
 refine aC af Tryz.call39 Tryz.func39 rfl fun H hB hb hF => ?_
 rw [Tryz.results39,Tryz.ntmps39]
 simp only [aA,List.length_cons,List.length_nil,List.replicate,List.cons_append,List.nil_append,Nat.reduceAdd,Nat.reduceSub]
 clear hF hb
 simp only [tA]
 repeat refine ag ?_
 refine zr af ?_
 repeat (refine aa ?_;first | (apply ai;rfl;simp only [aj,avs,tts,seval]<;>exact rr) | (refine zg rfl ?_;first | refine ah ?_ | refine zo ?_))
 refine ae ?_
 repeat refine ag ?_
 refine zr af ?_
 repeat (refine aa ?_;first | (apply ai;rfl;simp only [aj,avs,tts,seval]<;>exact rr) | (refine zg rfl ?_;first | refine ah ?_ | refine zo ?_))
 refine ae ?_
 repeat refine ag ?_
 refine an (aZ (H0:=H) (fun r env K'=>∃k,r=t.size - k∧k≤t.size∧(∀i,i<k→jg t i=true)∧K'=H∧env = .d (.v (.string t)) :: .undef :: .d (.v (.bool false)) :: .undef :: .undef :: .undef :: .undef :: .d (.v (.int .i64 (t.size:Int))) :: .d (.v (.int .i64 (k:Int)))::List.replicate 45 .undef) ?_ ⟨0,rfl,Nat.zero_le _,fun i hi=>by omega,rfl,rfl⟩ ?_)
 ·exact ⟨by simp [aJ,List.replicate],.inl rfl⟩
 rintro r env K' ⟨k,rfl,hk,hok,rfl,rfl⟩ hN
 simp only [List.replicate]
 by_cases hlt:k<t.size
 ·have g0:decide ((k:Int)<(t.size:Int))=true:=by simpa using hlt
  have hix:(0:Int)≤(k:Int):=by omega
  repeat refine ag ?_
  refine zr af ?_
  repeat (refine aa ?_;first | (apply ai;rfl;simp only [aj,avs,tts,seval,g0]<;>exact rr) | (refine zg rfl ?_;first | refine ah ?_ | refine zo ?_))
  refine ae ?_
  repeat refine ag ?_
  refine am rfl rfl (fun hb => ?_) fun hb => ?_
  ·refine ap ?_
   repeat refine ag ?_
   refine an ?_
   repeat refine ag ?_
   refine zr af ?_
   repeat (refine aa ?_;first | (apply ai;rfl;simp only [aj,avs,tts,seval]<;>exact rr) | (refine zg rfl ?_;first | refine ah ?_ | refine zo ?_))
   refine ae ?_
   repeat refine ag ?_
   refine zr af ?_
   repeat (refine aa ?_;first | (apply ai;rfl;simp only [aj,avs,tts,seval,hix,hlt]<;>exact rr) | (refine zg rfl ?_;first | refine ah ?_ | refine zo ?_))
   refine ae ?_
   obtain ⟨c,hc⟩:∃c,c=xe t k:=⟨_,rfl⟩
   have hc8:=b8 t k
   have hbt:(t.data.toList.getD k 0).toNat=c:=hc.symm
   rw [←hc] at hc8
   rw [hbt]
   repeat refine ag ?_
   refine eh (Q0:=fun env K2=>K2=K'∧env = .d (.v (.string t)) :: .undef :: .d (.v (.bool false)) :: .d (.v (.int .i64 (k:Int))) :: .d (.v (.int .u8 (c:Int))) :: .d (.v (.bool (kN c))) :: .undef :: .d (.v (.int .i64 (t.size:Int))) :: .d (.v (.int .i64 (k:Int)))::List.replicate 45 .undef) ?_ ?_
   ·have fin:∀(env:List AV) (b:Bool),kN c=b→aJ env (.d (.v (.string t)) :: .undef :: .d (.v (.bool false)) :: .d (.v (.int .i64 (k:Int))) :: .d (.v (.int .u8 (c:Int))) :: .d (.v (.bool b)) :: .undef :: .d (.v (.int .i64 (t.size:Int))) :: .d (.v (.int .i64 (k:Int)))::List.replicate 45 .undef)→(Exit.normal=Exit.normal∧∃env0 H0,mc ⟨Tryz.prog,tt,base,K'.length,none⟩ env K' env0 H0∧H0=K'∧env0 = .d (.v (.string t)) :: .undef :: .d (.v (.bool false)) :: .d (.v (.int .i64 (k:Int))) :: .d (.v (.int .u8 (c:Int))) :: .d (.v (.bool (kN c))) :: .undef :: .d (.v (.int .i64 (t.size:Int))) :: .d (.v (.int .i64 (k:Int)))::List.replicate 45 .undef):=fun env b hb he=>by
     rw [hb];exact ⟨rfl,_,_,⟨he,.inl rfl⟩,rfl,rfl⟩
    by_cases l1:97≤c
    ·have f1:decide ((c:Int)≥97)=true:=by simp;omega
     by_cases l2:c≤122
     ·have f2:decide ((c:Int)≤122)=true:=by simp;omega
      repeat refine ag ?_
      refine zr af ?_
      repeat (refine aa ?_;first | (apply ai;rfl;simp only [aj,avs,tts,seval,f1,f2]<;>exact rr) | (refine zg rfl ?_;first | refine ah ?_ | refine zo ?_))
      refine ae ?_
      exact fin _ true (by simp [kN];omega) (by simp [aJ,List.replicate])
     ·have f2:decide ((c:Int)≤122)=false:=by simp;omega
      have f3:decide ((c:Int)≥65)=true:=by simp;omega
      have f4:decide ((c:Int)≤90)=false:=by simp;omega
      repeat refine ag ?_
      refine zr af ?_
      repeat (refine aa ?_;first | (apply ai;rfl;simp only [aj,avs,tts,seval,f1,f2,f3,f4]<;>exact rr) | (refine zg rfl ?_;first | refine ah ?_ | refine zo ?_))
      refine ae ?_
      exact fin _ false (by simp [kN];omega) (by simp [aJ,List.replicate])
    ·have f1:decide ((c:Int)≥97)=false:=by simp;omega
     by_cases l3:65≤c
     ·have f3:decide ((c:Int)≥65)=true:=by simp;omega
      by_cases l4:c≤90
      ·have f4:decide ((c:Int)≤90)=true:=by simp;omega
       repeat refine ag ?_
       refine zr af ?_
       repeat (refine aa ?_;first | (apply ai;rfl;simp only [aj,avs,tts,seval,f1,f3,f4]<;>exact rr) | (refine zg rfl ?_;first | refine ah ?_ | refine zo ?_))
       refine ae ?_
       exact fin _ true (by simp [kN];omega) (by simp [aJ,List.replicate])
      ·have f4:decide ((c:Int)≤90)=false:=by simp;omega
       repeat refine ag ?_
       refine zr af ?_
       repeat (refine aa ?_;first | (apply ai;rfl;simp only [aj,avs,tts,seval,f1,f3,f4]<;>exact rr) | (refine zg rfl ?_;first | refine ah ?_ | refine zo ?_))
       refine ae ?_
       exact fin _ false (by simp [kN];omega) (by simp [aJ,List.replicate])
     ·have f3:decide ((c:Int)≥65)=false:=by simp;omega
      repeat refine ag ?_
      refine zr af ?_
      repeat (refine aa ?_;first | (apply ai;rfl;simp only [aj,avs,tts,seval,f1,f3]<;>exact rr) | (refine zg rfl ?_;first | refine ah ?_ | refine zo ?_))
      refine ae ?_
      exact fin _ false (by simp [kN];omega) (by simp [aJ,List.replicate])
   rintro env K2 ⟨rfl,rfl⟩
   simp only [List.replicate]
   repeat refine ag ?_
   refine eh (Q0:=fun env K3=>K3=K2∧env = .d (.v (.string t)) :: .undef :: .d (.v (.bool false)) :: .d (.v (.int .i64 (k:Int))) :: .d (.v (.int .u8 (c:Int))) :: .undef :: .undef :: .d (.v (.int .i64 (t.size:Int))) :: .d (.v (.int .i64 (k:Int)))::List.replicate 36 .undef ++ .d (.v (.bool (!jg t k)))::List.replicate 8 .undef) ?_ ?_
   ·have hoa:jg t k=(kN c||(decide (k≠0)&&(decide (c=95)||t8 c))):=by rw [jg,←hc]
    have fin:∀(env:List AV) (b:Bool),jg t k = !b→aJ env (.d (.v (.string t)) :: .undef :: .d (.v (.bool false)) :: .d (.v (.int .i64 (k:Int))) :: .d (.v (.int .u8 (c:Int))) :: .undef :: .undef :: .d (.v (.int .i64 (t.size:Int))) :: .d (.v (.int .i64 (k:Int)))::List.replicate 36 .undef ++ .d (.v (.bool b))::List.replicate 8 .undef)→(Exit.normal=Exit.normal∧∃env0 H0,mc ⟨Tryz.prog,tt,base,K2.length,none⟩ env K2 env0 H0∧H0=K2∧env0 = .d (.v (.string t)) :: .undef :: .d (.v (.bool false)) :: .d (.v (.int .i64 (k:Int))) :: .d (.v (.int .u8 (c:Int))) :: .undef :: .undef :: .d (.v (.int .i64 (t.size:Int))) :: .d (.v (.int .i64 (k:Int)))::List.replicate 36 .undef ++ .d (.v (.bool (!jg t k)))::List.replicate 8 .undef):=fun env b hb he=>by
     rw [hb,Bool.not_not];exact ⟨rfl,_,_,⟨he,.inl rfl⟩,rfl,rfl⟩
    cases hl:kN c with
    | true =>
     repeat refine ag ?_
     refine zr af ?_
     repeat (refine aa ?_;first | (apply ai;rfl;simp only [aj,avs,tts,seval,Bool.not_true]<;>exact rr) | (refine zg rfl ?_;first | refine ah ?_ | refine zo ?_))
     refine ae ?_
     exact fin _ false (by rw [hoa,hl];rfl) (by simp [aJ,List.replicate])
    | false =>
     by_cases k0:k=0
     ·have f0:decide ((k:Int)=0)=true:=by simp;omega
      repeat refine ag ?_
      refine zr af ?_
      repeat (refine aa ?_;first | (apply ai;rfl;simp only [aj,avs,tts,seval,Bool.not_false,f0]<;>exact rr) | (refine zg rfl ?_;first | refine ah ?_ | refine zo ?_))
      refine ae ?_
      exact fin _ true (by rw [hoa,hl];simp [k0]) (by simp [aJ,List.replicate])
     ·have f0:decide ((k:Int)=0)=false:=by simp;omega
      by_cases c95:c=95
      ·have f1:decide ((c:Int)=95)=true:=by simp;omega
       repeat refine ag ?_
       refine zr af ?_
       repeat (refine aa ?_;first | (apply ai;rfl;simp only [aj,avs,tts,seval,Bool.not_false,Bool.not_true,f0,f1]<;>exact rr) | (refine zg rfl ?_;first | refine ah ?_ | refine zo ?_))
       refine ae ?_
       exact fin _ false (by rw [hoa,hl];simp [k0,c95]) (by simp [aJ,List.replicate])
      ·have f1:decide ((c:Int)=95)=false:=by simp;omega
       by_cases c48:c<48
       ·have f2:decide ((c:Int)<48)=true:=by simp;omega
        repeat refine ag ?_
        refine zr af ?_
        repeat (refine aa ?_;first | (apply ai;rfl;simp only [aj,avs,tts,seval,Bool.not_false,Bool.not_true,f0,f1,f2]<;>exact rr) | (refine zg rfl ?_;first | refine ah ?_ | refine zo ?_))
        refine ae ?_
        exact fin _ true (by rw [hoa,hl];simp [c95,t8];omega) (by simp [aJ,List.replicate])
       ·have f2:decide ((c:Int)<48)=false:=by simp;omega
        by_cases c57:c≤57
        ·have f3:decide ((c:Int)>57)=false:=by simp;omega
         repeat refine ag ?_
         refine zr af ?_
         repeat (refine aa ?_;first | (apply ai;rfl;simp only [aj,avs,tts,seval,Bool.not_false,Bool.not_true,f0,f1,f2,f3]<;>exact rr) | (refine zg rfl ?_;first | refine ah ?_ | refine zo ?_))
         refine ae ?_
         exact fin _ false (by rw [hoa,hl];simp [k0,t8];omega) (by simp [aJ,List.replicate])
        ·have f3:decide ((c:Int)>57)=true:=by simp;omega
         repeat refine ag ?_
         refine zr af ?_
         repeat (refine aa ?_;first | (apply ai;rfl;simp only [aj,avs,tts,seval,Bool.not_false,Bool.not_true,f0,f1,f2,f3]<;>exact rr) | (refine zg rfl ?_;first | refine ah ?_ | refine zo ?_))
         refine ae ?_
         exact fin _ true (by rw [hoa,hl];simp [c95,t8];omega) (by simp [aJ,List.replicate])
   rintro env K3 ⟨rfl,rfl⟩
   simp only [rp]
   cases ho:jg t k with
   | false =>
    repeat refine ag ?_
    refine am rfl rfl (fun hb => ?_) fun hb => ?_
    ·repeat refine ag ?_
     refine zr af ?_
     repeat (refine aa ?_;first | (apply ai;rfl;simp only [aj,avs,tts,seval]<;>exact rr) | (refine zg rfl ?_;first | refine ah ?_ | refine zo ?_))
     refine ae ?_
     exact aw ⟨_,rfl,[],by simp,by rw [rE hlt ho];rfl⟩
    ·cases hb
   | true =>
    repeat refine ag ?_
    refine am rfl rfl (fun hb => ?_) fun hb => ?_
    ·cases hb
    refine ap ?_
    have w1:IntKind.i64.wrap ((k:Int)+1)=((k+1:Nat):Int):=by rw [IntKind.wrap_i64];omega
    show AW _ _ _ _ _
    repeat refine ag ?_
    refine zr af ?_
    repeat (refine aa ?_;first | (apply ai;rfl;simp only [aj,avs,tts,seval,w1]<;>exact rr) | (refine zg rfl ?_;first | refine ah ?_ | refine zo ?_))
    refine ae ?_
    refine ⟨t.size - (k+1),_,_,by omega,⟨?_,.inl rfl⟩,k+1,rfl,hlt,fun i hi => ?_,rfl,rfl⟩
    ·simp [aJ,List.replicate]
    ·rcases Nat.lt_succ_iff_lt_or_eq.1 hi with h | h
     ·exact hok i h
     ·rw [h];exact ho
  ·cases hb
 ·have hk2:k=t.size:=by omega
  have g0:decide ((k:Int)<(t.size:Int))=false:=by simpa using hlt
  have hal:=oY (t:=t) fun i hi=>hok i (by omega)
  repeat refine ag ?_
  refine zr af ?_
  repeat (refine aa ?_;first | (apply ai;rfl;simp only [aj,avs,tts,seval,g0]<;>exact rr) | (refine zg rfl ?_;first | refine ah ?_ | refine zo ?_))
  refine ae ?_
  repeat refine ag ?_
  refine am rfl rfl (fun hb => ?_) fun hb => ?_
  ·cases hb
  refine aq ?_
  rw [hal]
  show AW _ _ _ _ _
  cases he:decide (t=⟨#[]⟩) with
  | true =>
   repeat refine ag ?_
   refine zr af ?_
   repeat (refine aa ?_;first | (apply ai;rfl;simp only [aj,avs,tts,seval,he,Bool.not_true,Bool.not_false]<;>exact rr) | (refine zg rfl ?_;first | refine ah ?_ | refine zo ?_))
   refine ae ?_
   exact aw ⟨_,rfl,[],by simp,rfl⟩
  | false =>
   have h24:decide ((t.size:Int)≤24)=decide (t.size≤24):=decide_eq_decide.2 (by omega)
   repeat refine ag ?_
   refine zr af ?_
   repeat (refine aa ?_;first | (apply ai;rfl;simp only [aj,avs,tts,seval,he,h24,Bool.not_true,Bool.not_false]<;>exact rr) | (refine zg rfl ?_;first | refine ah ?_ | refine zo ?_))
   refine ae ?_
   exact aw ⟨_,rfl,[],by simp,rfl⟩
end
end Av
end Go.Proofs.YtdekcppfpgeneaaGreatDoor
namespace Go.Proofs.YtdekcppfpgeneaaGreatDoor
namespace Nt
theorem ww {n d n' d':Nat} (hd:0<d) (hd':0<d') (h:n * d'=n' * d):n / Nat.gcd n d=n' / Nat.gcd n' d'∧d / Nat.gcd n d=d' / Nat.gcd n' d':=by
 have hg:0<Nat.gcd n d:=Nat.gcd_pos_of_pos_right _ hd
 have hg':0<Nat.gcd n' d':=Nat.gcd_pos_of_pos_right _ hd'
 have c1:=Nat.coprime_div_gcd_div_gcd hg
 have c2:=Nat.coprime_div_gcd_div_gcd hg'
 obtain ⟨a,ha⟩:=Nat.gcd_dvd_left n d
 obtain ⟨b,hb⟩:=Nat.gcd_dvd_right n d
 obtain ⟨a',ha'⟩:=Nat.gcd_dvd_left n' d'
 obtain ⟨b',hb'⟩:=Nat.gcd_dvd_right n' d'
 generalize Nat.gcd n d=g at *
 generalize Nat.gcd n' d'=g' at *
 subst ha hb ha' hb'
 rw [Nat.mul_div_cancel_left _ hg,Nat.mul_div_cancel_left _ hg] at *
 rw [Nat.mul_div_cancel_left _ hg',Nat.mul_div_cancel_left _ hg'] at *
 have e:a * b'=a' * b:=by
  have:(g * g') * (a * b')=(g * g') * (a' * b):=by
   calc (g * g') * (a * b')=(g * a) * (g' * b'):=by simp only [Nat.mul_left_comm,Nat.mul_comm,Nat.mul_assoc]
    _=(g' * a') * (g * b):=h
    _=(g * g') * (a' * b):=by simp only [Nat.mul_left_comm,Nat.mul_comm,Nat.mul_assoc]
  exact Nat.eq_of_mul_eq_mul_left (Nat.mul_pos hg hg') this
 have d1:b ∣ b':=c1.symm.dvd_of_dvd_mul_left ⟨a',by rw [e,Nat.mul_comm]⟩
 have d2:b' ∣ b:=c2.symm.dvd_of_dvd_mul_left ⟨a,by rw [←e,Nat.mul_comm]⟩
 have eb:=Nat.dvd_antisymm d1 d2
 subst eb
 have hb0:0<b:=by rcases Nat.eq_zero_or_pos b with h | h;subst h;simp at hd;exact h
 exact ⟨Nat.eq_of_mul_eq_mul_right hb0 e,rfl⟩
theorem AZ {n d:Nat} (hd:0<d):0<d / Nat.gcd n d:=Nat.div_pos (Nat.le_of_dvd hd (Nat.gcd_dvd_right n d)) (Nat.gcd_pos_of_pos_right _ hd)
theorem A0 {n d:Nat} (hd:0<d):Nat.gcd (n / Nat.gcd n d) (d / Nat.gcd n d)=1:=(Nat.coprime_div_gcd_div_gcd (Nat.gcd_pos_of_pos_right _ hd)).gcd_eq_one
theorem wt {n N:Nat} (hN:0<N):N % (N / Nat.gcd n N)=0∧n / Nat.gcd n N * (N / (N / Nat.gcd n N))=n:=by
 have hg:0<Nat.gcd n N:=Nat.gcd_pos_of_pos_right _ hN
 obtain ⟨a,ha⟩:=Nat.gcd_dvd_left n N
 obtain ⟨b,hb⟩:=Nat.gcd_dvd_right n N
 generalize Nat.gcd n N=g at *
 subst ha hb
 have hb0:0<b:=by rcases Nat.eq_zero_or_pos b with h | h;subst h;simp at hN;exact h
 rw [Nat.mul_div_cancel_left _ hg,Nat.mul_div_cancel_left _ hg,Nat.mul_div_cancel _ hb0,Nat.mul_mod_left]
 exact ⟨rfl,Nat.mul_comm _ _⟩
end Nt
end Go.Proofs.YtdekcppfpgeneaaGreatDoor
namespace Go.Proofs.YtdekcppfpgeneaaGreatDoor
open Go Go.RowKit
namespace Rg
open Av Nt
theorem lR:∀(l:List UInt8) (acc:Nat),l.all aM=true→Lib.decFrom acc l=some (acc * 10 ^ l.length+aG l)
 | [],acc,_=>by simp [Lib.decFrom,aG]
 | c::r,acc,h=>by
  rw [List.all_cons,Bool.and_eq_true] at h
  have hd:Lib.digitVal c=some (c.toNat - 48):=by
   have:=h.1
   unfold aM at this
   simp only [Bool.and_eq_true,decide_eq_true_eq] at this
   unfold Lib.digitVal
   rw [if_pos this]
  rw [Lib.decFrom,hd]
  simp only
  rw [lR r _ h.2]
  have e:aG (c::r)=(c.toNat - 48) * 10 ^ r.length+aG r:=by
   have:=cV [c] r
   simp only [List.singleton_append] at this
   rw [this]
   simp [aG]
  rw [e,List.length_cons,Nat.pow_succ,Nat.add_mul]
  congr 1
  rw [Nat.mul_comm (10 ^ r.length) 10,←Nat.mul_assoc,Nat.add_assoc]
theorem Ag {t:ByteArray} (h:fq t):Lib.atoi t.data.toList=some (bj t:Int):=by
 have hd:=h.digits
 have hp:=h.pos
 rw [Lib.size_eq] at hp
 unfold bj
 cases hl:t.data.toList with
 | nil=>rw [hl] at hp;simp at hp
 | cons c r =>
  rw [hl] at hd
  have hc:aM c=true:=by rw [List.all_cons,Bool.and_eq_true] at hd;exact hd.1
  unfold aM at hc
  simp only [Bool.and_eq_true,decide_eq_true_eq] at hc
  have h1:(c == 45)=false:=by
   rw [beq_eq_false_iff_ne];rintro rfl;revert hc;decide
  have h2:(c == 43)=false:=by
   rw [beq_eq_false_iff_ne];rintro rfl;revert hc;decide
  rw [Lib.atoi,h1,h2]
  simp only [Bool.false_eq_true,if_false,Lib.decNat,List.isEmpty_cons]
  rw [lR _ _ hd]
  simp
def cZ (r:Rt):Int:=if (dF r&&(!r.neg&&(decide (r.num.size≤4)&&decide (r.den.size≤4))))=true then (if bj r.num≤bj r.den∧6000 % bj r.den=0 then ((bj r.num * (6000 / bj r.den):Nat):Int) else 0) else 0
theorem oI {r:Rt} (h:dF r=true):fq r.num∧fq r.den∧bj r.den≠0:=by
 unfold dF at h
 split at h
 ·rename_i ho
  unfold okN at ho
  rw [Bool.and_eq_true] at ho
  refine ⟨dX ho.1,dX ho.2,fun e => ?_⟩
  rw [if_pos e] at h;cases h
 ·cases h
theorem qV {t:ByteArray} (h:fq t) (hs:t.size≤4):bj t<10000:=by
 have:=cA h.digits
 refine Nat.lt_of_lt_of_le this (Nat.le_trans (Nat.pow_le_pow_right (by decide) (by rw [←Lib.size_eq];exact hs)) (by decide))
theorem mI (r:Rt):0≤cZ r∧cZ r≤6000:=by
 unfold cZ
 split
 ·split
  ·rename_i h1 h2
   have h:=Nat.mul_le_mul_right (6000 / bj r.den) h2.1
   have h3:bj r.den * (6000 / bj r.den)≤6000:=Nat.mul_div_le _ _
   omega
  ·omega
 ·omega
end Rg
namespace Av
attribute [local irreducible] AW aL aH
open Nt Rg
section
variable (base:World)
theorem Ah (t:ByteArray) (h:fq t) (hs:t.size≤4):aI Tryz.prog base 70 [tA t] (.tup [iA (bj t),.d (.v .nilIface)]) :=
 lD Tryz.call70 fun s vs hs' ha=>by
  rw [Cn ha]
  refine (Tryz.strconv_Atoi t (bj t) (by omega) (Ag h) s.w).mono ?_
  rintro e w' ⟨rfl,tt0,rfl⟩
  have hv:=qV h hs
  refine ⟨_,rfl,Lib.bytesWorld_below _ _ _,fun s' _ _ => ?_⟩
  simp only [Rep]
  refine ⟨_,rfl,.cons ?_ (.cons ?_ .nil)⟩
  ·simp only [iA,Rep,aQ,true_and,small,IntKind.min,IntKind.max,IntKind.signed,IntKind.bits]
   (try simp)
   omega
  ·simp only [Rep,aQ,true_and,small]
set_option maxRecDepth 100000 in
set_option maxHeartbeats 4000000 in
theorem Aw {base:World} (hT:dt base) (r:Rt) (h1:r.num.size≤9223372036854775807) (h2:r.den.size≤9223372036854775807):aI Tryz.prog base 41 [fF r] (iA (cZ r)):=by
 have cv:=At hT r h1 h2
 refine aC af Tryz.call41 Tryz.func41 rfl fun H hB hb hF => ?_
 rw [Tryz.results41,Tryz.ntmps41]
 simp only [aA,List.length_cons,List.length_nil,List.replicate,List.cons_append,List.nil_append,Nat.reduceAdd,Nat.reduceSub]
 clear hF hb
 obtain ⟨neg,num,den⟩:=r
 have hvn:=oI (r:=⟨neg,num,den⟩)
 simp only at h1 h2 hvn
 unfold cZ
 simp only [fF,tA,iA] at cv ⊢
 obtain ⟨bv,hbv⟩:∃b,dF ⟨neg,num,den⟩=b:=⟨_,rfl⟩
 rw [hbv] at cv hvn ⊢
 obtain ⟨b1,e1⟩:∃d,decide (num.size≤4)=d:=⟨_,rfl⟩
 obtain ⟨b2,e2⟩:∃d,decide (den.size≤4)=d:=⟨_,rfl⟩
 have f1:decide ((num.size:Int)>4) = !b1:=by
  subst e1;by_cases h:num.size≤4
  ·rw [decide_eq_true h,decide_eq_false (by omega)];rfl
  ·rw [decide_eq_false h,decide_eq_true (by omega)];rfl
 have f2:decide ((den.size:Int)>4) = !b2:=by
  subst e2;by_cases h:den.size≤4
  ·rw [decide_eq_true h,decide_eq_false (by omega)];rfl
  ·rw [decide_eq_false h,decide_eq_true (by omega)];rfl
 rw [e1,e2]
 by_cases hg:(bv&&(!neg&&(b1&&b2)))=true
 ·rw [if_pos hg]
  simp only [Bool.and_eq_true,Bool.not_eq_true'] at hg
  obtain ⟨rfl,rfl,rfl,rfl⟩:=hg
  obtain ⟨hn,hd,h0⟩:=hvn rfl
  have s1:=of_decide_eq_true e1
  have s2:=of_decide_eq_true e2
  have c1:=Ah base num hn s1
  have c2:=Ah base den hd s2
  have v1:=qV hn s1
  have v2:=qV hd s2
  simp only [tA,iA] at c1 c2
  generalize bj num=n at *
  generalize bj den=d at *
  have z1:((d:Int)=0)=False:=eq_false (by omega)
  obtain ⟨q,hq⟩:∃q,6000 / d=q:=⟨_,rfl⟩
  obtain ⟨m,hm⟩:∃m,6000 % d=m:=⟨_,rfl⟩
  have q1:q≤6000:=hq ▸ Nat.div_le_self _ _
  have q2:d * q≤6000:=hq ▸ Nat.mul_div_le _ _
  have m1:m≤6000:=hm ▸ Nat.mod_le _ _
  have z2:(6000:Int).tmod (d:Int)=(m:Int):=by rw [←hm];rfl
  have z3:(6000:Int).tdiv (d:Int)=(q:Int):=by rw [←hq];rfl
  have z4:IntKind.i64.wrap (q:Int)=(q:Int):=by rw [IntKind.wrap_i64];omega
  have z5:IntKind.i64.wrap (m:Int)=(m:Int):=by rw [IntKind.wrap_i64];omega
  rw [hq,hm]
  obtain ⟨d1,g1⟩:∃c,decide ((n:Int)>(d:Int))=c:=⟨_,rfl⟩
  obtain ⟨d2,g2⟩:∃c,decide ((m:Int)=0)=c:=⟨_,rfl⟩
  have z6:d1=false→IntKind.i64.wrap ((n:Int) * (q:Int))=((n * q:Nat):Int):=fun hd1=>by
   have h1:n≤d:=by subst hd1;have:=of_decide_eq_false g1;omega
   have h2:=Nat.mul_le_mul_right q h1
   rw [←Int.natCast_mul,IntKind.wrap_i64]
   generalize n * q=nq at *
   omega
  have hif:(n≤d∧m=0)=(d1=false∧d2=true):=by
   subst g1 g2
   simp only [decide_eq_false_iff_not,decide_eq_true_eq]
   exact propext ⟨fun h=>⟨by omega,by omega⟩,fun h=>⟨by omega,by omega⟩⟩
  simp only [hif]
  repeat' (first | (refine aa ?_;first | (refine zg rfl ?_;first | refine ah ?_ | refine zo ?_ | (refine zs ?_ ?_<;>intro hb<;>((try simp only [bn] at hb);first | subst hb | simp only [hb]))) | (apply ai;rfl;simp only [aj,avs,tts,seval,f1,f2,z1,z2,z3,z4,z5,g1,g2,Bool.not_true,Bool.not_false]<;>exact rr) | (refine za rfl ?_;first | refine zp (cv) ?_ | refine zp (c1) ?_ | refine zp (c2) ?_)) | refine ae ?_ | (refine ak ?_;first | (refine yg rfl ?_;first | refine ar ?_ | refine yo ?_ | (refine ys ?_ ?_<;>intro hb<;>((try simp only [bn] at hb);first | subst hb | simp only [hb]))) | (apply au;rfl;simp only [aB,avs,tts,seval,f1,f2,z1,z2,z3,z4,z5,g1,g2,Bool.not_true,Bool.not_false]<;>exact rr;first | trivial | omega) | (refine ya rfl ?_;first | refine yp (cv) ?_ | refine yp (c1) ?_ | refine yp (c2) ?_)) | refine al ?_ | refine ag ?_ | refine zr af ?_ | refine zR 0 af mixed ?_ | refine zR 1 af mixed ?_ | refine zR 2 af mixed ?_ | refine zR 3 af mixed ?_ | refine zf rfl rfl ?_ | refine zt rfl rfl ?_ | (refine am rfl rfl ?_ ?_<;>intro hb<;>((try simp only [bn] at hb);first | subst hb | simp only [hb])) | refine ap ?_ | refine aq ?_ | refine an ?_)
  all_goals (simp only [Bool.false_eq_true,and_true,and_false,false_and,true_and,if_true,if_false,reduceCtorEq])
  all_goals first
   | (show AW _ _ _ _ _;exact aw ⟨_,rfl,_,rfl,rfl⟩)
   | (rw [z6 rfl];show AW _ _ _ _ _;exact aw ⟨_,rfl,_,rfl,rfl⟩)
 ·rw [if_neg hg]
  clear hbv e1 e2 hvn
  have hg':(bv&&(!neg&&(b1&&b2)))=false:=by simpa using hg
  clear hg
  repeat' (first | (refine aa ?_;first | (refine zg rfl ?_;first | refine ah ?_ | refine zo ?_ | (refine zs ?_ ?_<;>intro hb<;>((try simp only [bn] at hb);first | subst hb | simp only [hb]))) | (apply ai;rfl;simp only [aj,avs,tts,seval,f1,f2,Bool.not_true,Bool.not_false]<;>exact rr) | (refine za rfl ?_;refine zp (cv) ?_)) | refine ae ?_ | (refine ak ?_;first | (refine yg rfl ?_;first | refine ar ?_ | refine yo ?_ | (refine ys ?_ ?_<;>intro hb<;>((try simp only [bn] at hb);first | subst hb | simp only [hb]))) | (apply au;rfl;simp only [aB,avs,tts,seval,f1,f2,Bool.not_true,Bool.not_false]<;>exact rr;first | trivial | omega) | (refine ya rfl ?_;refine yp (cv) ?_)) | refine al ?_ | refine ag ?_ | refine zr af ?_ | refine zR 0 af mixed ?_ | refine zR 1 af mixed ?_ | refine zR 2 af mixed ?_ | refine zR 3 af mixed ?_ | refine zf rfl rfl ?_ | refine zt rfl rfl ?_ | (refine am rfl rfl ?_ ?_<;>intro hb<;>((try simp only [bn] at hb);first | subst hb | simp only [hb])) | refine ap ?_ | refine aq ?_ | refine an ?_)
  all_goals first
   | (exfalso;revert hg';decide)
   | (show AW _ _ _ _ _;exact aw ⟨_,rfl,_,rfl,rfl⟩)
end
end Av
end Go.Proofs.YtdekcppfpgeneaaGreatDoor
namespace Go.Proofs.YtdekcppfpgeneaaGreatDoor
open Go Go.RowKit
namespace Rg
open Av Nt
def cD {κ:Type} [DecidableEq κ] (ks:List κ) (k:κ):List κ:=if k∈ks then ks else ks++[k]
def g9 {κ:Type} [DecidableEq κ] (f:κ→AV) (k:κ) (v:AV):κ→AV:=fun x=>if x=k then v else f x
def mpE {κ:Type} (enc:κ→Value) (ks:List κ) (f:κ→AV):List (Value × AV):=ks.map fun k=>(enc k,f k)
section
variable {κ:Type} [DecidableEq κ] {enc:κ→Value}
omit [DecidableEq κ] in
theorem pX (ks:List κ) (f:κ→AV):(mpE enc ks f).length=ks.length:=List.length_map _
theorem dJ {ks:List κ} (h:ks.Nodup) (k:κ):(cD ks k).Nodup:=by
 unfold cD
 split
 ·exact h
 ·rename_i hk
  rw [List.nodup_append]
  refine ⟨h,by simp,?_⟩
  intro a ha b hb e
  simp only [List.mem_singleton] at hb
  subst hb e
  exact hk ha
theorem fb {ks:List κ} {k x:κ}:x∈cD ks k↔x∈ks∨x=k:=by
 unfold cD
 split
 ·rename_i hk
  constructor
  ·exact .inl
  ·rintro (h | rfl)
   ·exact h
   ·exact hk
 ·simp
variable (hk:∀a b,keyEq (enc a) (enc b)=decide (a=b))
include hk
theorem pY {f:κ→AV} {k:κ}:∀{ks:List κ},k∈ks→io (mpE enc ks f) (enc k)=some (f k)
 | [],h=>by cases h
 | a::r,h=>by
  unfold io mpE
  simp only [List.map_cons,List.find?_cons,hk]
  by_cases e:k=a
  ·subst e;simp
  ·have:k∈r:=by simpa [e] using h
   rw [decide_eq_false e]
   exact pY this
theorem ng {f:κ→AV} {k:κ}:∀{ks:List κ},¬k∈ks→io (mpE enc ks f) (enc k)=none
 | [],_=>rfl
 | a::r,h=>by
  unfold io mpE
  simp only [List.mem_cons,not_or] at h
  simp only [List.map_cons,List.find?_cons,hk]
  rw [decide_eq_false h.1]
  exact ng h.2
theorem fY {f:κ→AV} {k:κ} {ks:List κ} {z:AV} (h0:¬k∈ks→f k=z):(io (mpE enc ks f) (enc k)).getD z=f k:=by
 by_cases h:k∈ks
 ·rw [pY hk h];rfl
 ·rw [ng hk h,h0 h];rfl
theorem kM {f:κ→AV} {k:κ}:∀{ks:List κ},¬k∈ks→fZ (mpE enc ks f) (enc k)=none
 | [],_=>rfl
 | a::r,h=>by
  simp only [List.mem_cons,not_or] at h
  have ih:=kM (f:=f) h.2
  unfold fZ mpE at ih ⊢
  simp only [List.map_cons,List.findIdx?_cons,hk]
  rw [decide_eq_false h.1,ih]
  rfl
theorem nh {f:κ→AV} {k:κ}:∀{ks:List κ},k∈ks→∃i,fZ (mpE enc ks f) (enc k)=some i∧ks[i]?=some k
 | [],h=>by cases h
 | a::r,h=>by
  by_cases e:k=a
  ·subst e
   refine ⟨0,?_,rfl⟩
   unfold fZ mpE
   simp only [List.map_cons,List.findIdx?_cons,hk]
   simp
  ·have:k∈r:=by simpa [e] using h
   obtain ⟨i,h1,h2⟩:=nh (f:=f) this
   refine ⟨i+1,?_,by simpa using h2⟩
   unfold fZ mpE at h1 ⊢
   simp only [List.map_cons,List.findIdx?_cons,hk]
   rw [decide_eq_false e,h1]
   rfl
theorem nb {ks:List κ} (hn:ks.Nodup) (f:κ→AV) (k:κ) (v:AV):kL (mpE enc ks f) (enc k) v=mpE enc (cD ks k) (g9 f k v):=by
 unfold kL cD
 by_cases h:k∈ks
 ·obtain ⟨i,h1,h2⟩:=nh hk (f:=f) h
  rw [h1,if_pos h]
  simp only
  unfold mpE
  apply List.ext_getElem?
  intro j
  rw [List.getElem?_modify,List.getElem?_map,List.getElem?_map]
  cases hj:ks[j]? with
  | none=>by_cases e:i=j<;>simp [e]
  | some x =>
   by_cases e:i=j
   ·subst e
    rw [h2] at hj
    cases hj
    simp [g9]
   ·have hx:x≠k:=fun ex=>by
     subst ex
     have a1:=(List.getElem?_eq_some_iff.1 h2)
     have a2:=(List.getElem?_eq_some_iff.1 hj)
     obtain ⟨l1,g1⟩:=a1
     obtain ⟨l2,g2⟩:=a2
     have hp:=List.pairwise_iff_getElem.1 hn
     rcases Nat.lt_or_gt_of_ne e with h | h
     ·exact hp i j l1 l2 h (g1.trans g2.symm)
     ·exact hp j i l2 l1 h (g2.trans g1.symm)
    simp [e,g9,hx]
 ·rw [kM hk h,if_neg h]
  simp only
  unfold mpE
  rw [List.map_append]
  congr 1
  ·apply List.map_congr_left
   intro x hx
   have:x≠k:=fun e=>h (e ▸ hx)
   simp [g9,this]
  ·simp [g9]
end
theorem A5 (a b:ByteArray):keyEq (.string a) (.string b)=decide (a=b):=by simp [keyEq,eqV]
def encS (s:ByteArray):Value := .string s
theorem rQ (a b:ByteArray):keyEq (encS a) (encS b)=decide (a=b):=A5 a b
def ey (ks:List ByteArray):List (Value × AV):=mpE encS ks fun _ => .d (.v (.bool true))
theorem pR {ks:List ByteArray} {k:ByteArray} (h:k∈ks):io (ey ks) (.string k)=some (.d (.v (.bool true))):=pY rQ h
theorem mU {ks:List ByteArray} {k:ByteArray} (h:¬k∈ks):io (ey ks) (.string k)=none:=ng rQ h
theorem ic {ks:List ByteArray} (hn:ks.Nodup) (k:ByteArray):kL (ey ks) (.string k) (.d (.v (.bool true)))=ey (cD ks k):=by
 have:=nb rQ hn (fun _=>AV.d (.v (.bool true))) k (.d (.v (.bool true)))
 unfold ey
 have e:g9 (fun _=>AV.d (.v (.bool true))) k (.d (.v (.bool true)))=fun _=>AV.d (.v (.bool true)):=by
  funext x;simp [g9]
 rw [e] at this
 exact this
end Rg
end Go.Proofs.YtdekcppfpgeneaaGreatDoor
namespace Go.Proofs.YtdekcppfpgeneaaGreatDoor
open Go Go.RowKit
namespace Rg
open Av Nt
def AY (l:List ByteArray) (s:ByteArray):Bool:=l.any fun x=>decide (x=s)
theorem rF {l:List ByteArray} {s:ByteArray}:AY l s=true↔s∈l:=by
 unfold AY
 rw [List.any_eq_true]
 constructor
 ·rintro ⟨x,h,e⟩
  have:=of_decide_eq_true e
  exact this ▸ h
 ·exact fun h=>⟨s,h,decide_eq_true rfl⟩
theorem uP {l:List ByteArray} {s:ByteArray}:AY l s=false↔¬s∈l:=by
 rw [←rF];simp
def pr1 (h:Hd):Bool:=bL h.id&&(bL h.company&&(bL h.holder&&(tE h.nominee&&(tE h.pledged&&(decide (h.joint.length≤4)&&(decide (h.nominee=⟨#[]⟩)||decide (h.joint.length=0)))))))
def pr2 (h:Hd):Bool:=h.joint.all bL&&decide ((h.holder::h.joint).Nodup)
def pr3 (h:Hd):Bool := !AY (h.holder::h.joint) h.company&&(!decide (h.company=h.nominee)&&(oq h.capital&&oq h.votes))
def pr4 (h:Hd):Bool:=gW h.fr&&(decide (h.til = -1)||(gW h.til&&decide (h.fr<h.til)))
def bl (h:Hd):Bool:=pr1 h&&(pr2 h&&(pr3 h&&pr4 h))
theorem zi {a:ByteArray} {l:List ByteArray} {k:Nat} (hk:k<l.length) (h:l[k]∈a::l.take k):¬(a::l).Nodup:=by
 intro hn
 have e:a::l=(a::l.take k)++(l[k]::l.drop (k+1)):=by
  rw [List.cons_append,←List.drop_eq_getElem_cons hk,List.take_append_drop]
 rw [e,List.nodup_append] at hn
 exact hn.2.2 _ h _ (List.mem_cons_self ..) rfl
theorem tS {a:ByteArray} {l:List ByteArray} {k:Nat} (hk:k<l.length) (hn:(a::l.take k).Nodup) (h:¬l[k]∈a::l.take k):cD (a::l.take k) l[k]=a::l.take (k+1)∧(a::l.take (k+1)).Nodup:=by
 have e:a::l.take (k+1)=(a::l.take k)++[l[k]]:=by rw [List.take_add_one,List.getElem?_eq_getElem hk];rfl
 constructor
 ·rw [cD,if_neg h,e]
 ·rw [e,List.nodup_append]
  refine ⟨hn,by simp,?_⟩
  intro x hx y hy e2
  simp only [List.mem_singleton] at hy
  subst hy e2
  exact h hx
theorem cI {l:List ByteArray} {k:Nat} (h:k<l.length):(l.map fun s=>[PD.v (.string s)]).getD k []=[PD.v (.string l[k])]:=by simp [h]
theorem rz {h:Hd} (e:pr2 h=false):bl h=false:=by rw [bl,e];cases pr1 h<;>rfl
end Rg
end Go.Proofs.YtdekcppfpgeneaaGreatDoor
namespace Go.Proofs.YtdekcppfpgeneaaGreatDoor
open Go Go.RowKit
namespace Av
attribute [local irreducible] AW aL aH
open Nt Rg
section
variable (base:World)
set_option maxRecDepth 100000 in
theorem B0 (t:ByteArray) (ht:t.size≤9223372036854775807):aI Tryz.prog base 72 [tA t] (boA (tE t)):=by
 have cn:=kK base t ht
 obtain ⟨b1,h1⟩:∃b,decide (t=⟨#[]⟩)=b:=⟨_,rfl⟩
 unfold tE
 refine aC af Tryz.call72 Tryz.func72 rfl fun H hB hb hF => ?_
 rw [Tryz.results72,Tryz.ntmps72]
 simp only [aA,List.length_cons,List.length_nil,List.replicate,List.cons_append,List.nil_append,Nat.reduceAdd,Nat.reduceSub]
 clear hF hb
 simp only [tA] at cn ⊢
 rw [h1]
 generalize bL t=b2 at cn ⊢
 repeat' (first | (refine aa ?_;first | (refine zg rfl ?_;first | refine ah ?_ | refine zo ?_ | (refine zs ?_ ?_<;>intro hb<;>((try simp only [bn] at hb);first | subst hb | simp only [hb]))) | (apply ai;rfl;simp only [aj,avs,tts,seval,h1]<;>exact rr) | (refine za rfl ?_;refine zp (cn) ?_)) | refine ae ?_ | (refine ak ?_;first | (refine yg rfl ?_;first | refine ar ?_ | refine yo ?_ | (refine ys ?_ ?_<;>intro hb<;>((try simp only [bn] at hb);first | subst hb | simp only [hb]))) | (apply au;rfl;simp only [aB,avs,tts,seval,h1]<;>exact rr;first | trivial | omega) | (refine ya rfl ?_;refine yp (cn) ?_)) | refine al ?_ | refine ag ?_ | refine zr af ?_ | refine cS af mixed (by kernel_rfl) (by kernel_rfl) (by kernel_rfl) ?_ | refine zf rfl rfl ?_ | refine zt rfl rfl ?_ | (refine am rfl rfl ?_ ?_<;>intro hb<;>((try simp only [bn] at hb);first | subst hb | simp only [hb])) | refine ap ?_ | refine aq ?_ | refine an ?_)
 all_goals exact aw ⟨_,rfl,[],by simp,rfl⟩
set_option maxRecDepth 100000 in
set_option maxHeartbeats 16000000 in
theorem ry (h:Hd) (hs:Small h):aI Tryz.prog base 44 [hdA h] (boA (bl h)):=by
 have n1:=kK base h.id hs.id
 have n2:=kK base h.company hs.company
 have n3:=kK base h.holder hs.holder
 have n4:=B0 base h.nominee hs.nominee
 have n5:=B0 base h.pledged hs.pledged
 have q1:=BZ base h.capital
 have q2:=BZ base h.votes
 have q3:=zO base h.fr
 have q4:=zO base h.til
 have hjn:∀(k:Nat) (hk:k<h.joint.length),aI Tryz.prog base 39 [tA h.joint[k]] (boA (bL h.joint[k])):=fun k hk=>kK base _ (hs.joint _ (List.getElem_mem hk))
 have hjl:=hs.jlen
 have no2:=fun e=>rz (h:=h) e
 obtain ⟨P,hP⟩:∃P,P=bl h:=⟨_,rfl⟩
 have hP1:=hP
 unfold bl pr1 pr3 pr4 at hP1
 rw [←hP] at no2 ⊢
 clear hs hP
 have e2:pr2 h=(h.joint.all bL&&decide ((h.holder::h.joint).Nodup)):=rfl
 obtain ⟨P2,hP2⟩:∃P2,P2=pr2 h:=⟨_,rfl⟩
 rw [←hP2] at hP1 no2 e2
 clear hP2
 obtain ⟨id,company,holder,nominee,pledged,joint,capital,votes,fr,til⟩:=h
 simp only at n1 n2 n3 n4 n5 q1 q2 q3 q4 no2 hjn hjl hP1 e2
 simp only [tA,iA] at n1 n2 n3 n4 n5 q1 q2 q3 q4 hjn
 generalize bL id=b1 at n1 hP1
 generalize bL company=b2 at n2 hP1
 generalize bL holder=b3 at n3 hP1
 generalize tE nominee=b4 at n4 hP1
 generalize tE pledged=b5 at n5 hP1
 obtain ⟨b6,h6⟩:∃b,decide ((joint.length:Int)>4)=b:=⟨_,rfl⟩
 obtain ⟨b7,h7⟩:∃b,decide (nominee=⟨#[]⟩)=b:=⟨_,rfl⟩
 obtain ⟨b8,h8⟩:∃b,decide ((joint.length:Int)>0)=b:=⟨_,rfl⟩
 have g6:decide (joint.length≤4) = !b6:=by rw [←h6,←decide_not];exact decide_eq_decide.2 (by omega)
 have g8:decide (joint.length=0) = !b8:=by rw [←h8,←decide_not];exact decide_eq_decide.2 (by omega)
 rw [g6,h7,g8] at hP1
 clear g6 g8
 refine aC af Tryz.call44 Tryz.func44 rfl fun H hB hb hF => ?_
 rw [Tryz.results44,Tryz.ntmps44]
 simp only [aA,List.length_cons,List.length_nil,List.replicate,List.cons_append,List.nil_append,Nat.reduceAdd,Nat.reduceSub]
 clear hF hb
 simp only [iA,hdA,hdL,tA,bq]
 repeat refine ag ?_
 refine zr af ?_
 repeat (refine aa ?_;first | (apply ai;rfl;simp only [aj,avs,tts,seval]<;>exact rr) | (refine zg rfl ?_;first | refine ah ?_ | refine zo ?_))
 refine ae ?_
 repeat refine ag ?_
 refine zr af ?_
 repeat (refine aa ?_;first | (apply ai;rfl;simp only [aj,avs,tts,seval]<;>exact rr) | (refine zg rfl ?_;first | refine ah ?_ | refine zo ?_))
 refine ae ?_
 obtain ⟨Y,hY⟩:∃Y,Y=(b1&&(b2&&(b3&&(b4&&(b5&&(!b6&&(b7 || !b8))))))):=⟨_,rfl⟩
 rw [←hY] at hP1
 repeat refine ag ?_
 refine eh (Q0:=fun env K=>K=H++[.box 36 [.d (.v (.string id)),.d (.v (.string company)),.d (.v (.string holder)),.d (.v (.string nominee)),.d (.v (.string pledged)),.d (.sl 1 (joint.map fun s=>[PD.v (.string s)])),.d (.v (.int .i64 capital)),.d (.v (.int .i64 votes)),.d (.v (.int .i64 fr)),.d (.v (.int .i64 til))]]∧env=(.undef :: .ptr H.length 0 :: .d (.v (.bool false))::List.replicate 50 .undef ++ .d (.v (.bool (!Y)))::List.replicate 65 .undef)) ?_ ?_
 ·repeat' (first | (refine aa ?_;first | (refine zg rfl ?_;first | refine ah ?_ | refine zo ?_ | (refine zs ?_ ?_<;>intro hb<;>((try simp only [bn] at hb);first | subst hb | simp only [hb]))) | (apply ai;rfl;simp only [aj,avs,tts,seval,h6,h7,h8]<;>exact rr) | (refine za rfl ?_;first | refine zp (n1) ?_ | refine zp (n2) ?_ | refine zp (n3) ?_ | refine zp (n4) ?_ | refine zp (n5) ?_)) | refine ae ?_ | (refine ak ?_;first | (refine yg rfl ?_;first | refine ar ?_ | refine yo ?_ | (refine ys ?_ ?_<;>intro hb<;>((try simp only [bn] at hb);first | subst hb | simp only [hb]))) | (apply au;rfl;simp only [aB,avs,tts,seval,h6,h7,h8]<;>exact rr;first | trivial | omega) | (refine ya rfl ?_;first | refine yp (n1) ?_ | refine yp (n2) ?_ | refine yp (n3) ?_ | refine yp (n4) ?_ | refine yp (n5) ?_)) | refine al ?_ | refine ag ?_ | refine zr af ?_ | refine cS af mixed (by kernel_rfl) (by kernel_rfl) (by kernel_rfl) ?_ | refine zf rfl rfl ?_ | refine zt rfl rfl ?_ | (refine am rfl rfl ?_ ?_<;>intro hb<;>((try simp only [bn] at hb);first | subst hb | simp only [hb])) | refine ap ?_ | refine aq ?_ | refine an ?_)
  all_goals exact ⟨rfl,_,_,⟨by simp [aJ,List.replicate,hY],.inl rfl⟩,rfl,rfl⟩
 rintro env K ⟨rfl,rfl⟩
 simp only [rp]
 clear n1 n2 n3 n4 n5 hY h6 h8
 cases Y with
 | false =>
  repeat' (first | (refine aa ?_;first | (refine zg rfl ?_;first | refine ah ?_ | refine zo ?_ | (refine zs ?_ ?_<;>intro hb<;>((try simp only [bn] at hb);first | subst hb | simp only [hb]))) | (apply ai;rfl;simp only [aj,avs,tts,seval]<;>exact rr)) | refine ae ?_ | (refine ak ?_;first | (refine yg rfl ?_;first | refine ar ?_ | refine yo ?_ | (refine ys ?_ ?_<;>intro hb<;>((try simp only [bn] at hb);first | subst hb | simp only [hb]))) | (apply au;rfl;simp only [aB,avs,tts,seval]<;>exact rr;first | trivial | omega)) | refine al ?_ | refine ag ?_ | refine zr af ?_ | refine cS af mixed (by kernel_rfl) (by kernel_rfl) (by kernel_rfl) ?_ | refine zf rfl rfl ?_ | refine zt rfl rfl ?_ | (refine am rfl rfl ?_ ?_<;>intro hb<;>((try simp only [bn] at hb);first | subst hb | simp only [hb])) | refine ap ?_ | refine aq ?_ | refine an ?_)
  rw [hP1]
  exact aw ⟨_,rfl,_,rfl,rfl⟩
 | true =>
 have ksh:∀x,bo (.one .str) (.string x)=true:=fun _=>rfl
 have ms0:kL [] (.string holder) (.d (.v (.bool true)))=ey [holder]:=rfl
 repeat refine ag ?_
 refine am rfl rfl (fun hb => ?_) fun hb => ?_
 ·cases hb
 refine ap ?_
 repeat refine ag ?_
 refine zr af ?_
 repeat (refine aa ?_;first | (apply ai;rfl;simp only [aj,avs,tts,seval,ksh,ms0]<;>exact rr) | (refine zg rfl ?_;first | refine ah ?_ | refine zo ?_))
 refine ae ?_
 repeat refine ag ?_
 refine zr af ?_
 repeat (refine aa ?_;first | (apply ai;rfl;simp only [aj,avs,tts,seval]<;>exact rr) | (refine zg rfl ?_;first | refine ah ?_ | refine zo ?_))
 refine ae ?_
 repeat refine ag ?_
 refine an (aZ (H0:=H++[.box 36 [.d (.v (.string id)),.d (.v (.string company)),.d (.v (.string holder)),.d (.v (.string nominee)),.d (.v (.string pledged)),.d (.sl 1 (joint.map fun s=>[PD.v (.string s)])),.d (.v (.int .i64 capital)),.d (.v (.int .i64 votes)),.d (.v (.int .i64 fr)),.d (.v (.int .i64 til))],.mp 9 4 (.one .str) (ey [holder])]) (fun r env K2=>∃k,r=joint.length - k∧k≤joint.length∧(∀(i:Nat) (hi:i<joint.length),i<k→bL joint[i]=true)∧(holder::joint.take k).Nodup∧K2=H++[.box 36 [.d (.v (.string id)),.d (.v (.string company)),.d (.v (.string holder)),.d (.v (.string nominee)),.d (.v (.string pledged)),.d (.sl 1 (joint.map fun s=>[PD.v (.string s)])),.d (.v (.int .i64 capital)),.d (.v (.int .i64 votes)),.d (.v (.int .i64 fr)),.d (.v (.int .i64 til))],.mp 9 4 (.one .str) (ey (holder::joint.take k))]∧env=(.undef :: .ptr H.length 0 :: .d (.v (.bool false)) :: .undef :: .mp (H.length+1)::List.replicate 54 .undef ++ .d (.sl 1 (joint.map fun s=>[PD.v (.string s)])) :: .d (.v (.int .i64 (joint.length:Int))) :: .d (.v (.int .i64 (k:Int)))::List.replicate 57 .undef)) ?_ ⟨0,rfl,Nat.zero_le _,fun i hi h0=>by omega,by simp,rfl,rfl⟩ ?_)
 ·exact ⟨by simp [aJ,List.replicate],.inl rfl⟩
 rintro r env K2 ⟨k,rfl,hk,hok,hnd,rfl,rfl⟩ hN
 simp only [rp]
 obtain ⟨c0,g0⟩:∃c0,decide ((k:Int)<(joint.length:Int))=c0:=⟨_,rfl⟩
 repeat refine ag ?_
 refine zr af ?_
 repeat (refine aa ?_;first | (apply ai;rfl;simp only [aj,avs,tts,seval,g0]<;>exact rr) | (refine zg rfl ?_;first | refine ah ?_ | refine zo ?_))
 refine ae ?_
 cases c0 with
 | true =>
  have hlt:k<joint.length:=by simpa using g0
  have hix:(0:Int)≤(k:Int):=by omega
  have hg:=cI hlt
  have cj:=hjn k hlt
  have w1:IntKind.i64.wrap ((k:Int)+1)=((k+1:Nat):Int):=by rw [IntKind.wrap_i64];omega
  repeat refine ag ?_
  refine am rfl rfl (fun hb => ?_) fun hb => ?_
  ·refine ap ?_
   repeat refine ag ?_
   refine an ?_
   obtain ⟨c1,hc1⟩:∃c1,bL joint[k]=c1:=⟨_,rfl⟩
   rw [hc1] at cj
   cases c1 with
   | false =>
    repeat' (first | (refine aa ?_;first | (refine zg rfl ?_;first | refine ah ?_ | refine zo ?_ | (refine zs ?_ ?_<;>intro hb<;>((try simp only [bn] at hb);first | subst hb | simp only [hb]))) | (apply ai;rfl;simp only [aj,avs,tts,seval,hix,hlt,hg]<;>exact rr) | (refine za rfl ?_;refine zp (cj) ?_)) | refine ae ?_ | (refine ak ?_;first | (refine yg rfl ?_;first | refine ar ?_ | refine yo ?_ | (refine ys ?_ ?_<;>intro hb<;>((try simp only [bn] at hb);first | subst hb | simp only [hb]))) | (apply au;rfl;simp only [aB,avs,tts,seval,hix,hlt,hg]<;>exact rr;first | trivial | omega) | (refine ya rfl ?_;refine yp (cj) ?_)) | refine al ?_ | refine ag ?_ | refine zr af ?_ | refine cS af mixed (by kernel_rfl) (by kernel_rfl) (by kernel_rfl) ?_ | refine zf rfl rfl ?_ | refine zt rfl rfl ?_ | (refine am rfl rfl ?_ ?_<;>intro hb<;>((try simp only [bn] at hb);first | subst hb | simp only [hb])) | refine ap ?_ | refine aq ?_ | refine an ?_)
    have hal:joint.all bL=false:=by rw [List.all_eq_false];exact ⟨_,List.getElem_mem hlt,by rw [hc1];simp⟩
    rw [no2 (by rw [e2,hal];rfl)]
    exact aw ⟨_,rfl,_,rfl,rfl⟩
   | true =>
    by_cases hin:joint[k]∈holder::joint.take k
    ·have hmg:=pR hin
     repeat' (first | (refine aa ?_;first | (refine zg rfl ?_;first | refine ah ?_ | refine zo ?_ | (refine zs ?_ ?_<;>intro hb<;>((try simp only [bn] at hb);first | subst hb | simp only [hb]))) | (apply ai;rfl;simp only [aj,avs,tts,seval,hix,hlt,hg,ksh,hmg]<;>exact rr) | (refine za rfl ?_;refine zp (cj) ?_)) | refine ae ?_ | (refine ak ?_;first | (refine yg rfl ?_;first | refine ar ?_ | refine yo ?_ | (refine ys ?_ ?_<;>intro hb<;>((try simp only [bn] at hb);first | subst hb | simp only [hb]))) | (apply au;rfl;simp only [aB,avs,tts,seval,hix,hlt,hg,ksh,hmg]<;>exact rr;first | trivial | omega) | (refine ya rfl ?_;refine yp (cj) ?_)) | refine al ?_ | refine ag ?_ | refine zr af ?_ | refine cS af mixed (by kernel_rfl) (by kernel_rfl) (by kernel_rfl) ?_ | refine zf rfl rfl ?_ | refine zt rfl rfl ?_ | (refine am rfl rfl ?_ ?_<;>intro hb<;>((try simp only [bn] at hb);first | subst hb | simp only [hb])) | refine ap ?_ | refine aq ?_ | refine an ?_)
     rw [no2 (by rw [e2,decide_eq_false (zi hlt hin),Bool.and_false])]
     exact aw ⟨_,rfl,_,rfl,rfl⟩
    ·have hmg:=mU hin
     have hst:=tS hlt hnd hin
     have hms:=ic hnd joint[k]
     rw [hst.1] at hms
     repeat' (first | (refine aa ?_;first | (refine zg rfl ?_;first | refine ah ?_ | refine zo ?_ | (refine zs ?_ ?_<;>intro hb<;>((try simp only [bn] at hb);first | subst hb | simp only [hb]))) | (apply ai;rfl;simp only [aj,avs,tts,seval,hix,hlt,hg,ksh,hmg,hms,w1]<;>exact rr) | (refine za rfl ?_;refine zp (cj) ?_)) | refine ae ?_ | (refine ak ?_;first | (refine yg rfl ?_;first | refine ar ?_ | refine yo ?_ | (refine ys ?_ ?_<;>intro hb<;>((try simp only [bn] at hb);first | subst hb | simp only [hb]))) | (apply au;rfl;simp only [aB,avs,tts,seval,hix,hlt,hg,ksh,hmg,hms,w1]<;>exact rr;first | trivial | omega) | (refine ya rfl ?_;refine yp (cj) ?_)) | refine al ?_ | refine ag ?_ | refine zr af ?_ | refine cS af mixed (by kernel_rfl) (by kernel_rfl) (by kernel_rfl) ?_ | refine zf rfl rfl ?_ | refine zt rfl rfl ?_ | (refine am rfl rfl ?_ ?_<;>intro hb<;>((try simp only [bn] at hb);first | subst hb | simp only [hb])) | refine ap ?_ | refine aq ?_ | refine an ?_)
     refine ⟨joint.length - (k+1),_,_,by omega,⟨?_,.inl rfl⟩,k+1,rfl,hlt,fun i hi h0 => ?_,hst.2,rfl,rfl⟩
     ·simp [aJ,List.replicate]
     ·rcases Nat.lt_succ_iff_lt_or_eq.1 h0 with h | h
      ·exact hok i hi h
      ·subst h;exact hc1
  ·cases hb
 | false =>
  have hk2:k=joint.length:=by
                   have:¬k<joint.length:=by simpa using g0
                   omega
  subst hk2
  rw [List.take_length] at hnd ⊢
  have hal:joint.all bL=true:=by rw [List.all_eq_true];intro x hx;obtain ⟨i,hi,rfl⟩:=List.getElem_of_mem hx;exact hok i hi hi
  rw [hal,decide_eq_true hnd] at e2
  subst e2
  clear no2 hok hk hN hjn
  repeat refine ag ?_
  refine am rfl rfl (fun hb => ?_) fun hb => ?_
  ·cases hb
  refine aq ?_
  show AW _ _ _ _ _
  generalize oq capital=c3 at q1 hP1
  generalize oq votes=c4 at q2 hP1
  generalize gW fr=c5 at q3 hP1
  generalize gW til=c6 at q4 hP1
  obtain ⟨c2,z2⟩:∃b,decide (company=nominee)=b:=⟨_,rfl⟩
  obtain ⟨c7,z7⟩:∃b,decide (til = -1)=b:=⟨_,rfl⟩
  obtain ⟨c8,z8⟩:∃b,decide (fr<til)=b:=⟨_,rfl⟩
  have z8':decide (til>fr)=c8:=z8
  rw [z2,z7,z8] at hP1
  by_cases m1:company∈holder::joint
  ·have hmg:=pR m1
   rw [rF.2 m1] at hP1
   repeat' (first | (refine aa ?_;first | (refine zg rfl ?_;first | refine ah ?_ | refine zo ?_ | (refine zs ?_ ?_<;>intro hb<;>((try simp only [bn] at hb);first | subst hb | simp only [hb]))) | (apply ai;rfl;simp only [aj,avs,tts,seval,ksh,hmg]<;>exact rr)) | refine ae ?_ | (refine ak ?_;first | (refine yg rfl ?_;first | refine ar ?_ | refine yo ?_ | (refine ys ?_ ?_<;>intro hb<;>((try simp only [bn] at hb);first | subst hb | simp only [hb]))) | (apply au;rfl;simp only [aB,avs,tts,seval,ksh,hmg]<;>exact rr;first | trivial | omega)) | refine al ?_ | refine ag ?_ | refine zr af ?_ | refine cS af mixed (by kernel_rfl) (by kernel_rfl) (by kernel_rfl) ?_ | refine zf rfl rfl ?_ | refine zt rfl rfl ?_ | (refine am rfl rfl ?_ ?_<;>intro hb<;>((try simp only [bn] at hb);first | subst hb | simp only [hb])) | refine ap ?_ | refine aq ?_ | refine an ?_)
   rw [hP1]
   exact aw ⟨_,rfl,_,rfl,rfl⟩
  have hmg:=mU m1
  rw [uP.2 m1] at hP1
  repeat' (first | (refine aa ?_;first | (refine zg rfl ?_;first | refine ah ?_ | refine zo ?_ | (refine zs ?_ ?_<;>intro hb<;>((try simp only [bn] at hb);first | subst hb | simp only [hb]))) | (apply ai;rfl;simp only [aj,avs,tts,seval,ksh,hmg,z2,z7,z8']<;>exact rr) | (refine za rfl ?_;first | refine zp (q1) ?_ | refine zp (q2) ?_ | refine zp (q3) ?_ | refine zp (q4) ?_)) | refine ae ?_ | (refine ak ?_;first | (refine yg rfl ?_;first | refine ar ?_ | refine yo ?_ | (refine ys ?_ ?_<;>intro hb<;>((try simp only [bn] at hb);first | subst hb | simp only [hb]))) | (apply au;rfl;simp only [aB,avs,tts,seval,ksh,hmg,z2,z7,z8']<;>exact rr;first | trivial | omega) | (refine ya rfl ?_;first | refine yp (q1) ?_ | refine yp (q2) ?_ | refine yp (q3) ?_ | refine yp (q4) ?_)) | refine al ?_ | refine ag ?_ | refine zr af ?_ | refine cS af mixed (by kernel_rfl) (by kernel_rfl) (by kernel_rfl) ?_ | refine zf rfl rfl ?_ | refine zt rfl rfl ?_ | (refine am rfl rfl ?_ ?_<;>intro hb<;>((try simp only [bn] at hb);first | subst hb | simp only [hb])) | refine ap ?_ | refine aq ?_ | refine an ?_)
  all_goals (rw [hP1];exact aw ⟨_,rfl,_,rfl,rfl⟩)
end
end Av
end Go.Proofs.YtdekcppfpgeneaaGreatDoor
namespace Go.Proofs.YtdekcppfpgeneaaGreatDoor
open Go Go.RowKit
namespace Rg
open Av Nt
def bB {α:Type} (p:α→Bool) (f:α→Int):List α→Int
 | []=>0
 | h::r=>(if p h then f h else 0)+bB p f r
section
variable {α:Type} {p q:α→Bool} {f g:α→Int}
theorem mM (p:α→Bool) (f:α→Int):∀(a b:List α),bB p f (a++b)=bB p f a+bB p f b
 | [],b=>by simp [bB]
 | h::r,b=>by simp only [List.cons_append,bB,mM p f r b];omega
theorem vS (p:α→Bool) (f:α→Int) {a b:List α} (h:a.Perm b):bB p f a=bB p f b:=by
 induction h with
 | nil=>rfl
 | cons x _ ih=>simp only [bB,ih]
 | swap x y l=>simp only [bB];omega
 | trans _ _ h1 h2=>exact h1.trans h2
theorem dl:∀{l:List α},(∀h∈l,p h=true→0≤f h)→0≤bB p f l
 | [],_=>by simp [bB]
 | h::r,hn=>by
  have:=dl (l:=r) fun x hx=>hn x (List.mem_cons_of_mem _ hx)
  have h0:=hn h (List.mem_cons_self ..)
  simp only [bB]
  split
  ·rename_i e;have:=h0 e;omega
  ·omega
theorem mL:∀{l:List α},(∀h∈l,p h=q h∧(p h=true→f h=g h))→bB p f l=bB q g l
 | [],_=>rfl
 | h::r,hn=>by
  have:=mL (l:=r) fun x hx=>hn x (List.mem_cons_of_mem _ hx)
  obtain ⟨h1,h2⟩:=hn h (List.mem_cons_self ..)
  simp only [bB,this,←h1]
  split
  ·rename_i e;rw [h2 e]
  ·rfl
theorem mg:∀{l:List α},(∀h∈l,(if p h then f h else 0)≤(if q h then g h else 0))→bB p f l≤bB q g l
 | [],_=>by simp [bB]
 | h::r,hn=>by
  have:=mg (l:=r) fun x hx=>hn x (List.mem_cons_of_mem _ hx)
  have h0:=hn h (List.mem_cons_self ..)
  simp only [bB]
  omega
theorem ku (p:α→Bool) (f:α→Int) (a:List α) (x:α):bB p f (a++[x])=bB p f a+(if p x then f x else 0):=by
 rw [mM];simp [bB]
theorem dS (p:α→Bool) (f:α→Int) (l:List α) {k:Nat} (hk:k<l.length):bB p f (l.take (k+1))=bB p f (l.take k)+(if p l[k] then f l[k] else 0):=by
 rw [List.take_add_one,List.getElem?_eq_getElem hk]
 exact ku ..
theorem gF {l:List α} (hn:∀h∈l,p h=true→0≤f h) (k:Nat):bB p f (l.take k)≤bB p f l:=by
 have e:bB p f l=bB p f (l.take k)+bB p f (l.drop k):=by rw [←mM,List.take_append_drop]
 have:=dl (p:=p) (f:=f) (l:=l.drop k) fun x hx=>hn x (List.mem_of_mem_drop hx)
 omega
theorem iU:∀{l:List α},(∀h∈l,p h=true→f h=0)→bB p f l=0
 | [],_=>rfl
 | h::r,hn=>by
  have:=iU (l:=r) fun x hx=>hn x (List.mem_cons_of_mem _ hx)
  have h0:=hn h (List.mem_cons_self ..)
  simp only [bB,this]
  split
  ·rename_i e;rw [h0 e];rfl
  ·rfl
theorem pK {l:List α} (h:bB p f l≠0):∃x∈l,p x=true:=by
 refine Classical.byContradiction fun hn=>h (iU fun x hx e=>absurd ⟨x,hx,e⟩ hn)
end
def df {κ:Type} [DecidableEq κ] (xs:List κ):List κ:=xs.foldl cD []
section
variable {κ:Type} [DecidableEq κ]
theorem tK (xs:List κ) (x:κ):df (xs++[x])=cD (df xs) x:=by simp [df]
theorem gk (xs:List κ):∀ks:List κ,ks.Nodup→(xs.foldl cD ks).Nodup:=by
 induction xs with
 | nil=>exact fun ks h=>h
 | cons x r ih=>exact fun ks h=>ih _ (dJ h x)
theorem nk (xs:List κ):∀(ks:List κ) (x:κ),x∈xs.foldl cD ks↔x∈ks∨x∈xs:=by
 induction xs with
 | nil=>exact fun ks x=>by simp
 | cons a r ih=>exact fun ks x=>by rw [List.foldl_cons,ih,fb];simp [or_assoc]
theorem fw (xs:List κ):(df xs).Nodup:=gk xs [] List.nodup_nil
theorem iW {xs:List κ} {x:κ}:x∈df xs↔x∈xs:=by rw [df,nk];simp
end
def leT (a b:ByteArray):Bool:=decide (a.data.toList≤b.data.toList)
def ltT (a b:ByteArray):Bool:=decide (a.data.toList<b.data.toList)
theorem sE {a b:ByteArray} (h:a.data.toList=b.data.toList):a=b:=by
 cases a;cases b;simp at h;subst h;rfl
theorem wB (a b c:ByteArray) (h:leT a b=true) (k:leT b c=true):leT a c=true:=by
 simp only [leT,decide_eq_true_eq] at *
 exact List.le_trans h k
theorem wC (a b:ByteArray):(leT a b||leT b a)=true:=by
 simp only [leT,Bool.or_eq_true,decide_eq_true_eq]
 exact List.le_total _ _
theorem gL {a b:ByteArray} (h:leT a b=true) (k:leT b a=true):a=b:=by
 simp only [leT,decide_eq_true_eq] at *
 exact sE (List.le_antisymm h k)
theorem pZ {a b:ByteArray}:ltT a b=true↔leT a b=true∧a≠b:=by
 simp only [leT,ltT,decide_eq_true_eq]
 constructor
 ·intro h
  exact ⟨List.le_of_lt h,fun e=>by subst e;exact List.lt_irrefl _ h⟩
 ·rintro ⟨h,hne⟩
  rcases Classical.em (a.data.toList<b.data.toList) with h1 | h1
  ·exact h1
  ·exact absurd (sE (List.le_antisymm h (List.not_lt.1 h1))) hne
def jG (l:List ByteArray):List ByteArray:=l.mergeSort leT
theorem fD {α:Type} {r:α→α→Prop} (hanti:∀a b,r a b→r b a→a=b):∀{l m:List α},l.Pairwise r→m.Pairwise r→l.Nodup→m.Nodup→(∀x,x∈l↔x∈m)→l=m
 | [],[],_,_,_,_,_=>rfl
 | [],b::m,_,_,_,_,h=>by have:=(h b).2 (List.mem_cons_self ..);cases this
 | a::l,[],_,_,_,_,h=>by have:=(h a).1 (List.mem_cons_self ..);cases this
 | a::l,b::m,hl,hm,nl,nm,h=>by
  rw [List.pairwise_cons] at hl hm
  rw [List.nodup_cons] at nl nm
  have e:a=b:=by
   rcases List.mem_cons.1 ((h a).1 (List.mem_cons_self ..)) with e | e
   ·exact e
   rcases List.mem_cons.1 ((h b).2 (List.mem_cons_self ..)) with e2 | e2
   ·exact e2.symm
   exact hanti _ _ (hl.1 _ e2) (hm.1 _ e)
  subst e
  congr 1
  refine fD hanti hl.2 hm.2 nl.2 nm.2 fun x => ?_
  constructor
  ·intro hx
   rcases List.mem_cons.1 ((h x).1 (List.mem_cons_of_mem _ hx)) with e | e
   ·subst e;exact absurd hx nl.1
   ·exact e
  ·intro hx
   rcases List.mem_cons.1 ((h x).2 (List.mem_cons_of_mem _ hx)) with e | e
   ·subst e;exact absurd hx nm.1
   ·exact e
theorem gH (l:List ByteArray):(jG l).Perm l:=List.mergeSort_perm l leT
theorem gG (l:List ByteArray):(jG l).Pairwise fun a b=>leT a b=true:=List.pairwise_mergeSort wB wC l
theorem kw {l:List ByteArray} {x:ByteArray}:x∈jG l↔x∈l:=(gH l).mem_iff
theorem lA {l:List ByteArray} (h:l.Nodup):(jG l).Nodup:=(gH l).nodup_iff.2 h
theorem xQ {l m:List ByteArray} (hl:l.Nodup) (hm:m.Nodup) (hs:m.Pairwise fun a b=>leT a b=true) (h:∀x,x∈l↔x∈m):jG l=m :=
 fD (fun a b=>gL) (gG l) hs (lA hl) hm fun x=>kw.trans (h x)
def bu (h:Hd):List ByteArray:=h.company::h.holder::((h.nominee::h.pledged::h.joint).filter fun s => !decide (s=⟨#[]⟩))
def ay (l:List Hd):List ByteArray:=jG (df (l.flatMap bu))
theorem dv {l:List Hd} {x:ByteArray}:x∈ay l↔∃h∈l,x∈bu h:=by
 rw [ay,kw,iW,List.mem_flatMap]
theorem dp (l:List Hd):(ay l).Nodup:=lA (fw _)
theorem eO (l:List Hd):(ay l).Pairwise fun a b=>leT a b=true:=gG _
def inB (day:Int) (c:ByteArray) (h:Hd):Bool:=cF h day&&decide (h.company=c)
def en (l:List Hd) (day:Int) (c:ByteArray):Int:=bB (inB day c) Hd.capital l
def dR (l:List Hd) (day:Int) (c:ByteArray):Int:=bB (inB day c) Hd.votes l
def okC (l:List Hd) (day:Int) (c:ByteArray):Bool:=decide (en l day c≤100)&&decide (dR l day c≤100)
def onB (l:List Hd) (day:Int):Bool:=l.all fun h => !cF h day||okC l day h.company
def fA (l:List Hd):Bool:=l.all fun h=>onB l h.fr
def lO (l:List Hd) (id:ByteArray):Int:=match l.findIdx? fun h=>decide (h.id=id) with
 | some i=>(i:Int)
 | none => -1
def bN (l:List Hd):Bool:=(l.all bl&&decide ((l.map Hd.id).Nodup))&&(decide (l.length≤400)&&(decide ((ay l).length≤60)&&fA l))
end Rg
end Go.Proofs.YtdekcppfpgeneaaGreatDoor
namespace Go.Proofs.YtdekcppfpgeneaaGreatDoor
open Go Go.RowKit
namespace Av
attribute [local irreducible] AW aL aH
open Nt Rg
def qf (p:Hd→Bool) (l:List Hd):Int:=match l.findIdx? p with
 | some i=>(i:Int)
 | none => -1
theorem wH {p:Hd→Bool} {l:List Hd} {k:Nat} (hk:k<l.length) (hj:∀j,j<k→∀h:j<l.length,p l[j]=false) (h:p l[k]=true):qf p l=k:=by
 unfold qf
 rw [show l.findIdx? p=some k from by
  rw [List.findIdx?_eq_some_iff_getElem]
  exact ⟨hk,h,fun j hjk=>by simp [hj j hjk (by omega)]⟩]
theorem wI {p:Hd→Bool} {l:List Hd} (hj:∀j,j<l.length→∀h:j<l.length,p l[j]=false):qf p l = -1:=by
 unfold qf
 rw [show l.findIdx? p=none from by
  rw [List.findIdx?_eq_none_iff]
  intro x hx
  obtain ⟨i,hi,rfl⟩:=List.mem_iff_getElem.1 hx
  exact hj i hi hi]
theorem A8 {p:Hd→Bool} {l:List Hd}:decide (0≤qf p l)=l.any p:=by
 unfold qf
 cases h:l.findIdx? p with
 | none =>
  rw [List.findIdx?_eq_none_iff] at h
  have:l.any p=false:=by rw [List.any_eq_false];exact fun x hx=>by simp [h x hx]
  rw [this];rfl
 | some i =>
  rw [List.findIdx?_eq_some_iff_getElem] at h
  obtain ⟨h1,h2,_⟩:=h
  have:l.any p=true:=List.any_eq_true.2 ⟨_,List.getElem_mem h1,h2⟩
  rw [this]
  simp
theorem iY {l:List Hd} {k:Nat} (h:k<l.length):(l.map hdC).getD k []=hdC l[k]:=by simp [h]
theorem dY (l:List Hd):(l.map hdC).length=l.length:=List.length_map _
section
variable {base:World}
set_option maxRecDepth 100000 in
set_option maxHeartbeats 4000000 in
theorem rT {H:av} (l:List Hd) (p:Hd→Bool) (g:Nat) (caps:List AV) (hg:∀h∈l,da Tryz.prog base g ([hdA h]++caps) H (boA (p h))):da Tryz.prog base 74 [.d (cO l),.fn (.func g) [] caps] H (iA (qf p l)):=by
 refine cC af Tryz.call74 Tryz.func74 rfl fun hB hb hF => ?_
 rw [Tryz.results74,Tryz.ntmps74]
 simp only [aA,List.length_cons,List.length_nil,List.replicate,List.cons_append,List.nil_append,Nat.reduceAdd,Nat.reduceSub]
 have hL:l.length≤9223372036854775807:=by simpa [cO,ox,kW,wV] using hF.1.1
 clear hF hb
 have hln:=dY l
 simp only [iA,cO]
 repeat refine ag ?_
 refine zr af ?_
 repeat (refine aa ?_;first | (apply ai;rfl;simp only [aj,avs,tts,seval,hln]<;>exact rr) | (refine zg rfl ?_;first | refine ah ?_ | refine zo ?_))
 refine ae ?_
 repeat refine ag ?_
 refine zr af ?_
 repeat (refine aa ?_;first | (apply ai;rfl;simp only [aj,avs,tts,seval,hln]<;>exact rr) | (refine zg rfl ?_;first | refine ah ?_ | refine zo ?_))
 refine ae ?_
 repeat refine ag ?_
 refine an (aZ (H0:=H) (fun n env H'=>∃k,n=l.length - k∧k≤l.length∧H'=H∧(∀j,j<k→∀h:j<l.length,p l[j]=false)∧env=(.d (.sl 10 (l.map hdC)) :: .fn (.func g) [] caps :: .undef :: .undef :: .undef :: .undef :: .undef :: .d (.v (.int .i64 (l.length:Int))) :: .d (.v (.int .i64 (k:Int)))::List.replicate 10 .undef)) ?_ ⟨0,rfl,Nat.zero_le _,rfl,fun j hj=>by omega,rfl⟩ ?_)
 ·exact ⟨by simp [aJ,List.replicate],.inl rfl⟩
 rintro n env H' ⟨k,rfl,hk,rfl,hj,rfl⟩ hN
 simp only [rp]
 obtain ⟨c0,g0⟩:∃c0,decide ((k:Int)<(l.length:Int))=c0:=⟨_,rfl⟩
 repeat refine ag ?_
 refine zr af ?_
 repeat (refine aa ?_;first | (apply ai;rfl;simp only [aj,avs,tts,seval,g0]<;>exact rr) | (refine zg rfl ?_;first | refine ah ?_ | refine zo ?_))
 refine ae ?_
 cases c0 with
 | true =>
  have hlt:k<l.length:=by simpa using g0
  have hix:(0:Int)≤(k:Int):=by omega
  have hgd:=iY hlt
  have cg:=hg _ (List.getElem_mem hlt)
  obtain ⟨c1,h1⟩:∃c1,p l[k]=c1:=⟨_,rfl⟩
  rw [h1] at cg
  have w1:=aP hlt hL
  simp only [hdA,hdL,tA,iA,List.cons_append,List.nil_append] at cg
  simp only [hdC] at hgd
  cases c1 with
  | true =>
   repeat' (first | (refine aa ?_;first | (refine zg rfl ?_;first | refine ah ?_ | refine zo ?_ | (refine zs ?_ ?_<;>intro hb<;>((try simp only [bn] at hb);first | subst hb | simp only [hb]))) | (apply ai;rfl;simp only [aj,avs,tts,seval,hix,hlt,hgd,hln]<;>exact rr) | (refine za rfl ?_;refine zd (cg) ?_)) | refine ae ?_ | (refine ak ?_;first | (refine yg rfl ?_;first | refine ar ?_ | refine yo ?_ | (refine ys ?_ ?_<;>intro hb<;>((try simp only [bn] at hb);first | subst hb | simp only [hb]))) | (apply au;rfl;simp only [aB,avs,tts,seval,hix,hlt,hgd,hln]<;>exact rr;first | trivial | omega) | (refine ya rfl ?_;refine yd (cg) ?_)) | refine al ?_ | refine ag ?_ | refine zr af ?_ | refine cS af mixed (by kernel_rfl) (by kernel_rfl) (by kernel_rfl) ?_ | refine zf rfl rfl ?_ | refine zt rfl rfl ?_ | (refine am rfl rfl ?_ ?_<;>intro hb<;>((try simp only [bn] at hb);first | subst hb | simp only [hb])) | refine ap ?_ | refine aq ?_ | refine an ?_)
   exact aw ⟨_,rfl,[],by simp,by rw [wH hlt hj h1];rfl⟩
  | false =>
   repeat' (first | (refine aa ?_;first | (refine zg rfl ?_;first | refine ah ?_ | refine zo ?_ | (refine zs ?_ ?_<;>intro hb<;>((try simp only [bn] at hb);first | subst hb | simp only [hb]))) | (apply ai;rfl;simp only [aj,avs,tts,seval,hix,hlt,hgd,hln,w1]<;>exact rr) | (refine za rfl ?_;refine zd (cg) ?_)) | refine ae ?_ | (refine ak ?_;first | (refine yg rfl ?_;first | refine ar ?_ | refine yo ?_ | (refine ys ?_ ?_<;>intro hb<;>((try simp only [bn] at hb);first | subst hb | simp only [hb]))) | (apply au;rfl;simp only [aB,avs,tts,seval,hix,hlt,hgd,hln,w1]<;>exact rr;first | trivial | omega) | (refine ya rfl ?_;refine yd (cg) ?_)) | refine al ?_ | refine ag ?_ | refine zr af ?_ | refine cS af mixed (by kernel_rfl) (by kernel_rfl) (by kernel_rfl) ?_ | refine zf rfl rfl ?_ | refine zt rfl rfl ?_ | (refine am rfl rfl ?_ ?_<;>intro hb<;>((try simp only [bn] at hb);first | subst hb | simp only [hb])) | refine ap ?_ | refine aq ?_ | refine an ?_)
   refine ⟨l.length - (k+1),_,_,by omega,⟨?_,.inl rfl⟩,k+1,rfl,hlt,rfl,fun j hjk h => ?_,rfl⟩
   ·simp [aJ,List.replicate]
   ·rcases Nat.lt_succ_iff_lt_or_eq.1 hjk with h2 | rfl
    ·exact hj j h2 h
    ·exact h1
 | false =>
  have hkL:k=l.length:=by
                 have:¬k<l.length:=by simpa using g0
                 omega
  repeat' (first | (refine aa ?_;first | (refine zg rfl ?_;first | refine ah ?_ | refine zo ?_ | (refine zs ?_ ?_<;>intro hb<;>((try simp only [bn] at hb);first | subst hb | simp only [hb]))) | (apply ai;rfl;simp only [aj,avs,tts,seval]<;>exact rr)) | refine ae ?_ | (refine ak ?_;first | (refine yg rfl ?_;first | refine ar ?_ | refine yo ?_ | (refine ys ?_ ?_<;>intro hb<;>((try simp only [bn] at hb);first | subst hb | simp only [hb]))) | (apply au;rfl;simp only [aB,avs,tts,seval]<;>exact rr;first | trivial | omega)) | refine al ?_ | refine ag ?_ | refine zr af ?_ | refine cS af mixed (by kernel_rfl) (by kernel_rfl) (by kernel_rfl) ?_ | refine zf rfl rfl ?_ | refine zt rfl rfl ?_ | (refine am rfl rfl ?_ ?_<;>intro hb<;>((try simp only [bn] at hb);first | subst hb | simp only [hb])) | refine ap ?_ | refine aq ?_ | refine an ?_)
  exact aw ⟨_,rfl,[],by simp,by rw [wI fun j hjl=>hj j (by omega)];rfl⟩
set_option maxRecDepth 100000 in
theorem sH {H:av} (l:List Hd) (p:Hd→Bool) (g:Nat) (caps:List AV) (hg:∀h∈l,da Tryz.prog base g ([hdA h]++caps) H (boA (p h))):da Tryz.prog base 77 [.d (cO l),.fn (.func g) [] caps] H (boA (l.any p)):=by
 have c:=rT l p g caps hg
 rw [←A8]
 obtain ⟨i,hi⟩:∃i,qf p l=i:=⟨_,rfl⟩
 rw [hi] at c ⊢
 simp only [iA] at c
 refine cC af Tryz.call77 Tryz.func77 rfl fun hB hb hF => ?_
 rw [Tryz.results77,Tryz.ntmps77]
 simp only [aA,List.length_cons,List.length_nil,List.replicate,List.cons_append,List.nil_append,Nat.reduceAdd,Nat.reduceSub]
 clear hF hb
 repeat' (first | (refine aa ?_;first | (refine zg rfl ?_;first | refine ah ?_ | refine zo ?_ | (refine zs ?_ ?_<;>intro hb<;>((try simp only [bn] at hb);first | subst hb | simp only [hb]))) | (apply ai;rfl;simp only [aj,avs,tts,seval]<;>exact rr) | (refine za rfl ?_;refine zd (c) ?_)) | refine ae ?_ | (refine ak ?_;first | (refine yg rfl ?_;first | refine ar ?_ | refine yo ?_ | (refine ys ?_ ?_<;>intro hb<;>((try simp only [bn] at hb);first | subst hb | simp only [hb]))) | (apply au;rfl;simp only [aB,avs,tts,seval]<;>exact rr;first | trivial | omega) | (refine ya rfl ?_;refine yd (c) ?_)) | refine al ?_ | refine ag ?_ | refine zr af ?_ | refine cS af mixed (by kernel_rfl) (by kernel_rfl) (by kernel_rfl) ?_ | refine zf rfl rfl ?_ | refine zt rfl rfl ?_ | (refine am rfl rfl ?_ ?_<;>intro hb<;>((try simp only [bn] at hb);first | subst hb | simp only [hb])) | refine ap ?_ | refine aq ?_ | refine an ?_)
 exact aw ⟨_,rfl,[],by simp,rfl⟩
theorem Bd {H:av} (h:Hd) (id:ByteArray) {lb:Nat} (hid:H[lb]?=some (.box 9 [tA id])):da Tryz.prog base 75 [hdA h,.ptr lb 0] H (boA (decide (h.id=id))):=by
 refine cC af Tryz.call75 Tryz.func75 rfl fun hB hb hF => ?_
 rw [Tryz.results75,Tryz.ntmps75]
 simp only [aA,List.length_cons,List.length_nil,List.replicate,List.cons_append,List.nil_append,Nat.reduceAdd,Nat.reduceSub]
 clear hF hb
 obtain ⟨hid0,company,holder,nominee,pledged,joint,capital,votes,fr,til⟩:=h
 simp only [hdA,hdL,tA,iA] at hid ⊢
 repeat' (first | (refine aa ?_;first | (refine zg rfl ?_;first | refine ah ?_ | refine zo ?_ | (refine zs ?_ ?_<;>intro hb<;>((try simp only [bn] at hb);first | subst hb | simp only [hb]))) | (apply ai;rfl;simp only [aj,avs,tts,seval,hid,got hid]<;>exact rr)) | refine ae ?_ | (refine ak ?_;first | (refine yg rfl ?_;first | refine ar ?_ | refine yo ?_ | (refine ys ?_ ?_<;>intro hb<;>((try simp only [bn] at hb);first | subst hb | simp only [hb]))) | (apply au;rfl;simp only [aB,avs,tts,seval,hid,got hid]<;>exact rr;first | trivial | omega)) | refine al ?_ | refine ag ?_ | refine zr af ?_ | refine cS af mixed (by kernel_rfl) (by kernel_rfl) (by kernel_rfl) ?_ | refine zf rfl rfl ?_ | refine zt rfl rfl ?_ | (refine am rfl rfl ?_ ?_<;>intro hb<;>((try simp only [bn] at hb);first | subst hb | simp only [hb])) | refine ap ?_ | refine aq ?_ | refine an ?_)
 exact aw ⟨_,rfl,_,rfl,rfl⟩
theorem wJ (l:List Hd) (id:ByteArray):qf (fun h=>decide (h.id=id)) l=lO l id:=rfl
theorem CR (l:List Hd) (id:ByteArray):aI Tryz.prog base 45 [.d (cO l),tA id] (iA (lO l id)):=by
 refine aC af Tryz.call45 Tryz.func45 rfl fun H hB hb hF => ?_
 rw [Tryz.results45,Tryz.ntmps45]
 simp only [aA,List.length_cons,List.length_nil,List.replicate,List.cons_append,List.nil_append,Nat.reduceAdd,Nat.reduceSub]
 clear hF hb
 have c:=rT (base:=base) (H:=H++[.box 9 [tA id]]) l (fun h=>decide (h.id=id)) 75 [.ptr H.length 0] (fun h hh=>Bd h id (by simp))
 rw [wJ] at c
 obtain ⟨i,hi⟩:∃i,lO l id=i:=⟨_,rfl⟩
 rw [hi] at c ⊢
 simp only [tA,iA] at c ⊢
 repeat' (first | (refine aa ?_;first | (refine zg rfl ?_;first | refine ah ?_ | refine zo ?_ | (refine zs ?_ ?_<;>intro hb<;>((try simp only [bn] at hb);first | subst hb | simp only [hb]))) | (apply ai;rfl;simp only [aj,avs,tts,seval]<;>exact rr) | (refine za rfl ?_;refine zd (c) ?_)) | refine ae ?_ | (refine ak ?_;first | (refine yg rfl ?_;first | refine ar ?_ | refine yo ?_ | (refine ys ?_ ?_<;>intro hb<;>((try simp only [bn] at hb);first | subst hb | simp only [hb]))) | (apply au;rfl;simp only [aB,avs,tts,seval]<;>exact rr;first | trivial | omega) | (refine ya rfl ?_;refine yd (c) ?_)) | refine al ?_ | refine ag ?_ | refine zr af ?_ | refine cS af mixed (by kernel_rfl) (by kernel_rfl) (by kernel_rfl) ?_ | refine zf rfl rfl ?_ | refine zt rfl rfl ?_ | (refine am rfl rfl ?_ ?_<;>intro hb<;>((try simp only [bn] at hb);first | subst hb | simp only [hb])) | refine ap ?_ | refine aq ?_ | refine an ?_)
 exact aw ⟨_,rfl,_,rfl,rfl⟩
end
end Av
end Go.Proofs.YtdekcppfpgeneaaGreatDoor
namespace Go.Proofs.YtdekcppfpgeneaaGreatDoor
open Go Go.RowKit
namespace Rg
open Av Nt
theorem mr {t:ByteArray} (h:bL t=true):t≠emp:=by
 unfold bL at h
 simp only [Bool.and_eq_true,Bool.not_eq_true',decide_eq_false_iff_not] at h
 exact h.2.1
structure Prp (h:Hd):Prop where
 id:bL h.id=true
 company:bL h.company=true
 holder:bL h.holder=true
 nominee:h.nominee=emp∨bL h.nominee=true
 pledged:h.pledged=emp∨bL h.pledged=true
 joint4:h.joint.length≤4
 alone:h.nominee=emp∨h.joint=[]
 joint:∀t∈h.joint,bL t=true
 nodup:(h.holder::h.joint).Nodup
 own:¬h.company∈h.holder::h.joint
 nom:h.company≠h.nominee
 pct:oq h.capital=true∧oq h.votes=true
 days:pr4 h=true
theorem dn (h:Hd):bl h=true↔Prp h:=by
 unfold bl pr1 pr2 pr3 tE
 simp only [Bool.and_eq_true,Bool.or_eq_true,Bool.not_eq_true',decide_eq_true_eq,decide_eq_false_iff_not,List.all_eq_true,uP]
 constructor
 ·rintro ⟨⟨h1,h2,h3,h4,h5,h6,h7⟩,⟨h8,h9⟩,⟨h10,h11,h12⟩,h13⟩
  exact ⟨h1,h2,h3,h4,h5,h6,h7.imp id (fun e=>List.length_eq_zero_iff.1 e),h8,h9,h10,h11,h12,h13⟩
 ·rintro ⟨h1,h2,h3,h4,h5,h6,h7,h8,h9,h10,h11,h12,h13⟩
  exact ⟨⟨h1,h2,h3,h4,h5,h6,h7.imp id (fun e=>List.length_eq_zero_iff.2 e)⟩,⟨h8,h9⟩,⟨h10,h11,h12⟩,h13⟩
end Rg
end Go.Proofs.YtdekcppfpgeneaaGreatDoor
namespace Go.Proofs.YtdekcppfpgeneaaGreatDoor
open Go Go.RowKit
namespace Rg
open Av Nt
theorem sS {P:Nat→Prop} {k:Nat} (h:∀i,i<k→P i) (hk:P k):∀i,i<k+1→P i:=fun i hi=>by
 rcases Nat.lt_succ_iff_lt_or_eq.1 hi with h1 | h1
 ·exact h i h1
 ·exact h1 ▸ hk
end Rg
namespace Av
attribute [local irreducible] AW aL aH
open Nt Rg
section
variable (base:World)
set_option maxRecDepth 100000 in
set_option maxHeartbeats 4000000 in
theorem A9 (t:ByteArray):aI Tryz.prog base 42 [tA t] (boA (bL t)):=by
 refine aC af Tryz.call42 Tryz.func42 rfl fun H hB hb hF => ?_
 rw [Tryz.results42,Tryz.ntmps42]
 simp only [aA,List.length_cons,List.length_nil,List.replicate,List.cons_append,List.nil_append,Nat.reduceAdd,Nat.reduceSub]
 clear hF hb
 simp only [tA]
 obtain ⟨P,hP⟩:∃P,bL t=P:=⟨_,rfl⟩
 rw [hP]
 obtain ⟨c1,g1⟩:∃c,decide ((t.size:Int)<1)=c:=⟨_,rfl⟩
 obtain ⟨c2,g2⟩:∃c,decide ((t.size:Int)>24)=c:=⟨_,rfl⟩
 by_cases hgo:(c1||c2)=true
 ·have hp:P=false:=by
   rw [←hP]
   unfold bL
   rw [Bool.or_eq_true] at hgo
   rcases hgo with rfl | rfl
   ·have:t.size=0:=by have:=of_decide_eq_true g1;omega
    have he:t=⟨#[]⟩:=by
     obtain ⟨⟨l⟩⟩:=t
     simp only [ByteArray.size,List.size_toArray,List.length_eq_zero_iff] at this
     subst this;rfl
    rw [decide_eq_true he];simp
   ·rw [decide_eq_false (by have:=of_decide_eq_true g2;omega:¬t.size≤24)];simp
  subst hp
  repeat' (first | (refine aa ?_;first | (refine zg rfl ?_;first | refine ah ?_ | refine zo ?_ | (refine zs ?_ ?_<;>intro hb<;>((try simp only [bn] at hb);first | subst hb | simp only [hb]))) | (apply ai;rfl;simp only [aj,avs,tts,seval,g1,g2]<;>exact rr)) | refine ae ?_ | (refine ak ?_;first | (refine yg rfl ?_;first | refine ar ?_ | refine yo ?_ | (refine ys ?_ ?_<;>intro hb<;>((try simp only [bn] at hb);first | subst hb | simp only [hb]))) | (apply au;rfl;simp only [aB,avs,tts,seval,g1,g2]<;>exact rr;first | trivial | omega)) | refine al ?_ | refine ag ?_ | refine zr af ?_ | refine zR 0 af mixed ?_ | refine zR 1 af mixed ?_ | refine zR 2 af mixed ?_ | refine zR 3 af mixed ?_ | refine zf rfl rfl ?_ | refine zt rfl rfl ?_ | (refine am rfl rfl ?_ ?_<;>intro hb<;>((try simp only [bn] at hb);first | subst hb | simp only [hb])) | refine ap ?_ | refine aq ?_ | refine an ?_)
  all_goals first
   | (show AW _ _ _ _ _;refine aw ⟨_,rfl,[],by simp,?_⟩;rfl)
   | (exfalso;revert hgo;decide)
 have hg1:c1=false:=by cases c1<;>simp_all
 have hg2:c2=false:=by cases c2<;>simp_all
 subst hg1 hg2
 clear hgo
 have hs1:1≤t.size:=by have:=of_decide_eq_false g1;omega
 have hs2:t.size≤24:=by have:=of_decide_eq_false g2;omega
 repeat' (first | (refine aa ?_;first | (refine zg rfl ?_;first | refine ah ?_ | refine zo ?_ | (refine zs ?_ ?_<;>intro hb<;>((try simp only [bn] at hb);first | subst hb | simp only [hb]))) | (apply ai;rfl;simp only [aj,avs,tts,seval,g1,g2]<;>exact rr)) | refine ae ?_ | (refine ak ?_;first | (refine yg rfl ?_;first | refine ar ?_ | refine yo ?_ | (refine ys ?_ ?_<;>intro hb<;>((try simp only [bn] at hb);first | subst hb | simp only [hb]))) | (apply au;rfl;simp only [aB,avs,tts,seval,g1,g2]<;>exact rr;first | trivial | omega)) | refine al ?_ | refine ag ?_ | refine zr af ?_ | refine zR 0 af mixed ?_ | refine zR 1 af mixed ?_ | refine zR 2 af mixed ?_ | refine zR 3 af mixed ?_ | refine zf rfl rfl ?_ | refine zt rfl rfl ?_ | (refine am rfl rfl ?_ ?_<;>intro hb<;>((try simp only [bn] at hb);first | subst hb | simp only [hb])) | refine ap ?_ | refine aq ?_ | refine an ?_)
 refine aZ (H0:=H) (fun r env K=>∃k,r=t.size - k∧k≤t.size∧(∀i,i<k→jg t i=true)∧K=H∧env=(.d (.v (.string t)) :: .undef :: .undef :: .d (.v (.int .i64 (k:Int)))::List.replicate 51 .undef)) ?_ ⟨0,rfl,Nat.zero_le _,fun i hi=>by omega,rfl,rfl⟩ ?_
 ·exact ⟨by simp [aJ,List.replicate],.inl rfl⟩
 rintro r env K ⟨k,rfl,hk,hok,rfl,rfl⟩ hN
 simp only [rp]
 obtain ⟨c0,g0⟩:∃c,decide ((k:Int)<(t.size:Int))=c:=⟨_,rfl⟩
 cases c0 with
 | false =>
  have hka:k=t.size:=by
                have:¬k<t.size:=by simpa using g0
                omega
  have hp:P=true:=by
   rw [←hP,oY fun i hi=>hok i (by omega)]
   have he:¬t=⟨#[]⟩:=fun e=>by rw [e] at hs1;exact absurd hs1 (by decide)
   rw [decide_eq_false he,decide_eq_true hs2];rfl
  subst hp
  repeat' (first | (refine aa ?_;first | (refine zg rfl ?_;first | refine ah ?_ | refine zo ?_ | (refine zs ?_ ?_<;>intro hb<;>((try simp only [bn] at hb);first | subst hb | simp only [hb]))) | (apply ai;rfl;simp only [aj,avs,tts,seval,g0]<;>exact rr)) | refine ae ?_ | (refine ak ?_;first | (refine yg rfl ?_;first | refine ar ?_ | refine yo ?_ | (refine ys ?_ ?_<;>intro hb<;>((try simp only [bn] at hb);first | subst hb | simp only [hb]))) | (apply au;rfl;simp only [aB,avs,tts,seval,g0]<;>exact rr;first | trivial | omega)) | refine al ?_ | refine ag ?_ | refine zr af ?_ | refine zR 0 af mixed ?_ | refine zR 1 af mixed ?_ | refine zR 2 af mixed ?_ | refine zR 3 af mixed ?_ | refine zf rfl rfl ?_ | refine zt rfl rfl ?_ | (refine am rfl rfl ?_ ?_<;>intro hb<;>((try simp only [bn] at hb);first | subst hb | simp only [hb])) | refine ap ?_ | refine aq ?_ | refine an ?_)
  exact aw ⟨_,rfl,[],by simp,rfl⟩
 | true =>
  have hlt:k<t.size:=by simpa using g0
  have hix:(0:Int)≤(k:Int):=by omega
  have w1:IntKind.i64.wrap ((k:Int)+1)=((k+1:Nat):Int):=aP hlt (by omega)
  have hno:=fun h=>rE (t:=t) hlt h
  have hnx:=fun h=>sS (P:=fun i=>jg t i=true) hok h
  obtain ⟨c,hc⟩:∃c,c=xe t k:=⟨_,rfl⟩
  have hbt:(t.data.toList.getD k 0).toNat=c:=hc.symm
  have hoa:jg t k=(kN c||(decide (k≠0)&&(decide (c=95)||t8 c))):=by rw [jg,←hc]
  rw [hoa] at hno hnx
  unfold kN t8 at hno hnx
  clear hoa hc
  obtain ⟨b1,e1⟩:∃b,decide ((c:Int)≥97)=b:=⟨_,rfl⟩
  obtain ⟨b2,e2⟩:∃b,decide ((c:Int)≤122)=b:=⟨_,rfl⟩
  obtain ⟨b3,e3⟩:∃b,decide ((c:Int)≥65)=b:=⟨_,rfl⟩
  obtain ⟨b4,e4⟩:∃b,decide ((c:Int)≤90)=b:=⟨_,rfl⟩
  obtain ⟨b5,e5⟩:∃b,decide ((k:Int)=0)=b:=⟨_,rfl⟩
  obtain ⟨b6,e6⟩:∃b,decide ((c:Int)=95)=b:=⟨_,rfl⟩
  obtain ⟨b7,e7⟩:∃b,decide ((c:Int)<48)=b:=⟨_,rfl⟩
  obtain ⟨b8,e8⟩:∃b,decide ((c:Int)>57)=b:=⟨_,rfl⟩
  have n1:decide (97≤c)=b1:=by rw [←e1];exact decide_eq_decide.2 (by omega)
  have n2:decide (c≤122)=b2:=by rw [←e2];exact decide_eq_decide.2 (by omega)
  have n3:decide (65≤c)=b3:=by rw [←e3];exact decide_eq_decide.2 (by omega)
  have n4:decide (c≤90)=b4:=by rw [←e4];exact decide_eq_decide.2 (by omega)
  have n5:decide (k≠0) = !b5:=by rw [←e5,←decide_not];exact decide_eq_decide.2 (by omega)
  have n6:decide (c=95)=b6:=by rw [←e6];exact decide_eq_decide.2 (by omega)
  have n7:decide (48≤c) = !b7:=by rw [←e7,←decide_not];exact decide_eq_decide.2 (by omega)
  have n8:decide (c≤57) = !b8:=by rw [←e8,←decide_not];exact decide_eq_decide.2 (by omega)
  rw [n1,n2,n3,n4,n5,n6,n7,n8] at hno hnx
  rw [hP] at hno
  clear n1 n2 n3 n4 n5 n6 n7 n8
  repeat' (first | (refine aa ?_;first | (refine zg rfl ?_;first | refine ah ?_ | refine zo ?_ | (refine zs ?_ ?_<;>intro hb<;>((try simp only [bn] at hb);first | subst hb | simp only [hb]))) | (apply ai;rfl;simp only [aj,avs,tts,seval,g0,hix,hlt,hbt,w1,e1,e2,e3,e4,e5,e6,e7,e8,Bool.not_true,Bool.not_false]<;>exact rr)) | refine ae ?_ | (refine ak ?_;first | (refine yg rfl ?_;first | refine ar ?_ | refine yo ?_ | (refine ys ?_ ?_<;>intro hb<;>((try simp only [bn] at hb);first | subst hb | simp only [hb]))) | (apply au;rfl;simp only [aB,avs,tts,seval,g0,hix,hlt,hbt,w1,e1,e2,e3,e4,e5,e6,e7,e8,Bool.not_true,Bool.not_false]<;>exact rr;first | trivial | omega)) | refine al ?_ | refine ag ?_ | refine zr af ?_ | refine zR 0 af mixed ?_ | refine zR 1 af mixed ?_ | refine zR 2 af mixed ?_ | refine zR 3 af mixed ?_ | refine zf rfl rfl ?_ | refine zt rfl rfl ?_ | (refine am rfl rfl ?_ ?_<;>intro hb<;>((try simp only [bn] at hb);first | subst hb | simp only [hb])) | refine ap ?_ | refine aq ?_ | refine an ?_)
  all_goals first
   | (have hp:P=false:=(hno rfl);subst hp;show AW _ _ _ _ _;refine aw ⟨_,rfl,[],by simp,?_⟩;rfl)
   | exact ⟨t.size - (k+1),_,_,by omega,⟨by simp [aJ,List.replicate],.inl rfl⟩,k+1,rfl,hlt,hnx rfl,rfl,rfl⟩
end
end Av
end Go.Proofs.YtdekcppfpgeneaaGreatDoor
namespace Go.Proofs.YtdekcppfpgeneaaGreatDoor
open Go Go.RowKit
namespace Nt
theorem lQ {l:List UInt8} {k:Nat} (h:k<l.length):aG (l.take (k+1))=aG (l.take k) * 10+((l[k]).toNat - 48):=by
 rw [List.take_add_one,List.getElem?_eq_getElem h]
 exact iB ..
theorem nG {l:List UInt8} (h:l.all aM=true) {k:Nat} (hk:k<l.length):48≤(l[k]).toNat∧(l[k]).toNat≤57:=by
 have:=List.all_eq_true.1 h _ (List.getElem_mem hk)
 unfold aM at this
 simp at this
 exact this
theorem yB {l:List UInt8} {k:Nat} (hk:k<l.length) (h:¬(48≤(l[k]).toNat∧(l[k]).toNat≤57)):l.all aM=false:=by
 cases e:l.all aM with
 | false=>rfl
 | true=>exact absurd (nG e hk) h
end Nt
namespace Av
attribute [local irreducible] AW aL aH
open Nt Rg
section
variable (base:World)
set_option maxRecDepth 100000 in
set_option maxHeartbeats 4000000 in
theorem yz (t:ByteArray) (ht:t.size≤1000000):aI Tryz.prog base 172 [tA t] (boA (!decide (t=⟨#[]⟩)&&(t.data.toList.all aM&&(decide (t.size=1) || !decide (gi t=48))))):=by
 obtain ⟨P,hP⟩:∃P,(!decide (t=⟨#[]⟩)&&(t.data.toList.all aM&&(decide (t.size=1) || !decide (gi t=48))))=P:=⟨_,rfl⟩
 rw [hP]
 refine aC af Tryz.call172 Tryz.func172 rfl fun H hB hb hF => ?_
 rw [Tryz.results172,Tryz.ntmps172]
 simp only [aA,List.length_cons,List.length_nil,List.replicate,List.cons_append,List.nil_append,Nat.reduceAdd,Nat.reduceSub]
 clear hF hb
 have hsz:t.size=t.data.toList.length:=Lib.size_eq t
 simp only [tA]
 repeat' (first | (refine aa ?_;first | (refine zg rfl ?_;first | refine ah ?_ | refine zo ?_ | (refine zs ?_ ?_<;>intro hb<;>((try simp only [bn] at hb);first | subst hb | simp only [hb]))) | (apply ai;rfl;simp only [aj,avs,tts,seval]<;>exact rr)) | refine ae ?_ | (refine ak ?_;first | (refine yg rfl ?_;first | refine ar ?_ | refine yo ?_ | (refine ys ?_ ?_<;>intro hb<;>((try simp only [bn] at hb);first | subst hb | simp only [hb]))) | (apply au;rfl;simp only [aB,avs,tts,seval]<;>exact rr;first | trivial | omega)) | refine al ?_ | refine ag ?_ | refine zr af ?_ | refine zR 0 af mixed ?_ | refine zR 1 af mixed ?_ | refine zR 2 af mixed ?_ | refine zR 3 af mixed ?_ | refine zf rfl rfl ?_ | refine zt rfl rfl ?_ | (refine am rfl rfl ?_ ?_<;>intro hb<;>((try simp only [bn] at hb);first | subst hb | simp only [hb])) | refine ap ?_ | refine aq ?_ | refine an ?_)
 refine aZ (H0:=H) (fun r env K=>∃k,r=t.size - k∧k≤t.size∧(∀i (h:i<t.data.toList.length),i<k→aM t.data.toList[i]=true)∧K=H∧env=(.d (.v (.string t)) :: .undef :: .undef :: .d (.v (.int .i64 (k:Int)))::List.replicate 29 .undef)) ?_ ⟨0,rfl,Nat.zero_le _,fun i _ hi=>by omega,rfl,rfl⟩ ?_
 ·exact ⟨by simp [aJ,List.replicate],.inl rfl⟩
 rintro r env K ⟨k,rfl,hk,hok,rfl,rfl⟩ hN
 simp only [rp]
 obtain ⟨c0,g0⟩:∃c,decide ((k:Int)<(t.size:Int))=c:=⟨_,rfl⟩
 cases c0 with
 | false =>
  have hka:k=t.size:=by
                have:¬k<t.size:=by simpa using g0
                omega
  have hall:t.data.toList.all aM=true:=by
   rw [List.all_eq_true]
   intro x hx
   obtain ⟨i,hi,rfl⟩:=List.getElem_of_mem hx
   exact hok i hi (by omega)
  rw [hall] at hP
  obtain ⟨b1,e1⟩:∃b,decide ((t.size:Int)=1)=b:=⟨_,rfl⟩
  obtain ⟨b2,e2⟩:∃b,decide ((t.size:Int)>1)=b:=⟨_,rfl⟩
  have n1:decide (t.size=1)=b1:=by rw [←e1];exact decide_eq_decide.2 (by omega)
  have n2:decide (t=⟨#[]⟩)=(!b1 && !b2):=by
   have h0:t=⟨#[]⟩↔t.size=0:=by
    constructor
    ·rintro rfl;rfl
    ·intro h
     obtain ⟨⟨l⟩⟩:=t
     simp only [ByteArray.size,List.size_toArray,List.length_eq_zero_iff] at h
     subst h;rfl
   rw [←e1,←e2,decide_eq_decide.2 h0]
   rcases (by omega:t.size=0∨t.size=1∨1<t.size) with h | h | h
   ·rw [decide_eq_true h,decide_eq_false (by omega:¬(t.size:Int)=1),decide_eq_false (by omega:¬(t.size:Int)>1)];rfl
   ·rw [decide_eq_false (by omega:¬t.size=0),decide_eq_true (by omega:(t.size:Int)=1)];rfl
   ·rw [decide_eq_false (by omega:¬t.size=0),decide_eq_false (by omega:¬(t.size:Int)=1),decide_eq_true (by omega:(t.size:Int)>1)];rfl
  have n3:decide (gi t=48)=decide (((t.data.toList.getD 0 0).toNat:Int)=48):=by
   unfold gi
   refine decide_eq_decide.2 ?_
   rw [←UInt8.toNat_inj]
   show (t.data.toList.getD 0 0).toNat=48↔_
   omega
  rw [n1,n2,n3] at hP
  obtain ⟨b3,e3⟩:∃b,decide (((t.data.toList.getD 0 0).toNat:Int)=48)=b:=⟨_,rfl⟩
  rw [e3] at hP
  clear n1 n2 n3 hall hok
  cases b2 with
  | true =>
   have hlt:0<t.size:=by have:=of_decide_eq_true e2;omega
   repeat' (first | (refine aa ?_;first | (refine zg rfl ?_;first | refine ah ?_ | refine zo ?_ | (refine zs ?_ ?_<;>intro hb<;>((try simp only [bn] at hb);first | subst hb | simp only [hb]))) | (apply ai;rfl;simp only [aj,avs,tts,seval,g0,e1,e2,e3,hlt]<;>exact rr)) | refine ae ?_ | (refine ak ?_;first | (refine yg rfl ?_;first | refine ar ?_ | refine yo ?_ | (refine ys ?_ ?_<;>intro hb<;>((try simp only [bn] at hb);first | subst hb | simp only [hb]))) | (apply au;rfl;simp only [aB,avs,tts,seval,g0,e1,e2,e3,hlt]<;>exact rr;first | trivial | omega)) | refine al ?_ | refine ag ?_ | refine zr af ?_ | refine zR 0 af mixed ?_ | refine zR 1 af mixed ?_ | refine zR 2 af mixed ?_ | refine zR 3 af mixed ?_ | refine zf rfl rfl ?_ | refine zt rfl rfl ?_ | (refine am rfl rfl ?_ ?_<;>intro hb<;>((try simp only [bn] at hb);first | subst hb | simp only [hb])) | refine ap ?_ | refine aq ?_ | refine an ?_)
   all_goals (show AW _ _ _ _ _;subst hP;first | exact aw ⟨_,rfl,[],by simp,rfl⟩ | (cases b3<;>exact aw ⟨_,rfl,[],by simp,rfl⟩))
  | false =>
   repeat' (first | (refine aa ?_;first | (refine zg rfl ?_;first | refine ah ?_ | refine zo ?_ | (refine zs ?_ ?_<;>intro hb<;>((try simp only [bn] at hb);first | subst hb | simp only [hb]))) | (apply ai;rfl;simp only [aj,avs,tts,seval,g0,e1,e2]<;>exact rr)) | refine ae ?_ | (refine ak ?_;first | (refine yg rfl ?_;first | refine ar ?_ | refine yo ?_ | (refine ys ?_ ?_<;>intro hb<;>((try simp only [bn] at hb);first | subst hb | simp only [hb]))) | (apply au;rfl;simp only [aB,avs,tts,seval,g0,e1,e2]<;>exact rr;first | trivial | omega)) | refine al ?_ | refine ag ?_ | refine zr af ?_ | refine zR 0 af mixed ?_ | refine zR 1 af mixed ?_ | refine zR 2 af mixed ?_ | refine zR 3 af mixed ?_ | refine zf rfl rfl ?_ | refine zt rfl rfl ?_ | (refine am rfl rfl ?_ ?_<;>intro hb<;>((try simp only [bn] at hb);first | subst hb | simp only [hb])) | refine ap ?_ | refine aq ?_ | refine an ?_)
   all_goals (show AW _ _ _ _ _;subst hP;first | exact aw ⟨_,rfl,[],by simp,rfl⟩ | (cases b1<;>cases b3<;>exact aw ⟨_,rfl,[],by simp,rfl⟩))
 | true =>
  have hlt:k<t.size:=by simpa using g0
  have hlt2:k<t.data.toList.length:=by omega
  have hix:(0:Int)≤(k:Int):=by omega
  have w1:IntKind.i64.wrap ((k:Int)+1)=((k+1:Nat):Int):=aP hlt (by omega)
  have hbt:t.data.toList.getD k 0=t.data.toList[k]:=by rw [List.getD_eq_getElem?_getD,List.getElem?_eq_getElem hlt2];rfl
  have hno:=yB hlt2
  have hnx:aM t.data.toList[k]=true→∀i (h:i<t.data.toList.length),i<k+1→aM t.data.toList[i]=true:=fun e i h h2=>by
   rcases Nat.lt_succ_iff_lt_or_eq.1 h2 with h3 | h3
   ·exact hok i h h3
   ·subst h3;exact e
  have hdg:aM t.data.toList[k]=decide (48≤t.data.toList[k].toNat∧t.data.toList[k].toNat≤57):=by
   unfold aM;simp
  rw [hdg] at hnx
  generalize t.data.toList[k]=c at hbt hno hnx
  obtain ⟨b1,e1⟩:∃b,decide ((c.toNat:Int)<48)=b:=⟨_,rfl⟩
  obtain ⟨b2,e2⟩:∃b,decide ((c.toNat:Int)>57)=b:=⟨_,rfl⟩
  clear hdg
  repeat' (first | (refine aa ?_;first | (refine zg rfl ?_;first | refine ah ?_ | refine zo ?_ | (refine zs ?_ ?_<;>intro hb<;>((try simp only [bn] at hb);first | subst hb | simp only [hb]))) | (apply ai;rfl;simp only [aj,avs,tts,seval,g0,hix,hlt,hbt,w1,e1,e2]<;>exact rr)) | refine ae ?_ | (refine ak ?_;first | (refine yg rfl ?_;first | refine ar ?_ | refine yo ?_ | (refine ys ?_ ?_<;>intro hb<;>((try simp only [bn] at hb);first | subst hb | simp only [hb]))) | (apply au;rfl;simp only [aB,avs,tts,seval,g0,hix,hlt,hbt,w1,e1,e2]<;>exact rr;first | trivial | omega)) | refine al ?_ | refine ag ?_ | refine zr af ?_ | refine zR 0 af mixed ?_ | refine zR 1 af mixed ?_ | refine zR 2 af mixed ?_ | refine zR 3 af mixed ?_ | refine zf rfl rfl ?_ | refine zt rfl rfl ?_ | (refine am rfl rfl ?_ ?_<;>intro hb<;>((try simp only [bn] at hb);first | subst hb | simp only [hb])) | refine ap ?_ | refine aq ?_ | refine an ?_)
  all_goals first
   | (have hp:P=false:=(by rw [←hP,hno (by first | (have:=of_decide_eq_true e1;omega) | (have:=of_decide_eq_true e2;omega))];simp);subst hp;show AW _ _ _ _ _;refine aw ⟨_,rfl,[],by simp,?_⟩;rfl)
   | exact ⟨t.size - (k+1),_,_,by omega,⟨by simp [aJ,List.replicate],.inl rfl⟩,k+1,rfl,hlt,hnx (decide_eq_true (by have:=of_decide_eq_false e1;have:=of_decide_eq_false e2;omega)),rfl,rfl⟩
end
end Av
end Go.Proofs.YtdekcppfpgeneaaGreatDoor
namespace Go.Proofs
open Go.Shelf
def Tryz.keys91_ren:Go.Shelf.Ren:=⟨fun | 7=>91 | 10=>120 | n=>n,fun | 23=>80 | 26=>9 | 3=>4 | 28=>114 | 0=>0 | 27=>113 | 33=>67 | 4=>4 | n=>n,fun | n=>n⟩
theorem Tryz.keys91:Go.Proofs.SlLaysZ.n7 Tryz.prog Tryz.keys91_ren:={
 mixed:=by kernel_rfl
 f7:=⟨Tryz.f91.name,by decide,Tryz.func91.trans (congrArg some (by kernel_rfl))⟩
 f10:=⟨Tryz.f120.name,by decide,Tryz.func120.trans (congrArg some (by kernel_rfl))⟩
 t0:=Tryz.underlying0
 a0:=Tryz.isAgg0
 z0:=Tryz.sizeOf0
 v0:=Tryz.zeroValue0
 t4:=Tryz.underlying4
 a4:=Tryz.isAgg4
 z4:=Tryz.sizeOf4
 v4:=Tryz.zeroValue4
 t23:=Tryz.underlying80
 a23:=Tryz.isAgg80
 z23:=Tryz.sizeOf80
 v23:=Tryz.zeroValue80
 t26:=Tryz.underlying9
 a26:=Tryz.isAgg9
 z26:=Tryz.sizeOf9
 v26:=Tryz.zeroValue9
 t27:=Tryz.underlying113
 a27:=Tryz.isAgg113
 z27:=Tryz.sizeOf113
 v27:=Tryz.zeroValue113
 t28:=Tryz.underlying114
 a28:=Tryz.isAgg114
 z28:=Tryz.sizeOf114
 v28:=Tryz.zeroValue114
 t33:=Tryz.underlying67
 a33:=Tryz.isAgg67
 z33:=Tryz.sizeOf67
 v33:=Tryz.zeroValue67 }
def Tryz.sorted90_ren:Go.Shelf.Ren:=⟨fun | 6=>90 | 8=>118 | 9=>119 | 11=>150 | 13=>123 | 12=>151 | 23=>160 | 24=>161 | 14=>194 | 15=>195 | 16=>196 | 17=>197 | 18=>198 | 19=>199 | 20=>62 | 21=>200 | 22=>201 | 25=>224 | 26=>203 | 27=>204 | 28=>225 | 29=>226 | 30=>92 | 31=>237 | n=>n,fun | 26=>9 | 28=>114 | 24=>22 | 0=>0 | 3=>3 | 37=>84 | 48=>165 | 50=>167 | 4=>4 | 40=>159 | 39=>158 | 45=>59 | 5=>5 | 9=>9 | 51=>206 | 55=>210 | 57=>232 | 58=>233 | 33=>67 | n=>n,fun | n=>n⟩
theorem Tryz.sorted90:Go.Proofs.SlLaysZ.n6 Tryz.prog Tryz.sorted90_ren:={
 mixed:=by kernel_rfl
 f6:=⟨Tryz.f90.name,by decide,Tryz.func90.trans (congrArg some (by kernel_rfl))⟩
 f8:=⟨Tryz.f118.name,by decide,Tryz.func118.trans (congrArg some (by kernel_rfl))⟩
 f11:=⟨Tryz.f150.name,by decide,Tryz.func150.trans (congrArg some (by kernel_rfl))⟩
 t0:=Tryz.underlying0
 a0:=Tryz.isAgg0
 z0:=Tryz.sizeOf0
 v0:=Tryz.zeroValue0
 t24:=Tryz.underlying22
 a24:=Tryz.isAgg22
 z24:=Tryz.sizeOf22
 v24:=Tryz.zeroValue22
 t26:=Tryz.underlying9
 a26:=Tryz.isAgg9
 z26:=Tryz.sizeOf9
 v26:=Tryz.zeroValue9
 t28:=Tryz.underlying114
 a28:=Tryz.isAgg114
 z28:=Tryz.sizeOf114
 v28:=Tryz.zeroValue114
 i26:=by kernel_rfl }
def Tryz.sort119_ren:Go.Shelf.Ren:=⟨fun | 6=>119 | 8=>123 | 9=>151 | 19=>160 | 20=>161 | 21=>194 | 22=>195 | 23=>196 | 24=>197 | 25=>198 | 26=>199 | 27=>62 | 28=>200 | 29=>201 | 36=>224 | 31=>203 | 32=>204 | 37=>225 | 38=>226 | 39=>92 | 41=>237 | n=>n,fun | 27=>22 | 29=>9 | 3=>3 | 32=>84 | 26=>22 | 0=>0 | 44=>165 | 46=>167 | 4=>4 | 36=>159 | 35=>158 | 41=>59 | 5=>5 | 9=>9 | 53=>206 | 57=>210 | 63=>232 | 64=>233 | n=>n,fun | n=>n⟩
theorem Tryz.sort119:Go.Proofs.SlLaysM.n6 Tryz.prog Tryz.sort119_ren:={
 mixed:=by kernel_rfl
 f6:=⟨Tryz.f119.name,by decide,Tryz.func119.trans (congrArg some (by kernel_rfl))⟩
 f8:=Tryz.func123.trans (congrArg some (by kernel_rfl))
 f9:=⟨Tryz.f151.name,by decide,Tryz.func151.trans (congrArg some (by kernel_rfl))⟩
 f19:=Tryz.func160.trans (congrArg some (by kernel_rfl))
 f20:=Tryz.func161.trans (congrArg some (by kernel_rfl))
 f21:=⟨Tryz.f194.name,by decide,Tryz.func194.trans (congrArg some (by kernel_rfl))⟩
 f22:=⟨Tryz.f195.name,by decide,Tryz.func195.trans (congrArg some (by kernel_rfl))⟩
 f23:=⟨Tryz.f196.name,by decide,Tryz.func196.trans (congrArg some (by kernel_rfl))⟩
 f24:=⟨Tryz.f197.name,by decide,Tryz.func197.trans (congrArg some (by kernel_rfl))⟩
 f25:=⟨Tryz.f198.name,by decide,Tryz.func198.trans (congrArg some (by kernel_rfl))⟩
 f26:=⟨Tryz.f199.name,by decide,Tryz.func199.trans (congrArg some (by kernel_rfl))⟩
 f27:=⟨Tryz.f62.name,by decide,Tryz.func62.trans (congrArg some (by kernel_rfl))⟩
 f28:=⟨Tryz.f200.name,by decide,Tryz.func200.trans (congrArg some (by kernel_rfl))⟩
 f29:=⟨Tryz.f201.name,by decide,Tryz.func201.trans (congrArg some (by kernel_rfl))⟩
 f31:=Tryz.func203.trans (congrArg some (by kernel_rfl))
 f32:=Tryz.func204.trans (congrArg some (by kernel_rfl))
 f36:=⟨Tryz.f224.name,by decide,Tryz.func224.trans (congrArg some (by kernel_rfl))⟩
 f37:=⟨Tryz.f225.name,by decide,Tryz.func225.trans (congrArg some (by kernel_rfl))⟩
 f38:=⟨Tryz.f226.name,by decide,Tryz.func226.trans (congrArg some (by kernel_rfl))⟩
 f39:=⟨Tryz.f92.name,by decide,Tryz.func92.trans (congrArg some (by kernel_rfl))⟩
 f41:=⟨Tryz.f237.name,by decide,Tryz.func237.trans (congrArg some (by kernel_rfl))⟩
 t0:=Tryz.underlying0
 a0:=Tryz.isAgg0
 z0:=Tryz.sizeOf0
 v0:=Tryz.zeroValue0
 t3:=Tryz.underlying3
 a3:=Tryz.isAgg3
 z3:=Tryz.sizeOf3
 v3:=Tryz.zeroValue3
 t4:=Tryz.underlying4
 a4:=Tryz.isAgg4
 z4:=Tryz.sizeOf4
 v4:=Tryz.zeroValue4
 t5:=Tryz.underlying5
 a5:=Tryz.isAgg5
 z5:=Tryz.sizeOf5
 v5:=Tryz.zeroValue5
 t9:=Tryz.underlying9
 a9:=Tryz.isAgg9
 z9:=Tryz.sizeOf9
 v9:=Tryz.zeroValue9
 t26:=Tryz.underlying22
 a26:=Tryz.isAgg22
 z26:=Tryz.sizeOf22
 v26:=Tryz.zeroValue22
 t27:=Tryz.underlying22
 a27:=Tryz.isAgg22
 z27:=Tryz.sizeOf22
 v27:=Tryz.zeroValue22
 t29:=Tryz.underlying9
 a29:=Tryz.isAgg9
 z29:=Tryz.sizeOf9
 v29:=Tryz.zeroValue9
 t32:=Tryz.underlying84
 a32:=Tryz.isAgg84
 z32:=Tryz.sizeOf84
 v32:=Tryz.zeroValue84
 t35:=Tryz.underlying158
 a35:=Tryz.isAgg158
 z35:=Tryz.sizeOf158
 v35:=Tryz.zeroValue158
 t36:=Tryz.underlying159
 a36:=Tryz.isAgg159
 z36:=Tryz.sizeOf159
 v36:=Tryz.zeroValue159
 t41:=Tryz.underlying59
 a41:=Tryz.isAgg59
 z41:=Tryz.sizeOf59
 v41:=Tryz.zeroValue59
 t44:=Tryz.underlying165
 a44:=Tryz.isAgg165
 z44:=Tryz.sizeOf165
 v44:=Tryz.zeroValue165
 t46:=Tryz.underlying167
 a46:=Tryz.isAgg167
 z46:=Tryz.sizeOf167
 v46:=Tryz.zeroValue167
 t53:=Tryz.underlying206
 a53:=Tryz.isAgg206
 z53:=Tryz.sizeOf206
 v53:=Tryz.zeroValue206
 t57:=Tryz.underlying210
 a57:=Tryz.isAgg210
 z57:=Tryz.sizeOf210
 v57:=Tryz.zeroValue210
 t63:=Tryz.underlying232
 a63:=Tryz.isAgg232
 z63:=Tryz.sizeOf232
 v63:=Tryz.zeroValue232
 t64:=Tryz.underlying233
 a64:=Tryz.isAgg233
 z64:=Tryz.sizeOf233
 v64:=Tryz.zeroValue233 }
open Go.RowKit Go.Maps Go.Sort Go.Shelf
theorem Tryz.sorts90 (m:Nat):AnyZ.SortsIn Tryz.prog Tryz.sorted90_ren Fence.wide m :=
 ⟨fun blk off cap ss W hH hblk hsz=>callsIn_wide.2 (AnyM.slices_Sort_string Tryz.sort119 blk off cap ss W hH hblk hsz),
  fun p cap W=>callsIn_wide.2 (AnyM.slices_Sort_string_none Tryz.sort119 p cap W)⟩
theorem Tryz.maps_Keys_91 (mb:Option Nat) (W:World):CallsIn Fence.wide 5 Tryz.prog 91 #[.map mb] W fun e w'=>e = .returned (.func (.func 120) #[] #[.pointer (some ⟨W.heap.size,0,none⟩)])∧w'=W.alloc (.cells #[.map mb] 80) :=
 AnyZ.keys_in Tryz.keys91 Fence.wide 5 trivial rfl mb W
set_option maxHeartbeats 1000000 in
theorem Tryz.slices_Sorted_keys_90_91 {H:Type} (b nn:Nat) (D0:DataW H) (R:Value→Option (DataW H × List MemPlace)) (w:World) (hown:w.ownsMap Tryz.prog 9 R b nn D0) (hmax:Maps.size D0≤maxLen) (hbytes:Maps.size D0 * 16≤140737488355328) :
  CallsIn Fence.wide 5 Tryz.prog 90 #[.func (.func 120) #[] #[.pointer (some ⟨w.heap.size,0,none⟩)]] (w.alloc (.cells #[.map (some b)] 80)) fun e w'=>∃(v:Value) (ss:List (List UInt8)),e = .returned v∧ss.Perm (strKeys D0) ∧
   w'.ownsRow (w.alloc (.cells #[.map (some b)] 80)).heap.size 9 1 v ss.length ((ss.mergeSort (fun x y=>decide (x≤y))).map encStr)∧(v = .slice none 0 0↔ss=[])∧Below (w.alloc (.cells #[.map (some b)] 80)).heap.size (w.alloc (.cells #[.map (some b)] 80)) w':=by
 have hbl:=hown.lt
 have hseq:SeqGives Fence.wide 2 Tryz.prog 120 #[.pointer (some ⟨w.heap.size,0,none⟩)] encStr (fun ss=>ss.Perm (strKeys D0)) (Maps.size D0) (w.alloc (.cells #[.map (some b)] 80)) :=
  AnyZ.keys_gives (ρ:=Tryz.keys91_ren) { Tryz.keys91 with } Fence.wide _ trivial rfl (by omega) w.heap.size b nn D0 _ (by simp) (by simp) (by
   obtain ⟨es,clock,hb,Ft,hs,hD⟩:=hown
   exact ⟨es,clock,(Below.heap_alloc _ _ b hbl).trans hb,Ft,hs,hD⟩)
 exact AnyZ.sorted_in Tryz.sorted90 Fence.wide 5 trivial trivial trivial trivial rfl (by omega) (Tryz.sorts90 _) (enters_of Tryz.func119 (by kernel_rfl) rfl) 120 #[.pointer (some ⟨w.heap.size,0,none⟩)] trivial (enters_of Tryz.func120 (by kernel_rfl) rfl) _ _ hmax hbytes _ hseq
end Go.Proofs
namespace Go.Proofs.YtdekcppfpgeneaaGreatDoor
open Go Go.RowKit
namespace Av
attribute [local irreducible] AW aL aH
open Nt Rg
theorem lC {P:Program} {base:World} {f:FuncId} {args:List AV} {H:av} {r:AV} (hcall:∀(vs:Array Value) (w:World),(callFunc f vs).run P w = .ok (.enter f vs) w)
  (h:∀(s:St) (vs:Array Value),s.H=H→Sim base s→ax s args vs.toList→Calls P f vs s.w fun e w'=>∃v,e = .returned v∧Below s.w.heap.size s.w w'∧∀s':St,s'.w=w'→(∀b,b<w'.heap.size→s.w.heap.size≤b→s'.imm b)→Rep s' r v):da P base f args H r :=
 ⟨hcall,fun μ w vs hs ha=>(h ⟨μ,H,w⟩ vs rfl hs ha).mono fun e w' ⟨v,h1,h2,h3⟩=>by
  have hs':=hs.below' (s:=⟨μ,H,w⟩) h2
  refine ⟨v,r,H,μ,h1,⟨rfl,rfl⟩,Nat.le_refl _,hs'.1,?_,hs'.2⟩
  refine h3 ⟨μ,H,w'⟩ rfl fun b hb hge=>⟨hb,fun hl => ?_⟩
  have hlt:=(hs.live_ge (s:=⟨μ,H,w⟩) hl).2
  have hge':w.heap.size≤b:=hge
  have hlt':b<w.heap.size:=hlt
  omega⟩
theorem yj {s':St} {w':World} (hw:s'.w=w') {B ty:Nat} (himm:∀b,b<w'.heap.size→B≤b→s'.imm b) {v:Value} {n:Nat} {ps:List ByteArray} (h:w'.ownsRow B ty 1 v n (ps.map Value.string)) (hn:n=ps.length) (hs:∀p∈ps,p.size≤9223372036854775807):Rep s' (.d (bq ps)) v:=by
 subst hn
 simp only [Rep,bq,aQ,List.length_map]
 rcases h.2 with ⟨rfl,h0⟩ | ⟨g,cap,cur,rfl,hB,hg,h1,h2,h3,h4⟩
 ·have:ps=[]:=List.eq_nil_of_length_eq_zero h0
  subst this
  exact ⟨none,0,rfl,Nat.le_refl _,by unfold maxLen;omega,.inl rfl⟩
 ·refine ⟨_,cap,rfl,h1,h2,.inr ⟨g,0,rfl,himm g (Array.getElem?_eq_some_iff.1 hg).1 hB,?_⟩⟩
  refine mi fun i hi => ?_
  have hi':i<ps.length:=by simpa using hi
  have e:(ps.map fun s=>[PD.v (.string s)]).getD i []=[PD.v (.string ps[i])]:=cI hi'
  rw [e]
  refine ⟨rfl,?_⟩
  simp only [aK,aQ,and_true]
  refine ⟨rfl,.string ps[i],?_,rfl,hs _ (List.getElem_mem hi')⟩
  rw [hw]
  have:=h.cells (g:=g) rfl i (.string ps[i]) (by simp [hi'])
  rw [Lib.add_plain] at this
  simpa using this
theorem ip {s:St}:∀{es:List (Value × AV)} {l:List MapEntry},aR s es l→l.map (·.key)=es.map (·.1)
 | [],l,h=>by simp only [aR] at h;subst h;rfl
 | (k,a)::r,l,h=>by
  simp only [aR] at h
  obtain ⟨e,t,rfl,rfl,_,h3⟩:=h
  simp [ip h3]
def jh:Value→Option (DataW Unit × List MemPlace):=fun _=>some (.nil,[])
theorem pO (ks:List ByteArray) {b:Nat} {es:Array MapEntry} {clock:Nat} {w:World} (hb:w.heap[b]?=some (.map es clock)) (hst:Go.MapKept.Stamped es clock) (hk:es.toList.map (·.key)=ks.map Value.string) (hsz:∀k∈ks,k.size≤maxLen) (hlen:ks.length≤1000000) :
  Calls Tryz.prog 61 #[.map (some b)] w fun e w'=>∃(v:Value) (ss:List (List UInt8)),e = .returned v∧ss.Perm (ks.map (·.data.toList))∧w'.ownsRow w.heap.size 9 1 v ss.length ((ss.mergeSort (fun x y=>decide (x≤y))).map encStr)∧Below w.heap.size w w':=by
 have hu:Tryz.prog.underlying 9=some .string:=by kernel_rfl
 have hsize:es.size=ks.length:=by have:=congrArg List.length hk;simpa using this
 have hkey:∀x∈es.toList,∃k∈ks,x.key = .string k:=fun x hx=>by
  have:x.key∈ks.map Value.string:=by rw [←hk];exact List.mem_map.2 ⟨x,hx,rfl⟩
  obtain ⟨k,h1,h2⟩:=List.mem_map.1 this
  exact ⟨k,h1,h2.symm⟩
 have hrd:∀x∈es.toList,∀k,x.key = .string k→k∈ks→Go.WideElems.rd Tryz.prog 9 jh x=some (.string k.data.toList,.nil):=fun x hx k e hkk=>by
  unfold Go.WideElems.rd
  rw [e,Go.WideMaps.keyOf_string_mk hu (hsz k hkk)]
  rfl
 have hown:w.ownsMap Tryz.prog 9 jh b ks.length (.map ((es.toList.map (Go.WideElems.rg Tryz.prog 9 jh)).foldr DataW.insert [])):=by
  refine ⟨es,clock,hb,⟨by rw [hsize];unfold maxLen;omega,hst,fun x hx => ?_⟩,by omega,rfl⟩
  obtain ⟨k,h1,h2⟩:=hkey x hx
  exact ⟨_,hrd x hx k h2 h1⟩
 have hsk:(Go.strKeys (.map ((es.toList.map (Go.WideElems.rg Tryz.prog 9 jh)).foldr DataW.insert []))).Perm (ks.map (·.data.toList)):=by
  refine ((Go.WideShapes.sorted_perm _).map _).trans ?_
  rw [List.map_map]
  have:es.toList.map ((fun p:Lit × DataW Unit=>Go.strOf p.1) ∘ Go.WideElems.rg Tryz.prog 9 jh)=ks.map (·.data.toList):=by
   have e1:es.toList.map ((fun p:Lit × DataW Unit=>Go.strOf p.1) ∘ Go.WideElems.rg Tryz.prog 9 jh)=(es.toList.map (·.key)).map fun v=>match v with | .string s=>s.data.toList | _=>[]:=by
    rw [List.map_map]
    refine List.map_congr_left fun x hx => ?_
    obtain ⟨k,h1,h2⟩:=hkey x hx
    simp only [Function.comp]
    unfold Go.WideElems.rg
    rw [hrd x hx k h2 h1,h2]
    rfl
   rw [e1,hk,List.map_map]
   rfl
  rw [this]
 have hms:Maps.size (.map ((es.toList.map (Go.WideElems.rg Tryz.prog 9 jh)).foldr DataW.insert []))=ks.length:=by
  show List.length _=_
  rw [Go.length_sorted,List.length_map,Array.length_toList,hsize]
 have hmax:Maps.size (.map ((es.toList.map (Go.WideElems.rg Tryz.prog 9 jh)).foldr DataW.insert []))≤maxLen:=by rw [hms];unfold maxLen;omega
 have hbytes:Maps.size (.map ((es.toList.map (Go.WideElems.rg Tryz.prog 9 jh)).foldr DataW.insert [])) * 16≤140737488355328:=by rw [hms];omega
 generalize (.map ((es.toList.map (Go.WideElems.rg Tryz.prog 9 jh)).foldr DataW.insert []):DataW Unit)=D0 at hown hsk hmax hbytes
 clear hms hkey hrd
 refine (callsIn_wide (n:=6)).1 ?_
 have hfK:Fence.wide.fn 91:=trivial
 have hfS:Fence.wide.fn 90:=trivial
 refine callsIn_of_wp Tryz.func61 rfl trivial ?_ rfl
 simp only [Tryz.ntmps61,List.size_toArray,List.length_cons,List.length_nil,Nat.reduceAdd,Nat.reduceSub,Array.replicate_succ,Array.replicate_zero,List.push_toArray,List.append_toArray,List.nil_append,List.cons_append]
 gi_wp2_with (first
  | (gi_at_call 91;refine (Tryz.maps_Keys_91 _ _).mono ?_;rintro e w' ⟨rfl,rfl⟩)
  | (gi_at_call 90;refine (Tryz.slices_Sorted_keys_90_91 b ks.length D0 jh w hown hmax hbytes).mono ?_;rintro e w' ⟨v,ss,rfl,hS,hrow,hnil,hbl⟩))
 go_ret
 exact ⟨v,ss,rfl,hS.trans hsk,ownsRow_base_a hrow (by simp),((Below.refl _ w).alloc (Nat.le_refl _) _).trans (hbl.mono (by simp))⟩
theorem ol {ss:List (List UInt8)} {ks:List ByteArray} (h:ss.Perm (ks.map (·.data.toList))):(ss.mergeSort fun x y=>decide (x≤y)).map encStr=(jG ks).map Value.string:=by
 have e:(ss.mergeSort fun x y=>decide (x≤y))=(jG ks).map (·.data.toList):=by
  rw [mergeSort_of_perm h]
  refine List.Perm.eq_of_pairwise (le:=fun a b:List UInt8=>a≤b) (fun a b _ _ h1 h2=>List.le_antisymm h1 h2) ?_ ?_ ((List.mergeSort_perm _ _).trans ((gH ks).symm.map _))
  ·have:=List.pairwise_mergeSort (le:=leB) (fun a b c h1 h2=>by simp only [leB,decide_eq_true_eq] at *;exact List.le_trans h1 h2) (fun a b=>by simp only [leB,Bool.or_eq_true,decide_eq_true_eq];exact List.le_total a b) (ks.map (·.data.toList))
   exact this.imp fun h=>by simpa [leB] using h
  ·rw [List.pairwise_map]
   exact (gG ks).imp fun h=>by simpa [leT] using h
 rw [e,List.map_map]
 exact List.map_congr_left fun x _=>by simp [encStr]
theorem xP {base:World} {H:av} {l:Nat} {kt et:Nat} (ks:List ByteArray) (hl:H[l]?=some (.mp kt et (.one .str) (ey ks))) (hsz:∀k∈ks,k.size≤9223372036854775807) (hlen:ks.length≤1000000):da Tryz.prog base 61 [.mp l] H (.d (bq (jG ks))) :=
 lC Tryz.call61 fun s vs hH hs ha=>by
  subst hH
  simp only [ax,Rep,dD,hl] at ha
  obtain ⟨v,t,e1,⟨_,b,hμ,rfl⟩,rfl⟩:=ha
  obtain rfl:vs = #[.map (some b)]:=Array.toList_inj.1 e1
  obtain ⟨_,b',ents,clock,h1,h2,h3,h4,h5⟩:=hs.obj l _ hl
  rw [hμ] at h1;cases h1
  have hk:=ip h4
  have hk2:(ey ks).map (·.1)=ks.map Value.string:=by unfold ey mpE;rw [List.map_map];rfl
  refine (pO ks h3 h5.st (hk.trans hk2) (fun k hkk=>by have:=hsz k hkk;unfold maxLen;omega) hlen).mono ?_
  rintro e w' ⟨v,ss,rfl,hp,hrow,hbl⟩
  refine ⟨v,rfl,hbl,fun s' hw hi => ?_⟩
  rw [ol hp] at hrow
  refine yj hw hi hrow ?_ fun p hpp=>hsz p (kw.1 hpp)
  have:=hp.length_eq
  rw [List.length_map] at this
  rw [this,(gH ks).length_eq]
end Av
end Go.Proofs.YtdekcppfpgeneaaGreatDoor
namespace Go.Proofs.YtdekcppfpgeneaaGreatDoor
open Go Go.RowKit
namespace Rg
def tF (h:Hd):List ByteArray:=(h.nominee::h.pledged::h.joint).filter fun s => !decide (s=⟨#[]⟩)
theorem wj (h:Hd):bu h=[h.company,h.holder]++tF h:=rfl
theorem o8 {κ:Type} [DecidableEq κ] (a b:List κ):df (a++b)=b.foldl cD (df a):=by simp [df]
theorem wS (l:List Hd) {k:Nat} (hk:k<l.length):(l.take (k+1)).flatMap bu=(l.take k).flatMap bu++bu l[k]:=by
 rw [List.take_add_one,List.getElem?_eq_getElem hk,List.flatMap_append];simp [List.flatMap]
theorem wU {p:ByteArray→Bool} (l:List ByteArray) {k:Nat} (hk:k<l.length):(l.take (k+1)).filter p=(l.take k).filter p++if p l[k]=true then [l[k]] else []:=by
 rw [List.take_add_one,List.getElem?_eq_getElem hk,List.filter_append]
 congr 1
 simp only [Option.toList_some,List.filter_cons,List.filter_nil]
theorem zl (p:ByteArray→Bool) (l:List ByteArray):(l.filter p).length≤l.length:=List.length_filter_le _ _
theorem o7 {κ:Type} [DecidableEq κ] (xs:List κ):(df xs).length≤xs.length:=by
 have:∀(xs ks:List κ),(xs.foldl cD ks).length≤ks.length+xs.length:=by
  intro xs
  induction xs with
  | nil=>intro ks;simp
  | cons x r ih =>
   intro ks
   have:=ih (cD ks x)
   have h2:(cD ks x).length≤ks.length+1:=by unfold cD;split<;>simp
   simp only [List.foldl_cons,List.length_cons];omega
 have:=this xs []
 simpa [df] using this
end Rg
namespace Av
attribute [local irreducible] AW aL aH
open Nt Rg
theorem qx (l:List ByteArray):dI (l.map fun s=>[PD.v (.string s)])=l.map fun s=>[AV.d (.v (.string s))]:=by simp [dI,dL]
theorem nN {n kt et:Nat} {ks:KS} (l:List ByteArray):(aN.mp kt et ks (ey l)).bel n:=by
 show lh n (ey l)
 induction l with
 | nil=>exact trivial
 | cons a r ih=>exact ⟨trivial,ih⟩
set_option maxRecDepth 100000 in
set_option maxHeartbeats 16000000 in
theorem kF {base:World} (l:List Hd) (hs:∀h∈l,Small h) (hj:∀h∈l,h.joint.length≤1000) (hl:l.length≤900):aI Tryz.prog base 33 [.d (cO l)] (.d (bq (ay l))):=by
 refine aC af Tryz.call33 Tryz.func33 rfl fun H hB hb hF => ?_
 rw [Tryz.results33,Tryz.ntmps33]
 simp only [aA,List.length_cons,List.length_nil,List.replicate,List.cons_append,List.nil_append,Nat.reduceAdd,Nat.reduceSub]
 clear hF hb
 have hln:=dY l
 have ksh:∀x,bo (.one .str) (.string x)=true:=fun _=>rfl
 have ms0:ey []=[]:=rfl
 simp only [iA,cO]
 repeat' (first | (refine aa ?_;first | (refine zg rfl ?_;first | refine ah ?_ | refine zo ?_ | (refine zs ?_ ?_<;>intro hb<;>((try simp only [bn] at hb);first | subst hb | simp only [hb]))) | (apply ai;rfl;simp only [aj,avs,tts,seval,hln]<;>exact rr)) | refine ae ?_ | (refine ak ?_;first | (refine yg rfl ?_;first | refine ar ?_ | refine yo ?_ | (refine ys ?_ ?_<;>intro hb<;>((try simp only [bn] at hb);first | subst hb | simp only [hb]))) | (apply au;rfl;simp only [aB,avs,tts,seval,hln]<;>exact rr;first | trivial | omega)) | refine al ?_ | refine ag ?_ | refine zr af ?_ | refine zR 0 af mixed ?_ | refine zR 1 af mixed ?_ | refine zR 2 af mixed ?_ | refine zR 3 af mixed ?_ | refine zf rfl rfl ?_ | refine zt rfl rfl ?_ | (refine am rfl rfl ?_ ?_<;>intro hb<;>((try simp only [bn] at hb);first | subst hb | simp only [hb])) | refine ap ?_ | refine aq ?_ | refine an ?_)
 refine aZ (H0:=H++[.mp 9 4 (.one .str) (ey [])]) (fun n env H'=>∃k,n=l.length - k∧k≤l.length∧H'=H++[.mp 9 4 (.one .str) (ey (df ((l.take k).flatMap bu)))]∧env=(.d (.sl 10 (l.map hdC)) :: .undef :: .undef :: .mp H.length :: .undef :: .undef :: .undef :: .undef :: .undef :: .d (.sl 10 (l.map hdC)) :: .d (.v (.int .i64 (l.length:Int))) :: .d (.v (.int .i64 (k:Int)))::List.replicate 30 .undef)) ?_ ⟨0,rfl,Nat.zero_le _,rfl,rfl⟩ ?_
 ·exact ⟨by simp [aJ,List.replicate],.inl rfl⟩
 rintro n env H' ⟨k,rfl,hk,rfl,rfl⟩ hN
 simp only [rp]
 obtain ⟨c0,g0⟩:∃c0,decide ((k:Int)<(l.length:Int))=c0:=⟨_,rfl⟩
 repeat refine ag ?_
 refine zr af ?_
 repeat (refine aa ?_;first | (apply ai;rfl;simp only [aj,avs,tts,seval,g0]<;>exact rr) | (refine zg rfl ?_;first | refine ah ?_ | refine zo ?_))
 refine ae ?_
 cases c0 with
 | true =>
  have hlt:k<l.length:=by simpa using g0
  have hix:(0:Int)≤(k:Int):=by omega
  have hgd:=iY hlt
  have hfl:=wS l hlt
  have hjl:=hj _ (List.getElem_mem hlt)
  obtain ⟨ks,hks⟩:∃ks,df ((l.take k).flatMap bu)=ks:=⟨_,rfl⟩
  have hnd:ks.Nodup:=hks ▸ fw _
  have hnx:df ((l.take (k+1)).flatMap bu)=(tF l[k]).foldl cD (cD (cD ks l[k].company) l[k].holder):=by rw [hfl,wj,←List.append_assoc,o8,o8,hks];rfl
  rw [hks]
  have w1:IntKind.i64.wrap ((k:Int)+1)=((k+1:Nat):Int):=aP hlt (by omega)
  obtain ⟨h,hh⟩:∃h,l[k]=h:=⟨_,rfl⟩
  rw [hh] at hgd hnx hjl
  obtain ⟨id,company,holder,nominee,pledged,joint,capital,votes,fr,til⟩:=h
  simp only [hdC,bq] at hgd
  simp only [tF] at hnx
  simp only at hjl
  have m1:=ic hnd company
  have hnd1:=dJ hnd company
  have m2:=ic hnd1 holder
  have hnd2:=dJ hnd1 holder
  have djl:(joint.map fun s=>[PD.v (.string s)]).length=joint.length:=by simp
  have dj:=qx joint
  repeat refine ag ?_
  refine am rfl rfl (fun hb => ?_) fun hb => ?_
  ·refine ap ?_
   repeat refine ag ?_
   refine an ?_
   repeat refine ag ?_
   repeat refine ag ?_
   refine zr af ?_
   repeat (refine aa ?_;first | (apply ai;rfl;simp only [aj,avs,tts,seval,hix,hlt,hgd,hln]<;>exact rr) | (refine zg rfl ?_;first | refine ah ?_ | refine zo ?_))
   refine ae ?_
   repeat refine ag ?_
   refine li af mixed (by kernel_rfl) (by kernel_rfl) (fun β env K=>(β 7=true→β 6=true)∧K=H++[.mp 9 4 (.one .str) (ey (if β 7=true then cD (cD ks company) holder else if β 6=true then cD ks company else ks)),.box 36 [.d (.v (.string id)),.d (.v (.string company)),.d (.v (.string holder)),.d (.v (.string nominee)),.d (.v (.string pledged)),.d (.sl 1 (joint.map fun s=>[PD.v (.string s)])),.d (.v (.int .i64 capital)),.d (.v (.int .i64 votes)),.d (.v (.int .i64 fr)),.d (.v (.int .i64 til))]]∧env=(.d (.sl 10 (l.map hdC)) :: .undef :: .undef :: .mp H.length :: .undef :: .ptr (H.length+1) 0 :: .undef :: .undef :: .undef :: .d (.sl 10 (l.map hdC)) :: .d (.v (.int .i64 (l.length:Int))) :: .d (.v (.int .i64 (k:Int))) :: .undef :: .undef :: .undef::(if β 0=true then .mp H.length else .undef)::(if β 1=true then .ptr (H.length+1) 1 else .undef)::(if β 2=true then .d (.v (.string company)) else .undef)::(if β 3=true then .mp H.length else .undef)::(if β 4=true then .ptr (H.length+1) 2 else .undef)::(if β 5=true then .d (.v (.string holder)) else .undef)::List.replicate 21 .undef)) (H0:=H++[.mp 9 4 (.one .str) (ey ks),.box 36 [.d (.v (.string id)),.d (.v (.string company)),.d (.v (.string holder)),.d (.v (.string nominee)),.d (.v (.string pledged)),.d (.sl 1 (joint.map fun s=>[PD.v (.string s)])),.d (.v (.int .i64 capital)),.d (.v (.int .i64 votes)),.d (.v (.int .i64 fr)),.d (.v (.int .i64 til))]]) (env0:=(.d (.sl 10 (l.map hdC)) :: .undef :: .undef :: .mp H.length :: .undef :: .ptr (H.length+1) 0 :: .undef :: .undef :: .undef :: .d (.sl 10 (l.map hdC)) :: .d (.v (.int .i64 (l.length:Int))) :: .d (.v (.int .i64 (k:Int)))::List.replicate 30 .undef)) ⟨by simp [aJ,List.replicate],.inl rfl⟩ ⟨by simp,by simp,by simp⟩ ?_ ?_
   ·rintro β env K ⟨h76,rfl,rfl⟩ hN2 i o hget hβ hr
    simp only [rp]
    simp only [aA] at hget
    rcases i with _ | _ | _ | _ | _ | _ | _ | _ | i
    all_goals (try simp only [nw,nv,Option.some.injEq,List.getElem?_nil,reduceCtorEq] at hget)
    all_goals (try subst hget)
    all_goals (simp [mZ,Region.binds] at hr)
    iterate 6
     ·simp only [be,bP,bH,avs,tts,Nat.reduceAdd,Nat.reduceSub,reduceCtorEq,hr]
      refine ⟨by simpa using h76,by simp,by simp⟩
    ·have h7:β 7=false:=by cases h:β 7 with
      | false=>rfl
      | true=>have:=h76 h;simp only [Nat.zero_add,Nat.reduceAdd] at hβ;rw [hβ] at this;cases this
     simp only [Nat.zero_add,Nat.reduceAdd] at hβ
     simp only [be,bP,bH,avs,tts,Nat.reduceAdd,Nat.reduceSub,reduceCtorEq,hr,hβ,h7,ksh,m1]
     refine ⟨by simp,by simp [h7],by simp⟩
    ·simp only [Nat.zero_add,Nat.reduceAdd] at hβ
     simp only [be,bP,bH,avs,tts,Nat.reduceAdd,Nat.reduceSub,reduceCtorEq,hr,hβ,ksh,m2]
     refine ⟨by simp [hr],by simp [hr],by simp⟩
   ·rintro β env K ⟨h76,rfl,rfl⟩ hall
    have a6:=hall 6 (by decide)
    have a7:=hall 7 (by decide)
    simp only [List.replicate,List.cons_append,List.nil_append,hall 0 (by decide),hall 1 (by decide),hall 2 (by decide),hall 3 (by decide),hall 4 (by decide),hall 5 (by decide),a6,a7,bH]
    clear hall h76 m1 m2
    generalize cD (cD ks company) holder=ks2 at hnd2 hnx
    show AW _ _ _ _ _
    have b1:2+joint.length≤9223372036854775807:=by omega
    have b2:(2+joint.length) * 16≤140737488355328:=by omega
    have e2:(2+joint.length=joint.length+1+1)=True:=eq_true (by omega)
    have dj2:List.map (fun it=>List.map AV.d it) (List.map (fun s=>[PD.v (.string s)]) joint)=joint.map fun s=>[AV.d (.v (.string s))]:=by simp
    repeat' (first | (refine aa ?_;first | (refine zg rfl ?_;first | refine ah ?_ | refine zo ?_ | (refine zs ?_ ?_<;>intro hb<;>((try simp only [bn] at hb);first | subst hb | simp only [hb]))) | (apply ai;rfl;simp only [aj,avs,tts,seval,djl,dj,dj2,b1,b2,e2]<;>exact rr)) | refine ae ?_ | (refine ak ?_;first | (refine yg rfl ?_;first | refine ar ?_ | refine yo ?_ | (refine ys ?_ ?_<;>intro hb<;>((try simp only [bn] at hb);first | subst hb | simp only [hb]))) | (apply au;rfl;simp only [aB,avs,tts,seval,djl,dj,dj2,b1,b2,e2]<;>exact rr;first | trivial | omega)) | refine al ?_ | refine ag ?_ | refine zr af ?_ | refine zR 0 af mixed ?_ | refine zR 1 af mixed ?_ | refine zR 2 af mixed ?_ | refine zR 3 af mixed ?_ | refine zf rfl rfl ?_ | refine zt rfl rfl ?_ | (refine am rfl rfl ?_ ?_<;>intro hb<;>((try simp only [bn] at hb);first | subst hb | simp only [hb])) | refine ap ?_ | refine aq ?_ | refine an ?_)
    obtain ⟨nl,hnl⟩:∃nl,nl=nominee::pledged::joint:=⟨_,rfl⟩
    have hrow:([AV.d (.v (.string nominee))]::[AV.d (.v (.string pledged))]::joint.map fun s=>[AV.d (.v (.string s))])=nl.map fun s=>[AV.d (.v (.string s))]:=by rw [hnl];rfl
    obtain ⟨m,hm⟩:∃m,m=2+joint.length:=⟨_,rfl⟩
    have hml:nl.length=m:=by rw [hnl,hm];simp;omega
    rw [hrow,←hm]
    rw [←hnl] at hnx
    clear hrow b1 b2 e2 dj2 djl dj
    refine aZ (H0:=H++[.mp 9 4 (.one .str) (ey (ks2)),.box 36 [.d (.v (.string id)),.d (.v (.string company)),.d (.v (.string holder)),.d (.v (.string nominee)),.d (.v (.string pledged)),.d (.sl 1 (joint.map fun s=>[PD.v (.string s)])),.d (.v (.int .i64 capital)),.d (.v (.int .i64 votes)),.d (.v (.int .i64 fr)),.d (.v (.int .i64 til))],.row 9 1 0 (nl.map fun s=>[AV.d (.v (.string s))])]) (fun n env K=>∃i,n=m - i∧i≤m∧K=H++[.mp 9 4 (.one .str) (ey (((nl.take i).filter fun s => !decide (s=⟨#[]⟩)).foldl cD ks2)),.box 36 [.d (.v (.string id)),.d (.v (.string company)),.d (.v (.string holder)),.d (.v (.string nominee)),.d (.v (.string pledged)),.d (.sl 1 (joint.map fun s=>[PD.v (.string s)])),.d (.v (.int .i64 capital)),.d (.v (.int .i64 votes)),.d (.v (.int .i64 fr)),.d (.v (.int .i64 til))],.row 9 1 0 (nl.map fun s=>[AV.d (.v (.string s))])]∧env=(.d (.sl 10 (l.map hdC)) :: .undef :: .undef :: .mp H.length :: .undef :: .ptr (H.length+1) 0 :: .undef :: .undef :: .undef :: .d (.sl 10 (l.map hdC)) :: .d (.v (.int .i64 (l.length:Int))) :: .d (.v (.int .i64 (k:Int)))::List.replicate 16 .undef ++ .ms (H.length+2) 0 m :: .d (.v (.int .i64 (m:Int))) :: .d (.v (.int .i64 (i:Int)))::List.replicate 11 .undef)) ?_ ⟨0,rfl,Nat.zero_le _,rfl,rfl⟩ ?_
    ·exact ⟨by simp [aJ,List.replicate],.inl rfl⟩
    rintro n env K ⟨i,rfl,hi,rfl,rfl⟩ hN3
    simp only [rp]
    have hnd3:(((nl.take i).filter fun s => !decide (s=⟨#[]⟩)).foldl cD ks2).Nodup:=gk _ _ hnd2
    obtain ⟨c1,g1⟩:∃c1,decide ((i:Int)<(m:Int))=c1:=⟨_,rfl⟩
    repeat refine ag ?_
    refine zr af ?_
    repeat (refine aa ?_;first | (apply ai;rfl;simp only [aj,avs,tts,seval,g1]<;>exact rr) | (refine zg rfl ?_;first | refine ah ?_ | refine zo ?_))
    refine ae ?_
    cases c1 with
    | true =>
     have hlt2:i<m:=by simpa using g1
     have hlt3:i<nl.length:=by omega
     have hix2:(0:Int)≤(i:Int):=by omega
     have hgd2:(nl.map fun s=>[AV.d (.v (.string s))]).getD i []=[AV.d (.v (.string nl[i]))]:=by simp [hlt3]
     have hgd3:(nl.map fun s=>[AV.d (.v (.string s))])[i]?=some [AV.d (.v (.string nl[i]))]:=by simp [hlt3]
     have hlen2:(nl.map fun s=>[AV.d (.v (.string s))]).length=m:=by simp [hml]
     have hfs:=wU (p:=fun s => !decide (s=⟨#[]⟩)) nl hlt3
     have w2:IntKind.i64.wrap ((i:Int)+1)=((i+1:Nat):Int):=aP hlt2 (by omega)
     have m3:=ic hnd3 nl[i]
     obtain ⟨c2,z2⟩:∃b,decide (nl[i]=⟨#[]⟩)=b:=⟨_,rfl⟩
     simp only [z2] at hfs
     repeat' (first | (refine aa ?_;first | (refine zg rfl ?_;first | refine ah ?_ | refine zo ?_ | (refine zs ?_ ?_<;>intro hb<;>((try simp only [bn] at hb);first | subst hb | simp only [hb]))) | (apply ai;rfl;simp only [aj,avs,tts,seval,hix2,hlt2,hlt3,hgd2,hgd3,hlen2,ksh,m3,w2,z2,hml]<;>exact rr)) | refine ae ?_ | (refine ak ?_;first | (refine yg rfl ?_;first | refine ar ?_ | refine yo ?_ | (refine ys ?_ ?_<;>intro hb<;>((try simp only [bn] at hb);first | subst hb | simp only [hb]))) | (apply au;rfl;simp only [aB,avs,tts,seval,hix2,hlt2,hlt3,hgd2,hgd3,hlen2,ksh,m3,w2,z2,hml]<;>exact rr;first | trivial | omega)) | refine al ?_ | refine ag ?_ | refine zr af ?_ | refine zR 0 af mixed ?_ | refine zR 1 af mixed ?_ | refine zR 2 af mixed ?_ | refine zR 3 af mixed ?_ | refine zf rfl rfl ?_ | refine zt rfl rfl ?_ | (refine am rfl rfl ?_ ?_<;>intro hb<;>((try simp only [bn] at hb);first | subst hb | simp only [hb])) | refine ap ?_ | refine aq ?_ | refine an ?_)
     ·refine ⟨m - (i+1),_,_,by omega,⟨?_,.inl rfl⟩,i+1,rfl,hlt2,?_,rfl⟩
      ·simp [aJ,List.replicate]
      ·rw [hfs];simp
     ·refine ⟨m - (i+1),_,_,by omega,⟨?_,.inl rfl⟩,i+1,rfl,hlt2,?_,rfl⟩
      ·simp [aJ,List.replicate]
      ·rw [hfs];simp [List.foldl_append]
    | false =>
     have him:i=m:=by
                 have:¬i<m:=by simpa using g1
                 omega
     have htk:nl.take i=nl:=by rw [him,←hml,List.take_length]
     rw [htk,←hnx]
     repeat' (first | (refine aa ?_;first | (refine zg rfl ?_;first | refine ah ?_ | refine zo ?_ | (refine zs ?_ ?_<;>intro hb<;>((try simp only [bn] at hb);first | subst hb | simp only [hb]))) | (apply ai;rfl;simp only [aj,avs,tts,seval,w1]<;>exact rr)) | refine ae ?_ | (refine ak ?_;first | (refine yg rfl ?_;first | refine ar ?_ | refine yo ?_ | (refine ys ?_ ?_<;>intro hb<;>((try simp only [bn] at hb);first | subst hb | simp only [hb]))) | (apply au;rfl;simp only [aB,avs,tts,seval,w1]<;>exact rr;first | trivial | omega)) | refine al ?_ | refine ag ?_ | refine zr af ?_ | refine zR 0 af mixed ?_ | refine zR 1 af mixed ?_ | refine zR 2 af mixed ?_ | refine zR 3 af mixed ?_ | refine zf rfl rfl ?_ | refine zt rfl rfl ?_ | (refine am rfl rfl ?_ ?_<;>intro hb<;>((try simp only [bn] at hb);first | subst hb | simp only [hb])) | refine ap ?_ | refine aq ?_ | refine an ?_)
     refine ⟨l.length - (k+1),_,_,by omega,⟨?_,.inr ⟨by simp,?_,.more hB (.cons (nN _) .nil),[.box 36 [.d (.v (.string id)),.d (.v (.string company)),.d (.v (.string holder)),.d (.v (.string nominee)),.d (.v (.string pledged)),.d (.sl 1 (joint.map fun s=>[PD.v (.string s)])),.d (.v (.int .i64 capital)),.d (.v (.int .i64 votes)),.d (.v (.int .i64 fr)),.d (.v (.int .i64 til))],.row 9 1 0 (nl.map fun s=>[AV.d (.v (.string s))])],by simp⟩⟩,k+1,rfl,hlt,rfl,rfl⟩
     ·simp [aJ,List.replicate]
     ·simp [aS,AV.bel,List.replicate]
  ·cases hb
 | false =>
  have hkl:k=l.length:=by
                 have:¬k<l.length:=by simpa using g0
                 omega
  subst hkl
  rw [List.take_length]
  have hsz:∀s∈df (l.flatMap bu),s.size≤9223372036854775807:=fun s hs2=>by
   rw [iW,List.mem_flatMap] at hs2
   obtain ⟨h,hh,hn⟩:=hs2
   have:=hs h hh
   simp only [bu,List.mem_cons,List.mem_filter] at hn
   rcases hn with rfl | rfl | ⟨rfl | rfl | hn,_⟩
   ·exact this.company
   ·exact this.holder
   ·exact this.nominee
   ·exact this.pledged
   ·exact this.joint _ hn
  have hlen:(df (l.flatMap bu)).length≤1000000:=by
   refine Nat.le_trans (o7 _) ?_
   rw [List.length_flatMap]
   have:∀(l:List Hd),(∀h∈l,h.joint.length≤1000)→(l.map fun h=>(bu h).length).sum≤l.length * 1004:=by
    intro l
    induction l with
    | nil=>intro _;simp
    | cons a r ih =>
     intro h
     have h1:=ih fun x hx=>h x (List.mem_cons_of_mem _ hx)
     have h2:=h a (List.mem_cons_self ..)
     have h3:(bu a).length≤1004:=by
      simp only [bu,List.length_cons]
      have:=zl (fun s => !decide (s=⟨#[]⟩)) (a.nominee::a.pledged::a.joint)
      simp only [List.length_cons] at this
      omega
     simp only [List.map_cons,List.sum_cons,List.length_cons]
     omega
   have:=this l hj
   omega
  have cs:=fun (H:av) (h:H[H.length - 1]?=some (.mp 9 4 (.one .str) (ey (df (l.flatMap bu)))))=>xP (base:=base) (H:=H) (df (l.flatMap bu)) h hsz hlen
  have cs:=cs (H++[.mp 9 4 (.one .str) (ey (df (l.flatMap bu)))]) (by simp)
  have el:(H++[aN.mp 9 4 (.one .str) (ey (df (l.flatMap bu)))]).length - 1=H.length:=by simp
  rw [el] at cs
  repeat' (first | (refine aa ?_;first | (refine zg rfl ?_;first | refine ah ?_ | refine zo ?_ | (refine zs ?_ ?_<;>intro hb<;>((try simp only [bn] at hb);first | subst hb | simp only [hb]))) | (apply ai;rfl;simp only [aj,avs,tts,seval]<;>exact rr) | (refine za rfl ?_;refine zd (cs) ?_)) | refine ae ?_ | (refine ak ?_;first | (refine yg rfl ?_;first | refine ar ?_ | refine yo ?_ | (refine ys ?_ ?_<;>intro hb<;>((try simp only [bn] at hb);first | subst hb | simp only [hb]))) | (apply au;rfl;simp only [aB,avs,tts,seval]<;>exact rr;first | trivial | omega) | (refine ya rfl ?_;refine yd (cs) ?_)) | refine al ?_ | refine ag ?_ | refine zr af ?_ | refine zR 0 af mixed ?_ | refine zR 1 af mixed ?_ | refine zR 2 af mixed ?_ | refine zR 3 af mixed ?_ | refine zf rfl rfl ?_ | refine zt rfl rfl ?_ | (refine am rfl rfl ?_ ?_<;>intro hb<;>((try simp only [bn] at hb);first | subst hb | simp only [hb])) | refine ap ?_ | refine aq ?_ | refine an ?_)
  exact aw ⟨_,rfl,_,rfl,rfl⟩
end Av
end Go.Proofs.YtdekcppfpgeneaaGreatDoor
namespace Go.Proofs.YtdekcppfpgeneaaGreatDoor
open Go Go.RowKit
namespace Rg
open Av Nt
structure Pct (h:Hd):Prop where
 c0:0≤h.capital
 c1:h.capital≤100
 v0:0≤h.votes
 v1:h.votes≤100
theorem eN {h:Hd} (hp:bl h=true):Pct h:=by
 unfold bl pr3 oq at hp
 simp only [Bool.and_eq_true,decide_eq_true_eq] at hp
 obtain ⟨_,_,⟨_,_,⟨a,b⟩,c,d⟩,_⟩:=hp
 exact ⟨a,b,c,d⟩
def gV (l:List Hd) (day:Int) (c:ByteArray):AV := .agg [.d (.v (.int .i64 (en l day c))),.d (.v (.int .i64 (dR l day c)))]
theorem sK {l:List Hd} {day:Int} {k:Nat} (hk:k<l.length) {c:ByteArray} (h:inB day c l[k]=false):en (l.take (k+1)) day c=en (l.take k) day c:=by
 unfold en;rw [dS _ _ _ hk,h];simp
theorem qS {l:List Hd} {day:Int} {k:Nat} (hk:k<l.length) {c:ByteArray} (h:inB day c l[k]=false):dR (l.take (k+1)) day c=dR (l.take k) day c:=by
 unfold dR;rw [dS _ _ _ hk,h];simp
theorem qz {l:List Hd} {day:Int} {k:Nat} (hk:k<l.length) {c:ByteArray} (h:inB day c l[k]=true):en (l.take (k+1)) day c=en (l.take k) day c+l[k].capital:=by
 unfold en;rw [dS _ _ _ hk,h];simp
theorem pH {l:List Hd} {day:Int} {k:Nat} (hk:k<l.length) {c:ByteArray} (h:inB day c l[k]=true):dR (l.take (k+1)) day c=dR (l.take k) day c+l[k].votes:=by
 unfold dR;rw [dS _ _ _ hk,h];simp
theorem uc {l:List Hd} (hp:∀h∈l,Pct h) (day:Int) (c:ByteArray) (k:Nat):0≤en (l.take k) day c:=dl fun h hh _=>(hp h (List.mem_of_mem_take hh)).c0
theorem td {l:List Hd} (hp:∀h∈l,Pct h) (day:Int) (c:ByteArray) (k:Nat):0≤dR (l.take k) day c:=dl fun h hh _=>(hp h (List.mem_of_mem_take hh)).v0
theorem CX {l:List Hd} (hp:∀h∈l,Pct h) (day:Int) (c:ByteArray) (k:Nat):en (l.take k) day c≤en l day c:=gF (fun h hh _=>(hp h hh).c0) k
theorem Cq {l:List Hd} (hp:∀h∈l,Pct h) (day:Int) (c:ByteArray) (k:Nat):dR (l.take k) day c≤dR l day c:=gF (fun h hh _=>(hp h hh).v0) k
theorem CB {l:List Hd} {day:Int} {k:Nat} (hk:k<l.length) (hr:cF l[k] day=true) (h:okC l day l[k].company=false):onB l day=false:=by
 unfold onB
 rw [List.all_eq_false]
 exact ⟨_,List.getElem_mem hk,by rw [hr,h];simp⟩
theorem xg (l:List Hd):fA l = !(l.any fun h => !onB l h.fr):=by
 unfold fA
 rw [Bool.eq_iff_iff]
 simp [List.all_eq_true,List.any_eq_false]
end Rg
namespace Av
attribute [local irreducible] AW aL aH
open Nt Rg
theorem Bp {n kt et:Nat} {ks:KS} {κ:Type} [DecidableEq κ] (enc:κ→Value) (l:List κ) (f:κ→AV) (hf:∀k,(f k).bel n):(aN.mp kt et ks (mpE enc l f)).bel n:=by
 show lh n (mpE enc l f)
 induction l with
 | nil=>exact trivial
 | cons a r ih=>exact ⟨hf a,ih⟩
theorem sP {n kt et:Nat} {ks:KS} {l:List Hd} {day:Int} {xs:List ByteArray}:(aN.mp kt et ks (mpE Rg.encS xs (gV l day))).bel n:=Bp _ _ _ fun c=>by simp [gV,AV.bel,aS]
section
variable {base:World}
set_option maxRecDepth 100000 in
set_option maxHeartbeats 16000000 in
theorem EA {H:av} (l:List Hd) (day:Int) {lb:Nat} (hbx:H[lb]?=some (.box 26 [.d (cO l)])) (hp:∀h∈l,Pct h) (hl:l.length≤900):da Tryz.prog base 76 [iA day,.ptr lb 0] H (boA (onB l day)):=by
 refine cC af Tryz.call76 Tryz.func76 rfl fun hB hb hF => ?_
 rw [Tryz.results76,Tryz.ntmps76]
 simp only [aA,List.length_cons,List.length_nil,List.replicate,List.cons_append,List.nil_append,Nat.reduceAdd,Nat.reduceSub]
 clear hF hb
 have hln:=dY l
 have hbx2:=fun G=>got hbx G
 have ksh:∀x,bo (.one .str) (.string x)=true:=fun _=>rfl
 have ms0:(mpE Rg.encS [] (gV (l.take 0) day))=[]:=rfl
 simp only [iA,cO] at hbx hbx2 ⊢
 obtain ⟨P,hP⟩:∃P,onB l day=P:=⟨_,rfl⟩
 rw [hP]
 repeat' (first | (refine aa ?_;first | (refine zg rfl ?_;first | refine ah ?_ | refine zo ?_ | (refine zs ?_ ?_<;>intro hb<;>((try simp only [bn] at hb);first | subst hb | simp only [hb]))) | (apply ai;rfl;simp only [aj,avs,tts,seval,hbx,hbx2,hln]<;>exact rr)) | refine ae ?_ | (refine ak ?_;first | (refine yg rfl ?_;first | refine ar ?_ | refine yo ?_ | (refine ys ?_ ?_<;>intro hb<;>((try simp only [bn] at hb);first | subst hb | simp only [hb]))) | (apply au;rfl;simp only [aB,avs,tts,seval,hbx,hbx2,hln]<;>exact rr;first | trivial | omega)) | refine al ?_ | refine ag ?_ | refine zr af ?_ | refine zR 0 af mixed ?_ | refine zR 1 af mixed ?_ | refine zR 2 af mixed ?_ | refine zR 3 af mixed ?_ | refine zf rfl rfl ?_ | refine zt rfl rfl ?_ | (refine am rfl rfl ?_ ?_<;>intro hb<;>((try simp only [bn] at hb);first | subst hb | simp only [hb])) | refine ap ?_ | refine aq ?_ | refine an ?_)
 refine aZ (H0:=H++[.mp 9 103 (.one .str) (mpE Rg.encS [] (gV (l.take 0) day))]) (fun n env K=>∃k ks,n=l.length - k∧k≤l.length∧ks.Nodup∧(∀c,¬c∈ks→gV (l.take k) day c = .agg [.d (.v (.int .i64 0)),.d (.v (.int .i64 0))])∧(∀c,en (l.take k) day c≤100∧dR (l.take k) day c≤100)∧K=H++[.mp 9 103 (.one .str) (mpE Rg.encS ks (gV (l.take k) day))]∧env=(.d (.v (.int .i64 day)) :: .ptr lb 0 :: .undef :: .d (.v (.bool false)) :: .mp H.length :: .undef :: .undef :: .undef :: .undef :: .d (.sl 10 (l.map hdC)) :: .d (.v (.int .i64 (l.length:Int))) :: .d (.v (.int .i64 (k:Int)))::List.replicate 35 .undef)) ?_ ⟨0,[],rfl,Nat.zero_le _,List.nodup_nil,fun c _=>rfl,fun c=>⟨by simp [en,bB],by simp [dR,bB]⟩,rfl,rfl⟩ ?_
 ·exact ⟨by simp [aJ,List.replicate],.inl rfl⟩
 rintro n env K ⟨k,ks,rfl,hk,hnd,hout,hle,rfl,rfl⟩ hN
 simp only [rp]
 obtain ⟨c0,g0⟩:∃c0,decide ((k:Int)<(l.length:Int))=c0:=⟨_,rfl⟩
 repeat refine ag ?_
 refine zr af ?_
 repeat (refine aa ?_;first | (apply ai;rfl;simp only [aj,avs,tts,seval,g0]<;>exact rr) | (refine zg rfl ?_;first | refine ah ?_ | refine zo ?_))
 refine ae ?_
 cases c0 with
 | false =>
  have hkl:k=l.length:=by
                 have:¬k<l.length:=by simpa using g0
                 omega
  subst hkl
  rw [List.take_length] at hle
  have hon:onB l day=true:=by
   unfold onB
   rw [List.all_eq_true]
   intro h hh
   have:=hle h.company
   simp [okC,this.1,this.2]
  rw [hP] at hon
  subst hon
  repeat' (first | (refine aa ?_;first | (refine zg rfl ?_;first | refine ah ?_ | refine zo ?_ | (refine zs ?_ ?_<;>intro hb<;>((try simp only [bn] at hb);first | subst hb | simp only [hb]))) | (apply ai;rfl;simp only [aj,avs,tts,seval]<;>exact rr)) | refine ae ?_ | (refine ak ?_;first | (refine yg rfl ?_;first | refine ar ?_ | refine yo ?_ | (refine ys ?_ ?_<;>intro hb<;>((try simp only [bn] at hb);first | subst hb | simp only [hb]))) | (apply au;rfl;simp only [aB,avs,tts,seval]<;>exact rr;first | trivial | omega)) | refine al ?_ | refine ag ?_ | refine zr af ?_ | refine zR 0 af mixed ?_ | refine zR 1 af mixed ?_ | refine zR 2 af mixed ?_ | refine zR 3 af mixed ?_ | refine zf rfl rfl ?_ | refine zt rfl rfl ?_ | (refine am rfl rfl ?_ ?_<;>intro hb<;>((try simp only [bn] at hb);first | subst hb | simp only [hb])) | refine ap ?_ | refine aq ?_ | refine an ?_)
  exact aw ⟨_,rfl,_,rfl,rfl⟩
 | true =>
  have hlt:k<l.length:=by simpa using g0
  have hix:(0:Int)≤(k:Int):=by omega
  have hgd:=iY hlt
  have hpk:=hp _ (List.getElem_mem hlt)
  have w1:IntKind.i64.wrap ((k:Int)+1)=((k+1:Nat):Int):=aP hlt (by omega)
  have cr:=x0 base l[k] day
  have tno1:=fun c=>sK (l:=l) (day:=day) hlt (c:=c)
  have tno2:=fun c=>qS (l:=l) (day:=day) hlt (c:=c)
  have tye1:=qz (l:=l) (day:=day) hlt (c:=l[k].company)
  have tye2:=pH (l:=l) (day:=day) hlt (c:=l[k].company)
  have hc0:=uc hp day l[k].company k
  have hv0:=td hp day l[k].company k
  have hc1:=(hle l[k].company).1
  have hv1:=(hle l[k].company).2
  have hcl:=CX hp day l[k].company (k+1)
  have hvl:=Cq hp day l[k].company (k+1)
  have hno:=CB (l:=l) (day:=day) hlt
  have hmg:=fY rQ (f:=gV (l.take k) day) (k:=l[k].company) (ks:=ks) (z := .agg [.d (.v (.int .i64 0)),.d (.v (.int .i64 0))]) (hout _)
  have hms:=fun v=>nb rQ hnd (gV (l.take k) day) l[k].company v
  have hinB:∀c,inB day c l[k]=(cF l[k] day&&decide (l[k].company=c)):=fun c=>rfl
  obtain ⟨b1,hb1⟩:∃b1,cF l[k] day=b1:=⟨_,rfl⟩
  rw [hb1] at cr hno hinB
  generalize l[k]=h at *
  obtain ⟨id,company,holder,nominee,pledged,joint,capital,votes,fr,til⟩:=h
  simp only [hdC] at hgd
  simp only [hdA,hdL,tA,iA] at cr
  simp only at tye1 tye2 hc0 hv0 hc1 hv1 hcl hvl hno hmg hms hinB
  obtain ⟨p1,p2,p3,p4⟩:=hpk
  simp only at p1 p2 p3 p4
  simp only [show ∀s,Rg.encS s=Value.string s from fun _=>rfl] at hmg hms
  have hlb:=aF hbx
  cases b1 with
  | false =>
   have hfun:gV (l.take (k+1)) day=gV (l.take k) day:=by
    funext c
    unfold gV
    rw [tno1 c (by rw [hinB c];rfl),tno2 c (by rw [hinB c];rfl)]
   repeat' (first | (refine aa ?_;first | (refine zg rfl ?_;first | refine ah ?_ | refine zo ?_ | (refine zs ?_ ?_<;>intro hb<;>((try simp only [bn] at hb);first | subst hb | simp only [hb]))) | (apply ai;rfl;simp only [aj,avs,tts,seval,hix,hlt,hgd,hln,w1]<;>exact rr) | (refine za rfl ?_;refine zp (cr) ?_)) | refine ae ?_ | (refine ak ?_;first | (refine yg rfl ?_;first | refine ar ?_ | refine yo ?_ | (refine ys ?_ ?_<;>intro hb<;>((try simp only [bn] at hb);first | subst hb | simp only [hb]))) | (apply au;rfl;simp only [aB,avs,tts,seval,hix,hlt,hgd,hln,w1]<;>exact rr;first | trivial | omega) | (refine ya rfl ?_;refine yp (cr) ?_)) | refine al ?_ | refine ag ?_ | refine zr af ?_ | refine zR 0 af mixed ?_ | refine zR 1 af mixed ?_ | refine zR 2 af mixed ?_ | refine zR 3 af mixed ?_ | refine zf rfl rfl ?_ | refine zt rfl rfl ?_ | (refine am rfl rfl ?_ ?_<;>intro hb<;>((try simp only [bn] at hb);first | subst hb | simp only [hb])) | refine ap ?_ | refine aq ?_ | refine an ?_)
   refine ⟨l.length - (k+1),_,H++[.mp 9 103 (.one .str) (mpE Rg.encS ks (gV (l.take k) day))],by omega,⟨?_,.inr ⟨by simp,?_,.more hB (.cons (sP) .nil),[.box 36 [.d (.v (.string id)),.d (.v (.string company)),.d (.v (.string holder)),.d (.v (.string nominee)),.d (.v (.string pledged)),.d (bq joint),.d (.v (.int .i64 capital)),.d (.v (.int .i64 votes)),.d (.v (.int .i64 fr)),.d (.v (.int .i64 til))]],by simp⟩⟩,k+1,ks,rfl,hlt,hnd,fun c hc=>by rw [hfun];exact hout c hc,fun c=>by rw [tno1 c (by rw [hinB c];rfl),tno2 c (by rw [hinB c];rfl)];exact hle c,by rw [hfun],rfl⟩
   ·simp [aJ,List.replicate]
   ·simp [aS,AV.bel,List.replicate];omega
  | true =>
   have tc:=tye1 (by rw [hinB];simp)
   have tv:=tye2 (by rw [hinB];simp)
   have hfun:g9 (gV (l.take k) day) company (.agg [.d (.v (.int .i64 (en (l.take k) day company+capital))),.d (.v (.int .i64 (dR (l.take k) day company+votes)))])=gV (l.take (k+1)) day:=by
    funext c
    unfold g9
    by_cases e:c=company
    ·subst e;rw [if_pos rfl];unfold gV;rw [tc,tv]
    ·rw [if_neg e]
     unfold gV
     have hf:(true&&decide (company=c))=false:=by simp;exact fun h=>e h.symm
     rw [tno1 c (by rw [hinB c];exact hf),tno2 c (by rw [hinB c];exact hf)]
   have hms1:=hms (.agg [.d (.v (.int .i64 (en (l.take k) day company+capital))),.d (.v (.int .i64 (dR (l.take k) day company+votes)))])
   rw [hfun] at hms1
   have hsA:gV (l.take k) day company = .agg [.d (.v (.int .i64 (en (l.take k) day company))),.d (.v (.int .i64 (dR (l.take k) day company)))]:=rfl
   rw [hsA] at hmg
   have w2:IntKind.i64.wrap (en (l.take k) day company+capital)=en (l.take k) day company+capital:=by rw [IntKind.wrap_i64];omega
   have w3:IntKind.i64.wrap (dR (l.take k) day company+votes)=dR (l.take k) day company+votes:=by rw [IntKind.wrap_i64];omega
   obtain ⟨b2,hb2⟩:∃b2,decide (en (l.take k) day company+capital>100)=b2:=⟨_,rfl⟩
   obtain ⟨b3,hb3⟩:∃b3,decide (dR (l.take k) day company+votes>100)=b3:=⟨_,rfl⟩
   repeat' (first | (refine aa ?_;first | (refine zg rfl ?_;first | refine ah ?_ | refine zo ?_ | (refine zs ?_ ?_<;>intro hb<;>((try simp only [bn] at hb);first | subst hb | simp only [hb]))) | (apply ai;rfl;simp only [aj,avs,tts,seval,hix,hlt,hgd,hln,w1,w2,w3,ksh,hmg,hms1,hb2,hb3]<;>exact rr) | (refine za rfl ?_;refine zp (cr) ?_)) | refine ae ?_ | (refine ak ?_;first | (refine yg rfl ?_;first | refine ar ?_ | refine yo ?_ | (refine ys ?_ ?_<;>intro hb<;>((try simp only [bn] at hb);first | subst hb | simp only [hb]))) | (apply au;rfl;simp only [aB,avs,tts,seval,hix,hlt,hgd,hln,w1,w2,w3,ksh,hmg,hms1,hb2,hb3]<;>exact rr;first | trivial | omega) | (refine ya rfl ?_;refine yp (cr) ?_)) | refine al ?_ | refine ag ?_ | refine zr af ?_ | refine zR 0 af mixed ?_ | refine zR 1 af mixed ?_ | refine zR 2 af mixed ?_ | refine zR 3 af mixed ?_ | refine zf rfl rfl ?_ | refine zt rfl rfl ?_ | (refine am rfl rfl ?_ ?_<;>intro hb<;>((try simp only [bn] at hb);first | subst hb | simp only [hb])) | refine ap ?_ | refine aq ?_ | refine an ?_)
   ·have hg:=of_decide_eq_true hb3
    have hf:onB l day=false:=hno rfl (by unfold okC;rw [decide_eq_false (p:=dR l day company≤100) (by omega),Bool.and_false])
    rw [←hP,hf]
    exact aw ⟨_,rfl,_,rfl,rfl⟩
   ·have g2:=of_decide_eq_false hb2
    have g3:=of_decide_eq_false hb3
    refine ⟨l.length - (k+1),_,H++[.mp 9 103 (.one .str) (mpE Rg.encS (cD ks company) (gV (l.take (k+1)) day))],by omega,⟨?_,.inr ⟨by simp,?_,.more hB (.cons (sP) .nil),[.box 36 [.d (.v (.string id)),.d (.v (.string company)),.d (.v (.string holder)),.d (.v (.string nominee)),.d (.v (.string pledged)),.d (bq joint),.d (.v (.int .i64 capital)),.d (.v (.int .i64 votes)),.d (.v (.int .i64 fr)),.d (.v (.int .i64 til))],.box 103 [.d (.v (.int .i64 (en (l.take k) day company+capital))),.d (.v (.int .i64 (dR (l.take k) day company+votes)))]],by simp⟩⟩,k+1,cD ks company,rfl,hlt,dJ hnd _,fun c hc => ?_,fun c => ?_,rfl,rfl⟩
    ·simp [aJ,List.replicate]
    ·simp [aS,AV.bel,List.replicate];omega
    ·rw [←hfun]
     unfold g9
     rw [if_neg (fun e=>hc (fb.2 (.inr e)))]
     exact hout c (fun h=>hc (fb.2 (.inl h)))
    ·by_cases e:c=company
     ·subst e;rw [tc,tv];omega
     ·have hf:(true&&decide (company=c))=false:=by simp;exact fun h=>e h.symm
      rw [tno1 c (by rw [hinB c];exact hf),tno2 c (by rw [hinB c];exact hf)]
      exact hle c
   ·have hg:=of_decide_eq_true hb2
    have hf:onB l day=false:=hno rfl (by unfold okC;rw [decide_eq_false (by omega)];rfl)
    rw [←hP,hf]
    exact aw ⟨_,rfl,_,rfl,rfl⟩
end
end Av
end Go.Proofs.YtdekcppfpgeneaaGreatDoor
namespace Go.Proofs.YtdekcppfpgeneaaGreatDoor
open Go Go.RowKit
namespace Rg
open Av Nt
theorem rV {l:List Hd} {k:Nat} (hk:k<l.length):(l.take (k+1)).map Hd.id=(l.take k).map Hd.id++[l[k].id]:=by
 rw [List.take_add_one,List.getElem?_eq_getElem hk,List.map_append];rfl
theorem wK {l:List Hd} {k:Nat} (hk:k<l.length) (hn:((l.take k).map Hd.id).Nodup) (h:¬l[k].id∈(l.take k).map Hd.id):((l.take (k+1)).map Hd.id).Nodup:=by
 rw [rV hk,List.nodup_append]
 refine ⟨hn,by simp,?_⟩
 intro x hx y hy e
 simp only [List.mem_singleton] at hy
 subst hy e
 exact h hx
theorem CI {l:List Hd} {k:Nat} (hk:k<l.length) (h:l[k].id∈(l.take k).map Hd.id):¬(l.map Hd.id).Nodup:=by
 intro hn
 have e:l.map Hd.id=(l.take k).map Hd.id++(l[k].id::(l.drop (k+1)).map Hd.id):=by
  rw [←List.map_cons (f:=Hd.id),←List.drop_eq_getElem_cons hk,←List.map_append,List.take_append_drop]
 rw [e,List.nodup_append] at hn
 exact hn.2.2 _ h _ (List.mem_cons_self ..) rfl
theorem vF {l:List Hd} {k:Nat} (hk:k<l.length) (h:bl l[k]=false):bN l=false:=by
 unfold bN
 have:l.all bl=false:=by rw [List.all_eq_false];exact ⟨_,List.getElem_mem hk,by simp [h]⟩
 rw [this];rfl
theorem vE {l:List Hd} (h:¬(l.map Hd.id).Nodup):bN l=false:=by
 unfold bN
 rw [decide_eq_false h];simp
end Rg
namespace Av
attribute [local irreducible] AW aL aH
open Nt Rg
section
variable {base:World}
set_option maxRecDepth 100000 in
theorem Bq {H:av} (l:List Hd) (h:Hd) {lb lc:Nat} (hbx:H[lb]?=some (.box 26 [.d (cO l)])) (hcx:H[lc]?=some (.box 56 [.fn (.func 76) [] [.ptr lb 0]])) (hp:∀h∈l,Pct h) (hl:l.length≤900):da Tryz.prog base 78 ([hdA h]++[.ptr lc 0]) H (boA (!onB l h.fr)):=by
 obtain ⟨id,company,holder,nominee,pledged,joint,capital,votes,fr,til⟩:=h
 have con:=fun G=>EA (base:=base) (H:=H++G) l fr (got hbx G) hp hl
 have hcx2:=fun G=>got hcx G
 simp only [hdA,hdL,tA,iA,List.cons_append,List.nil_append] at con ⊢
 refine cC af Tryz.call78 Tryz.func78 rfl fun hB hb hF => ?_
 rw [Tryz.results78,Tryz.ntmps78]
 simp only [aA,List.length_cons,List.length_nil,List.replicate,List.cons_append,List.nil_append,Nat.reduceAdd,Nat.reduceSub]
 clear hF hb
 repeat' (first | (refine aa ?_;first | (refine zg rfl ?_;first | refine ah ?_ | refine zo ?_ | (refine zs ?_ ?_<;>intro hb<;>((try simp only [bn] at hb);first | subst hb | simp only [hb]))) | (apply ai;rfl;simp only [aj,avs,tts,seval,hcx,hcx2]<;>exact rr) | (refine za rfl ?_;refine zd (con _) ?_)) | refine ae ?_ | (refine ak ?_;first | (refine yg rfl ?_;first | refine ar ?_ | refine yo ?_ | (refine ys ?_ ?_<;>intro hb<;>((try simp only [bn] at hb);first | subst hb | simp only [hb]))) | (apply au;rfl;simp only [aB,avs,tts,seval,hcx,hcx2]<;>exact rr;first | trivial | omega) | (refine ya rfl ?_;refine yd (con _) ?_)) | refine al ?_ | refine ag ?_ | refine zr af ?_ | refine zR 0 af mixed ?_ | refine zR 1 af mixed ?_ | refine zR 2 af mixed ?_ | refine zR 3 af mixed ?_ | refine zf rfl rfl ?_ | refine zt rfl rfl ?_ | (refine am rfl rfl ?_ ?_<;>intro hb<;>((try simp only [bn] at hb);first | subst hb | simp only [hb])) | refine ap ?_ | refine aq ?_ | refine an ?_)
 exact aw ⟨_,rfl,_,rfl,rfl⟩
set_option maxRecDepth 100000 in
theorem nO (l:List Hd) (hp:∀h∈l,Pct h) (hl:l.length≤900):aI Tryz.prog base 47 [.d (cO l)] (boA (fA l)):=by
 refine aC af Tryz.call47 Tryz.func47 rfl fun H hB hb hF => ?_
 rw [Tryz.results47,Tryz.ntmps47]
 simp only [aA,List.length_cons,List.length_nil,List.replicate,List.cons_append,List.nil_append,Nat.reduceAdd,Nat.reduceSub]
 clear hF hb
 have c:=sH (base:=base) (H:=H++[.box 26 [.d (cO l)],.box 56 [.fn (.func 76) [] [.ptr H.length 0]]]) l (fun h => !onB l h.fr) 78 [.ptr (H.length+1) 0] (fun h _=>Bq l h (lb:=H.length) (by simp) (by simp) hp hl)
 rw [xg]
 generalize (l.any fun h => !onB l h.fr)=b at c ⊢
 repeat' (first | (refine aa ?_;first | (refine zg rfl ?_;first | refine ah ?_ | refine zo ?_ | (refine zs ?_ ?_<;>intro hb<;>((try simp only [bn] at hb);first | subst hb | simp only [hb]))) | (apply ai;rfl;simp only [aj,avs,tts,seval]<;>exact rr) | (refine za rfl ?_;refine zd (c) ?_)) | refine ae ?_ | (refine ak ?_;first | (refine yg rfl ?_;first | refine ar ?_ | refine yo ?_ | (refine ys ?_ ?_<;>intro hb<;>((try simp only [bn] at hb);first | subst hb | simp only [hb]))) | (apply au;rfl;simp only [aB,avs,tts,seval]<;>exact rr;first | trivial | omega) | (refine ya rfl ?_;refine yd (c) ?_)) | refine al ?_ | refine ag ?_ | refine zr af ?_ | refine zR 0 af mixed ?_ | refine zR 1 af mixed ?_ | refine zR 2 af mixed ?_ | refine zR 3 af mixed ?_ | refine zf rfl rfl ?_ | refine zt rfl rfl ?_ | (refine am rfl rfl ?_ ?_<;>intro hb<;>((try simp only [bn] at hb);first | subst hb | simp only [hb])) | refine ap ?_ | refine aq ?_ | refine an ?_)
 exact aw ⟨_,rfl,_,rfl,rfl⟩
set_option maxRecDepth 100000 in
set_option maxHeartbeats 16000000 in
theorem rm (l:List Hd) (hs:∀h∈l,Small h) (hj:∀h∈l,h.joint.length≤1000) (hl:l.length≤900):aI Tryz.prog base 22 [.d (cO l)] (boA (bN l)):=by
 refine aC af Tryz.call22 Tryz.func22 rfl fun H hB hb hF => ?_
 rw [Tryz.results22,Tryz.ntmps22]
 simp only [aA,List.length_cons,List.length_nil,List.replicate,List.cons_append,List.nil_append,Nat.reduceAdd,Nat.reduceSub]
 clear hF hb
 have hln:=dY l
 have ksh:∀x,bo (.one .str) (.string x)=true:=fun _=>rfl
 have ms0:ey ((l.take 0).map Hd.id)=[]:=rfl
 have cpar:=kF (base:=base) l hs hj hl
 simp only [iA,cO] at cpar ⊢
 obtain ⟨P,hP⟩:∃P,bN l=P:=⟨_,rfl⟩
 rw [hP]
 repeat' (first | (refine aa ?_;first | (refine zg rfl ?_;first | refine ah ?_ | refine zo ?_ | (refine zs ?_ ?_<;>intro hb<;>((try simp only [bn] at hb);first | subst hb | simp only [hb]))) | (apply ai;rfl;simp only [aj,avs,tts,seval,hln]<;>exact rr)) | refine ae ?_ | (refine ak ?_;first | (refine yg rfl ?_;first | refine ar ?_ | refine yo ?_ | (refine ys ?_ ?_<;>intro hb<;>((try simp only [bn] at hb);first | subst hb | simp only [hb]))) | (apply au;rfl;simp only [aB,avs,tts,seval,hln]<;>exact rr;first | trivial | omega)) | refine al ?_ | refine ag ?_ | refine zr af ?_ | refine zR 0 af mixed ?_ | refine zR 1 af mixed ?_ | refine zR 2 af mixed ?_ | refine zR 3 af mixed ?_ | refine zf rfl rfl ?_ | refine zt rfl rfl ?_ | (refine am rfl rfl ?_ ?_<;>intro hb<;>((try simp only [bn] at hb);first | subst hb | simp only [hb])) | refine ap ?_ | refine aq ?_ | refine an ?_)
 refine aZ (H0:=H++[.mp 9 4 (.one .str) (ey ((l.take 0).map Hd.id))]) (fun n env K=>∃k,n=l.length - k∧k≤l.length∧(∀i (hi:i<l.length),i<k→bl l[i]=true)∧((l.take k).map Hd.id).Nodup∧K=H++[.mp 9 4 (.one .str) (ey ((l.take k).map Hd.id))]∧env=(.d (.sl 10 (l.map hdC)) :: .undef :: .d (.v (.bool false)) :: .mp H.length :: .undef :: .undef :: .undef :: .d (.sl 10 (l.map hdC)) :: .d (.v (.int .i64 (l.length:Int))) :: .d (.v (.int .i64 (k:Int)))::List.replicate 29 .undef)) ?_ ⟨0,rfl,Nat.zero_le _,fun i hi h0=>by omega,List.nodup_nil,rfl,rfl⟩ ?_
 ·exact ⟨by simp [aJ,List.replicate],.inl rfl⟩
 rintro n env K ⟨k,rfl,hk,hok,hnd,rfl,rfl⟩ hN
 simp only [rp]
 obtain ⟨c0,g0⟩:∃c0,decide ((k:Int)<(l.length:Int))=c0:=⟨_,rfl⟩
 repeat refine ag ?_
 refine zr af ?_
 repeat (refine aa ?_;first | (apply ai;rfl;simp only [aj,avs,tts,seval,g0]<;>exact rr) | (refine zg rfl ?_;first | refine ah ?_ | refine zo ?_))
 refine ae ?_
 cases c0 with
 | false =>
  have hkl:k=l.length:=by
                 have:¬k<l.length:=by simpa using g0
                 omega
  subst hkl
  have hall:∀h∈l,bl h=true:=fun h hh=>by
   obtain ⟨i,hi,rfl⟩:=List.getElem_of_mem hh
   exact hok i hi hi
  have cb:=nO (base:=base) l (fun h hh=>eN (hall h hh)) hl
  have hal:l.all bl=true:=List.all_eq_true.2 hall
  rw [List.take_length] at hnd ⊢
  unfold bN at hP
  rw [hal,decide_eq_true hnd] at hP
  have z1:decide ((l.length:Int)≤400)=decide (l.length≤400):=decide_eq_decide.2 (by omega)
  have z2:decide (((ay l).length:Int)≤60)=decide ((ay l).length≤60):=decide_eq_decide.2 (by omega)
  have z3:((ay l).map fun s=>[PD.v (.string s)]).length=(ay l).length:=by simp
  simp only [cO,bq] at cb cpar
  generalize fA l=b3 at cb hP
  obtain ⟨b1,hb1⟩:∃b1,decide (l.length≤400)=b1:=⟨_,rfl⟩
  obtain ⟨b2,hb2⟩:∃b2,decide ((ay l).length≤60)=b2:=⟨_,rfl⟩
  rw [hb1,hb2] at hP
  rw [hb1] at z1
  rw [hb2] at z2
  clear hb1 hb2
  repeat' (first | (refine aa ?_;first | (refine zg rfl ?_;first | refine ah ?_ | refine zo ?_ | (refine zs ?_ ?_<;>intro hb<;>((try simp only [bn] at hb);first | subst hb | simp only [hb]))) | (apply ai;rfl;simp only [aj,avs,tts,seval,hln,z1,z2,z3]<;>exact rr) | (refine za rfl ?_;first | refine zp (cpar) ?_ | refine zp (cb) ?_)) | refine ae ?_ | (refine ak ?_;first | (refine yg rfl ?_;first | refine ar ?_ | refine yo ?_ | (refine ys ?_ ?_<;>intro hb<;>((try simp only [bn] at hb);first | subst hb | simp only [hb]))) | (apply au;rfl;simp only [aB,avs,tts,seval,hln,z1,z2,z3]<;>exact rr;first | trivial | omega) | (refine ya rfl ?_;first | refine yp (cpar) ?_ | refine yp (cb) ?_)) | refine al ?_ | refine ag ?_ | refine zr af ?_ | refine zR 0 af mixed ?_ | refine zR 1 af mixed ?_ | refine zR 2 af mixed ?_ | refine zR 3 af mixed ?_ | refine zf rfl rfl ?_ | refine zt rfl rfl ?_ | (refine am rfl rfl ?_ ?_<;>intro hb<;>((try simp only [bn] at hb);first | subst hb | simp only [hb])) | refine ap ?_ | refine aq ?_ | refine an ?_)
  all_goals (rw [←hP];exact aw ⟨_,rfl,_,rfl,rfl⟩)
 | true =>
  have hlt:k<l.length:=by simpa using g0
  have hix:(0:Int)≤(k:Int):=by omega
  have hgd:=iY hlt
  have w1:IntKind.i64.wrap ((k:Int)+1)=((k+1:Nat):Int):=aP hlt (by omega)
  have cp:=ry base l[k] (hs _ (List.getElem_mem hlt))
  have no1:=vF hlt
  have no2:=CI hlt
  have st:=rV hlt
  have nst:=wK hlt hnd
  have okn:bl l[k]=true→∀i (hi:i<l.length),i<k+1→bl l[i]=true:=fun h i hi h2=>by
   rcases Nat.lt_succ_iff_lt_or_eq.1 h2 with h3 | h3
   ·exact hok i hi h3
   ·subst h3;exact h
  obtain ⟨b1,hb1⟩:∃b1,bl l[k]=b1:=⟨_,rfl⟩
  rw [hb1] at cp no1 okn
  generalize l[k]=h at *
  obtain ⟨id,company,holder,nominee,pledged,joint,capital,votes,fr,til⟩:=h
  simp only [hdC] at hgd
  simp only [hdA,hdL,tA,iA] at cp
  simp only at no2 st nst
  have hbel:∀(n:Nat) (xs:List ByteArray),(aN.mp 9 4 (.one .str) (ey xs)).bel n:=fun n xs=>nN xs
  cases b1 with
  | false =>
   rw [no1 rfl] at hP
   subst hP
   repeat' (first | (refine aa ?_;first | (refine zg rfl ?_;first | refine ah ?_ | refine zo ?_ | (refine zs ?_ ?_<;>intro hb<;>((try simp only [bn] at hb);first | subst hb | simp only [hb]))) | (apply ai;rfl;simp only [aj,avs,tts,seval,hix,hlt,hgd,hln,w1]<;>exact rr) | (refine za rfl ?_;refine zp (cp) ?_)) | refine ae ?_ | (refine ak ?_;first | (refine yg rfl ?_;first | refine ar ?_ | refine yo ?_ | (refine ys ?_ ?_<;>intro hb<;>((try simp only [bn] at hb);first | subst hb | simp only [hb]))) | (apply au;rfl;simp only [aB,avs,tts,seval,hix,hlt,hgd,hln,w1]<;>exact rr;first | trivial | omega) | (refine ya rfl ?_;refine yp (cp) ?_)) | refine al ?_ | refine ag ?_ | refine zr af ?_ | refine zR 0 af mixed ?_ | refine zR 1 af mixed ?_ | refine zR 2 af mixed ?_ | refine zR 3 af mixed ?_ | refine zf rfl rfl ?_ | refine zt rfl rfl ?_ | (refine am rfl rfl ?_ ?_<;>intro hb<;>((try simp only [bn] at hb);first | subst hb | simp only [hb])) | refine ap ?_ | refine aq ?_ | refine an ?_)
   exact aw ⟨_,rfl,_,rfl,rfl⟩
  | true =>
   by_cases hin:id∈(l.take k).map Hd.id
   ·have hmg:=pR hin
    rw [vE (no2 hin)] at hP
    subst hP
    repeat' (first | (refine aa ?_;first | (refine zg rfl ?_;first | refine ah ?_ | refine zo ?_ | (refine zs ?_ ?_<;>intro hb<;>((try simp only [bn] at hb);first | subst hb | simp only [hb]))) | (apply ai;rfl;simp only [aj,avs,tts,seval,hix,hlt,hgd,hln,w1,ksh,hmg,oU,oV]<;>exact rr) | (refine za rfl ?_;refine zp (cp) ?_)) | refine ae ?_ | (refine ak ?_;first | (refine yg rfl ?_;first | refine ar ?_ | refine yo ?_ | (refine ys ?_ ?_<;>intro hb<;>((try simp only [bn] at hb);first | subst hb | simp only [hb]))) | (apply au;rfl;simp only [aB,avs,tts,seval,hix,hlt,hgd,hln,w1,ksh,hmg,oU,oV]<;>exact rr;first | trivial | omega) | (refine ya rfl ?_;refine yp (cp) ?_)) | refine al ?_ | refine ag ?_ | refine zr af ?_ | refine zR 0 af mixed ?_ | refine zR 1 af mixed ?_ | refine zR 2 af mixed ?_ | refine zR 3 af mixed ?_ | refine zf rfl rfl ?_ | refine zt rfl rfl ?_ | (refine am rfl rfl ?_ ?_<;>intro hb<;>((try simp only [bn] at hb);first | subst hb | simp only [hb])) | refine ap ?_ | refine aq ?_ | refine an ?_)
    exact aw ⟨_,rfl,_,rfl,rfl⟩
   ·have hmg:=mU hin
    have hms:=ic hnd id
    rw [cD,if_neg hin,←st] at hms
    repeat' (first | (refine aa ?_;first | (refine zg rfl ?_;first | refine ah ?_ | refine zo ?_ | (refine zs ?_ ?_<;>intro hb<;>((try simp only [bn] at hb);first | subst hb | simp only [hb]))) | (apply ai;rfl;simp only [aj,avs,tts,seval,hix,hlt,hgd,hln,w1,ksh,hmg,hms,oU,oV]<;>exact rr) | (refine za rfl ?_;refine zp (cp) ?_)) | refine ae ?_ | (refine ak ?_;first | (refine yg rfl ?_;first | refine ar ?_ | refine yo ?_ | (refine ys ?_ ?_<;>intro hb<;>((try simp only [bn] at hb);first | subst hb | simp only [hb]))) | (apply au;rfl;simp only [aB,avs,tts,seval,hix,hlt,hgd,hln,w1,ksh,hmg,hms,oU,oV]<;>exact rr;first | trivial | omega) | (refine ya rfl ?_;refine yp (cp) ?_)) | refine al ?_ | refine ag ?_ | refine zr af ?_ | refine zR 0 af mixed ?_ | refine zR 1 af mixed ?_ | refine zR 2 af mixed ?_ | refine zR 3 af mixed ?_ | refine zf rfl rfl ?_ | refine zt rfl rfl ?_ | (refine am rfl rfl ?_ ?_<;>intro hb<;>((try simp only [bn] at hb);first | subst hb | simp only [hb])) | refine ap ?_ | refine aq ?_ | refine an ?_)
    refine ⟨l.length - (k+1),_,_,by omega,⟨?_,.inr ⟨by simp,?_,.more hB (.cons (nN _) .nil),[.box 36 [.d (.v (.string id)),.d (.v (.string company)),.d (.v (.string holder)),.d (.v (.string nominee)),.d (.v (.string pledged)),.d (bq joint),.d (.v (.int .i64 capital)),.d (.v (.int .i64 votes)),.d (.v (.int .i64 fr)),.d (.v (.int .i64 til))]],by simp⟩⟩,k+1,rfl,hlt,okn rfl,nst hin,rfl,rfl⟩
    ·simp [aJ,List.replicate]
    ·simp [aS,AV.bel,List.replicate]
end
end Av
end Go.Proofs.YtdekcppfpgeneaaGreatDoor
