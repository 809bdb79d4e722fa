import Derived.Test.YtdekcppfpgeneaaGreatDoorW1
import Derived.RangeFuncIn
import Derived.RangeFuncRecord
import Derived.ChangeArms
import Derived.OpenShut
import Derived.Deep.Strs
import Derived.Shelf.Strings.Builder1
import Derived.Shelf.Strings.Builder2
import Derived.Shelf.Strings.Trim
import Derived.Shelf.Small.Utf8
import Derived.Shelf.Small.Bits
import Derived.Shelf.Small.Strs
import Derived.Shelf.Small.Wraps
import Derived.Shelf.Strings.BuilderF
import Derived.Shelf.Strings.BuilderK
import Derived.Shelf.Strings.Builder2Cap
import Derived.Shelf.Strconv.Atoi
import Derived.Shelf.Strconv.Itoa0
import Derived.Shelf.Strconv.Itoa1
import Derived.Shelf.LaysM
import Derived.Shelf.Strconv.Itoa2
import Derived.Shelf.Strconv.Itoa3
import Derived.Shelf.Strconv.AtoiErrFast
import Derived.Shelf.Strconv.ParseIntEmpty
import Derived.Shelf.Strconv.AtoiFail
import Derived.Shelf.Strconv.Clone
import Derived.Shelf.Strconv.SyntaxError
import Derived.Shelf.LaysC
import Derived.Shelf.Strconv.ToError
import Derived.Shelf.Strconv.Lower
import Derived.Shelf.Strconv.ParseUint10
import Derived.Shelf.Strconv.ParseUint10Empty
import Derived.Shelf.Strconv.ParseUint10Any
import Derived.Shelf.Strconv.ParseInt10
import Derived.Shelf.Strconv.AtoiLong
import Derived.Shelf.Strconv.AtoiInnerAll
import Derived.Shelf.Strconv.RangeError
import Derived.Shelf.Strconv.ToErrorRange
import Derived.Shelf.Strconv.AtoiAll
import Derived.Shelf.Strconv.ErrVarAll
import Derived.Shelf.Strconv.ParseUintEmpty
import Derived.Shelf.Strconv.ParseUint10b64
import Derived.Shelf.Strconv.ParseUint10b32
import Derived.Shelf.Strconv.ParseUint10b16
import Derived.Shelf.Strconv.ParseUint10b8
import Derived.Shelf.Strconv.ParseUint10At
import Derived.Shelf.Strconv.ParseInt10At64
import Derived.Shelf.Strconv.ParseInt10At32
import Derived.Shelf.Strconv.ParseInt10At16
import Derived.Shelf.Strconv.ParseInt10At8
import Derived.Shelf.Strconv.ParseInt10All
import Derived.Ground.MpProg
import Derived.Shelf.Pu.ParseUintPublic10
import Derived.Shelf.Strings.Search1
import Derived.Shelf.Strings.Prefix
import Derived.Shelf.Strings.Runes
import Derived.Shelf.Strings.AsciiSet
import Derived.Shelf.Bits.Mul64
import Derived.Shelf.Strings.Repeat
import Derived.Shelf.Unicode.DecodeSlow
import Derived.Shelf.Unicode.DecodeAny
import Derived.Shelf.Unicode.DecodeLast
import Derived.Shelf.Strings.BuilderCap
import Derived.Test.YtdekcppfpgeneaaGreatDoorProg
import Derived.Test.YtdekcppfpgeneaaGreatDoorChecked
import Derived.Lib.LaidTab
import Derived.Lib.AppendIntMem
import Derived.Lib.SmallJoins
import Derived.Lib.LazyBuf
import Derived.Lib.BufferWrite
import Derived.Deep.RegionHeld3
import Derived.Lib.SlTrimSet
import Derived.Shelf.Strings.SlTrimAscii
import Derived.Lib.Builder
import Derived.Lib.AppendStr
import Derived.Lib.UnsafeStr
import Derived.Lib.ItoaLen
import Derived.ChangeKeysEq
import Derived.WalkKit
import Derived.MapKept
import Derived.KernelRfl
import Derived.RangeFuncNested
import Derived.RangeFuncBound
import Derived.RangeFuncLeaves
import Derived.OwnWalkIn
import Derived.TacticsInMore
import Derived.LoopNIn
import Derived.LoopIn
import Derived.Lib.Hide
set_option linter.unusedVariables false
set_option linter.unusedSimpArgs false
namespace Go.Proofs.YtdekcppfpgeneaaGreatDoor
open Go Go.RowKit
namespace Av
mutual
def AV.refs:AV→List Nat
 | .ptr l _=>[l]
 | .ms l _ _=>[l]
 | .ep l _ _ _ _=>[l]
 | .mp l=>[l]
 | .fn _ a b=>eu a++eu b
 | .agg l=>eu l
 | .tup l=>eu l
 | _=>[]
def eu:List AV→List Nat
 | []=>[]
 | a::r=>a.refs++eu r
end
theorem yk {a:AV} {l:Nat} (h:a.ref=some l):l∈a.refs:=by
 cases a<;>simp [AV.ref] at h<;>simp [AV.refs,h]
mutual
theorem Rep.refs {s:St}:∀(a:AV) (v:Value),Rep s a v→∀l∈a.refs,∃o,s.H[l]?=some o∧o ≠ .free
 | .d p,v,h,l,hl=>by simp [AV.refs] at hl
 | .undef,v,h,l,hl=>by simp [AV.refs] at hl
 | .ptr m off,v,h,l,hl=>by
  simp only [AV.refs,List.mem_singleton] at hl;subst hl
  simp only [Rep,cE] at h
  obtain ⟨_,h⟩:=h
  split at h
  ·exact ⟨_,‹_›,by simp⟩
  ·exact ⟨_,‹_›,by simp⟩
  ·exact h.elim
 | .ms m ver n,v,h,l,hl=>by
  simp only [AV.refs,List.mem_singleton] at hl;subst hl
  simp only [Rep,cB] at h
  obtain ⟨_,h⟩:=h
  split at h
  ·exact ⟨_,‹_›,by simp⟩
  ·exact ⟨_,‹_›,by simp⟩
  ·exact h.elim
 | .ep m ver n i c,v,h,l,hl=>by
  simp only [AV.refs,List.mem_singleton] at hl;subst hl
  simp only [Rep,eT] at h
  obtain ⟨_,h⟩:=h
  split at h
  ·exact ⟨_,‹_›,by simp⟩
  ·exact ⟨_,‹_›,by simp⟩
  ·exact h.elim
 | .rp cells,v,h,l,hl=>by simp [AV.refs] at hl
 | .mp m,v,h,l,hl=>by
  simp only [AV.refs,List.mem_singleton] at hl;subst hl
  simp only [Rep,dD] at h
  obtain ⟨_,h⟩:=h
  split at h
  ·exact ⟨_,‹_›,by simp⟩
  ·exact ⟨_,‹_›,by simp⟩
  ·exact h.elim
 | .fn f a b,v,h,l,hl=>by
  simp only [Rep] at h
  obtain ⟨x,y,_,h2,h3⟩:=h
  simp only [AV.refs] at hl
  rcases List.mem_append.1 hl with hl | hl
  ·exact ax.refs a _ h2 l hl
  ·exact ax.refs b _ h3 l hl
 | .agg m,v,h,l,hl=>by
  simp only [Rep] at h
  obtain ⟨x,_,h2⟩:=h
  simp only [AV.refs] at hl
  exact ax.refs m _ h2 l hl
 | .tup m,v,h,l,hl=>by
  simp only [Rep] at h
  obtain ⟨x,_,h2⟩:=h
  simp only [AV.refs] at hl
  exact ax.refs m _ h2 l hl
theorem ax.refs {s:St}:∀(az:List AV) (vs:List Value),ax s az vs→∀l∈eu az,∃o,s.H[l]?=some o∧o ≠ .free
 | [],vs,h,l,hl=>by simp [eu] at hl
 | a::r,vs,h,l,hl=>by
  simp only [ax] at h
  obtain ⟨x,t,_,h2,h3⟩:=h
  simp only [eu] at hl
  rcases List.mem_append.1 hl with hl | hl
  ·exact Rep.refs a x h2 l hl
  ·exact ax.refs r t h3 l hl
end
mutual
theorem sQ {n:Nat}:∀(a:AV),a.bel n→∀l∈a.refs,l<n
 | .d p,h,l,hl=>by simp [AV.refs] at hl
 | .undef,h,l,hl=>by simp [AV.refs] at hl
 | .ptr m off,h,l,hl=>by simp only [AV.refs,List.mem_singleton] at hl;subst hl;simpa only [AV.bel] using h
 | .ms m ver n,h,l,hl=>by simp only [AV.refs,List.mem_singleton] at hl;subst hl;simpa only [AV.bel] using h
 | .ep m ver n i c,h,l,hl=>by simp only [AV.refs,List.mem_singleton] at hl;subst hl;simpa only [AV.bel] using h
 | .rp c,h,l,hl=>by simp [AV.refs] at hl
 | .mp m,h,l,hl=>by simp only [AV.refs,List.mem_singleton] at hl;subst hl;simpa only [AV.bel] using h
 | .fn f a b,h,l,hl=>by
  simp only [AV.bel] at h
  simp only [AV.refs] at hl
  rcases List.mem_append.1 hl with hl | hl
  ·exact gu a h.1 l hl
  ·exact gu b h.2 l hl
 | .agg m,h,l,hl=>by simp only [AV.bel] at h;simp only [AV.refs] at hl;exact gu m h l hl
 | .tup m,h,l,hl=>by simp only [AV.bel] at h;simp only [AV.refs] at hl;exact gu m h l hl
theorem gu {n:Nat}:∀(az:List AV),aS n az→∀l∈eu az,l<n
 | [],h,l,hl=>by simp [eu] at hl
 | a::r,h,l,hl=>by
  simp only [aS] at h
  simp only [eu] at hl
  rcases List.mem_append.1 hl with hl | hl
  ·exact sQ a h.1 l hl
  ·exact gu r h.2 l hl
end
mutual
theorem AV.bel.mono {n m:Nat} (hm:n≤m):∀(a:AV),a.bel n→a.bel m
 | .d p,h=>by simp only [AV.bel]
 | .undef,h=>by simp only [AV.bel]
 | .ptr l off,h=>by simp only [AV.bel] at h ⊢;omega
 | .ms l ver k,h=>by simp only [AV.bel] at h ⊢;omega
 | .ep l ver k i c,h=>by simp only [AV.bel] at h ⊢;omega
 | .rp c,h=>by simp only [AV.bel]
 | .mp l,h=>by simp only [AV.bel] at h ⊢;omega
 | .fn f a b,h=>by simp only [AV.bel] at h ⊢;exact ⟨aS.mono hm a h.1,aS.mono hm b h.2⟩
 | .agg l,h=>by simp only [AV.bel] at h ⊢;exact aS.mono hm l h
 | .tup l,h=>by simp only [AV.bel] at h ⊢;exact aS.mono hm l h
theorem aS.mono {n m:Nat} (hm:n≤m):∀(l:List AV),aS n l→aS m l
 | [],h=>by simp only [aS]
 | a::r,h=>by simp only [aS] at h ⊢;exact ⟨AV.bel.mono hm a h.1,aS.mono hm r h.2⟩
end
def lv (P:Program) (tt:aY) (base:World) (N0:Nat) (env:List AV) (H:av) (o:Op) (C:AV→av→Prop):Prop :=
 match cX env o with
 | some (f,args)=>∃r,(∀Hx:av,(∀l,l<N0∨l∈eu args→Hx[l]?=H[l]?)→bR P base f args Hx fun r' H'=>r'=r∧H'=Hx)∧r.bel H.length∧C r H
 | none=>fe o=true∧match dC tt H env o with
  | some (r,some ob)=>r.bel (H.length+1)∧C r (H++[ob])
  | some (r,none)=>r.bel H.length∧C r H
  | none=>False
def aH (P:Program) (tt:aY) (base:World) (N0:Nat) (ops:Array Oper):List Oper→List AV→av→(List AV→av→Prop)→Prop
 | [],env,H,K=>K env H
 | o::rest,env,H,K=>be ops env o.guard (lv P tt base N0 env H o.op fun r H'=>aH P tt base N0 ops rest (ba env o.dst r) H' K) (aH P tt base N0 ops rest (ba env o.dst c9) H K)
section
variable (ops:Array Oper) (env0:List AV) (H0:av) (r:Nat→AV) (ob:Nat→Option aN)
def eP:Nat→List AV
 | 0=>env0
 | k+1=>ba (eP k) (db ops k) (r k)
def hP:Nat→av
 | 0=>H0
 | k+1=>hP k++(ob k).toList
def ph (L:Array Bool):Nat→av
 | 0=>[]
 | k+1=>ph L k++(match ob k with
  | none=>[]
  | some o=>[if L.getD k false=true then o else .free])
def iS (P:Program) (tt:aY) (base:World) (j:Nat) (o:Oper):Prop :=
 match cX (eP ops env0 r j) o.op with
 | some (f,args)=>(∀Hx:av,(∀l,l<H0.length∨l∈eu args→Hx[l]?=(hP H0 ob j)[l]?)→bR P base f args Hx fun r' H'=>r'=r j∧H'=Hx)∧ob j=none∧(r j).bel (hP H0 ob j).length
 | none=>fe o.op=true∧dC tt (hP H0 ob j) (eP ops env0 r j) o.op=some (r j,ob j)∧(r j).bel (hP H0 ob (j+1)).length
def eE (P:Program) (tt:aY) (base:World) (j:Nat) (o:Oper):Prop :=
 match o.guard with
 | none=>iS ops env0 H0 r ob P tt base j o
 | some (g,want)=>∃y,bM ops (eP ops env0 r j) g=some y∧((cW y want=true∧iS ops env0 H0 r ob P tt base j o)∨(¬cW y want=true∧r j=c9∧ob j=none))
end
section
variable {ops:Array Oper} {env0:List AV} {H0:av}
theorem fh {r r':Nat→AV}:∀{k:Nat},(∀i,i<k→r' i=r i)→eP ops env0 r' k=eP ops env0 r k
 | 0,_=>rfl
 | k+1,h=>by simp only [eP];rw [fh fun i hi=>h i (by omega),h k (by omega)]
theorem iv {ob ob':Nat→Option aN}:∀{k:Nat},(∀i,i<k→ob' i=ob i)→hP H0 ob' k=hP H0 ob k
 | 0,_=>rfl
 | k+1,h=>by simp only [hP];rw [iv fun i hi=>h i (by omega),h k (by omega)]
theorem nU {P:Program} {tt:aY} {base:World} {K:List AV→av→Prop}:∀(l:List Oper) (k:Nat) (r:Nat→AV) (ob:Nat→Option aN),(∀j,j<l.length→l[j]?=ops[k+j]?)→aH P tt base H0.length ops l (eP ops env0 r k) (hP H0 ob k) K →
  ∃r' ob',(∀i,i<k→r' i=r i∧ob' i=ob i)∧(∀j o,k≤j→j<k+l.length→ops[j]?=some o→eE ops env0 H0 r' ob' P tt base j o)∧K (eP ops env0 r' (k+l.length)) (hP H0 ob' (k+l.length))
 | [],k,r,ob,_,h=>⟨r,ob,fun _ _=>⟨rfl,rfl⟩,fun j o h1 h2=>by simp at h2;omega,h⟩
 | o::l,k,r,ob,hl,h=>by
  have h0:ops[k]?=some o:=by simpa using (hl 0 (by simp)).symm
  have go:∀(v:AV) (q:Option aN),aH P tt base H0.length ops l (ba (eP ops env0 r k) o.dst v) (hP H0 ob k++q.toList) K →
    (∀r' ob',(∀i,i<k→r' i=r i∧ob' i=ob i)→r' k=v→ob' k=q→eE ops env0 H0 r' ob' P tt base k o) →
    ∃r' ob',(∀i,i<k→r' i=r i∧ob' i=ob i)∧(∀j o',k≤j→j<k+(o::l).length→ops[j]?=some o'→eE ops env0 H0 r' ob' P tt base j o')∧K (eP ops env0 r' (k+(o::l).length)) (hP H0 ob' (k+(o::l).length)):=by
   intro v q hv hp
   let r1:Nat→AV:=fun i=>if i=k then v else r i
   let ob1:Nat→Option aN:=fun i=>if i=k then q else ob i
   have e1:eP ops env0 r1 (k+1)=ba (eP ops env0 r k) o.dst v:=by
    simp only [eP,gN h0]
    rw [fh (r:=r) (r':=r1) fun i hi=>by simp [r1,Nat.ne_of_lt hi]]
    simp [r1]
   have e2:hP H0 ob1 (k+1)=hP H0 ob k++q.toList:=by
    simp only [hP]
    rw [iv (ob:=ob) (ob':=ob1) fun i hi=>by simp [ob1,Nat.ne_of_lt hi]]
    simp [ob1]
   obtain ⟨r',ob',a1,a2,a3⟩:=nU l (k+1) r1 ob1 (fun j hj=>by
    have:=hl (j+1) (by simpa using hj)
    rw [show k+1+j=k+(j+1) by omega]
    simpa using this) (by rw [e1,e2];exact hv)
   have b1:∀i,i<k→r' i=r i∧ob' i=ob i:=fun i hi=>by
    have:=a1 i (by omega)
    simp only [r1,ob1,Nat.ne_of_lt hi,if_false] at this
    exact this
   have b2:r' k=v∧ob' k=q:=by
    have:=a1 k (by omega)
    simpa [r1,ob1] using this
   refine ⟨r',ob',b1,fun j o' h1 h2 h3 => ?_,by rw [List.length_cons,show k+(l.length+1)=k+1+l.length by omega];exact a3⟩
   by_cases e:j=k
   ·subst e
    rw [h0] at h3
    cases h3
    exact hp r' ob' b1 b2.1 b2.2
   ·exact a2 j o' (by omega) (by simp only [List.length_cons] at h2;omega) h3
  simp only [aH,be] at h
  have run:lv P tt base H0.length (eP ops env0 r k) (hP H0 ob k) o.op (fun v H'=>aH P tt base H0.length ops l (ba (eP ops env0 r k) o.dst v) H' K) →
    ∃v q,aH P tt base H0.length ops l (ba (eP ops env0 r k) o.dst v) (hP H0 ob k++q.toList) K∧∀r' ob',(∀i,i<k→r' i=r i∧ob' i=ob i)→r' k=v→ob' k=q→iS ops env0 H0 r' ob' P tt base k o:=by
   intro h
   unfold lv at h
   split at h
   ·rename_i f args hac
    obtain ⟨v,h2,h3,h4⟩:=h
    refine ⟨v,none,by simpa using h4,fun r' ob' hr e1 e2 => ?_⟩
    unfold iS
    rw [fh fun i hi=>(hr i hi).1,hac,iv fun i hi=>(hr i hi).2,e1,e2]
    exact ⟨h2,rfl,h3⟩
   ·rename_i hac
    obtain ⟨h1,h⟩:=h
    split at h
    ·rename_i v q hst
     refine ⟨v,some q,by simpa using h.2,fun r' ob' hr e1 e2 => ?_⟩
     unfold iS
     simp only [hP]
     rw [fh fun i hi=>(hr i hi).1,hac,iv fun i hi=>(hr i hi).2,e1,e2]
     exact ⟨h1,hst,by simpa using h.1⟩
    ·rename_i v hst
     refine ⟨v,none,by simpa using h.2,fun r' ob' hr e1 e2 => ?_⟩
     unfold iS
     simp only [hP]
     rw [fh fun i hi=>(hr i hi).1,hac,iv fun i hi=>(hr i hi).2,e1,e2]
     exact ⟨h1,hst,by simpa using h.1⟩
    ·exact h.elim
  cases hg:o.guard with
  | none =>
   rw [hg] at h
   obtain ⟨v,q,h1,h2⟩:=run h
   exact go v q h1 fun r' ob' hr e1 e2=>by unfold eE;rw [hg];exact h2 r' ob' hr e1 e2
  | some g =>
   obtain ⟨g,want⟩:=g
   rw [hg] at h
   simp only at h
   split at h
   case h_2=>exact h.elim
   rename_i b hy
   split at h
   ·rename_i hb
    obtain ⟨v,q,h1,h2⟩:=run h
    exact go v q h1 fun r' ob' hr e1 e2=>by
     unfold eE;rw [hg]
     exact ⟨b,by rw [fh fun i hi=>(hr i hi).1];exact hy,.inl ⟨hb,h2 r' ob' hr e1 e2⟩⟩
   ·rename_i hb
    exact go c9 none (by simpa using h) fun r' ob' hr e1 e2=>by
     unfold eE;rw [hg]
     exact ⟨b,by rw [fh fun i hi=>(hr i hi).1];exact hy,.inr ⟨hb,e1,e2⟩⟩
end
end Av
end Go.Proofs.YtdekcppfpgeneaaGreatDoor
namespace Go.Proofs.YtdekcppfpgeneaaGreatDoor
open Go Go.RowKit
namespace Av
section
variable {ops:Array Oper} {env0:List AV} {H0:av} {r:Nat→AV} {ob:Nat→Option aN}
theorem tR (k:Nat):(hP H0 ob k).length≤(hP H0 ob (k+1)).length:=by simp [hP]
theorem ve {j k:Nat} (h:j≤k):(hP H0 ob j).length≤(hP H0 ob k).length:=by
 induction k with
 | zero=>rw [show j=0 by omega];exact Nat.le_refl _
 | succ k ih =>
  rcases Nat.lt_or_ge j (k+1) with h' | h'
  ·exact Nat.le_trans (ih (by omega)) (tR k)
  ·rw [show j=k+1 by omega];exact Nat.le_refl _
theorem vg (k:Nat):H0.length≤(hP H0 ob k).length:=ve (Nat.zero_le k)
theorem kD (L:Array Bool) (k:Nat):(H0++ph ob L k).length=(hP H0 ob k).length:=by
 induction k with
 | zero=>simp [ph,hP]
 | succ k ih =>
  simp only [ph,hP,List.length_append] at ih ⊢
  cases ob k<;>simp<;>omega
theorem zc {l k:Nat} (h:l<H0.length):(hP H0 ob k)[l]?=H0[l]?:=by
 induction k with
 | zero=>rfl
 | succ k ih =>
  simp only [hP]
  rw [List.getElem?_append_left (Nat.lt_of_lt_of_le h (vg k)),ih]
theorem yr {L:Array Bool} {l k:Nat} (h:l<H0.length):(H0++ph ob L k)[l]?=H0[l]?:=List.getElem?_append_left h
theorem D8 {i j:Nat} {o:aN} (hi:i<j) (ho:ob i=some o):(hP H0 ob j)[(hP H0 ob i).length]?=some o:=by
 induction j with
 | zero=>omega
 | succ j ih =>
  simp only [hP]
  rcases Nat.lt_or_ge i j with h | h
  ·rw [List.getElem?_append_left]
   ·exact ih h
   ·have:=ve (H0:=H0) (ob:=ob) (show i+1≤j by omega)
    simp only [hP,ho,List.length_append,Option.toList_some,List.length_cons,List.length_nil] at this
    omega
  ·have:i=j:=by omega
   subst this
   rw [ho];simp
theorem BY {L:Array Bool} {i n:Nat} {o:aN} (hi:i<n) (ho:ob i=some o):(H0++ph ob L n)[(hP H0 ob i).length]?=some (if L.getD i false=true then o else .free):=by
 induction n with
 | zero=>omega
 | succ n ih =>
  simp only [ph]
  rw [←List.append_assoc]
  rcases Nat.lt_or_ge i n with h | h
  ·rw [List.getElem?_append_left]
   ·exact ih h
   ·rw [kD]
    have:=ve (H0:=H0) (ob:=ob) (show i+1≤n by omega)
    simp only [hP,ho,List.length_append,Option.toList_some,List.length_cons,List.length_nil] at this
    omega
  ·have:i=n:=by omega
   subst this
   rw [List.getElem?_append_right (by rw [kD];exact Nat.le_refl _),kD,Nat.sub_self,ho]
   rfl
theorem ze {l j:Nat} (h1:H0.length≤l) (h2:l<(hP H0 ob j).length):∃i o,i<j∧ob i=some o∧l=(hP H0 ob i).length:=by
 induction j with
 | zero=>simp only [hP] at h2;omega
 | succ j ih =>
  rcases Nat.lt_or_ge l (hP H0 ob j).length with h | h
  ·obtain ⟨i,o,a,b,c⟩:=ih h
   exact ⟨i,o,by omega,b,c⟩
  ·cases ho:ob j with
   | none=>simp only [hP,ho,Option.toList_none,List.append_nil] at h2;omega
   | some o =>
    simp only [hP,ho,List.length_append,Option.toList_some,List.length_cons,List.length_nil] at h2
    exact ⟨j,o,by omega,ho,by omega⟩
theorem cR {L:Array Bool} {j:Nat} (ho:ob j=none) (n:Nat):ph ob (L.setIfInBounds j true) n=ph ob L n:=by
 induction n with
 | zero=>rfl
 | succ n ih =>
  simp only [ph,ih]
  by_cases e:j=n
  ·subst e;rw [ho]
  ·rw [getD_set_ne false e]
theorem tD {L:Array Bool} {j:Nat} (n:Nat) (h:n≤j):ph ob (L.setIfInBounds j true) n=ph ob L n:=by
 induction n with
 | zero=>rfl
 | succ n ih=>simp only [ph,ih (by omega)];rw [getD_set_ne false (by omega)]
theorem CA {L:Array Bool} {j n:Nat} {o:aN} (hj:j<n) (hL:j<L.size) (ho:ob j=some o):H0++ph ob (L.setIfInBounds j true) n=(H0++ph ob L n).set (hP H0 ob j).length o:=by
 induction n with
 | zero=>omega
 | succ n ih =>
  simp only [ph]
  rw [←List.append_assoc,←List.append_assoc]
  rcases Nat.lt_or_ge j n with h | h
  ·have hlt:(hP H0 ob j).length<(H0++ph ob L n).length:=by
    rw [kD]
    have:=ve (H0:=H0) (ob:=ob) (show j+1≤n by omega)
    simp only [hP,ho,List.length_append,Option.toList_some,List.length_cons,List.length_nil] at this
    omega
   rw [ih h,getD_set_ne false (by omega)]
   exact (List.set_append_left _ _ hlt).symm
  ·have:j=n:=by omega
   subst this
   rw [tD j (Nat.le_refl _),ho,List.set_append_right _ _ (by rw [kD];exact Nat.le_refl _),kD,Nat.sub_self]
   have hg:(L.setIfInBounds j true).getD j false=true:=by simp [hL]
   simp only [hg,if_true]
   split<;>rfl
theorem AS {L:Array Bool} {n:Nat} (h:∀i,i<n→L.getD i false=true):H0++ph ob L n=hP H0 ob n:=by
 induction n with
 | zero=>simp [ph,hP]
 | succ n ih =>
  simp only [ph,hP]
  rw [←List.append_assoc,ih fun i hi=>h i (by omega)]
  cases ob n with
  | none=>rfl
  | some o=>simp only [h n (by omega),if_true];rfl
theorem Sim.frees {base:World} {μ:Nat→Option Nat} {w:World} {H:av} (hs:Sim base ⟨μ,H,w⟩):∀k,Sim base ⟨μ,H++List.replicate k .free,w⟩∧Evo H.length ⟨μ,H,w⟩ ⟨μ,H++List.replicate k .free,w⟩
 | 0=>by simp only [List.replicate_zero,List.append_nil];exact ⟨hs,.refl _ _⟩
 | k+1=>by
  obtain ⟨h1,h2⟩:=Sim.frees hs k
  obtain ⟨h3,h4⟩:=h1.free
  rw [List.replicate_succ',←List.append_assoc]
  exact ⟨h3,h2.trans (h4.mono (by simp))⟩
theorem yu (k:Nat) (n:Nat) (hk:∀i,(Array.replicate k false).getD i false=false):∃m,ph ob (Array.replicate k false) n=List.replicate m .free:=by
 induction n with
 | zero=>exact ⟨0,rfl⟩
 | succ n ih =>
  obtain ⟨m,hm⟩:=ih
  simp only [ph,hm]
  cases ob n with
  | none=>exact ⟨m,by simp⟩
  | some o=>exact ⟨m+1,by rw [hk n];simp [List.replicate_succ']⟩
theorem uC {a0:Act} {u:Nat→Value} {s:St} (he:ax s env0 a0.tmps.toList) {L:Array Bool} (hr:∀i,L.getD i false=true→Rep s (r i) (u i)) (t:Tmp):∀k,(∀i,i<k→db ops i=some t→L.getD i false=true) →
  Rep s ((eP ops env0 r k).getD t .undef) ((br ops a0 u k).tmps.getD t Go.undef)∧(eP ops env0 r k).length=(br ops a0 u k).tmps.size
 | 0,_=>by
  have hlen:=he.length
  refine ⟨?_,by simpa [eP,br] using hlen⟩
  simp only [eP,br]
  exact (bz.mk (a:=⟨a0.tmps,[]⟩) (dg.nil 0 _) he).slot t
 | k+1,h=>by
  obtain ⟨h1,h2⟩:=uC he hr t k fun i hi=>h i (by omega)
  simp only [eP,br,ba,Act.put]
  cases hd:db ops k with
  | none=>exact ⟨h1,h2⟩
  | some d =>
   simp only
   refine ⟨?_,by simpa using h2⟩
   by_cases e:d=t
   ·subst e
    have hL:=h k (by omega) hd
    by_cases hlt:d<(eP ops env0 r k).length
    ·rw [List.getD_eq_getElem?_getD,List.getElem?_set_self hlt,Array.getD_eq_getD_getElem?,Array.getElem?_setIfInBounds_self_of_lt (Nat.lt_of_lt_of_eq hlt h2)]
     exact hr k hL
    ·rw [List.getD_eq_getElem?_getD,List.getElem?_eq_none (by simpa using Nat.le_of_not_lt hlt)]
     simp [Rep]
   ·rw [List.getD_eq_getElem?_getD,List.getElem?_set_ne (by omega),Array.getD_eq_getD_getElem?,Array.getElem?_setIfInBounds_ne (by omega),←List.getD_eq_getElem?_getD,←Array.getD_eq_getD_getElem?]
    exact h1
theorem rj (hb:aS H0.length env0) (t:Tmp):∀k,(∀i,i<k→(r i).bel (hP H0 ob (i+1)).length)→((eP ops env0 r k).getD t .undef).bel (hP H0 ob k).length
 | 0,_=>by
  simp only [eP,hP]
  have:∀(l:List AV) (t:Nat),aS H0.length l→(l.getD t .undef).bel H0.length:=by
   intro l
   induction l with
   | nil=>intro t _;simp [AV.bel]
   | cons a l ih =>
    intro t h
    simp only [aS] at h
    cases t with
    | zero=>exact h.1
    | succ t=>simpa using ih t h.2
  exact this env0 t hb
 | k+1,h=>by
  have h1:=rj hb t k fun i hi=>h i (by omega)
  simp only [eP,ba]
  have up:=AV.bel.mono (tR (H0:=H0) (ob:=ob) k) _ h1
  cases hd:db ops k with
  | none=>exact up
  | some d =>
   simp only
   by_cases e:d=t
   ·subst e
    by_cases hlt:d<(eP ops env0 r k).length
    ·rw [List.getD_eq_getElem?_getD,List.getElem?_set_self hlt]
     exact h k (by omega)
    ·rw [List.getD_eq_getElem?_getD,List.getElem?_eq_none (by simpa using Nat.le_of_not_lt hlt)]
     simp [AV.bel]
   ·rw [List.getD_eq_getElem?_getD,List.getElem?_set_ne (by omega),←List.getD_eq_getElem?_getD]
    exact up
theorem ll {env:List AV} {n:Nat} (h:∀t,(env.getD t .undef).bel n) (x:Operand):(bV env x).bel n:=by
 unfold bV
 split
 ·exact h _
 ·simp only [AV.bel]
  rename_i l
  induction l.toList with
  | nil=>simp [aS]
  | cons a l ih=>simp only [List.map_cons,aS,AV.bel,true_and];exact ih
 ·simp only [AV.bel]
 ·simp only [AV.bel,aS];exact ⟨trivial,trivial⟩
 ·simp only [AV.bel]
end
end Av
end Go.Proofs.YtdekcppfpgeneaaGreatDoor
namespace Go.Proofs.YtdekcppfpgeneaaGreatDoor
open Go Go.RowKit
namespace Av
variable {n0:Nat}
section
variable {P:Program} {tt:aY} {base:World} {ops:Array Oper} {md:Region.Mode} {env0:List AV} {H0:av} {r:Nat→AV} {ob:Nat→Option aN}
theorem Ba (hT:bD P tt) {n j:Nat} {o:Oper} (hjn:j<n) (ho:ops[j]?=some o) (hco:o.op.operands.toList.all d9=true) (hplan:eE ops env0 H0 r ob P tt base j o) (hbel:∀i,i<j→(r i).bel (hP H0 ob (i+1)).length) (hb0:aS H0.length env0)
  {a0:Act} {u:Nat→Value} {L:Array Bool} (hLs:j<L.size) (hLj:L.getD j false=false) (hlook:∀i d,i<j→db ops i=some d→d∈o.looksAt ops→L.getD i false=true)
  {μ:Nat→Option Nat} {w:World} (hs:Sim base ⟨μ,H0++ph ob L n,w⟩) (he:ax ⟨μ,H0++ph ob L n,w⟩ env0 a0.tmps.toList) (hr:∀i,L.getD i false=true→Rep ⟨μ,H0++ph ob L n,w⟩ (r i) (u i))
  {K:Act→World→Prop} {Q:Exit→Act→World→Prop} {a:Act} (hex:execOp a.eval o=execOp (br ops a0 u j).eval o) (hwa:Region.wanted o (yielded ops a.tmps)=Region.wanted o (yielded ops (br ops a0 u j).tmps))
  (hK:∀v μ' w',Sim base ⟨μ',H0++ph ob (L.setIfInBounds j true) n,w'⟩→Rep ⟨μ',H0++ph ob (L.setIfInBounds j true) n,w'⟩ (r j) v→Evo (H0++ph ob L n).length ⟨μ,H0++ph ob L n,w⟩ ⟨μ',H0++ph ob (L.setIfInBounds j true) n,w'⟩→K (a.put o.dst v) w') :
  wpOp P ops Q j K a w:=by
 have slot:∀d,d∈o.looksAt ops→Rep ⟨μ,H0++ph ob L n,w⟩ ((eP ops env0 r j).getD d .undef) ((br ops a0 u j).tmps.getD d Go.undef)∧(eP ops env0 r j).length=(br ops a0 u j).tmps.size:=fun d hd =>
  uC he hr d j fun i hi hid=>hlook i d hi hid hd
 have hsb:∀t,((eP ops env0 r j).getD t .undef).bel (hP H0 ob j).length:=fun t=>rj hb0 t j hbel
 have hρ:∀x∈o.op.operands,Rep ⟨μ,H0++ph ob L n,w⟩ (bV (eP ops env0 r j) x) ((br ops a0 u j).eval x):=fun x hx=>by
  have hc:=List.all_eq_true.1 hco x (by simpa using hx)
  cases x with
  | tmp d=>exact (slot d (List.mem_append_left _ (List.mem_filterMap.2 ⟨.tmp d,by simpa using hx,rfl⟩))).1
  | const v =>
   have h1:=(bz.mk (a:=⟨a0.tmps,[]⟩) (dg.nil 0 _) he).eval (x := .const v) hc
   rwa [show bV env0 (.const v)=bV (eP ops env0 r j) (.const v) by cases v<;>rfl] at h1
  | global g=>simp only [bV,Rep]
  | func f=>simp only [bV,Rep];exact ⟨_,_,rfl,.nil,.nil⟩
 have same:∀(A:AV) (v:Value),Rep ⟨μ,H0++ph ob L n,w⟩ A v→A.bel (hP H0 ob j).length→∀l∈A.refs,(H0++ph ob L n)[l]?=(hP H0 ob j)[l]?∧l<(hP H0 ob j).length:=by
  intro A v hA hAb l hl
  have hlt:=sQ A hAb l hl
  refine ⟨?_,hlt⟩
  rcases Nat.lt_or_ge l H0.length with h | h
  ·rw [yr h,zc h]
  ·obtain ⟨i,o',hi,hoi,rfl⟩:=ze h hlt
   obtain ⟨x,hx1,hx2⟩:=Rep.refs A v hA _ hl
   rw [D8 hi hoi]
   have hx1':(H0++ph ob L n)[(hP H0 ob i).length]?=some x:=hx1
   rw [BY (by omega:i<n) hoi] at hx1' ⊢
   by_cases hL:L.getD i false=true
   ·rw [if_pos hL]
   ·rw [if_neg hL] at hx1'
    exact absurd (Option.some.inj hx1').symm hx2
 have run:iS ops env0 H0 r ob P tt base j o→o.wp P a w K Q:=by
  intro h
  unfold iS at h
  split at h
  ·rename_i f args hac
   obtain ⟨h1,h2,h3⟩:=h
   unfold cX at hac
   split at hac
   case h_2=>cases hac
   rename_i c hop
   split at hac
   case h_2=>cases hac
   rename_i fo hcal
   split at hac
   case h_2=>cases hac
   rename_i g first caps hfo
   simp only [Option.some.injEq,Prod.mk.injEq] at hac
   obtain ⟨rfl,rfl⟩:=hac
   have hfm:fo∈o.op.operands:=by rw [hop];simp [Op.operands,Call.operands,hcal]
   have hf:=hρ fo hfm
   have hfb:=ll hsb fo
   rw [hfo] at hf hfb
   have hf':=hf
   simp only [Rep] at hf
   simp only [AV.bel] at hfb
   obtain ⟨vf,vc,hfv,hf1,hf2⟩:=hf
   have hargs:=fU c.args.toList (ρ:=(br ops a0 u j).eval) (ρA:=bV (eP ops env0 r j)) (s:=⟨μ,H0++ph ob L n,w⟩) fun x hx=>hρ x (by rw [hop];simp [Op.operands,Call.operands];exact .inr (by simpa using hx))
   have hrep:ax ⟨μ,H0++ph ob L n,w⟩ (first++c.args.toList.map (bV (eP ops env0 r j))++caps) (vf++c.args.map (br ops a0 u j).eval++vc).toList:=by
    simpa using (hf1.append hargs).append hf2
   have hbelA:aS (hP H0 ob j).length (first++c.args.toList.map (bV (eP ops env0 r j))++caps):=by
    have app:∀(a b:List AV),aS (hP H0 ob j).length a→aS (hP H0 ob j).length b→aS (hP H0 ob j).length (a++b):=by
     intro a
     induction a with
     | nil=>intro b _ h;exact h
     | cons x a ih=>intro b h k;simp only [List.cons_append,aS] at h ⊢;exact ⟨h.1,ih b h.2 k⟩
    refine app _ _ (app _ _ hfb.1 ?_) hfb.2
    generalize c.args.toList=xs
    induction xs with
    | nil=>simp [aS]
    | cons x xs ih=>simp only [List.map_cons,aS];exact ⟨ll hsb x,ih⟩
   have hC:=h1 (H0++ph ob L n) fun l hl=>by
    rcases hl with hl | hl
    ·rw [yr hl,zc hl]
    have:=same (.agg (first++c.args.toList.map (bV (eP ops env0 r j))++caps)) (.agg (vf++c.args.map (br ops a0 u j).eval++vc)) (by simp only [Rep];exact ⟨_,rfl,hrep⟩) (by simp only [AV.bel];exact hbelA) l (by simpa only [AV.refs] using hl)
    exact this.1
   have cJ:(execOp (br ops a0 u j).eval o).run P w = .ok (.enter g (vf++c.args.map (br ops a0 u j).eval++vc)) w:=by
    obtain ⟨callee,cargs,cts⟩:=c
    simp only at hcal
    subst hcal
    unfold execOp
    rw [hop]
    simp only [resolve,hfv,Deferred.ofValue,Sem.run_bind,Sem.run_pure,Result.andThen_ok,invoke,hC.enter]
   unfold Oper.wp
   rw [hex,cJ,Oper.upon_enter]
   refine (hC.run μ w _ hs hrep).mono ?_
   rintro e w' ⟨v,r',H',μ',rfl,⟨rfl,rfl⟩,k2,k3,k4,k5⟩
   refine hK v μ' w' ?_ ?_ ?_
   ·rw [cR h2];exact k3
   ·rw [cR h2];exact k4
   ·rw [cR h2];exact k5
  ·obtain ⟨hh,hst,_⟩:=h
   have hloc:∀x∈o.op.operands,∀l,(bV (eP ops env0 r j) x).ref=some l→(H0++ph ob L n)[l]?=(hP H0 ob j)[l]?∧l<(hP H0 ob j).length:=fun x hx l hl =>
    same _ _ (hρ x hx) (ll hsb x) l (yk hl)
   unfold dC at hst
   split at hst
   ·rename_i hal
    split at hst
    case h_2=>cases hst
    rename_i r' l' ob' hao
    split at hst
    case isFalse=>cases hst
    rename_i hl'
    subst hl'
    have hx:=Option.some.inj hst
    have hms:∀t k ps,o.op = .buildSlice t k ps→∃m,r' = .ms (hP H0 ob j).length 0 m:=fun t k ps e=>by
     rw [e] at hao
     exact ⟨_,xo hao⟩
    obtain ⟨ob2,hob⟩:∃ob2,ob j=some ob2:=by
     obtain ⟨o2,h2,_⟩:=zb (base:=base) (s0:=⟨μ,[],w⟩) (N:=0) (S:=(hP H0 ob j)++[.free]) (n:=(hP H0 ob j).length) (by simp) hx hms
     exact ⟨o2,h2⟩
    have hao2:aop tt (H0++ph ob L n) (hP H0 ob j).length (bV (eP ops env0 r j)) o.op=some (r',some ((hP H0 ob j).length,ob')):=by
     rw [←hao]
     refine vw hh fun x hx l hl => ?_
     have:=hloc x hx l hl
     rw [this.1,List.getElem?_append_left this.2]
    have hfree:(H0++ph ob L n)[(hP H0 ob j).length]?=some .free:=by
     rw [BY hjn hob,if_neg (by rw [hLj];simp)]
    obtain ⟨ob3,hob3,hfix⟩:=zb (base:=base) (s0:=⟨μ,H0++ph ob L n,w⟩) (N:=(H0++ph ob L n).length) (S:=H0++ph ob L n) (n:=(hP H0 ob j).length) (aF hfree) hx hms
    obtain rfl:ob2=ob3:=Option.some.inj (hob.symm.trans hob3)
    obtain ⟨nx,v,w',μ',k1,k2,k3,k4,k5⟩:=jc hT hs (o:=o) hρ (fun _=>hfree) hao2
    simp only [dh] at k3 k4 k5
    obtain ⟨k3,k4,k5⟩:=hfix _ _ _ k3 k4 k5
    rw [←CA hjn hLs hob] at k3 k4 k5
    have hfin:=hK v μ' w' k3 k4 k5
    unfold Oper.wp
    rw [hex,k1]
    rcases k2 with rfl | ⟨rfl,rfl⟩
    ·exact hfin
    ·exact hfin
   ·rename_i hal
    split at hst
    case h_2=>cases hst
    rename_i r' hao
    simp only [Option.some.injEq,Prod.mk.injEq] at hst
    obtain ⟨e1,e2⟩:=hst
    subst e1
    have hob:ob j=none:=e2.symm
    have hao2:aop tt (H0++ph ob L n) 0 (bV (eP ops env0 r j)) o.op=some (r j,none):=by
     rw [←hao]
     exact vw hh fun x hx l hl=>(hloc x hx l hl).1
    obtain ⟨nx,v,w',μ',k1,k2,k3,k4,k5⟩:=jc hT hs (o:=o) hρ (fun h=>absurd h hal) hao2
    simp only [dh] at k3 k4 k5
    have hfin:=hK v μ' w' (by rw [cR hob];exact k3) (by rw [cR hob];exact k4) (by rw [cR hob];exact k5)
    unfold Oper.wp
    rw [hex,k1]
    rcases k2 with rfl | ⟨rfl,rfl⟩
    ·exact hfin
    ·exact hfin
 unfold wpOp
 rw [ho]
 simp only
 rw [hwa]
 unfold eE at hplan
 cases hg:o.guard with
 | none =>
  rw [hg] at hplan
  simp only [Region.wanted,hg,if_true]
  exact .inl (run hplan)
 | some gw =>
  obtain ⟨g,want⟩:=gw
  rw [hg] at hplan
  obtain ⟨y,hy,hpl⟩:=hplan
  have hy2:yielded ops (br ops a0 u j).tmps g=y:=by
   unfold bM at hy
   unfold yielded
   cases hd:(ops[g]?).bind (·.dst) with
   | none=>rw [hd] at hy;cases hy
   | some d =>
    rw [hd] at hy
    simp only at hy
    have hs1:=slot d (by simp [Oper.looksAt,hg,hd])
    split at hy
    ·rename_i b' hb
     simp only [Option.some.injEq] at hy
     subst hy
     obtain ⟨h1,h2⟩:=hs1
     rw [hb] at h1
     simp only [Rep,aQ] at h1
     have hlt:d<(br ops a0 u j).tmps.size:=by
      refine Nat.lt_of_not_le fun hge => ?_
      rw [List.getD_eq_getElem?_getD,List.getElem?_eq_none (Nat.le_trans (Nat.le_of_eq h2) hge)] at hb
      simp at hb
     have h3:=h1.1
     rw [Array.getD_eq_getD_getElem?,Array.getElem?_eq_getElem hlt] at h3
     simp only [Option.bind_some,Array.getElem?_eq_getElem hlt]
     simp only [Option.getD_some] at h3
     rw [h3]
    ·rename_i c hb
     simp only [Option.some.injEq] at hy
     subst hy
     obtain ⟨h1,h2⟩:=hs1
     rw [hb] at h1
     simp only [Rep,aQ] at h1
     have hlt:d<(br ops a0 u j).tmps.size:=by
      refine Nat.lt_of_not_le fun hge => ?_
      rw [List.getD_eq_getElem?_getD,List.getElem?_eq_none (Nat.le_trans (Nat.le_of_eq h2) hge)] at hb
      simp at hb
     have h3:=h1.1
     rw [Array.getD_eq_getD_getElem?,Array.getElem?_eq_getElem hlt] at h3
     simp only [Option.bind_some,Array.getElem?_eq_getElem hlt]
     simp only [Option.getD_some] at h3
     rw [h3]
    ·cases hy
  simp only [Region.wanted,hg,hy2]
  rw [gZ] at hpl
  rcases hpl with ⟨hb,cJ⟩ | ⟨hb,h1,h2⟩
  ·rw [if_pos hb]
   exact .inl (run cJ)
  ·rw [if_neg hb]
   refine hK Go.undef μ w (by rw [cR h2];exact hs) (by rw [h1];simp only [c9,Rep,aQ];exact ⟨rfl,trivial⟩) (by rw [cR h2];exact .refl _ _)
def xU (ops:Array Oper) (n:Nat) (ks:List Nat):Bool :=
 (List.range n).all fun i=>ks.contains i||(List.range (n+1)).any fun j=>decide (i<j)&&Region.waitsFor .any ops j i
def uD (ops:Array Oper) (n:Nat):List Nat→Array Bool→Bool
 | [],_=>true
 | k::ks,L=>decide (k<n)&&(match ops[k]? with
  | some o=>(match o.op,o.guard with
   | .move (.tmp t),none=>(List.range ops.size).all fun i=>db ops i != some t
   | _,_=>false)
  | none=>false)&&(Region.ready .any ops L).contains k&&Region.free .any ops L k&&uD ops n ks (L.setIfInBounds k true)
def oL (ops:Array Oper) (n:Nat) (ks:List Nat):Bool :=
 (n == ops.size||(xU ops n ks&&Region.chainB .any ops n))&&Region.seqB .any ops (ops.size - n) n (lJ ops n)
theorem xG {n:Nat} (h:lz .any ops n=true):oL ops n []=true:=by
 simp only [lz,oL,Bool.and_eq_true,Bool.or_eq_true] at h ⊢
 refine ⟨h.1.imp id fun k=>⟨?_,k.2⟩,h.2⟩
 have:=k.1
 unfold Region.sinkB at this
 unfold xU
 rw [List.all_eq_true] at this ⊢
 intro i hi
 rw [this i hi]
 simp
theorem ra {n:Nat} {ks:List Nat} {listed:Array Bool} (hs:xU ops n ks=true) (hc:Region.chainB .any ops n=true) (hn:n<ops.size) (inv:HeadInv .any ops n listed) (hks:∀k∈ks,listed.getD k false=true) :
  ∀(d i:Nat),n - i=d→i<n→listed.getD i true=false→∀t,n≤t→t ∉ Region.ready .any ops listed:=by
 intro d
 induction d using Nat.strongRecOn with
 | _ d ih =>
  intro i hd hi hun t ht hr
  obtain ⟨_,ot,hot,hall⟩:=mem_ready.1 hr
  have htlt:t<ops.size:=(Array.getElem?_eq_some_iff.1 hot).1
  by_cases htn:t=n
  ·subst htn
   have h1:=List.all_eq_true.1 hs i (List.mem_range.2 hi)
   simp only [Bool.or_eq_true,List.contains_iff_mem] at h1
   rcases h1 with h1 | h1
   ·have:=hks i h1
    rw [getD_both hun] at this
    cases this
   obtain ⟨j,hj,hj2⟩:=List.any_eq_true.1 h1
   simp only [Bool.and_eq_true,decide_eq_true_eq] at hj2
   obtain ⟨oj,hoj,e,he,hb,hon⟩:=Region.waitsFor_spec hj2.2
   have hjle:j≤t:=by have:=List.mem_range.1 hj;omega
   by_cases hjt:j=t
   ·subst hjt
    have:oj=ot:=Option.some.inj (hoj.symm.trans hot)
    subst this
    have h2:=hall e he hb
    rw [hon,getD_both hun] at h2
    cases h2
   ·cases hl:listed.getD j false with
    | true =>
     have h2:=inv.closed j oj hoj hl e he hb
     rw [hon,getD_both hun] at h2
     cases h2
    | false =>
     have hjs:j<listed.size:=by rw [inv.size];omega
     exact ih (t - j) (by omega) j rfl (by omega) (getD_in hjs hl) t (Nat.le_refl _) hr
  ·have h1:=List.all_eq_true.1 hc t (List.mem_range.2 htlt)
   simp only [Bool.or_eq_true,decide_eq_true_eq] at h1
   rcases h1 with h1 | h1
   ·omega
   ·obtain ⟨o',ho',e,he,hb,hon⟩:=Region.waitsFor_spec h1
    have:o'=ot:=Option.some.inj (ho'.symm.trans hot)
    subst this
    have h2:=hall e he hb
    rw [hon,getD_both (inv.tail (t - 1) (by omega) (by omega))] at h2
    cases h2
theorem wN (hT:bD P tt) (hm:P.follows .mixedOrders=true) (hc:jN ops=true) {n:Nat} {ks:List Nat} (hF:je .any ops n) (hTl:oL ops n ks=true) (hb0:aS H0.length env0)
  (hplan:∀j o,j<n→ops[j]?=some o→eE ops env0 H0 r ob P tt base j o) (hbel:∀i,i<n→(r i).bel (hP H0 ob (i+1)).length) {a0:Act} {Q:Exit→Act→World→Prop} (s0:St) (N:Nat) (hN:N≤H0.length)
  (hend:∀(u:Nat→Value) (μ:Nat→Option Nat) (w:World),Sim base ⟨μ,hP H0 ob n,w⟩→bz n0 ⟨μ,hP H0 ob n,w⟩ (eP ops env0 r n) (br ops a0 u n)→Evo N s0 ⟨μ,hP H0 ob n,w⟩→wpAny P .any ops Q (ops.size - n) (lJ ops n) (br ops a0 u n) w) :
  ∀(m:Nat) (L:Array Bool) (u:Nat→Value) (a:Act) (μ:Nat→Option Nat) (w:World),unl L n=m→HeadInv .any ops n L→(∀k∈ks,L.getD k false=true)→bX ops a0 u (fun i=>i<n∧L.getD i false=true) a →
   Sim base ⟨μ,H0++ph ob L n,w⟩→dg n0 ⟨μ,H0++ph ob L n,w⟩ a0.defers→ax ⟨μ,H0++ph ob L n,w⟩ env0 a0.tmps.toList→(∀i,L.getD i false=true→Rep ⟨μ,H0++ph ob L n,w⟩ (r i) (u i))→Evo N s0 ⟨μ,H0++ph ob L n,w⟩→wpAny P .any ops Q (m+(ops.size - n)) L a w:=by
 simp only [oL,Bool.and_eq_true,Bool.or_eq_true,beq_iff_eq] at hTl
 obtain ⟨hT1,hT2⟩:=hTl
 intro m
 induction m with
 | zero =>
  intro L u a μ w hm' inv hks hf hs hd0 he hr hev
  have hall:=qY L n hm'
  have hle:=hF.le
  have hL:L=lJ ops n:=by
   apply Array.ext
   ·rw [inv.size];simp [lJ]
   ·intro i h1 h2
    by_cases hin:i<n
    ·have:=hall i hin
     simp [h1] at this
     simp [lJ,hin,this]
    ·have:=inv.tail i (by omega) (by rw [←inv.size];exact h1)
     simp [h1] at this
     simp [lJ,hin,this]
  have ht:∀i,i<n→L.getD i false=true:=fun i hi=>by
   have h1:=hall i hi
   have:i<L.size:=by rw [inv.size];omega
   simp [this] at h1 ⊢
   exact h1
  have ha:a=br ops a0 u n:=hf.eq (ir hF a0 u n (Nat.le_refl _)) fun i=>⟨fun h=>h.1,fun h=>⟨h,ht i h⟩⟩
  rw [Nat.zero_add,ha,hL]
  rw [AS ht] at hs hd0 he hr hev
  refine hend u μ w hs ⟨?_,?_⟩ hev
  ·rw [←ha,hf.defers];exact hd0
  ·have:∀k,k≤n→ax ⟨μ,hP H0 ob n,w⟩ (eP ops env0 r k) (br ops a0 u k).tmps.toList:=by
    intro k
    induction k with
    | zero=>intro _;exact he
    | succ k ih =>
     intro hk
     have h1:=ih (by omega)
     simp only [eP,br,ba,Act.put]
     cases hd:db ops k with
     | none=>exact h1
     | some d =>
      simp only [Array.toList_setIfInBounds]
      exact ax.set (hr k (ht k (by omega))) d h1
   exact this n (Nat.le_refl _)
 | succ m ih =>
  intro L u a μ w hm' inv hks hf hs hd0 he hr hev
  have hle:=hF.le
  obtain ⟨i0,hi0,hu0,hlow⟩:∃i,i<n∧L.getD i true=false∧∀k,k<i→L.getD k true=true:=by
   rcases jS n L n (Nat.le_refl _) with h | h
   ·exfalso
    have:∀k,k≤n→unl L k=0:=by
     intro k
     induction k with
     | zero=>intro _;rfl
     | succ k ihk=>intro hk;rw [unl,ihk (by omega),h k (by omega)];rfl
    rw [this n (Nat.le_refl _)] at hm'
    omega
   ·exact h
  have hready:i0∈Region.ready .any ops L:=by
   have ho:ops[i0]?=some ops[i0]:=Array.getElem?_eq_getElem (by omega)
   refine mem_ready.2 ⟨hu0,_,ho,fun e he hb => ?_⟩
   have h1:=hF.edge i0 _ hi0 ho e he hb
   have h2:=hlow e.on h1
   have:e.on<L.size:=by rw [inv.size];omega
   simp [this] at h2 ⊢
   exact h2
  rw [show m+1+(ops.size - n)=(m+(ops.size - n))+1 by omega]
  refine ⟨fun h0=>(by rw [h0] at hready;cases hready),fun j hj => ?_⟩
  have hjn:j<n:=by
   obtain ⟨_,oj,hoj,_⟩:=mem_ready.1 hj
   have hjs:=(Array.getElem?_eq_some_iff.1 hoj).1
   rcases hT1 with h | h
   ·omega
   ·rcases Nat.lt_or_ge j n with h' | h'
    ·exact h'
    ·exact absurd hj (ra h.1 h.2 (by omega) inv hks _ i0 rfl hi0 hu0 j h')
  obtain ⟨hjun,oj,hoj,hall⟩:=mem_ready.1 hj
  have hj0:¬L.getD j false=true:=by rw [getD_both hjun];simp
  have hwait:∀i,Region.waitsFor .any ops j i=true→L.getD i false=true:=fun i hi=>by
   obtain ⟨o',ho',e,he,hb,hon⟩:=Region.waitsFor_spec hi
   have:o'=oj:=Option.some.inj (ho'.symm.trans hoj)
   subst this
   rw [←hon]
   exact hall e he hb
  have hlex:=ir hF a0 u j (by omega)
  have hsame:∀d,d∈oj.looksAt ops→a.tmps[d]?=(br ops a0 u j).tmps[d]?:=fun d hd=>by
   by_cases hx:∃i,i<n∧db ops i=some d
   ·obtain ⟨i,hi,hid⟩:=hx
    have h1:=hF.look i j hi hjn d oj hid hoj hd
    have h2:=hwait i h1.2
    rw [hf.new i d ⟨hi,h2⟩ hid,hlex.new i d h1.1 hid]
   ·rw [hf.old d fun i hi hid=>hx ⟨i,hi.1,hid⟩,hlex.old d fun i hi hid=>hx ⟨i,by omega,hid⟩]
  have hsel:=Region.noSelect_spec hF.sel j
  have hex:execOp a.eval oj=execOp (br ops a0 u j).eval oj:=tV (ops:=ops) (fun cs b=>hsel oj cs b hoj) hsame
  have hwa:Region.wanted oj (yielded ops a.tmps)=Region.wanted oj (yielded ops (br ops a0 u j).tmps):=pG hsame
  have hmem:oj∈ops.toList:=List.mem_of_getElem? (by simpa using hoj)
  have hjs:j<L.size:=by rw [inv.size];omega
  refine Ba hT hjn hoj (List.all_eq_true.1 hc oj hmem) (hplan j oj hjn hoj) (fun i hi=>hbel i (by omega)) hb0 hjs (getD_both hjun) (fun i d hi hid hd=>hwait i (hF.look i j (by omega) hjn d oj hid hoj hd).2) hs he hr hex hwa ?_
  intro v μ' w' k1 k2 k3
  have hu':=pI L j hjun n
  have hNl:N≤(H0++ph ob L n).length:=by simp only [List.length_append];omega
  refine ih (L.setIfInBounds j true) (Go.Proofs.YtdekcppfpgeneaaGreatDoor.upd u j v) (a.put oj.dst v) μ' w' (by have:=hu'.1 hjn;omega) (inv.set hj hjn) (fun k hk=>getD_set_true (hks k hk)) ?_ k1 (hd0.keeps k3.keeps) (ax.evo k3 _ _ he) (fun i hLi => ?_) (hev.trans (k3.mono hNl))
  ·have h1:bX ops a0 (Go.Proofs.YtdekcppfpgeneaaGreatDoor.upd u j v) (fun i=>i<n∧L.getD i false=true) a:=hf.congr fun i hi=>by
    rw [Go.Proofs.YtdekcppfpgeneaaGreatDoor.upd_ne u v fun e=>hj0 (by rw [←e];exact hi.2)]
   have h2:=h1.put (T:=fun i=>i<n∧(L.setIfInBounds j true).getD i false=true) j (fun i hi d hd=>fun e=>hF.apart i j hi.1 hjn (fun e'=>hj0 (by rw [←e'];exact hi.2)) d e hd) (fun i=>by
    by_cases e:j=i
    ·subst e
     simp [hjs,hjn]
    ·rw [getD_set_ne false e]
     constructor
     ·exact fun h => .inl h
     ·rintro (h | h)
      ·exact h
      ·exact absurd h.symm e)
   rw [Go.Proofs.YtdekcppfpgeneaaGreatDoor.upd_same,gN hoj] at h2
   exact h2
  ·by_cases e:j=i
   ·subst e;rw [Go.Proofs.YtdekcppfpgeneaaGreatDoor.upd_same];exact k2
   ·rw [getD_set_ne false e] at hLi
    rw [Go.Proofs.YtdekcppfpgeneaaGreatDoor.upd_ne u v (Ne.symm e)]
    exact Rep.evo k3 _ _ (hr i hLi)
end
section
variable {P:Program} {tt:aY} {base:World} {ops:Array Oper} {env0:List AV} {H0:av} {r:Nat→AV} {ob:Nat→Option aN}
theorem zy {t:Nat}:∀{k:Nat},(∀i,i<k→db ops i≠some t)→(eP ops env0 r k).getD t .undef=env0.getD t .undef
 | 0,_=>rfl
 | k+1,h=>by
  simp only [eP]
  rw [←zy (k:=k) fun i hi=>h i (by omega)]
  cases hd:db ops k with
  | none=>rfl
  | some d =>
   have hne:d≠t:=fun e=>h k (by omega) (by rw [hd,e])
   simp only [ba,List.getD_eq_getElem?_getD,List.getElem?_set_ne hne]
theorem oO {Q:Exit→Act→World→Prop} (hp:∀c a w,¬Q (.panic c) a w) {n:Nat} (hF:je .any ops n)
  (hplan:∀j o,j<n→ops[j]?=some o→eE ops env0 H0 r ob P tt base j o) {a0:Act} {μ:Nat→Option Nat} {w:World} (f:Nat)
  (he:ax ⟨μ,H0++ph ob (Array.replicate ops.size false) n,w⟩ env0 a0.tmps.toList) :
  ∀(ks:List Nat) (L:Array Bool) (u:Nat→Value) (a:Act),uD ops n ks L=true→ph ob L n=ph ob (Array.replicate ops.size false) n→HeadInv .any ops n L→bX ops a0 u (fun i=>i<n∧L.getD i false=true) a →
   (∀i,L.getD i false=true→Rep ⟨μ,H0++ph ob (Array.replicate ops.size false) n,w⟩ (r i) (u i)) →
   (∀(L':Array Bool) (u':Nat→Value) (a':Act),ph ob L' n=ph ob (Array.replicate ops.size false) n→HeadInv .any ops n L'→bX ops a0 u' (fun i=>i<n∧L'.getD i false=true) a' →
    (∀i,L'.getD i false=true→Rep ⟨μ,H0++ph ob (Array.replicate ops.size false) n,w⟩ (r i) (u' i))→(∀k∈ks,L'.getD k false=true)→(∀k,L.getD k false=true→L'.getD k false=true)→wpAny P .any ops Q (unl L' n+(ops.size - n)) L' a' w) →
   wpAny P .any ops Q (unl L n+(ops.size - n)) L a w
 | [],L,u,a,_,hph,inv,hf,hr,hk=>hk L u a hph inv hf hr (fun _ h=>by cases h) fun _ h=>h
 | k::ks,L,u,a,hB,hph,inv,hf,hr,hk=>by
  simp only [uD,Bool.and_eq_true,decide_eq_true_eq] at hB
  obtain ⟨⟨⟨⟨hkn,hmv⟩,hrd⟩,hfr⟩,hB⟩:=hB
  have hks:k<ops.size:=by have:=hF.le;omega
  have ho:ops[k]?=some ops[k]:=Array.getElem?_eq_getElem hks
  rw [ho] at hmv
  simp only at hmv
  generalize hok:ops[k]=o at ho hmv
  split at hmv
  case h_2=>cases hmv
  rename_i t hop hgu
  have hnot:∀i,i<ops.size→db ops i≠some t:=fun i hi=>by
   have:=List.all_eq_true.1 hmv i (List.mem_range.2 hi)
   simpa using this
  have hready:k∈Region.ready .any ops L:=by simpa using hrd
  have hun:=(mem_ready.1 hready).1
  have hat:a.tmps[t]?=a0.tmps[t]?:=hf.old t fun i hi hid=>hnot i (by have:=hF.le;omega) hid
  have hrk:r k=env0.getD t .undef∧ob k=none:=by
   have h1:=hplan k o hkn ho
   unfold eE at h1
   rw [hgu] at h1
   simp only at h1
   unfold iS at h1
   rw [hop] at h1
   simp only [cX,dC,jv,aop,Bool.false_eq_true,if_false,Option.some.injEq,Prod.mk.injEq,bV] at h1
   rw [zy fun i hi=>hnot i (by omega)] at h1
   exact ⟨h1.2.1.1.symm,h1.2.1.2.symm⟩
  have hv:Rep ⟨μ,H0++ph ob (Array.replicate ops.size false) n,w⟩ (r k) (a.eval (.tmp t)):=by
   rw [hrk.1]
   have h1:=(bz.mk (a:=⟨a0.tmps,[]⟩) (dg.nil 0 _) he).slot t
   have e:a.eval (.tmp t)=a0.tmps.getD t Go.undef:=by
    show a.tmps.getD t Go.undef=_
    simp only [Array.getD_eq_getD_getElem?,hat]
   rw [e]
   exact h1
  have hu':=pI L k hun n
  have e1:unl L n=unl (L.setIfInBounds k true) n+1:=by have:=hu'.1 hkn;omega
  rw [e1,show unl (L.setIfInBounds k true) n+1+(ops.size - n)=(unl (L.setIfInBounds k true) n+(ops.size - n))+1 by omega]
  refine wpAny_take ho hF.sel hfr hrd (fun c a w h=>absurd h (hp c _ w)) (v:=a.eval (.tmp t)) (.inl ⟨by simp [Region.wanted,hgu],fun w=>by unfold execOp;rw [hop];rfl⟩) ?_
  have hkL:k<L.size:=by rw [inv.size];exact hks
  refine oO hp hF hplan f he ks _ (Go.Proofs.YtdekcppfpgeneaaGreatDoor.upd u k (a.eval (.tmp t))) _ hB (by rw [cR hrk.2];exact hph) (inv.set hready hkn) ?_ (fun i hLi => ?_) fun L' u' a' q1 q2 q3 q4 q5 q6=>hk L' u' a' q1 q2 q3 q4 (fun x hx => ?_) fun x hx=>q6 x (getD_set_true hx)
  ·have hj0:¬L.getD k false=true:=by rw [getD_both hun];simp
   have h1:bX ops a0 (Go.Proofs.YtdekcppfpgeneaaGreatDoor.upd u k (a.eval (.tmp t))) (fun i=>i<n∧L.getD i false=true) a:=hf.congr fun i hi=>by
    rw [Go.Proofs.YtdekcppfpgeneaaGreatDoor.upd_ne u _ fun e=>hj0 (by rw [←e];exact hi.2)]
   have h2:=h1.put (T:=fun i=>i<n∧(L.setIfInBounds k true).getD i false=true) k (fun i hi d hd=>fun e=>hF.apart i k hi.1 hkn (fun e'=>hj0 (by rw [←e'];exact hi.2)) d e hd) (fun i=>by
    by_cases e:k=i
    ·subst e
     simp [hkL,hkn]
    ·rw [getD_set_ne false e]
     constructor
     ·exact fun h => .inl h
     ·rintro (h | h)
      ·exact h
      ·exact absurd h.symm e)
   rw [Go.Proofs.YtdekcppfpgeneaaGreatDoor.upd_same,gN ho] at h2
   exact h2
  ·by_cases e:k=i
   ·subst e;rw [Go.Proofs.YtdekcppfpgeneaaGreatDoor.upd_same];exact hv
   ·rw [getD_set_ne false e] at hLi
    rw [Go.Proofs.YtdekcppfpgeneaaGreatDoor.upd_ne u _ (Ne.symm e)]
    exact hr i hLi
  ·rcases List.mem_cons.1 hx with rfl | hx
   ·exact q6 x (by simp [hkL])
   ·exact q5 x hx
end
theorem Af {X:Ctx} {Q:Exit→List AV→av→Prop} {env:List AV} {H:av} {id:Nat} {ops:Array Oper} (n:Nat) (ks:List Nat) (hT:bD X.P X.tt) (hm:X.P.follows .mixedOrders=true) (hc:fV ops=true) (hB:jV .any ops n=true) (hTl:oL ops n ks=true) (hS:uD ops n ks (Array.replicate ops.size false)=true)
  (h:aH X.P X.tt X.base H.length ops (ops.toList.take n) env H fun env' H'=>aL X.P X.tt X.base ops (ops.toList.drop n) env' H' fun env H=>Q .normal env H):AW X (.region id ops true) Q env H:=by
 intro s0 μ a w hN hs he hev
 have hF:=rL hB
 have hle:=hF.le
 have hb0:aS H.length env:=ax.bel (s:=⟨μ,H,w⟩) _ _ he.rep
 have hlen:(ops.toList.take n).length=n:=by rw [List.length_take,Array.length_toList];omega
 obtain ⟨r,ob,_,hplan,hK⟩:=nU (ops:=ops) (env0:=env) (H0:=H) (ops.toList.take n) 0 (fun _ => .undef) (fun _=>none) (fun j hj=>by
  rw [hlen] at hj
  rw [List.getElem?_take_of_lt hj,Nat.zero_add];simp) h
 rw [hlen,Nat.zero_add] at hK hplan
 have hplan':∀j o,j<n→ops[j]?=some o→eE ops env H r ob X.P X.tt X.base j o:=fun j o hj ho=>hplan j o (Nat.zero_le _) hj ho
 have hbel:∀i,i<n→(r i).bel (hP H ob (i+1)).length:=fun i hi=>by
  have ho:ops[i]?=some ops[i]:=Array.getElem?_eq_getElem (by omega)
  have hp:=hplan' i _ hi ho
  have run:iS ops env H r ob X.P X.tt X.base i ops[i]→(r i).bel (hP H ob (i+1)).length:=fun h=>by
   unfold iS at h
   split at h
   ·exact AV.bel.mono (tR i) _ h.2.2
   ·exact h.2.2
  unfold eE at hp
  split at hp
  ·exact run hp
  ·obtain ⟨b,_,hp⟩:=hp
   rcases hp with ⟨_,hp⟩ | ⟨_,hp,_⟩
   ·exact run hp
   ·rw [hp];simp only [c9,AV.bel]
 have hw:Sim X.base ⟨μ,H,{ w with drawn:=w.drawn+1 }⟩∧Evo H.length ⟨μ,H,w⟩ ⟨μ,H,{ w with drawn:=w.drawn+1 }⟩:=hs.heapEq rfl rfl rfl rfl
 obtain ⟨k,hk⟩:=yu (ob:=ob) ops.size n (fun i=>getD_replicate_false _ _)
 obtain ⟨f1,f2⟩:=Sim.frees hw.1 k
 have hev1:=hw.2.trans f2
 have hev2:Evo X.N s0 ⟨μ,H++List.replicate k .free,{ w with drawn:=w.drawn+1 }⟩:=hev.trans (hev1.mono hN)
 let Q0:Exit→Act→World→Prop:=fun x a w=>x = .normal∧km X s0 Q x a w
 refine Go.wpIn_mono (Q:=Q0) (wpIn_region_any hm (kg (pT hc) (fun ⟨a,w,h⟩=>by cases h.1) _ _ _ _ ?_)) fun x a w h=>h.2
 have h1:=oO (P:=X.P) (tt:=X.tt) (base:=X.base) (ops:=ops) (env0:=env) (H0:=H) (r:=r) (ob:=ob) (Q:=Q0) (fun c a w h=>by cases h.1) hF hplan' (a0:=a) (μ:=μ) (w:={ w with drawn:=w.drawn+1 }) 0 (by rw [hk];exact ax.evo hev1 _ _ he.rep) ks
  (Array.replicate ops.size false) (fun _=>Go.undef) a hS rfl ⟨by simp,(fun j oj _ hl=>by rw [getD_replicate_false] at hl;cases hl),(fun t ht htl=>by simp [htl])⟩
  (bX.nil (fun i hi=>by rw [getD_replicate_false] at hi;exact absurd hi.2 (by decide))) (fun i hi=>by rw [getD_replicate_false] at hi;cases hi)
  fun L' u' a' q1 q2 q3 q4 q5 _=>wN (P:=X.P) (tt:=X.tt) (base:=X.base) (ops:=ops) (env0:=env) (H0:=H) (r:=r) (ob:=ob) (a0:=a) (Q:=Q0) (ks:=ks) (n0:=flr X.rd s0) hT hm (mj hc) hF hTl hb0 hplan' hbel s0 X.N hN
  (fun u μ w hs he hev=>by
   have hT':=hTl
   simp only [oL,Bool.and_eq_true] at hT'
   have hNn:X.N≤(hP H ob n).length:=Nat.le_trans hN (vg n)
   have ht:=mB hT (mj hc) (Q:=Q0) s0 X.N (fun env H μ w a h hN hs he hev=>⟨rfl,μ,env,H,h,hN,hs,he,hev⟩) (ops.toList.drop n) n rfl _ _ μ w _ hK hNn hs he hev
   rw [wpOps_eq_wpList _ n (fun j=>by simp [List.getElem?_drop])] at ht
   have:=wpAny_of_seq (P:=X.P) (md := .any) (ops:=ops) (Q':=Q0) (ops.toList.drop n) n (lJ ops n) _ w (fun j=>by simp [List.getElem?_drop]) (by rw [List.length_drop,Array.length_toList];exact hT'.2) ht
   rw [List.length_drop,Array.length_toList] at this
   exact this)
  (unl L' n) L' u' a' μ _ rfl q2 q5 q3 (by rw [q1,hk];exact f1) (by rw [q1,hk];exact he.defers.keeps hev1.keeps) (by rw [q1,hk];exact ax.evo hev1 _ _ he.rep) (fun i hi=>by rw [q1];exact q4 i hi) (by rw [q1,hk];exact hev2)
 rw [uv _ n hF.le] at h1
 have e:n+(ops.size - n)=ops.size:=by omega
 rw [e] at h1
 exact h1
theorem qF {X:Ctx} {Q:Exit→List AV→av→Prop} {env:List AV} {H:av} {id:Nat} {ops:Array Oper} (n:Nat) (hT:bD X.P X.tt) (hm:X.P.follows .mixedOrders=true) (hc:fV ops=true) (hB:jV .any ops n=true) (hTl:lz .any ops n=true)
  (h:aH X.P X.tt X.base H.length ops (ops.toList.take n) env H fun env' H'=>aL X.P X.tt X.base ops (ops.toList.drop n) env' H' fun env H=>Q .normal env H):AW X (.region id ops true) Q env H :=
 Af n [] hT hm hc hB (xG hTl) rfl h
end Av
end Go.Proofs.YtdekcppfpgeneaaGreatDoor
namespace Go.Proofs.YtdekcppfpgeneaaGreatDoor
open Go Go.RowKit
namespace Av
mutual
def fN (H:av):AV→Option AV
 | .ms l ver m=>match H[l]? with
  | some (.row _ k ver' items)=>if ver=ver'∧m=items.length then (unI items).map fun L => .d (.sl k L) else none
  | _=>none
 | .d p=>some (.d p)
 | .agg l=>(jB H l).map .agg
 | _=>none
def jB (H:av):List AV→Option (List AV)
 | []=>some []
 | a::r=>(fN H a).bind fun a'=>(jB H r).map fun r'=>a'::r'
end
mutual
def fg:AV→Bool
 | .d (.v _)=>true
 | .agg l=>si l
 | .tup l=>si l
 | _=>false
def si:List AV→Bool
 | []=>true
 | a::r=>fg a&&si r
end
mutual
theorem sf {s s':St}:∀(a:AV) (v:Value),fg a=true→Rep s a v→Rep s' a v
 | .d (.v x),v,_,h=>by simp only [Rep,aQ] at h ⊢;exact h
 | .d (.sl _ _),v,e,_=>by simp [fg] at e
 | .agg l,v,e,h=>by
  simp only [fg] at e
  simp only [Rep] at h ⊢
  obtain ⟨c,h1,h2⟩:=h
  exact ⟨c,h1,kR l _ e h2⟩
 | .tup l,v,e,h=>by
  simp only [fg] at e
  simp only [Rep] at h ⊢
  obtain ⟨c,h1,h2⟩:=h
  exact ⟨c,h1,kR l _ e h2⟩
 | .undef,_,e,_=>by simp [fg] at e
 | .ptr _ _,_,e,_=>by simp [fg] at e
 | .ms _ _ _,_,e,_=>by simp [fg] at e
 | .ep _ _ _ _ _,_,e,_=>by simp [fg] at e
 | .rp _,_,e,_=>by simp [fg] at e
 | .mp _,_,e,_=>by simp [fg] at e
 | .fn _ _ _,_,e,_=>by simp [fg] at e
theorem kR {s s':St}:∀(l:List AV) (vs:List Value),si l=true→ax s l vs→ax s' l vs
 | [],_,_,h=>by simp only [ax] at h ⊢;exact h
 | a::r,vs,e,h=>by
  simp only [si,Bool.and_eq_true] at e
  simp only [ax] at h ⊢
  obtain ⟨x,t,h1,h2,h3⟩:=h
  exact ⟨x,t,h1,sf a x e.1 h2,kR r t e.2 h3⟩
end
def qD (s:St):St:=⟨s.μ,[],s.w⟩
theorem kc {s:St} {b:Nat}:(qD s).imm b↔b<s.w.heap.size:=⟨fun h=>h.1,fun h=>⟨h,fun ⟨l,o,h1,_⟩=>by simp [qD] at h1⟩⟩
mutual
theorem xu {base:World} {s:St} (hs:Sim base s):∀(a a':AV) (v:Value),Rep s a v→fN s.H a=some a'→Rep (qD s) a' v
 | .ms l ver m,a',v,h,e=>by
  simp only [fN] at e
  split at e
  case h_2=>cases e
  rename_i ty k ver' items ho
  split at e
  case isFalse=>cases e
  rename_i c
  simp only [Option.map_eq_some_iff] at e
  obtain ⟨L,e1,rfl⟩:=e
  have hi:=pJ e1
  simp only [Rep,cB,ho] at h
  obtain ⟨_,_,h⟩:=h
  simp only [Rep,aQ]
  have hLl:L.length=items.length:=by rw [hi];simp [dI]
  rcases h c.1 c.2 with ⟨m1,rfl,m3⟩ | ⟨b,cap,m1,rfl,m3,m4,m5⟩
  ·have:L=[]:=List.eq_nil_of_length_eq_zero (by omega)
   subst this
   exact ⟨none,0,rfl,Nat.le_refl _,by unfold maxLen;omega,.inl rfl⟩
  ·obtain ⟨h0,h9,hobj⟩:=hs.obj l _ ho
   rcases hobj with ⟨q1,_⟩ | ⟨b',arr,f,rs,q1,q2,q3,q4,q5⟩
   ·rw [m1] at q1;cases q1
   ·rw [m1] at q1;cases q1
    refine ⟨some ⟨b,0,none⟩,cap,by rw [hLl,c.2],by rw [hLl,←c.2];exact m3,m4,.inr ⟨b,0,rfl,kc.2 (Array.getElem?_eq_some_iff.1 q3).1,?_⟩⟩
    subst hi
    have:=fT q3 L 0 f (fun j v hj=>by
     have h1:arr.toList[j]?=some v:=by rw [q4,List.getElem?_append_left (List.getElem?_eq_some_iff.1 hj).1];exact hj
     simpa using h1) h0 h9 q5
    have up:∀(L:List (List PD)) (b k o:Nat),bi s.w s.imm L b k o→bi s.w (qD s).imm L b k o:=by
     intro L
     induction L with
     | nil=>intro b k o _;simp only [bi]
     | cons it L ih =>
      intro b k o h
      simp only [bi] at h ⊢
      have cells:∀(l:List PD) (o:Nat),aK s.w s.imm l b o→aK s.w (qD s).imm l b o:=by
       intro l
       induction l with
       | nil=>intro o _;simp only [aK]
       | cons p l ih =>
        intro o h
        simp only [aK] at h ⊢
        obtain ⟨⟨h0,c,h1,h2⟩,h3⟩:=h
        exact ⟨⟨h0,c,h1,aQ.on (fun b hb=>kc.2 hb.1) (fun _ _=>rfl) p c h2⟩,ih _ h3⟩
      exact ⟨h.1,cells it o h.2.1,ih b k _ h.2.2⟩
    exact up L b k 0 this
 | .d p,a',v,h,e=>by
  simp only [fN,Option.some.injEq] at e;subst e
  simp only [Rep] at h ⊢
  exact aQ.on (fun b hb=>kc.2 hb.1) (fun _ _=>rfl) p v h
 | .agg l,a',v,h,e=>by
  simp only [fN,Option.map_eq_some_iff] at e
  obtain ⟨y,e2,rfl⟩:=e
  simp only [Rep] at h ⊢
  obtain ⟨p,h1,h2⟩:=h
  exact ⟨p,h1,kn hs l y _ h2 e2⟩
 | .undef,_,_,_,e=>by simp [fN] at e
 | .ptr _ _,_,_,_,e=>by simp [fN] at e
 | .ep _ _ _ _ _,_,_,_,e=>by simp [fN] at e
 | .rp _,_,_,_,e=>by simp [fN] at e
 | .mp _,_,_,_,e=>by simp [fN] at e
 | .fn _ _ _,_,_,_,e=>by simp [fN] at e
 | .tup _,_,_,_,e=>by simp [fN] at e
theorem kn {base:World} {s:St} (hs:Sim base s):∀(l l':List AV) (vs:List Value),ax s l vs→jB s.H l=some l'→ax (qD s) l' vs
 | [],l',vs,h,e=>by simp only [jB,Option.some.injEq] at e;subst e;simp only [ax] at h ⊢;exact h
 | a::r,l',vs,h,e=>by
  simp only [jB] at e
  obtain ⟨x,e1,e2⟩:=Option.bind_eq_some_iff.1 e
  simp only [Option.map_eq_some_iff] at e2
  obtain ⟨y,e2,rfl⟩:=e2
  simp only [ax] at h ⊢
  obtain ⟨p,q,h1,h2,h3⟩:=h
  exact ⟨p,q,h1,xu hs a x _ h2 e1,kn hs r y _ h3 e2⟩
end
theorem vC {P:Program} {base:World} {f:FuncId} {args args':List AV} {r:AV} {H:av} (hv:jB H args=some args') (hf:fg r=true) (h:aI P base f args' r) :
  bR P base f args H fun r' H'=>r'=r∧H'=H:=by
 refine ⟨(h []).enter,fun μ w vs hs ha => ?_⟩
 have hb:Sim base (qD ⟨μ,H,w⟩):=⟨hs.below,fun l o ho=>by simp [qD] at ho,fun l l' o o' b ho=>by simp [qD] at ho⟩
 have hr:=kn hs args args' _ ha hv
 refine ((h []).run μ w vs hb hr).mono ?_
 rintro e w' ⟨v,r',H',μ',rfl,⟨rfl,rfl⟩,_,h3,h4,h5⟩
 have hB:Below w.heap.size w w':=⟨h3.below.os.trans hs.below.os.symm,h3.below.tape.trans hs.below.tape.symm,h3.below.output.trans hs.below.output.symm,h5.keeps.size,fun k hk=>h5.keeps.heap k ((kc (s:=⟨μ,H,w⟩)).2 hk)⟩
 have hs':=hs.below' (s:=⟨μ,H,w⟩) hB
 exact ⟨v,r',H,μ,rfl,⟨rfl,rfl⟩,Nat.le_refl _,hs'.1,sf _ _ hf h4,hs'.2⟩
section
variable {P:Program} {base:World} {f:FuncId} {args args':List AV} {r:AV} {H:av} {C:AV→av→Prop} {N0:Nat}
theorem vr (h:aI P base f args r) (k:C r H):∃R,bR P base f args H R∧∀r H',R r H'→H.length≤H'.length→C r H' :=
 ⟨_,h H,fun r' H' ⟨e1,e2⟩ _=>by rw [e1,e2];exact k⟩
theorem Bu (h:aI P base f args' r) (hv:jB H args=some args') (hf:fg r=true) (k:C r H):∃R,bR P base f args H R∧∀r H',R r H'→H.length≤H'.length→C r H' :=
 ⟨_,vC hv hf h,fun r' H' ⟨e1,e2⟩ _=>by rw [e1,e2];exact k⟩
theorem vb (h:aI P base f args r) (hb:r.bel H.length) (k:C r H):∃r,(∀Hx:av,(∀l,l<N0∨l∈eu args→Hx[l]?=H[l]?)→bR P base f args Hx fun r' H'=>r'=r∧H'=Hx)∧r.bel H.length∧C r H :=
 ⟨r,fun Hx _=>h Hx,hb,k⟩
end
theorem oo {P:Program} {base:World} {f:FuncId} {args:List AV} {p:PD} (hcall:∀(vs:Array Value) (w:World),(callFunc f vs).run P w = .ok (.enter f vs) w)
  (h:∀(s:St) (vs:Array Value),Sim base s→ax s args vs.toList→Calls P f vs s.w fun e w'=>∃v,e = .returned v∧Below s.w.heap.size s.w w'∧aQ w' (fun b=>b<w'.heap.size∧(b<s.w.heap.size→s.imm b)) p v):aI P base f args (.d p):=fun H =>
 ⟨hcall,fun μ w vs hs ha=>(h ⟨μ,H,w⟩ vs hs ha).mono fun e w' ⟨v,h1,h2,h3⟩=>by
  have hs':=hs.below' (s:=⟨μ,H,w⟩) h2
  refine ⟨v,.d p,H,μ,h1,⟨rfl,rfl⟩,Nat.le_refl _,hs'.1,?_,hs'.2⟩
  simp only [Rep]
  refine aQ.on (fun b hb=>⟨hb.1,fun hl => ?_⟩) (fun _ _=>rfl) p v h3
  have hlt:=(hs.live_ge (s:=⟨μ,H,w⟩) hl).2
  exact (hb.2 hlt).2 hl⟩
end Av
end Go.Proofs.YtdekcppfpgeneaaGreatDoor
namespace Go.Proofs.YtdekcppfpgeneaaGreatDoor
open Go Go.RowKit
namespace Av
theorem aA {α:Type} (l:List α):l.toArray.toList=l:=rfl
theorem Ar (H G:av) (i:Nat):(H++G)[H.length+i]?=G[i]?:=by
 rw [List.getElem?_append_right (by omega)];congr 1;omega
theorem qP (H G:av):(H++G)[H.length]?=G[0]?:=Ar H G 0
theorem s7 (H G:av) (i:Nat) (o:aN):(H++G).set (H.length+i) o=H++G.set i o:=by
 rw [List.set_append_right _ _ (by omega)];congr 2;omega
theorem ur (H G:av) (o:aN):(H++G).set H.length o=H++G.set 0 o:=s7 H G 0 o
theorem vu {α:Type} (l:List α) (i:Nat):l.toArray[i]?=l[i]?:=by simp
theorem bx {α:Type} (a b:α) (l:List α):(a::l).set 0 b=b::l:=rfl
theorem bw {α:Type} (a b:α) (n:Nat) (l:List α):(a::l).set (n+1) b=a::l.set n b:=rfl
theorem uW {α:Type} (a d:α) (l:List α):(a::l).getD 0 d=a:=rfl
theorem uV {α:Type} (a d:α) (n:Nat) (l:List α):(a::l).getD (n+1) d=l.getD n d:=rfl
theorem nw {α:Type} (a:α) (l:List α):(a::l)[0]?=some a:=rfl
theorem nv {α:Type} (a:α) (n:Nat) (l:List α):(a::l)[n+1]?=l[n]?:=rfl
theorem yx {α β:Type} (f:α→β) (a:α):(some a).map f=some (f a):=rfl
theorem yy {α β:Type} (f:α→β):(none:Option α).map f=none:=rfl
theorem uM {α β:Type} (f:α→Option β) (a:α):(some a).bind f=f a:=rfl
theorem uN {α β:Type} (f:α→Option β):(none:Option α).bind f=none:=rfl
theorem yN {α β:Type} (f:α→β) (a:α) (l:List α):(a::l).map f=f a::l.map f:=rfl
theorem yM {α β:Type} (f:α→β):([]:List α).map f=[]:=rfl
theorem yS {α:Type} (a b:List α):(a++b).length=a.length+b.length:=List.length_append
theorem yR {α:Type} (a:α) (l:List α):(a::l).length=l.length+1:=rfl
theorem yO {α:Type}:([]:List α).length=0:=rfl
theorem yW {α:Type} (a b c:List α):a++b++c=a++(b++c):=List.append_assoc _ _ _
theorem BC:unL []=some []:=rfl
theorem BD (p:PD) (r:List AV):unL (.d p::r)=(unL r).map (p :: ·):=rfl
theorem BE:unI []=some []:=rfl
theorem BF (it:List AV) (r:List (List AV)):unI (it::r)=(unL it).bind fun p=>(unI r).map (p :: ·):=rfl
theorem Cf (t n:Nat) (ps:Array (Nat × Operand)) (l v m ty k:Nat) (items:List (List AV)):hfz (.buildSlice t n ps) (.ms l v m) (.row ty k v items)=if m=items.length then (match unI items with
  | some L=>(.d (.sl k L),some .dead)
  | none=>(.ms l v m,some (.row ty k v items))) else (.ms l v m,some (.row ty k v items)):=by
 by_cases h:m=items.length
 ·subst h
  simp only [hfz,and_self,if_true]<;>(cases unI items<;>rfl)
 ·simp only [hfz,h,and_false,if_false]
theorem Cg (t:Nat) (r:AV) (ob:aN):hfz (.alloc t) r ob=(r,some ob):=rfl
theorem Cb (t:Nat) (x:Operand) (r:AV) (ob:aN):hfz (.box t x) r ob=(r,some ob):=rfl
theorem Cd (t:Nat) (x y:Operand) (r:AV) (ob:aN):hfz (.makeSlice t x y) r ob=(r,some ob):=rfl
theorem Cc (t:Nat) (x:Option Operand) (r:AV) (ob:aN):hfz (.makeMap t x) r ob=(r,some ob):=rfl
theorem Ce (c:Call) (r:AV) (ob:aN):hfz (.call c) r ob=(r,some ob):=rfl
theorem yV {α:Type} (a:α) (l m:List α):a::l++m=a::(l++m):=rfl
theorem yT {α:Type} (l:List α):[]++l=l:=rfl
theorem yU {α:Type} (l:List α):l++[]=l:=List.append_nil _
theorem yY {α:Type} (p:α→Bool) (a:α) (l:List α):(a::l).all p=(p a&&l.all p):=rfl
theorem yX {α:Type} (p:α→Bool):([]:List α).all p=true:=rfl
theorem i_t {α:Type} {_:Decidable True} (a b:α):(if True then a else b)=a:=by simp
theorem i_f {α:Type} {_:Decidable False} (a b:α):(if False then a else b)=b:=by simp
theorem D6 {_:Decidable True} (a b:Prop):(if True then a else b)=a:=by simp
theorem D7 {_:Decidable False} (a b:Prop):(if False then a else b)=b:=by simp
theorem bH {α:Type} (a b:α):(if true=true then a else b)=a:=rfl
theorem fI {α:Type} (a b:α):(if false=true then a else b)=b:=rfl
theorem D3 (n i j:Nat):(n+i<n+j)=(i<j):=by simp
theorem B7 (n j:Nat):(n<n+(j+1))=True:=by simp
theorem B1 {α:Type} (a:α):(some a).toList=[a]:=rfl
theorem B2 {α:Type}:(none:Option α).toList=[]:=rfl
theorem oU {α:Type} (a d:α):(some a).getD d=a:=rfl
theorem oV {α:Type} (d:α):(none:Option α).getD d=d:=rfl
theorem Ae (n:Nat):(n == n)=true:=by simp
theorem DZ (n:Nat):(n+1≠0)=True:=by simp
theorem D4 (n:Nat):(0<n+1)=True:=by simp
theorem zx {α:Type} (a:α):(a=a)=True:=by simp
theorem BV (p:Prop):(True∧p)=p:=by simp
theorem Co (p:Prop):(p∧True)=p:=by simp
theorem uZ {α:Type} (l:List α):l.drop 0=l:=rfl
theorem uX {α:Type} (n:Nat) (a:α) (l:List α):(a::l).drop (n+1)=l.drop n:=rfl
theorem uU {α:Type} (l:List α):l.take 0=[]:=by simp
theorem uS {α:Type} (n:Nat) (a:α) (l:List α):(a::l).take (n+1)=a::l.take n:=rfl
theorem uY {α:Type} (n:Nat):([]:List α).drop n=[]:=by simp
theorem uT {α:Type} (n:Nat):([]:List α).take n=[]:=by simp
theorem D1 (n:Nat):n+0=n:=rfl
theorem D2 (n:Nat):0+n=n:=Nat.zero_add n
theorem yQ {α β:Type} (f:α→β) (l:List α):(l.map f).length=l.length:=List.length_map _
theorem avs:type_of% (And.intro @cX.eq_def <| And.intro @iH.eq_def <| And.intro @jv.eq_def <| And.intro @aop.eq_def <|
  And.intro @bV.eq_def <| And.intro @ba.eq_def <| And.intro @dh.eq_def <| And.intro @bM.eq_def <| And.intro @cW.eq_def <| And.intro @c9.eq_def <| And.intro @iN.eq_def <| And.intro @iL.eq_def <| And.intro @nW.eq_def <| And.intro @bQ.eq_def <| And.intro @fp.eq_def <|
  And.intro @nZ.eq_def <| And.intro @dq.eq_def <| And.intro @nY.eq_def <| And.intro @iP.eq_def <| And.intro @Aq.eq_def <| And.intro @AV.cells.eq_def <| And.intro @AV.one.eq_def <| And.intro @PD.one.eq_def <|
  And.intro @Value.oneCell'.eq_def <| And.intro @oc.eq_def <| And.intro @dz.eq_def <| And.intro @oa.eq_def <| And.intro @gD.eq_1 <| And.intro @gD.eq_2 <| And.intro @sO.eq_1 <| And.intro @sO.eq_2 <| And.intro @Ae <| And.intro @dr.eq_def <| And.intro @fm.eq_def <|
  And.intro @gC.eq_def <| And.intro @ou.eq_def <| And.intro @iK.eq_def <| And.intro @gs.eq_def <| And.intro @fc.eq_def <| And.intro @Ab.eq_def <| And.intro @Aa.eq_def <| And.intro @qc.eq_def <| And.intro @AE.eq_def <|
  And.intro @iV.eq_def <| And.intro @j7.eq_def <| And.intro @unV.eq_def <| And.intro @sG.eq_def <| And.intro @iQ.eq_def <| And.intro @yF.eq_def <| And.intro @yG.eq_def <| And.intro @jd.eq_def <| And.intro @iR.eq_def <| And.intro @fC.eq_def <|
  And.intro @eW.eq_def <| And.intro @sX.eq_def <| And.intro @lE.eq_def <| And.intro @lenOf.eq_def <| And.intro @fB.eq_def <| And.intro @fj.eq_def <| And.intro @gB.eq_def <| And.intro @eJ.eq_def <| And.intro @oG.eq_def <| And.intro @TI.agg.eq_def <| And.intro @lw.eq_def <| And.intro @g7.eq_1 <| And.intro @g7.eq_2 <|
  And.intro @aA <| And.intro @Ar <| And.intro @qP <| And.intro @s7 <| And.intro @ur <| And.intro @bx <| And.intro @bw <| And.intro @uW <| And.intro @uV <|
  And.intro @nw <| And.intro @nv <| And.intro @yx <| And.intro @yy <| And.intro @uM <| And.intro @uN <| And.intro @yN <| And.intro @yM <|
  And.intro @yS <| And.intro @yR <| And.intro @yO <| And.intro @yW <| And.intro @yV <| And.intro @yT <| And.intro @yU <|
  And.intro @yY <| And.intro @yX <| And.intro @Bool.and_true <| And.intro @Bool.true_and <| And.intro @Bool.false_eq_true <| And.intro @i_t <| And.intro @i_f <| And.intro @D6 <| And.intro @D7 <| And.intro @bH <| And.intro @fI <| And.intro @dC.eq_def <| And.intro @Cf <| And.intro @Cg <| And.intro @Cb <| And.intro @Cd <| And.intro @Cc <| And.intro @Ce <| And.intro @BC <| And.intro @BD <| And.intro @BE <| And.intro @BF <| And.intro @fe.eq_def <| And.intro @AV.bel.eq_def <| And.intro @aS.eq_1 <| And.intro @aS.eq_2 <| And.intro @D3 <| And.intro @B7 <| And.intro @B1 <| And.intro @B2 <| And.intro @oU <| And.intro @oV <| And.intro @DZ <| And.intro @D4 <| And.intro @zx <| And.intro @BV <| And.intro @Co <| And.intro @uZ <| And.intro @uX <| And.intro @uU <| And.intro @uS <| And.intro @uY <| And.intro @uT <| And.intro @D1 <| And.intro @D2 <| And.intro @yQ <| And.intro @Int.toNat_natCast <| And.intro @vu trivial) :=
 And.intro @cX.eq_def <| And.intro @iH.eq_def <| And.intro @jv.eq_def <| And.intro @aop.eq_def <|
  And.intro @bV.eq_def <| And.intro @ba.eq_def <| And.intro @dh.eq_def <| And.intro @bM.eq_def <| And.intro @cW.eq_def <| And.intro @c9.eq_def <| And.intro @iN.eq_def <| And.intro @iL.eq_def <| And.intro @nW.eq_def <| And.intro @bQ.eq_def <| And.intro @fp.eq_def <|
  And.intro @nZ.eq_def <| And.intro @dq.eq_def <| And.intro @nY.eq_def <| And.intro @iP.eq_def <| And.intro @Aq.eq_def <| And.intro @AV.cells.eq_def <| And.intro @AV.one.eq_def <| And.intro @PD.one.eq_def <|
  And.intro @Value.oneCell'.eq_def <| And.intro @oc.eq_def <| And.intro @dz.eq_def <| And.intro @oa.eq_def <| And.intro @gD.eq_1 <| And.intro @gD.eq_2 <| And.intro @sO.eq_1 <| And.intro @sO.eq_2 <| And.intro @Ae <| And.intro @dr.eq_def <| And.intro @fm.eq_def <|
  And.intro @gC.eq_def <| And.intro @ou.eq_def <| And.intro @iK.eq_def <| And.intro @gs.eq_def <| And.intro @fc.eq_def <| And.intro @Ab.eq_def <| And.intro @Aa.eq_def <| And.intro @qc.eq_def <| And.intro @AE.eq_def <|
  And.intro @iV.eq_def <| And.intro @j7.eq_def <| And.intro @unV.eq_def <| And.intro @sG.eq_def <| And.intro @iQ.eq_def <| And.intro @yF.eq_def <| And.intro @yG.eq_def <| And.intro @jd.eq_def <| And.intro @iR.eq_def <| And.intro @fC.eq_def <|
  And.intro @eW.eq_def <| And.intro @sX.eq_def <| And.intro @lE.eq_def <| And.intro @lenOf.eq_def <| And.intro @fB.eq_def <| And.intro @fj.eq_def <| And.intro @gB.eq_def <| And.intro @eJ.eq_def <| And.intro @oG.eq_def <| And.intro @TI.agg.eq_def <| And.intro @lw.eq_def <| And.intro @g7.eq_1 <| And.intro @g7.eq_2 <|
  And.intro @aA <| And.intro @Ar <| And.intro @qP <| And.intro @s7 <| And.intro @ur <| And.intro @bx <| And.intro @bw <| And.intro @uW <| And.intro @uV <|
  And.intro @nw <| And.intro @nv <| And.intro @yx <| And.intro @yy <| And.intro @uM <| And.intro @uN <| And.intro @yN <| And.intro @yM <|
  And.intro @yS <| And.intro @yR <| And.intro @yO <| And.intro @yW <| And.intro @yV <| And.intro @yT <| And.intro @yU <|
  And.intro @yY <| And.intro @yX <| And.intro @Bool.and_true <| And.intro @Bool.true_and <| And.intro @Bool.false_eq_true <| And.intro @i_t <| And.intro @i_f <| And.intro @D6 <| And.intro @D7 <| And.intro @bH <| And.intro @fI <| And.intro @dC.eq_def <| And.intro @Cf <| And.intro @Cg <| And.intro @Cb <| And.intro @Cd <| And.intro @Cc <| And.intro @Ce <| And.intro @BC <| And.intro @BD <| And.intro @BE <| And.intro @BF <| And.intro @fe.eq_def <| And.intro @AV.bel.eq_def <| And.intro @aS.eq_1 <| And.intro @aS.eq_2 <| And.intro @D3 <| And.intro @B7 <| And.intro @B1 <| And.intro @B2 <| And.intro @oU <| And.intro @oV <| And.intro @DZ <| And.intro @D4 <| And.intro @zx <| And.intro @BV <| And.intro @Co <| And.intro @uZ <| And.intro @uX <| And.intro @uU <| And.intro @uS <| And.intro @uY <| And.intro @uT <| And.intro @D1 <| And.intro @D2 <| And.intro @yQ <| And.intro @Int.toNat_natCast <| And.intro @vu trivial
theorem bn:type_of% (And.intro @Bool.not_eq_true' <| And.intro @Bool.not_eq_false' <| And.intro @Bool.not_eq_true <| And.intro @Bool.not_eq_false <| And.intro @Bool.not_not <| And.intro Bool.not_true <| And.intro Bool.not_false trivial) :=
 And.intro @Bool.not_eq_true' <| And.intro @Bool.not_eq_false' <| And.intro @Bool.not_eq_true <| And.intro @Bool.not_eq_false <| And.intro @Bool.not_not <| And.intro Bool.not_true <| And.intro Bool.not_false trivial
theorem rp:(∀{α:Type} (a:α),List.replicate 0 a=[])∧(∀{α:Type} (n:Nat) (a:α),List.replicate (n+1) a=a::List.replicate n a)∧(∀{α:Type} (a:α) (l m:List α),a::l++m=a::(l++m))∧(∀{α:Type} (l:List α),[]++l=l) :=
 ⟨fun _=>rfl,fun _ _=>rfl,fun _ _ _=>rfl,fun _=>rfl⟩
end Av
end Go.Proofs.YtdekcppfpgeneaaGreatDoor
namespace Go.Proofs.YtdekcppfpgeneaaGreatDoor
open Go Go.RowKit
namespace Av
theorem lh.mono {n m:Nat} (hm:n≤m):∀(es:List (Value × AV)),lh n es→lh m es
 | [],h=>h
 | p::r,h=>⟨AV.bel.mono hm _ h.1,lh.mono hm r h.2⟩
theorem aN.bel.mono {n m:Nat} (hm:n≤m) {o:aN} (h:o.bel n):o.bel m:=by
 cases o with
 | box ty cells=>exact aS.mono hm _ h
 | row ty k ver items=>exact aS.mono hm _ h
 | mp kt et ks es=>exact lh.mono hm _ h
 | free=>trivial
 | dead=>trivial
theorem ft.mono {n m:Nat} {H:av} (hm:n≤m) (h:ft n H):ft m H:=fun o ho=>(h o ho).mono hm
theorem ft.more {H G:av} (h:ft H.length H) (k:ft (H++G).length G):ft (H++G).length (H++G):=(h.mono (by simp)).append k
theorem ft.nil {n:Nat}:ft n []:=fun _ h=>nomatch h
theorem ft.cons {n:Nat} {o:aN} {H:av} (h:o.bel n) (k:ft n H):ft n (o::H):=fun x hx=>by
 rcases List.mem_cons.1 hx with rfl | hx
 ·exact h
 ·exact k x hx
theorem sR {n:Nat}:∀{a b:List AV},aS n a→aS n b→aS n (a++b)
 | [],_,_,k=>k
 | x::a,b,h,k=>by simp only [List.cons_append,aS] at h ⊢;exact ⟨h.1,sR h.2 k⟩
theorem vo {n:Nat}:∀(l:List PD),aS n (dL l)
 | []=>by simp [dL,aS]
 | p::l=>by simp only [dL,List.map_cons,aS,AV.bel];exact ⟨trivial,vo l⟩
theorem fM {n ty k ver:Nat}:∀(L:List (List PD)),(aN.row ty k ver (dI L)).bel n
 | []=>by simp [aN.bel,dI,aS]
 | it::L=>by
  show aS n ((dI (it::L)).flatten)
  simp only [dI,List.map_cons,List.flatten_cons]
  exact sR (vo it) (fM (ty:=ty) (k:=k) (ver:=ver) L)
theorem bc (L:List (List PD)):(dI L).length=L.length:=by simp [dI]
def aj (tt:aY) (ops:Array Oper) (o:Oper):Option (List AV × av)→Option (List AV × av)
 | none=>none
 | some (env,H)=>match o.guard with
  | none=>(iH tt H env o.op).map fun p=>(ba env o.dst p.1,p.2)
  | some (j,want)=>match bM ops env j with
   | some y=>if cW y want=true then (iH tt H env o.op).map fun p=>(ba env o.dst p.1,p.2) else some (ba env o.dst c9,H)
   | none=>none
def sw (tt:aY) (ops:Array Oper):Nat→List Oper→Option (List AV × av)→Option (List AV × av)
 | 0,_,s=>s
 | _+1,[],s=>s
 | n+1,o::l,s=>match cX ((s.map (·.1)).getD []) o.op with
  | some _=>none
  | none=>sw tt ops n l (aj tt ops o s)
def aB (tt:aY) (ops:Array Oper) (o:Oper):Option (List AV × av × Prop)→Option (List AV × av × Prop)
 | none=>none
 | some (env,H,C)=>if fe o.op=true then match o.guard with
  | none=>(dC tt H env o.op).map fun p=>(ba env o.dst p.1,H++p.2.toList,C∧p.1.bel (H++p.2.toList).length)
  | some (j,want)=>match bM ops env j with
   | some y=>if cW y want=true then (dC tt H env o.op).map fun p=>(ba env o.dst p.1,H++p.2.toList,C∧p.1.bel (H++p.2.toList).length) else some (ba env o.dst c9,H,C)
   | none=>none
  else none
def cJ (tt:aY) (ops:Array Oper):Nat→List Oper→Option (List AV × av × Prop)→Option (List AV × av × Prop)
 | 0,_,s=>s
 | _+1,[],s=>s
 | n+1,o::l,s=>match cX ((s.map (·.1)).getD []) o.op with
  | some _=>none
  | none=>cJ tt ops n l (aB tt ops o s)
section
variable {P:Program} {tt:aY} {base:World} {ops:Array Oper} {N0:Nat} {K:List AV→av→Prop}
theorem i7:∀(n:Nat) (l:List Oper),sw tt ops n l none=none
 | 0,_=>rfl
 | _+1,[]=>rfl
 | n+1,o::l=>by
  simp only [sw]
  split
  ·rfl
  ·exact i7 n l
theorem eB:∀(n:Nat) (l:List Oper),cJ tt ops n l none=none
 | 0,_=>rfl
 | _+1,[]=>rfl
 | n+1,o::l=>by
  simp only [cJ]
  split
  ·rfl
  ·exact eB n l
theorem kf:∀(n:Nat) {l:List Oper} {env env':List AV} {H H':av},sw tt ops n l (some (env,H))=some (env',H')→aL P tt base ops (l.drop n) env' H' K→aL P tt base ops l env H K
 | 0,l,env,env',H,H',h,k=>by
  simp only [sw,Option.some.injEq,Prod.mk.injEq] at h
  obtain ⟨rfl,rfl⟩:=h
  exact k
 | n+1,[],env,env',H,H',h,k=>by
  simp only [sw,Option.some.injEq,Prod.mk.injEq] at h
  obtain ⟨rfl,rfl⟩:=h
  exact k
 | n+1,o::l,env,env',H,H',h,k=>by
  simp only [sw,Option.map_some,Option.getD_some] at h
  split at h
  ·cases h
  ·rename_i hc
   simp only [aL,be]
   unfold aj at h
   simp only at h
   cases hg:o.guard with
   | none =>
    rw [hg] at h
    simp only at h
    simp only [bP,hc]
    cases hs:iH tt H env o.op with
    | none=>rw [hs] at h;simp only [Option.map_none] at h;rw [i7] at h;cases h
    | some p =>
     rw [hs] at h
     obtain ⟨r,H2⟩:=p
     exact kf n h k
   | some g =>
    obtain ⟨j,want⟩:=g
    rw [hg] at h
    simp only at h ⊢
    cases hy:bM ops env j with
    | none=>rw [hy] at h;simp only at h;rw [i7] at h;cases h
    | some b =>
     rw [hy] at h
     simp only at h ⊢
     by_cases hb:cW b want=true
     ·rw [if_pos hb] at h ⊢
      simp only [bP,hc]
      cases hs:iH tt H env o.op with
      | none=>rw [hs] at h;simp only [Option.map_none] at h;rw [i7] at h;cases h
      | some p =>
       rw [hs] at h
       obtain ⟨r,H2⟩:=p
       exact kf n h k
     ·rw [if_neg hb] at h ⊢
      exact kf n h k
theorem iJ:∀(n:Nat) {l:List Oper} {env env':List AV} {H H':av} {C C':Prop},cJ tt ops n l (some (env,H,C))=some (env',H',C')→C'→C
 | 0,l,env,env',H,H',C,C',h,hC=>by
  simp only [cJ,Option.some.injEq,Prod.mk.injEq] at h
  obtain ⟨_,_,rfl⟩:=h
  exact hC
 | n+1,[],env,env',H,H',C,C',h,hC=>by
  simp only [cJ,Option.some.injEq,Prod.mk.injEq] at h
  obtain ⟨_,_,rfl⟩:=h
  exact hC
 | n+1,o::l,env,env',H,H',C,C',h,hC=>by
  simp only [cJ,Option.map_some,Option.getD_some] at h
  split at h
  ·cases h
  ·unfold aB at h
   by_cases hh:fe o.op=true
   ·simp only [hh,if_true] at h
    have go:∀x:Option (AV × Option aN),cJ tt ops n l (x.map fun p=>(ba env o.dst p.1,H++p.2.toList,C∧p.1.bel (H++p.2.toList).length))=some (env',H',C')→C:=fun x hx=>by
     cases x with
     | none=>simp only [Option.map_none] at hx;rw [eB] at hx;cases hx
     | some p=>exact (iJ n hx hC).1
    split at h
    ·exact go _ h
    ·split at h
     ·split at h
      ·exact go _ h
      ·exact iJ n h hC
     ·rw [eB] at h;cases h
   ·simp only [if_neg hh] at h;rw [eB] at h;cases h
theorem lj:∀(n:Nat) {l:List Oper} {env env':List AV} {H H':av} {C C':Prop},cJ tt ops n l (some (env,H,C))=some (env',H',C')→C'→aH P tt base N0 ops (l.drop n) env' H' K→aH P tt base N0 ops l env H K
 | 0,l,env,env',H,H',C,C',h,hC,k=>by
  simp only [cJ,Option.some.injEq,Prod.mk.injEq] at h
  obtain ⟨rfl,rfl,_⟩:=h
  exact k
 | n+1,[],env,env',H,H',C,C',h,hC,k=>by
  simp only [cJ,Option.some.injEq,Prod.mk.injEq] at h
  obtain ⟨rfl,rfl,_⟩:=h
  exact k
 | n+1,o::l,env,env',H,H',C,C',h,hC,k=>by
  simp only [cJ,Option.map_some,Option.getD_some] at h
  split at h
  ·cases h
  ·rename_i hc
   simp only [aH,be]
   unfold aB at h
   by_cases hh:fe o.op=true
   ·simp only [hh,if_true] at h
    have go:cJ tt ops n l ((dC tt H env o.op).map fun p=>(ba env o.dst p.1,H++p.2.toList,C∧p.1.bel (H++p.2.toList).length))=some (env',H',C') →
      lv P tt base N0 env H o.op fun r H'=>aH P tt base N0 ops l (ba env o.dst r) H' K:=fun hx=>by
     simp only [lv,hc,hh,true_and]
     cases hs:dC tt H env o.op with
     | none=>rw [hs] at hx;simp only [Option.map_none] at hx;rw [eB] at hx;cases hx
     | some p =>
      rw [hs] at hx
      obtain ⟨r,q⟩:=p
      simp only [Option.map_some] at hx
      have hb:=(iJ n hx hC).2
      have hk:=lj n hx hC k
      cases q with
      | none =>
       simp only [Option.toList_none,List.append_nil] at hb hk
       exact ⟨hb,hk⟩
      | some ob =>
       simp only [Option.toList_some] at hb hk
       exact ⟨by simpa using hb,hk⟩
    cases hg:o.guard with
    | none=>rw [hg] at h;exact go h
    | some g =>
     obtain ⟨j,want⟩:=g
     rw [hg] at h
     simp only at h ⊢
     cases hy:bM ops env j with
     | none=>rw [hy] at h;simp only at h;rw [eB] at h;cases h
     | some b =>
      rw [hy] at h
      simp only at h ⊢
      by_cases hb:cW b want=true
      ·rw [if_pos hb] at h ⊢;exact go h
      ·rw [if_neg hb] at h ⊢;exact lj n h hC k
   ·simp only [if_neg hh] at h;rw [eB] at h;cases h
theorem ae {env:List AV} {H:av} (k:K env H):aL P tt base ops [] env H K:=k
theorem al {env:List AV} {H:av} (k:K env H):aH P tt base N0 ops [] env H K:=k
theorem bZ {o:Oper} {rest:List Oper} {env:List AV} {H:av} {f:FuncId} {args:List AV} (hg:o.guard=none) (hc:cX env o.op=some (f,args)) (h:∃R,bR P base f args H R∧∀r H',R r H'→H.length≤H'.length→aL P tt base ops rest (ba env o.dst r) H' K):aL P tt base ops (o::rest) env H K:=by
 simp only [aL,be,hg,bP,hc]
 exact h
theorem nV {o:Oper} {rest:List Oper} {env:List AV} {H:av} {f:FuncId} {args:List AV} (hg:o.guard=none) (hc:cX env o.op=some (f,args)) (h:∃r,(∀Hx:av,(∀l,l<N0∨l∈eu args→Hx[l]?=H[l]?)→bR P base f args Hx fun r' H'=>r'=r∧H'=Hx)∧r.bel H.length∧aH P tt base N0 ops rest (ba env o.dst r) H K):aH P tt base N0 ops (o::rest) env H K:=by
 simp only [aH,be,hg,lv,hc]
 exact h
theorem xm {o:Oper} {rest:List Oper} {env env':List AV} {H:av} {f:FuncId} {args:List AV} {r:AV} (hg:o.guard=none) (hc:cX env o.op=some (f,args)) (h:aI P base f args r) (he:ba env o.dst r=env') (k:aL P tt base ops rest env' H K):aL P tt base ops (o::rest) env H K :=
 bZ hg hc (vr h (by rw [he];exact k))
theorem ul {o:Oper} {rest:List Oper} {env env':List AV} {H:av} {f:FuncId} {args:List AV} {r:AV} (hg:o.guard=none) (hc:cX env o.op=some (f,args)) (h:aI P base f args r) (hb:r.bel H.length) (he:ba env o.dst r=env') (k:aH P tt base N0 ops rest env' H K):aH P tt base N0 ops (o::rest) env H K :=
 nV hg hc (vb (C:=fun r H=>aH P tt base N0 ops rest (ba env o.dst r) H K) h hb (by rw [he];exact k))
def da (P:Program) (base:World) (f:FuncId) (args:List AV) (H:av) (r:AV):Prop:=bR P base f args H fun r' H'=>r'=r∧H'=H
theorem xl {o:Oper} {rest:List Oper} {env env':List AV} {H:av} {f:FuncId} {args:List AV} {r:AV} (hg:o.guard=none) (hc:cX env o.op=some (f,args)) (h:da P base f args H r) (he:ba env o.dst r=env') (k:aL P tt base ops rest env' H K):aL P tt base ops (o::rest) env H K :=
 bZ hg hc ⟨_,h,fun r' H' ⟨e1,e2⟩ _=>by rw [e1,e2,he];exact k⟩
theorem Bx {o:Oper} {rest:List Oper} {env:List AV} {H:av} {j:Nat} {want:Bool} (hg:o.guard=some (j,want)) (hy:bM ops env j=some (some want)) (h:aL P tt base ops ({ o with guard:=none }::rest) env H K):aL P tt base ops (o::rest) env H K:=by
 have hw:cW (some want) want=true:=by cases want<;>rfl
 simp only [aL,be,hg,hy,hw,if_true] at h ⊢
 exact h
theorem Al {o:Oper} {rest:List Oper} {env:List AV} {H:av} {j:Nat} {want:Bool} (hg:o.guard=some (j,want)) (hy:bM ops env j=some (some want)) (h:aH P tt base N0 ops ({ o with guard:=none }::rest) env H K):aH P tt base N0 ops (o::rest) env H K:=by
 have hw:cW (some want) want=true:=by cases want<;>rfl
 simp only [aH,be,hg,hy,hw,if_true] at h ⊢
 exact h
end
section
variable {X:Ctx} {Q:Exit→List AV→av→Prop} {env env':List AV} {H H':av}
end
end Av
end Go.Proofs.YtdekcppfpgeneaaGreatDoor
namespace Go.Proofs.YtdekcppfpgeneaaGreatDoor
open Go Go.RowKit
namespace Av
theorem pu (l:Nat) {P:Program} {base:World} {f:FuncId} {args args':List AV} {H H':av} {R:AV→av→Prop} (ha:bU H[l]? l args=args') (hH:H.set l .dead=H') (h:bR P base f args' H' R):bR P base f args H R:=by
 subst ha hH
 refine ⟨h.enter,fun μ w vs hs hr => ?_⟩
 have hk:=hs.kill l
 refine (h.run μ w vs hk.1 (ax.frz hs l _ _ hr)).mono fun e w' ⟨v,r,H',μ',h1,h2,h3,h4,h5,h6⟩=>⟨v,r,H',μ',h1,h2,by simpa using h3,h4,h5,?_⟩
 have h6':Evo H.length ⟨μ,H.set l .dead,w⟩ ⟨μ',H',w'⟩:=by simpa using h6
 exact (hk.2 _).trans h6'
theorem C1 (l:Nat) {X:Ctx} {Q:Exit→List AV→av→Prop} {env env':List AV} {H H':av} {c:Code} (ha:bU H[l]? l env=env') (hH:H.set l .dead=H') (h:AW X c Q env' H'):AW X c Q env H:=by
 subst ha hH
 intro s0 μ a w hN hs he hev
 exact h s0 μ a w (by simpa using hN) (hs.kill l).1 ⟨he.defers.keeps ((hs.kill l).2 0).keeps,ax.frz hs l _ _ he.rep⟩ (hev.trans ((hs.kill l).2 _))
theorem vq (l lb:Nat) {X:Ctx} {Q:Exit→List AV→av→Prop} {env env':List AV} {H H':av} {c:Code} {ty:Nat} {cells cells':List AV} (hne:lb≠l) (hbx:H[lb]?=some (.box ty cells)) (hc:bU H[l]? l cells=cells') (ha:bU H[l]? l env=env') (hH:(H.set l .dead).set lb (.box ty cells')=H') (h:AW X c Q env' H'):AW X c Q env H:=by
 subst ha hH hc
 intro s0 μ a w hN hs he hev
 have hk:=hs.kill l
 have hob:=hs.obj lb _ hbx
 obtain ⟨b,arr,h1,h2,h3,h4⟩:=hob
 have hbx':(H.set l .dead)[lb]?=some (.box ty cells):=by rw [aV hne];exact hbx
 have hlt:lb<(H.set l .dead).length:=aF hbx'
 have hu:=hk.1.upd hbx' (w':=w) (b:=b) (o' := .box ty (bU H[l]? l cells)) rfl rfl rfl (Nat.le_refl _) (fun _ _ _=>rfl) (.inr ⟨rfl,h1⟩) ⟨arr,h3,ax.frz hs l _ _ h4⟩ (by
  unfold aW
  simp only [hbx']
  exact .inr ⟨_,aE hlt,by simp only [upd_same];exact h1.symm⟩)
 have hE:Evo X.N ⟨μ,H,w⟩ ⟨Av.upd μ lb (some b),(H.set l .dead).set lb (.box ty (bU H[l]? l cells)),w⟩:=(hk.2 _).trans (hu.2.mono (by simpa using hN))
 exact h s0 _ a w (by simpa using hN) hu.1 ⟨he.defers.keeps hE.keeps,ax.evo hu.2 _ _ (ax.frz hs l _ _ he.rep)⟩ (hev.trans hE)
theorem cC {P:Program} {tt:aY} (hT:bD P tt) {base:World} {f:FuncId} {fn:Func} {c:Code} {args:List AV} {H:av} {r:AV} (hcall:∀(vs:Array Value) (w:World),(callFunc f vs).run P w = .ok (.enter f vs) w) (hf:P.funcs[f]?=some fn) (hb:fn.body=some c)
  (h:ft H.length H→aS H.length args→ox args→AW ⟨P,tt,base,H.length,none⟩ c (Cy tt fn.results.toList fun r' H'=>∃G,H'=H++G∧cM H' H.length r'=some r) (args++List.replicate (fn.ntmps - args.length) .undef) H):da P base f args H r :=
 .sealUp (b9 hT hcall hf hb fun hB hb hF=>(h hB hb hF).mono fun x env H' hq=>by
  cases x with
  | normal=>obtain ⟨r0,h1,G,h2,h3⟩:=hq;exact ⟨r0,h1,r,H,⟨Nat.le_refl _,hB,⟨G,h2⟩,h3⟩,rfl,rfl⟩
  | ret=>obtain ⟨r0,h1,G,h2,h3⟩:=hq;exact ⟨r0,h1,r,H,⟨Nat.le_refl _,hB,⟨G,h2⟩,h3⟩,rfl,rfl⟩
  | _=>exact hq)
theorem got {H:av} {l:Nat} {o:aN} (h:H[l]?=some o) (G:av):(H++G)[l]?=some o:=by rw [List.getElem?_append_left (aF h)];exact h
theorem ax.nils {s:St} (k:Nat):∀{l:List AV} {vs:List Value} (i:Nat),ax s l vs→l[i]?=some (.d (.v (.slice none 0 0)))→ax s (l.set i (.d (.sl k []))) vs
 | [],vs,i,h,e=>by simp at e
 | a::r,vs,0,h,e=>by
  simp only [List.getElem?_cons_zero,Option.some.injEq] at e
  subst e
  simp only [ax,List.set_cons_zero,Rep,aQ] at h ⊢
  obtain ⟨x,t,h1,⟨rfl,_⟩,h3⟩:=h
  exact ⟨_,t,h1,⟨none,0,rfl,Nat.le_refl _,by unfold maxLen;omega,.inl trivial⟩,h3⟩
 | a::r,vs,i+1,h,e=>by
  simp only [ax,List.set_cons_succ] at h ⊢
  obtain ⟨x,t,h1,h2,h3⟩:=h
  exact ⟨x,t,h1,h2,ax.nils k i h3 (by simpa using e)⟩
theorem kd (i k:Nat) {X:Ctx} {Q:Exit→List AV→av→Prop} {env env':List AV} {H:av} {c:Code} (hi:env[i]?=some (.d (.v (.slice none 0 0)))) (he:env.set i (.d (.sl k []))=env') (h:AW X c Q env' H):AW X c Q env H:=by
 subst he
 intro s0 μ a w hN hs he hev
 exact h s0 μ a w hN hs ⟨he.defers,ax.nils k i he.rep hi⟩ hev
theorem sV {P:Program} {tt:aY} {base:World} {ops:Array Oper} {K:List AV→av→Prop} {o:Oper} {rest:List Oper} {env:List AV} {H:av} {l:List (List PD)} {e:Bool} (hg:o.guard=none) (hc:cX env o.op=none) (hs:iH tt H env o.op=none) (hn:m8 tt env o.op=some (l,e)) (k:∀b:Bool,(b=true→l=[])→aL P tt base ops rest (ba env o.dst (.d (.v (.bool (b == e))))) H K):aL P tt base ops (o::rest) env H K:=by
 simp only [aL,be,hg,bP,hc,hs,hn]
 exact k
theorem eD (l:Nat) {P:Program} {tt:aY} {base:World} {ops:Array Oper} {K:List AV→av→Prop} {o:Oper} {rest:List Oper} {env env':List AV} {H H':av} {f:FuncId} {args args':List AV} {r:AV} (hg:o.guard=none) (hc:cX env o.op=some (f,args)) (ha:bU H[l]? l args=args') (hH:H.set l .dead=H') (h:aI P base f args' r) (he:ba env o.dst r=env') (k:aL P tt base ops rest env' H' K):aL P tt base ops (o::rest) env H K :=
 bZ hg hc ⟨_,pu l ha hH (h H'),fun r' H'' ⟨e1,e2⟩ _=>by rw [e1,e2,he];exact k⟩
end Av
end Go.Proofs.YtdekcppfpgeneaaGreatDoor
namespace Go.Proofs.YtdekcppfpgeneaaGreatDoor
open Go Go.RowKit
namespace Av
theorem Sim.nilrow {base:World} {s:St} (hs:Sim base s) (ty k:Nat):∃μ',Sim base ⟨μ',s.H++[.row ty k 0 []],s.w⟩∧Evo s.H.length s ⟨μ',s.H++[.row ty k 0 []],s.w⟩∧Rep ⟨μ',s.H++[.row ty k 0 []],s.w⟩ (.ms s.H.length 0 0) (.slice none 0 0):=by
 obtain ⟨f1,f2⟩:=hs.free
 have ho:(s.H++[aN.free])[s.H.length]?=some .free:=qP s.H _
 have hd:=f1.drop ho (o' := .row ty k 0 []) (.inr (.inl ⟨rfl,ty,k,0,rfl⟩))
 have hset:(s.H++[aN.free]).set s.H.length (.row ty k 0 [])=s.H++[.row ty k 0 []]:=ur s.H _ _
 simp only [hset] at hd
 refine ⟨_,hd.1,f2.trans (hd.2.mono (by simp)),?_⟩
 simp only [Rep,cB,qP,List.getElem?_cons_zero]
 exact ⟨⟨_,_,rfl⟩,cG.refl _ _,fun _ _ => .inl ⟨upd_same _ _ _,by first | rfl | trivial,by first | rfl | trivial⟩⟩
theorem ax.nilrow {s s':St} {x:AV} (hx:Rep s' x (.slice none 0 0)) (he:Evo s.H.length s s'):∀{l:List AV} {vs:List Value} (i:Nat),ax s l vs→l[i]?=some (.d (.v (.slice none 0 0)))→ax s' (l.set i x) vs
 | [],vs,i,h,e=>by simp at e
 | a::r,vs,0,h,e=>by
  simp only [List.getElem?_cons_zero,Option.some.injEq] at e
  subst e
  simp only [ax,List.set_cons_zero] at h ⊢
  obtain ⟨y,t,h1,h2,h3⟩:=h
  simp only [Rep,aQ] at h2
  exact ⟨y,t,h1,by rw [h2.1];exact hx,ax.evo he _ _ h3⟩
 | a::r,vs,i+1,h,e=>by
  simp only [ax,List.set_cons_succ] at h ⊢
  obtain ⟨y,t,h1,h2,h3⟩:=h
  exact ⟨y,t,h1,Rep.evo he _ _ h2,ax.nilrow hx he i h3 (by simpa using e)⟩
theorem gv (i ty k:Nat) {X:Ctx} {Q:Exit→List AV→av→Prop} {env env':List AV} {H:av} {c:Code} (hi:env[i]?=some (.d (.v (.slice none 0 0)))) (he:env.set i (.ms H.length 0 0)=env') (h:AW X c Q env' (H++[.row ty k 0 []])):AW X c Q env H:=by
 subst he
 intro s0 μ a w hN hs he hev
 obtain ⟨μ',h1,h2,h3⟩:=hs.nilrow ty k
 exact h s0 μ' a w (by simp;omega) h1 ⟨he.defers.keeps h2.keeps,ax.nilrow h3 h2 i he.rep hi⟩ (hev.trans (h2.mono hN))
theorem eh {X:Ctx} {c y:Code} {Q Q2:Exit→List AV→av→Prop} {env:List AV} {H:av} (Q0:List AV→av→Prop) (h:AW X c (fun ex env' H'=>ex = .normal∧∃env0 H0,mc X env' H' env0 H0∧Q0 env0 H0) env H) (k:∀env0 H0,Q0 env0 H0→AW X y Q2 env0 H0):AW X c (ux (fun env H=>AW X y Q2 env H) Q) env H :=
 h.mono fun ex env H ⟨e,env0,H0,g,q⟩=>by subst e;exact ke g (k _ _ q)
end Av
end Go.Proofs.YtdekcppfpgeneaaGreatDoor
namespace Go.Proofs.YtdekcppfpgeneaaGreatDoor
open Go Go.RowKit
namespace Av
theorem jy {P:Program} {r:Option Nat} {n m:Nat} {c:Code} {Q:Exit→Act→World→Prop} {a:Act} {w:World} (h:c.wpIn (FR r) n P Q a w):c.wpIn (FR r) m P Q a w :=
 fun b k cs hro hb _=>h b k cs hro hb fun d hd=>by cases hd
def En (P:Program) (gf:Nat) (lb:Array Value) (encs:List (Array Value)) (s:St):Prop :=
 ∀(l:Nat) (J:Nat→World→Prop) (Jx:World→Prop) (W:World),(∀k W1,J k W1→∀b,s.imm b→W1.heap[b]?=s.w.heap[b]?) →
  (∀k W1,k<encs.length→J k W1→YieldAt Fence.wide 7 P l (encs.getD k #[]) W1 fun e W'=>(e = .returned (.bool true)∧J (k+1) W')∨(e = .returned (.bool false)∧Jx W')) →
  J 0 W→CallsIn Fence.wide 8 P gf (#[.func (.yield l) #[] #[]]++lb) W fun e W'=>(∃v,e = .returned v)∧(J encs.length W'∨Jx W')
def gS (env:List AV) (ps:List Tmp) (xs:List AV):List AV:=(ps.zip xs).foldl (fun e p=>e.set p.1 p.2) env
theorem kB {s:St}:∀(ps:List Tmp) (xs:List AV) (vs:List Value) (env:List AV) (t:Array Value),ax s env t.toList→ax s xs vs→ax s (gS env ps xs) ((ps.zip vs).foldl (fun t p=>t.setIfInBounds p.1 p.2) t).toList
 | [],xs,vs,env,t,h,k=>by simpa [gS] using h
 | p::ps,[],vs,env,t,h,k=>by
  simp only [ax] at k
  subst k
  simpa [gS] using h
 | p::ps,x::xs,vs,env,t,h,k=>by
  simp only [ax] at k
  obtain ⟨v,r,rfl,k1,k2⟩:=k
  have:=kB ps xs r (env.set p x) (t.setIfInBounds p v) (by simpa using ax.set k1 p h) k2
  simpa [gS] using this
def yf (J:Nat→av→Prop) (Jx:Code→av→Prop) (k:Nat):Exit→List AV→av→Prop
 | .normal,_,H=>J (k+1) H
 | .ret,_,H=>Jx .ret H
 | .exit id,_,H=>Jx (.exit id) H
 | .goto t,_,H=>Jx (.goto t) H
 | _,_,_=>False
theorem dB {base:World} {s:St} (hs:Sim base s) {D:Nat} {x:Obj} (hx:s.w.heap[D]?=some x) (h1:∀arr ty fr,x ≠ .cells arr ty fr) (h2:∀e c,x ≠ .map e c):¬s.live D:=by
 rintro ⟨l,o,k1,k2,k3⟩
 have ho:=hs.obj l o k1
 cases o with
 | free=>cases k2
 | dead=>cases k2
 | box ty cells =>
  obtain ⟨b,arr,q1,q2,q3,q4⟩:=ho
  rw [k3] at q1;cases q1
  rw [hx] at q3;exact h1 _ _ _ (Option.some.inj q3)
 | row ty k ver items =>
  rcases ho.2.2 with ⟨q1,_⟩ | ⟨b,arr,f,r,q1,q2,q3,q4,q5⟩
  ·rw [k3] at q1;cases q1
  ·rw [k3] at q1;cases q1
   rw [hx] at q3;exact h1 _ _ _ (Option.some.inj q3)
 | mp kt et ks es =>
  obtain ⟨_,b,ents,clock,q1,q2,q3,q4⟩:=ho
  rw [k3] at q1;cases q1
  rw [hx] at q3;exact h2 _ _ (Option.some.inj q3)
set_option maxHeartbeats 1000000 in
theorem nT {P:Program} {tt:aY} {base:World} {N:Nat} {Q:Exit→List AV→av→Prop} {env:List AV} {H:av} {g:Operand} {ps:Array Tmp} {assign body:Code} {gf:Nat} {caps:List AV} (elems:List (List AV))
  (hg:bV env g = .fn (.func gf) [] caps) (hgo:d9 g=true) (eg:∀args w,(callFunc gf args).run P w = .ok (.enter gf args) w)
  (hseq:∀μ w (lb:Array Value),Sim base ⟨μ,H,w⟩→ax ⟨μ,H,w⟩ caps lb.toList→∃encs:List (Array Value),En P gf lb encs ⟨μ,H,w⟩∧encs.length=elems.length∧∀k,k<elems.length→(encs.getD k #[]).size=ps.size∧ax ⟨μ,H,w⟩ (elems.getD k []) (encs.getD k #[]).toList)
  (J:Nat→av→Prop) (Jx:Code→av→Prop) (h0:J 0 H)
  (hround:∀l k H',k<elems.length→J k H'→H.length≤H'.length→AW ⟨P,tt,base,H.length,some l⟩ assign (fun e env1 H1=>e = .normal∧AW ⟨P,tt,base,H.length,some l⟩ body (yf J Jx k) env1 H1) (gS env ps.toList (elems.getD k [])) H')
  (hdone:∀H',J elems.length H'→H.length≤H'.length→Q .normal env H')
  (hstop:∀c H',Jx c H'→H.length≤H'.length→AW ⟨P,tt,base,N,none⟩ c Q env H'):AW ⟨P,tt,base,N,none⟩ (.rangeFunc g ps assign body) Q env H:=by
 intro s0 μ a w hN hs he hev
 have hge:=he.eval hgo
 rw [hg] at hge
 simp only [Rep] at hge
 obtain ⟨vf,lb,hgv,hf1,hcaps⟩:=hge
 simp only [ax] at hf1
 obtain rfl:vf = #[]:=Array.toList_eq_nil_iff.1 hf1
 obtain ⟨encs,hsw,hlen,helem⟩:=hseq μ w lb hs hcaps
 refine wpIn_rangeFunc (F:=FR none) ?_
 intro fn hfn
 obtain ⟨rec,hrec⟩:∃rec:LoopState→Option Code→Loop,rec=fun st pe=>{ state:=st,pending:=pe,fn,tmps:=a.tmps,params:=ps,assign,body,defers:=w.heap.size }:=⟨_,rfl⟩
 obtain ⟨W1,hW1⟩:∃W1,(w.alloc (.deferred (some []))).alloc (.loop (rec .ready none))=W1:=⟨_,rfl⟩
 have hL1:W1.heap[w.heap.size+1]?=some (.loop (rec .ready none)):=by
  rw [←hW1];have:=World.alloc_heap_new (w.alloc (.deferred (some []))) (.loop (rec .ready none));rwa [World.size_alloc] at this
 have hK1:W1.heap[w.heap.size]?=some (.deferred (some [])):=by
  rw [←hW1];exact (Below.heap_alloc _ _ _ (by simp)).trans (World.alloc_heap_new w _)
 have hb1:Below w.heap.size w W1:=by
  rw [←hW1];exact ((Below.refl _ w).alloc (Nat.le_refl _) _).alloc (by simp) _
 obtain ⟨hs1,hev1⟩:=Sim.below' (s:=⟨μ,H,w⟩) hs hb1
 let core:av→World→Loop→Prop:=fun H' W r=>∃μ',H.length≤H'.length∧Sim base ⟨μ',H',W⟩∧Evo H.length ⟨μ,H,w⟩ ⟨μ',H',W⟩∧W.heap[w.heap.size+1]?=some (.loop r)∧W.heap[w.heap.size]?=some (.deferred (some []))
 have turn:∀{H' W r} (r':Loop),core H' W r→core H' (W.putObj (w.heap.size+1) (.loop r')) r':=by
  rintro H' W r r' ⟨μ',c1,c2,c3,c4,c5⟩
  have ho:Oth ⟨μ',H',W⟩ (w.heap.size+1) (W.putObj (w.heap.size+1) (.loop r')):=jM (s:=⟨μ',H',W⟩) c4 (fun _ _ _ e=>by cases e) (fun _ _ _ e=>by cases e) (dB c2 c4 (fun _ _ _ e=>by cases e) fun _ _ e=>by cases e)
  have hbs:=hs.below.size
  exact ⟨μ',c1,c2.oth ho (by simp only at hbs;omega) rfl rfl rfl,c3.oth c2 ho (by simp only;omega),World.putObj_heap_same (Array.getElem?_eq_some_iff.1 c4).1,(World.putObj_heap_other (by omega)).trans c5⟩
 have hcore1:core H W1 (rec .ready none):=⟨μ,Nat.le_refl _,hs1,hev1,hL1,hK1⟩
 refine ⟨w.heap.size+1,[fG w.heap.size],W1,{ target := .fn (.func gf) lb,args := #[.func (.yield (w.heap.size+1)) #[] #[]] },W1,gf,#[.func (.yield (w.heap.size+1)) #[] #[]]++lb,W1,?_,?_,?_,?_,fun _=>by omega,?_⟩
 ·rw [←hW1,hrec];exact run_enterLoop_outer _ _ _ _ _
 ·simp only [resolve,rangeCall,hgv]
  simp [go_sem]
 ·intro f' hf';trivial
 ·simp [invoke,go_sem,eg]
 have hafter:∀{H' W r},core H' W r→bz (flr none s0) ⟨μ,H,w⟩ env a∧∃μ',N≤H'.length∧Sim base ⟨μ',H',W⟩∧bz (flr none s0) ⟨μ',H',W⟩ env { a with defers:=[fG w.heap.size]++a.defers }∧Evo N s0 ⟨μ',H',W⟩:=by
  rintro H' W r ⟨μ',c1,c2,c3,c4,c5⟩
  refine ⟨he,μ',Nat.le_trans hN c1,c2,⟨?_,ax.evo c3 _ _ he.rep⟩,hev.trans (c3.mono hN)⟩
  obtain ⟨Ds,e1,e2,e3⟩:=he.defers.keeps c3.keeps
  obtain ⟨Ds',e1',e2',e3'⟩:=he.defers
  have hsz:=hev.keeps.size
  have eq:Ds'=Ds:=by
   have:Ds'.map fG=Ds.map fG:=e1'.symm.trans e1
   exact (List.map_inj_right fun x y h=>by cases h;rfl).1 this
  subst eq
  refine ⟨w.heap.size::Ds',by rw [List.map_cons,←e1];rfl,List.nodup_cons.2 ⟨fun hm => ?_,e2⟩,fun D hD => ?_⟩
  ·have:=(e3' _ hm).2.1.1
   simp only at this
   omega
  ·rcases List.mem_cons.1 hD with rfl | hD
   ·exact ⟨hsz,⟨(Array.getElem?_eq_some_iff.1 c5).1,dB c2 c5 (fun _ _ _ e=>by cases e) fun _ _ e=>by cases e⟩,c5⟩
   ·exact e3 D hD
 refine (hsw (w.heap.size+1) (fun k W=>∃H',J k H'∧core H' W (rec .ready none)) (fun W=>∃c H',Jx c H'∧core H' W (rec .done (some c))) W1
  (fun k W ⟨H',_,μ',_,_,c3,_⟩ b hb=>c3.keeps.heap b hb) ?_ ⟨H,h0,hcore1⟩).mono ?_
 ·-- one round
  rintro k W hk ⟨H',hJ,hcore⟩
  rw [hlen] at hk
  obtain ⟨μ',c1,c2,c3,c4,c5⟩:=hcore
  obtain ⟨hsz,hel⟩:=helem k hk
  have hy:=run_yield (P:=P) (args:=encs.getD k #[]) c4 (by rw [hrec];exact hsz)
  rw [hrec] at hy
  refine ⟨fn,_,assign,body,hy,roundIn_of_wpIn hfn ?_⟩
  have henv:bz 0 ⟨μ',H',W⟩ (gS env ps.toList (elems.getD k [])) { tmps:=(ps.zip (encs.getD k #[])).foldl (fun t (p,v)=>t.setIfInBounds p v) a.tmps,defers:=[] }:=by
   refine ⟨dg.nil _ _,?_⟩
   have:=kB ps.toList (elems.getD k []) (encs.getD k #[]).toList env a.tmps (ax.evo c3 _ _ he.rep) (ax.evo c3 _ _ hel)
   rw [←Array.toList_zip,Array.foldl_toList] at this
   exact this
  have ha:=hround (w.heap.size+1) k H' hk hJ c1 ⟨μ',H',W⟩ μ' _ W c1 c2 henv (.refl _ _)
  refine jy (m:=7) (wpIn_mono ha ?_)
  rintro e a1 w1 ⟨μ1,env1,H1,⟨rfl,hbd⟩,g1,g2,g3,g4⟩
  have im:∀{D:Nat} {x:Obj},W.heap[D]?=some x→(∀arr ty fr,x ≠ .cells arr ty fr)→(∀e c,x ≠ .map e c)→w1.heap[D]?=some x:=fun {D x} hx n1 n2=>(g4.keeps.heap D ⟨(Array.getElem?_eq_some_iff.1 hx).1,dB c2 hx n1 n2⟩).trans hx
  have i1:=im c4 (fun _ _ _ e=>by cases e) fun _ _ e=>by cases e
  have i2:=im c5 (fun _ _ _ e=>by cases e) fun _ _ e=>by cases e
  refine ⟨_,run_beginRound i1 (by rw [hrec]),?_⟩
  have ho:Oth ⟨μ1,H1,w1⟩ (w.heap.size+1) (w1.putObj (w.heap.size+1) (.loop { rec .ready none with state := .busy })):=jM (s:=⟨μ1,H1,w1⟩) i1 (fun _ _ _ e=>by cases e) (fun _ _ _ e=>by cases e) (dB g2 i1 (fun _ _ _ e=>by cases e) fun _ _ e=>by cases e)
  have hbs:=hs.below.size
  have j2:=g2.oth ho (show base.heap.size≤w.heap.size+1 from Nat.le_succ_of_le hbs) rfl rfl rfl
  have j1:(w1.putObj (w.heap.size+1) (.loop { rec .ready none with state := .busy })).heap[w.heap.size+1]?=some (.loop { rec .ready none with state := .busy }):=World.putObj_heap_same (Array.getElem?_eq_some_iff.1 i1).1
  have j3:(w1.putObj (w.heap.size+1) (.loop { rec .ready none with state := .busy })).heap[w.heap.size]?=some (.deferred (some [])):=(World.putObj_heap_other (by omega)).trans i2
  have j4:Evo H.length ⟨μ,H,w⟩ ⟨μ1,H1,w1.putObj (w.heap.size+1) (.loop { rec .ready none with state := .busy })⟩:=(c3.trans g4).oth g2 ho (by simp only;omega)
  generalize w1.putObj (w.heap.size+1) (.loop { rec .ready none with state := .busy })=w2 at *
  have hm2:bz 0 ⟨μ1,H1,w2⟩ env1 a1:=by
   refine ⟨?_,ax.oth g2 ho _ _ g3.rep⟩
   obtain ⟨Ds,e1,e2,e3⟩:=g3.defers
   refine ⟨Ds,e1,e2,fun D hD => ?_⟩
   obtain ⟨d1,d2,d3⟩:=e3 D hD
   have hne:D≠w.heap.size+1:=fun e=>by
    subst e
    simp only at d3
    rw [i1] at d3;cases d3
   exact ⟨d1,ho.imm d2,(ho.same D hne d2.1).trans d3⟩
  have hbd':=hbd ⟨μ1,H1,w2⟩ μ1 a1 w2 g1 j2 hm2 (.refl _ _)
  refine jy (m:=7) (wpIn_mono hbd' ?_)
  rintro e a3 w3 ⟨μ3,env3,H3,r1,r2,r3,r4,r5⟩
  have im2:∀{D:Nat} {x:Obj},w2.heap[D]?=some x→(∀arr ty fr,x ≠ .cells arr ty fr)→(∀e c,x ≠ .map e c)→w3.heap[D]?=some x:=fun {D x} hx n1 n2=>(r5.keeps.heap D ⟨(Array.getElem?_eq_some_iff.1 hx).1,dB j2 hx n1 n2⟩).trans hx
  have k1:=im2 j1 (fun _ _ _ e=>by cases e) fun _ _ e=>by cases e
  have k2:=im2 j3 (fun _ _ _ e=>by cases e) fun _ _ e=>by cases e
  have core3:core H3 w3 { rec .ready none with state := .busy }:=⟨μ3,r2,r3,j4.trans r5,k1,k2⟩
  cases e with
  | normal=>exact ⟨_,_,run_endRound none k1,.inl ⟨rfl,H3,r1,by have:=turn { rec .ready none with state := .ready,pending:=none } core3;rw [hrec] at this ⊢;exact this⟩⟩
  | ret=>exact ⟨_,_,run_endRound (some .ret) k1,.inr ⟨rfl,.ret,H3,r1,by have:=turn { rec .ready none with state := .done,pending:=some .ret } core3;rw [hrec] at this ⊢;exact this⟩⟩
  | exit id=>exact ⟨_,_,run_endRound (some (.exit id)) k1,.inr ⟨rfl,.exit id,H3,r1,by have:=turn { rec .ready none with state := .done,pending:=some (.exit id) } core3;rw [hrec] at this ⊢;exact this⟩⟩
  | goto t=>exact ⟨_,_,run_endRound (some (.goto t)) k1,.inr ⟨rfl,.goto t,H3,r1,by have:=turn { rec .ready none with state := .done,pending:=some (.goto t) } core3;rw [hrec] at this ⊢;exact this⟩⟩
  | panic ch=>exact r1.elim
  | outgrown=>exact r1.elim
 ·-- behind it
  rintro e W2 ⟨⟨v,rfl⟩,(⟨H',hJ,hc⟩ | ⟨c,H',hJ,hc⟩)⟩
  ·rw [hlen] at hJ
   obtain ⟨μ0,c1,c2,c3,c4,c5⟩:=hc
   have hc2:=turn { rec .ready none with state := .exhausted } ⟨μ0,c1,c2,c3,c4,c5⟩
   obtain ⟨_,μ',q1,q2,q3,q4⟩:=hafter hc2
   exact ⟨none,_,by have:=run_endLoop (P:=P) c4 (by rw [hrec];simp);rw [hrec] at this ⊢;exact this,μ',env,H',hdone H' hJ c1,q1,q2,q3,q4⟩
  ·obtain ⟨μ0,c1,c2,c3,c4,c5⟩:=hc
   have hc2:=turn { rec .done (some c) with state := .exhausted } ⟨μ0,c1,c2,c3,c4,c5⟩
   obtain ⟨_,μ',q1,q2,q3,q4⟩:=hafter hc2
   exact ⟨some c,_,by have:=run_endLoop (P:=P) c4 (by rw [hrec];simp);rw [hrec] at this ⊢;exact this,hstop c H' hJ c1 s0 μ' _ _ q1 q2 q3 q4⟩
end Av
end Go.Proofs.YtdekcppfpgeneaaGreatDoor
namespace Go.Proofs.YtdekcppfpgeneaaGreatDoor
open Go Go.RowKit
namespace Av
section
variable {P:Program} {tt:aY} {base:World} {ops:Array Oper} {N0:Nat} {K:List AV→av→Prop} {o:Oper} {rest:List Oper} {env env':List AV} {H H':av} {r:AV}
theorem ej (hg:o.guard=none) (hc:cX env o.op=none) (hs:iH tt H env o.op=some (r,H')) (he:ba env o.dst r=env') (k:aL P tt base ops rest env' H' K):aL P tt base ops (o::rest) env H K:=by
 simp only [aL,be,hg,bP,hc,hs,he]
 exact k
theorem ei {j:Nat} {want:Bool} {y:Option Bool} (hg:o.guard=some (j,want)) (hc:cX env o.op=none) (hy:bM ops env j=some y) (hb:cW y want=true) (hs:iH tt H env o.op=some (r,H')) (he:ba env o.dst r=env') (k:aL P tt base ops rest env' H' K):aL P tt base ops (o::rest) env H K:=by
 simp only [aL,be,hg,hy,hb,if_true,bP,hc,hs,he]
 exact k
theorem eV {j:Nat} {want:Bool} {y:Option Bool} (hg:o.guard=some (j,want)) (hy:bM ops env j=some y) (hb:cW y want=false) (he:ba env o.dst c9=env') (k:aL P tt base ops rest env' H K):aL P tt base ops (o::rest) env H K:=by
 simp only [aL,be,hg,hy,hb,Bool.false_eq_true,if_false,he]
 exact k
end
end Av
end Go.Proofs.YtdekcppfpgeneaaGreatDoor
namespace Go.Proofs.YtdekcppfpgeneaaGreatDoor
open Go Go.RowKit
namespace Av
section
variable {P:Program} {tt:aY} {base:World} {ops:Array Oper} {N0:Nat} {K:List AV→av→Prop} {o:Oper} {rest:List Oper} {env env':List AV} {H H':av} {r:AV}
def oi (P:Program) (tt:aY) (base:World) (ops:Array Oper) (o:Oper) (rest:List Oper) (env:List AV) (H:av) (K:List AV→av→Prop):Bool→Prop
 | true=>aL P tt base ops ({ o with guard:=none }::rest) env H K
 | false=>aL P tt base ops rest (ba env o.dst c9) H K
theorem sW {j:Nat} {want c:Bool} {y:Option Bool} (hg:o.guard=some (j,want)) (hy:bM ops env j=some y) (hc:cW y want=c) (k:oi P tt base ops o rest env H K c):aL P tt base ops (o::rest) env H K:=by
 subst hc
 cases h:cW y want with
 | true =>
  rw [h] at k
  have e:y=some want:=by rw [gZ] at h;simpa using h
  subst e
  exact Bx hg hy k
 | false =>
  rw [h] at k
  simp only [aL,be,hg,hy,h,Bool.false_eq_true,if_false]
  exact k
theorem ah (k:aL P tt base ops ({ o with guard:=none }::rest) env H K):oi P tt base ops o rest env H K true:=k
theorem vh (he:ba env o.dst c9=env') (k:aL P tt base ops rest env' H K):oi P tt base ops o rest env H K false:=by subst he;exact k
theorem pa {b want:Bool} (he:ba env o.dst c9=env') (h1:b=want→aL P tt base ops ({ o with guard:=none }::rest) env H K) (h2:b = !want→aL P tt base ops rest env' H K):oi P tt base ops o rest env H K (cW (some b) want):=by
 subst he
 by_cases h:b=want
 ·have e:cW (some b) want=true:=by subst h;cases b<;>rfl
  rw [e]
  exact h1 h
 ·have e:cW (some b) want=false:=by cases b<;>cases want<;>first | rfl | exact absurd rfl h
  rw [e]
  exact h2 (by cases b<;>cases want<;>first | rfl | exact absurd rfl h)
def jx (P:Program) (tt:aY) (base:World) (N0:Nat) (ops:Array Oper) (o:Oper) (rest:List Oper) (env:List AV) (H:av) (K:List AV→av→Prop):Bool→Prop
 | true=>aH P tt base N0 ops ({ o with guard:=none }::rest) env H K
 | false=>aH P tt base N0 ops rest (ba env o.dst c9) H K
theorem pE {j:Nat} {want c:Bool} {y:Option Bool} (hg:o.guard=some (j,want)) (hy:bM ops env j=some y) (hc:cW y want=c) (k:jx P tt base N0 ops o rest env H K c):aH P tt base N0 ops (o::rest) env H K:=by
 subst hc
 cases h:cW y want with
 | true =>
  rw [h] at k
  have e:y=some want:=by rw [gZ] at h;simpa using h
  subst e
  exact Al hg hy k
 | false =>
  rw [h] at k
  simp only [aH,be,hg,hy,h,Bool.false_eq_true,if_false]
  exact k
theorem ar (k:aH P tt base N0 ops ({ o with guard:=none }::rest) env H K):jx P tt base N0 ops o rest env H K true:=k
theorem rX (he:ba env o.dst c9=env') (k:aH P tt base N0 ops rest env' H K):jx P tt base N0 ops o rest env H K false:=by subst he;exact k
theorem nC {b want:Bool} (he:ba env o.dst c9=env') (h1:b=want→aH P tt base N0 ops ({ o with guard:=none }::rest) env H K) (h2:b = !want→aH P tt base N0 ops rest env' H K):jx P tt base N0 ops o rest env H K (cW (some b) want):=by
 subst he
 by_cases h:b=want
 ·have e:cW (some b) want=true:=by subst h;cases b<;>rfl
  rw [e]
  exact h1 h
 ·have e:cW (some b) want=false:=by cases b<;>cases want<;>first | rfl | exact absurd rfl h
  rw [e]
  exact h2 (by cases b<;>cases want<;>first | rfl | exact absurd rfl h)
end
theorem cS {X:Ctx} {Q:Exit→List AV→av→Prop} {env:List AV} {H:av} {id:Nat} {ops:Array Oper} (hT:bD X.P X.tt) (hm:X.P.follows .mixedOrders=true) (hc:fV ops=true) (hB:jV .any ops ops.size=true) (hTl:lz .any ops ops.size=true)
  (h:aH X.P X.tt X.base H.length ops ops.toList env H fun env' H'=>Q .normal env' H'):AW X (.region id ops true) Q env H:=by
 refine qF ops.size hT hm hc hB hTl ?_
 have e1:ops.toList.take ops.size=ops.toList:=by rw [←Array.length_toList,List.take_length]
 have e2:ops.toList.drop ops.size=[]:=by rw [←Array.length_toList,List.drop_length]
 rw [e1,e2]
 simp only [aL]
 exact h
end Av
end Go.Proofs.YtdekcppfpgeneaaGreatDoor
namespace Go.Proofs.YtdekcppfpgeneaaGreatDoor
open Go Go.RowKit
namespace Av
section
variable {P:Program} {tt:aY} {base:World} {ops:Array Oper} {N0:Nat} {K:List AV→av→Prop} {o:Oper} {rest:List Oper} {env env':List AV} {H H':av} {C:Prop}
theorem aa (k:aL P tt base ops (o::rest) env H K):aL P tt base ops (o::rest) env H K:=k
theorem ak (k:aH P tt base N0 ops (o::rest) env H K):aH P tt base N0 ops (o::rest) env H K:=k
theorem ai (hc:cX env o.op=none) (h:aj tt ops o (some (env,H))=some (env',H')) (k:aL P tt base ops rest env' H' K):aL P tt base ops (o::rest) env H K :=
 kf 1 (l:=o::rest) (by simp only [sw,Option.map_some,Option.getD_some,hc];exact h) k
theorem au (hc:cX env o.op=none) (h:aB tt ops o (some (env,H,True))=some (env',H',C)) (hC:C) (k:aH P tt base N0 ops rest env' H' K):aH P tt base N0 ops (o::rest) env H K :=
 lj 1 (l:=o::rest) (C:=True) (C':=C) (by simp only [cJ,Option.map_some,Option.getD_some,hc];exact h) hC k
def AtC (P:Program) (tt:aY) (base:World) (ops:Array Oper) (dst:Option Tmp) (rest:List Oper) (env:List AV) (H:av) (K:List AV→av→Prop) (f:FuncId) (args:List AV):Prop :=
 ∃R,bR P base f args H R∧∀r H',R r H'→H.length≤H'.length→aL P tt base ops rest (ba env dst r) H' K
theorem eF {f:FuncId} {args:List AV} (hg:o.guard=none) (hc:cX env o.op=some (f,args)) (k:AtC P tt base ops o.dst rest env H K f args):aL P tt base ops (o::rest) env H K:=bZ hg hc k
theorem E7 {dst:Option Tmp} {f:FuncId} {args:List AV} {r:AV} (h:aI P base f args r) (he:ba env dst r=env') (k:aL P tt base ops rest env' H K):AtC P tt base ops dst rest env H K f args :=
 vr h (by rw [he];exact k)
theorem E6 {dst:Option Tmp} {f:FuncId} {args:List AV} {r:AV} (h:da P base f args H r) (he:ba env dst r=env') (k:aL P tt base ops rest env' H K):AtC P tt base ops dst rest env H K f args :=
 ⟨_,h,fun r' H' ⟨e1,e2⟩ _=>by rw [e1,e2,he];exact k⟩
def AtH (P:Program) (tt:aY) (base:World) (N0:Nat) (ops:Array Oper) (dst:Option Tmp) (rest:List Oper) (env:List AV) (H:av) (K:List AV→av→Prop) (f:FuncId) (args:List AV):Prop :=
 ∃r,(∀Hx:av,(∀l,l<N0∨l∈eu args→Hx[l]?=H[l]?)→bR P base f args Hx fun r' H'=>r'=r∧H'=Hx)∧r.bel H.length∧aH P tt base N0 ops rest (ba env dst r) H K
theorem Am {f:FuncId} {args:List AV} (hg:o.guard=none) (hc:cX env o.op=some (f,args)) (k:AtH P tt base N0 ops o.dst rest env H K f args):aH P tt base N0 ops (o::rest) env H K:=nV hg hc k
theorem Ei {dst:Option Tmp} {f:FuncId} {args:List AV} {r:AV} (h:aI P base f args r) (hb:r.bel H.length) (he:ba env dst r=env') (k:aH P tt base N0 ops rest env' H K):AtH P tt base N0 ops dst rest env H K f args :=
 vb (C:=fun r H=>aH P tt base N0 ops rest (ba env dst r) H K) h hb (by rw [he];exact k)
theorem Eh {dst:Option Tmp} {f:FuncId} {args:List AV} {r:AV} (h:∀Hx:av,(∀l,l<N0∨l∈eu args→Hx[l]?=H[l]?)→da P base f args Hx r) (hb:r.bel H.length) (he:ba env dst r=env') (k:aH P tt base N0 ops rest env' H K):AtH P tt base N0 ops dst rest env H K f args :=
 ⟨r,h,hb,by rw [he];exact k⟩
theorem rr {p:Prop} (h:p:=by first | with_reducible rfl | rfl):p:=h
section
variable {j:Nat} {want c b:Bool} {y:Option Bool} {dst:Option Tmp} {f:FuncId} {args args':List AV} {r:AV}
theorem zg (hg:o.guard=some (j,want)) (k:oi P tt base ops o rest env H K c) (hy:bM ops env j=some y:=by simp only [avs]<;>rfl) (hc:cW y want=c:=by rfl):aL P tt base ops (o::rest) env H K:=sW hg hy hc k
theorem zo (k:aL P tt base ops rest env' H K) (he:ba env o.dst c9=env':=by simp only [avs]<;>rfl):oi P tt base ops o rest env H K false:=vh he k
theorem zs (h1:b=want→aL P tt base ops ({ o with guard:=none }::rest) env H K) (h2:b = !want→aL P tt base ops rest env' H K) (he:ba env o.dst c9=env':=by simp only [avs]<;>rfl):oi P tt base ops o rest env H K (cW (some b) want):=pa he h1 h2
theorem za (hg:o.guard=none) (k:AtC P tt base ops o.dst rest env H K f args) (hc:cX env o.op=some (f,args):=by simp only [avs]<;>rfl):aL P tt base ops (o::rest) env H K:=eF hg hc k
theorem zp (h:aI P base f args r) (k:aL P tt base ops rest env' H K) (he:ba env dst r=env':=by simp only [avs]<;>rfl):AtC P tt base ops dst rest env H K f args:=E7 h he k
theorem zd (h:da P base f args H r) (k:aL P tt base ops rest env' H K) (he:ba env dst r=env':=by simp only [avs]<;>rfl):AtC P tt base ops dst rest env H K f args:=E6 h he k
theorem zP (hg:o.guard=none) (h:aI P base f args r) (k:aL P tt base ops rest env' H K) (hc:cX env o.op=some (f,args):=by simp only [avs]<;>rfl) (he:ba env o.dst r=env':=by simp only [avs]<;>rfl):aL P tt base ops (o::rest) env H K:=xm hg hc h he k
theorem zD (hg:o.guard=none) (h:da P base f args H r) (k:aL P tt base ops rest env' H K) (hc:cX env o.op=some (f,args):=by simp only [avs]<;>rfl) (he:ba env o.dst r=env':=by simp only [avs]<;>rfl):aL P tt base ops (o::rest) env H K:=xl hg hc h he k
theorem yg (hg:o.guard=some (j,want)) (k:jx P tt base N0 ops o rest env H K c) (hy:bM ops env j=some y:=by simp only [avs]<;>rfl) (hc:cW y want=c:=by rfl):aH P tt base N0 ops (o::rest) env H K:=pE hg hy hc k
theorem yo (k:aH P tt base N0 ops rest env' H K) (he:ba env o.dst c9=env':=by simp only [avs]<;>rfl):jx P tt base N0 ops o rest env H K false:=rX he k
theorem ys (h1:b=want→aH P tt base N0 ops ({ o with guard:=none }::rest) env H K) (h2:b = !want→aH P tt base N0 ops rest env' H K) (he:ba env o.dst c9=env':=by simp only [avs]<;>rfl):jx P tt base N0 ops o rest env H K (cW (some b) want):=nC he h1 h2
theorem ya (hg:o.guard=none) (k:AtH P tt base N0 ops o.dst rest env H K f args) (hc:cX env o.op=some (f,args):=by simp only [avs]<;>rfl):aH P tt base N0 ops (o::rest) env H K:=Am hg hc k
theorem yp (h:aI P base f args r) (k:aH P tt base N0 ops rest env' H K) (hb:r.bel H.length:=by first | trivial | simp [AV.bel]) (he:ba env dst r=env':=by simp only [avs]<;>rfl):AtH P tt base N0 ops dst rest env H K f args:=Ei h hb he k
theorem yd (h:∀Hx:av,(∀l,l<N0∨l∈eu args→Hx[l]?=H[l]?)→da P base f args Hx r) (k:aH P tt base N0 ops rest env' H K) (hb:r.bel H.length:=by simp [AV.bel]) (he:ba env dst r=env':=by simp only [avs]<;>rfl):AtH P tt base N0 ops dst rest env H K f args:=Eh h hb he k
theorem yP (hg:o.guard=none) (h:aI P base f args r) (k:aH P tt base N0 ops rest env' H K) (hc:cX env o.op=some (f,args):=by simp only [avs]<;>rfl) (hb:r.bel H.length:=by trivial) (he:ba env o.dst r=env':=by simp only [avs]<;>rfl):aH P tt base N0 ops (o::rest) env H K:=ul hg hc h hb he k
end
end
section
variable {X:Ctx} {Q:Exit→List AV→av→Prop} {env:List AV} {H:av} {id:Nat} {ops:Array Oper}
theorem zr (hT:bD X.P X.tt) (h:aL X.P X.tt X.base ops ops.toList env H (fun env H=>Q .normal env H)) (hc:fV ops=true:=by kernel_rfl):AW X (.region id ops false) Q env H:=dQ hT hc h
theorem zf {c:Operand} {x y:Code} (hc:bV env c = .d (.v (.bool false))) (ho:d9 c=true) (h:AW X y Q env H):AW X (.cond c x y) Q env H:=am hc ho (fun hb=>absurd hb (by decide)) fun _=>h
theorem zt {c:Operand} {x y:Code} (hc:bV env c = .d (.v (.bool true))) (ho:d9 c=true) (h:AW X x Q env H):AW X (.cond c x y) Q env H:=am hc ho (fun _=>h) fun hb=>absurd hb (by decide)
theorem zw (n:Nat) (hT:bD X.P X.tt) (hm:X.P.follows .mixedOrders=true) (h:aH X.P X.tt X.base H.length ops (ops.toList.take n) env H fun env' H'=>aL X.P X.tt X.base ops (ops.toList.drop n) env' H' fun env H=>Q .normal env H) (hc:fV ops=true:=by kernel_rfl) (hB:jV .any ops n=true:=by kernel_rfl) (hTl:lz .any ops n=true:=by kernel_rfl):AW X (.region id ops true) Q env H:=qF n hT hm hc hB hTl h
end
end Av
end Go.Proofs.YtdekcppfpgeneaaGreatDoor
namespace Go.Proofs.YtdekcppfpgeneaaGreatDoor
open Go Go.RowKit
namespace Av
inductive PT where
 | b
 | s
 | i (k:IntKind)
 | sl (es:List PT)
def iz (sh:TypeId→Option (List PT)) (co:TypeId→Nat):List Field→Nat→Option (List PT)
 | [],_=>some []
 | f::r,o=>match sh f.type with
  | some ts=>if f.offset=o∧co f.type=ts.length then (iz sh co r (o+ts.length)).map (ts ++ ·) else none
  | none=>none
def gJ (P:Program):Nat→TypeId→Option (List PT)
 | 0,_=>none
 | m+1,t=>match P.underlying t with
  | some .bool=>some [.b]
  | some .string=>some [.s]
  | some (.int k)=>some [.i k]
  | some (.slice e)=>match gJ P m e with
   | some ts=>if P.cellsOf e=ts.length∧0<ts.length then some [.sl ts] else none
   | none=>none
  | some (.struct fs)=>match iz (gJ P m) P.cellsOf fs.toList 0 with
   | some ts=>if P.cellsOf t=ts.length then some ts else none
   | none=>none
  | _=>none
mutual
def PT.fits:PT→PD→Prop
 | .b,.v (.bool _)=>True
 | .s,.v (.string _)=>True
 | .i k,.v (.int k' _)=>k'=k
 | .sl ts,.sl k l=>k=ts.length∧∀it∈l,bW ts it
 | _,_=>False
def bW:List PT→List PD→Prop
 | [],[]=>True
 | t::ts,p::ps=>t.fits p∧bW ts ps
 | _,_=>False
end
theorem bW.length:∀{ts:List PT} {ps:List PD},bW ts ps→ps.length=ts.length
 | [],[],_=>rfl
 | [],_::_,h=>by simp only [bW] at h
 | _::_,[],h=>by simp only [bW] at h
 | t::ts,p::ps,h=>by simp only [bW] at h;simp [h.2.length]
theorem bW.append:∀{ts us:List PT} {ps qs:List PD},bW ts ps→bW us qs→bW (ts++us) (ps++qs)
 | [],us,[],qs,_,k=>k
 | [],_,_::_,_,h,_=>by simp only [bW] at h
 | _::_,_,[],_,h,_=>by simp only [bW] at h
 | t::ts,us,p::ps,qs,h,k=>by simp only [bW,List.cons_append] at h ⊢;exact ⟨h.1,h.2.append k⟩
theorem PT.fits.one {t:PT} {p:PD} (h:t.fits p):p.one=true:=by
 cases t with
 | b=>cases p with
  | v x=>cases x<;>simp_all [PT.fits,PD.one,Value.oneCell']
  | sl k l=>rfl
 | s=>cases p with
  | v x=>cases x<;>simp_all [PT.fits,PD.one,Value.oneCell']
  | sl k l=>rfl
 | i k=>cases p with
  | v x=>cases x<;>simp_all [PT.fits,PD.one,Value.oneCell']
  | sl k l=>rfl
 | sl ts=>cases p with
  | v x=>simp [PT.fits] at h
  | sl k l=>rfl
theorem CQ {p:PD} (h:PT.fits .b p):∃x,p = .v (.bool x):=by
 cases p with
 | v x=>cases x<;>simp_all [PT.fits]
 | sl k l=>simp [PT.fits] at h
theorem iw {p:PD} (h:PT.fits .s p):∃x,p = .v (.string x):=by
 cases p with
 | v x=>cases x<;>simp_all [PT.fits]
 | sl k l=>simp [PT.fits] at h
theorem kT {k:IntKind} {p:PD} (h:PT.fits (.i k) p):∃x,p = .v (.int k x):=by
 cases p with
 | v x=>cases x<;>simp_all [PT.fits]
 | sl k l=>simp [PT.fits] at h
theorem qh {ts:List PT} {p:PD} (h:PT.fits (.sl ts) p):∃l,p = .sl ts.length l∧∀it∈l,bW ts it:=by
 cases p with
 | v x=>simp [PT.fits] at h
 | sl k l=>simp only [PT.fits] at h;exact ⟨l,by rw [h.1],h.2⟩
theorem bF {t:PT} {ts:List PT} {ps:List PD} (h:bW (t::ts) ps):∃p r,ps=p::r∧t.fits p∧bW ts r:=by
 cases ps with
 | nil=>simp only [bW] at h
 | cons p r=>simp only [bW] at h;exact ⟨p,r,rfl,h.1,h.2⟩
theorem iy {ps:List PD} (h:bW [] ps):ps=[]:=by
 cases ps with
 | nil=>rfl
 | cons p r=>simp only [bW] at h
theorem qa {α:Type} {f:α→List PD} {l:List (List PD)} (h:∀it∈l,∃x,it=f x):∃xs:List α,l=xs.map f:=by
 induction l with
 | nil=>exact ⟨[],rfl⟩
 | cons it r ih =>
  obtain ⟨x,rfl⟩:=h it (by simp)
  obtain ⟨xs,rfl⟩:=ih fun it hi=>h it (by simp [hi])
  exact ⟨x::xs,rfl⟩
theorem pk {p:PD} (h:PT.fits (.sl [.s]) p):∃l:List ByteArray,p = .sl 1 (l.map fun x=>[.v (.string x)]):=by
 obtain ⟨l,rfl,hl⟩:=qh h
 obtain ⟨xs,rfl⟩:=qa (f:=fun x:ByteArray=>[PD.v (.string x)]) (l:=l) fun it hi=>by
  obtain ⟨p,r,rfl,h1,h2⟩:=bF (hl it hi)
  obtain ⟨x,rfl⟩:=iw h1
  exact ⟨x,by rw [iy h2]⟩
 exact ⟨xs,rfl⟩
section
variable {H:Type} {enc:TypeId × Value→H} {P:Program} {w:World} {base:Nat} {spare:Nat→Bool} {wM:Bool}
theorem sJ {s:St} (hw:s.w=w) {b:Nat}:∀{ts:List PT} {ps:List PD} {cs:List Value} {o:Nat},bW ts ps→ax s (dL ps) cs→(∀j v,cs[j]?=some v→w.cell? ⟨b,o+j,none⟩=some v)→aK w s.imm ps b o
 | [],[],cs,o,_,_,_=>by simp only [aK]
 | [],_::_,_,_,h,_,_=>by simp only [bW] at h
 | _::_,[],_,_,h,_,_=>by simp only [bW] at h
 | t::ts,p::ps,cs,o,h,hr,hc=>by
  simp only [bW] at h
  simp only [dL,List.map_cons,ax,Rep] at hr
  obtain ⟨x,r,rfl,h1,h2⟩:=hr
  simp only [aK]
  refine ⟨⟨h.1.one,x,by simpa using hc 0 x rfl,by rw [←hw];exact h1⟩,sJ hw h.2 h2 fun j v hj => ?_⟩
  have:=hc (j+1) v (by simpa using hj)
  rw [show o+1+j=o+(j+1) by omega]
  exact this
theorem mi {imm:Nat→Prop} {b k:Nat}:∀{l:List (List PD)} {o:Nat},(∀i,i<l.length→(l.getD i []).length=k∧aK w imm (l.getD i []) b (o+i * k))→bi w imm l b k o
 | [],o,_=>by simp only [bi]
 | it::r,o,h=>by
  simp only [bi]
  have h0:=h 0 (by simp)
  simp only [List.getD_cons_zero,Nat.zero_mul,Nat.add_zero] at h0
  refine ⟨h0.1,h0.2,mi fun i hi => ?_⟩
  have:=h (i+1) (by simpa using hi)
  simp only [List.getD_cons_succ] at this
  rw [show o+k+i * k=o+(i+1) * k by rw [Nat.add_mul];omega]
  exact this
theorem pl {s:St} {n:Nat} (ih:∀(m:Nat) (t:TypeId) (cs:List Value) (x:DataW H × List MemPlace) (ts:List PT),gJ P m t=some ts→DataW.trod enc P w base spare wM n t cs=some x→∃ps,bW ts ps∧ax s (dL ps) cs) {m:Nat} {cs:List Value} :
  ∀(fs:List Field) (o:Nat) (ts:List PT),iz (gJ P m) P.cellsOf fs o=some ts→o+ts.length=cs.length→(∀f∈fs,∃x,DataW.trod enc P w base spare wM n f.type ((cs.drop f.offset).take (P.cellsOf f.type))=some x) →
   ∃ps,bW ts ps∧ax s (dL ps) (cs.drop o)
 | [],o,ts,h,hl,_=>by
  simp only [iz,Option.some.injEq] at h
  subst h
  exact ⟨[],by simp only [bW],by rw [List.drop_of_length_le (by simp at hl;omega)];exact .nil⟩
 | f::r,o,ts,h,hl,hx=>by
  simp only [iz] at h
  split at h
  case h_2=>cases h
  rename_i us hus
  split at h
  case isFalse=>cases h
  rename_i hof
  simp only [Option.map_eq_some_iff] at h
  obtain ⟨vs,h,rfl⟩:=h
  obtain ⟨x,hx0⟩:=hx f (by simp)
  obtain ⟨ps,h1,h2⟩:=ih m _ _ x us hus hx0
  rw [List.length_append] at hl
  obtain ⟨qs,h3,h4⟩:=pl ih r (o+us.length) vs h (by omega) fun g hg=>hx g (by simp [hg])
  refine ⟨ps++qs,h1.append h3,?_⟩
  rw [hof.1,hof.2] at h2
  have:=h2.append h4
  rw [show List.take us.length (List.drop o cs)++List.drop (o+us.length) cs=cs.drop o by rw [←List.drop_drop,List.take_append_drop]] at this
  rw [show dL (ps++qs)=dL ps++dL qs by simp [dL]]
  exact this
theorem mn {s:St} (hw:s.w=w) (hi:∀b,b<w.heap.size→s.imm b):∀(n m:Nat) (t:TypeId) (cs:List Value) (x:DataW H × List MemPlace) (ts:List PT),gJ P m t=some ts→DataW.trod enc P w base spare wM n t cs=some x→∃ps,bW ts ps∧ax s (dL ps) cs
 | 0,m,t,cs,x,ts,h,hx=>by simp [DataW.trod] at hx
 | n+1,0,t,cs,x,ts,h,hx=>by simp [gJ] at h
 | n+1,m+1,t,cs,x,ts,h,hx=>by
  unfold gJ at h
  split at h
  ·rename_i hu
   cases h
   obtain ⟨b,rfl,_⟩:=DataW.trod_bool hu hx
   exact ⟨[.v (.bool b)],by simp [bW,PT.fits],.one (by simp only [Rep,aQ];exact ⟨trivial,trivial⟩)⟩
  ·rename_i hu
   cases h
   obtain ⟨b,rfl,_,hs⟩:=DataW.trod_string hu hx
   exact ⟨[.v (.string b)],by simp [bW,PT.fits],.one (by simp only [Rep,aQ];exact ⟨trivial,hs⟩)⟩
  ·rename_i k hu
   cases h
   obtain ⟨b,rfl,_,hs⟩:=DataW.trod_int hu hx
   exact ⟨[.v (.int k b)],by simp [bW,PT.fits],.one (by simp only [Rep,aQ];exact ⟨trivial,by simpa [Lit.wf,small] using hs⟩)⟩
  ·rename_i e hu
   split at h
   case h_2=>cases h
   rename_i us hus
   split at h
   case isFalse=>cases h
   rename_i hk
   cases h
   rcases DataW.trod_slice hu hx with ⟨rfl,_⟩ | ⟨a,len,cap,elems,rest,n',e1,rfl,_,hb,hl,hc,hel,hev,_,_⟩
   ·exact ⟨[.sl us.length []],by simp [bW,PT.fits],.one (by simp only [Rep,aQ];exact ⟨none,0,rfl,Nat.zero_le _,Nat.zero_le _,.inl trivial⟩)⟩
   ·obtain rfl:n=n':=by omega
    have each:∀i,i<len→∃ps:List PD,bW us ps∧aK w s.imm ps a.block (a.off+i * us.length)∧a.spot=none∧a.block<w.heap.size:=fun i hil=>by
     have h1:=hev i hil
     obtain ⟨y,hy⟩:∃y,elems[i]?=some y:=⟨_,List.getElem?_eq_getElem (by omega)⟩
     rw [hy] at h1
     obtain ⟨ci,h2,h3⟩:=Option.bind_eq_some_iff.1 h1
     obtain ⟨ps,h4,h5⟩:=mn hw hi n m e ci y us hus h3
     unfold World.cells? at h2
     rw [hk.1] at h2
     split at h2
     case isFalse=>cases h2
     have hlc:=mapM_some_length h2
     have hg:=mapM_some_get h2
     simp only [List.length_range] at hlc
     have hj:∀j,j<us.length→w.cell? ((a.add (i * us.length)).add j)=ci[j]?:=fun j hj=>hg j j (by simp [hj])
     have h00:w.cell? ((a.add (i * us.length)).add 0)=ci[0]?:=hj 0 hk.2
     obtain ⟨v0,hv0⟩:∃v,ci[0]?=some v:=⟨_,List.getElem?_eq_getElem (by omega)⟩
     rw [hv0] at h00
     have hblk:=World.block_lt_of_cell? w _ h00
     have hblk':a.block<w.heap.size:=by
      have:((a.add (i * us.length)).add 0).block=a.block:=by unfold Addr.add;split<;>split<;>rfl
      rwa [this] at hblk
     have h0:=hev 0 (by omega)
     obtain ⟨y0,hy0⟩:∃y,elems[0]?=some y:=⟨_,List.getElem?_eq_getElem (by omega)⟩
     rw [hy0] at h0
     obtain ⟨c0,g2,_⟩:=Option.bind_eq_some_iff.1 h0
     unfold World.cells? at g2
     rw [hk.1] at g2
     split at g2
     case isFalse=>cases g2
     have glc:=mapM_some_length g2
     simp only [List.length_range] at glc
     have gg:=mapM_some_get g2 0 0 (by simp [hk.2])
     obtain ⟨u0,hu0⟩:∃v,c0[0]?=some v:=⟨_,List.getElem?_eq_getElem (by omega)⟩
     rw [hu0] at gg
     have hsp:a.spot=none:=by
      have:=World.cell?_spot gg
      simpa [Addr.add] using this
     refine ⟨ps,h4,?_,hsp,hblk'⟩
     refine sJ hw h4 h5 fun j v hv => ?_
     have hjl:j<us.length:=by have:=(List.getElem?_eq_some_iff.1 hv).1;omega
     rw [←hv,←hj j hjl]
     congr 1
     obtain ⟨ab,ao,asp⟩:=a
     simp only at hsp
     subst hsp
     rw [cT,cT]
    obtain ⟨F,hF⟩:=Go.Deep.choose_lt each
    refine ⟨[.sl us.length ((List.range len).map F)],?_,?_⟩
    ·simp only [bW,PT.fits,and_true,true_and]
     intro it hit
     obtain ⟨i,hi1,rfl⟩:=List.mem_map.1 hit
     exact (hF i (List.mem_range.1 hi1)).1
    ·refine .one ?_
     simp only [Rep,aQ]
     refine ⟨some a,cap,by simp,by simpa using hl,hc,?_⟩
     rcases Nat.eq_zero_or_pos len with rfl | hp
     ·exact .inl rfl
     ·have h0:=hF 0 hp
      refine .inr ⟨a.block,a.off,?_,?_,?_⟩
      ·obtain ⟨ab,ao,asp⟩:=a
       have:=h0.2.2.1
       simp only at this
       rw [this]
      ·exact hi _ h0.2.2.2
      ·rw [hw]
       refine mi fun i hil => ?_
       have hil':i<len:=by simpa using hil
       have e2:((List.range len).map F).getD i []=F i:=by simp [List.getD,hil']
       rw [e2]
       exact ⟨(hF i hil').1.length,(hF i hil').2.1⟩
  ·rename_i fs hu
   split at h
   case h_2=>cases h
   rename_i us hus
   split at h
   case isFalse=>cases h
   rename_i hk
   cases h
   obtain ⟨xs,n',e1,_,hl,hlen,hf⟩:=DataW.trod_struct hu hx
   obtain rfl:n=n':=by omega
   obtain ⟨ps,h1,h2⟩:=pl (s:=s) (fun m t cs x ts=>mn hw hi n m t cs x ts) (cs:=cs) fs.toList 0 _ hus (by omega) fun f hfm=>by
    obtain ⟨i,hi1,hi2⟩:=List.mem_iff_getElem.1 hfm
    have h3:=hf i f (by simp at hi1;simp [←hi2,hi1])
    have:i<xs.length:=by rw [hlen];simpa using hi1
    exact ⟨xs[i],by rw [h3,List.getElem?_eq_getElem this]⟩
   exact ⟨ps,h1,by simpa using h2⟩
  ·cases h
end
end Av
end Go.Proofs.YtdekcppfpgeneaaGreatDoor
namespace Go.Proofs
open Go.Shelf
def Tryz.lays160_ren:Go.Shelf.Ren:=⟨fun | 160=>124 | 232=>163 | 231=>162 | 227=>164 | 234=>166 | 233=>165 | 236=>168 | 235=>167 | 228=>207 | 271=>210 | 151=>209 | 197=>208 | 120=>230 | 152=>229 | 260=>228 | 137=>238 | 119=>239 | 224=>240 | 225=>241 | 217=>243 | 266=>244 | n=>n,fun | 9=>9 | 4=>4 | 3=>3 | 5=>5 | 117=>171 | 116=>170 | 0=>0 | 124=>174 | 21=>21 | 105=>213 | 46=>84 | 119=>243 | 139=>246 | 138=>245 | n=>n,fun | 3=>3 | 4=>4 | n=>n⟩
theorem Tryz.lays160:Go.Proofs.Lays.n160 Tryz.prog Tryz.lays160_ren:={
 mixed:=by kernel_rfl
 f119:=Tryz.func239.trans (congrArg some (by kernel_rfl))
 f120:=Tryz.func230.trans (congrArg some (by kernel_rfl))
 f137:=Tryz.func238.trans (congrArg some (by kernel_rfl))
 f151:=Tryz.func209.trans (congrArg some (by kernel_rfl))
 f152:=Tryz.func229.trans (congrArg some (by kernel_rfl))
 f160:=Tryz.func124.trans (congrArg some (by kernel_rfl))
 f197:=Tryz.func208.trans (congrArg some (by kernel_rfl))
 f217:=Tryz.func243.trans (congrArg some (by kernel_rfl))
 f224:=Tryz.func240.trans (congrArg some (by kernel_rfl))
 f225:=Tryz.func241.trans (congrArg some (by kernel_rfl))
 f227:=Tryz.func164.trans (congrArg some (by kernel_rfl))
 f228:=Tryz.func207.trans (congrArg some (by kernel_rfl))
 f231:=Tryz.func162.trans (congrArg some (by kernel_rfl))
 f232:=Tryz.func163.trans (congrArg some (by kernel_rfl))
 f233:=Tryz.func165.trans (congrArg some (by kernel_rfl))
 f234:=Tryz.func166.trans (congrArg some (by kernel_rfl))
 f235:=Tryz.func167.trans (congrArg some (by kernel_rfl))
 f236:=Tryz.func168.trans (congrArg some (by kernel_rfl))
 f260:=Tryz.func228.trans (congrArg some (by kernel_rfl))
 f266:=Tryz.func244.trans (congrArg some (by kernel_rfl))
 f271:=Tryz.func210.trans (congrArg some (by kernel_rfl))
 t0:=Tryz.underlying0
 a0:=Tryz.isAgg0
 z0:=Tryz.sizeOf0
 v0:=Tryz.zeroValue0
 t3:=Tryz.underlying3
 a3:=Tryz.isAgg3
 z3:=Tryz.sizeOf3
 v3:=Tryz.zeroValue3
 t4:=Tryz.underlying4
 a4:=Tryz.isAgg4
 z4:=Tryz.sizeOf4
 v4:=Tryz.zeroValue4
 t5:=Tryz.underlying5
 a5:=Tryz.isAgg5
 z5:=Tryz.sizeOf5
 v5:=Tryz.zeroValue5
 t9:=Tryz.underlying9
 a9:=Tryz.isAgg9
 z9:=Tryz.sizeOf9
 v9:=Tryz.zeroValue9
 t21:=Tryz.underlying21
 a21:=Tryz.isAgg21
 z21:=Tryz.sizeOf21
 v21:=Tryz.zeroValue21
 t46:=Tryz.underlying84
 a46:=Tryz.isAgg84
 z46:=Tryz.sizeOf84
 v46:=Tryz.zeroValue84
 t105:=Tryz.underlying213
 a105:=Tryz.isAgg213
 z105:=Tryz.sizeOf213
 v105:=Tryz.zeroValue213
 t116:=Tryz.underlying170
 a116:=Tryz.isAgg170
 z116:=Tryz.sizeOf170
 t117:=Tryz.underlying171
 a117:=Tryz.isAgg171
 z117:=Tryz.sizeOf171
 v117:=Tryz.zeroValue171
 t119:=Tryz.underlying243
 a119:=Tryz.isAgg243
 z119:=Tryz.sizeOf243
 t124:=Tryz.underlying174
 a124:=Tryz.isAgg174
 z124:=Tryz.sizeOf174
 v124:=Tryz.zeroValue174
 t138:=Tryz.underlying245
 a138:=Tryz.isAgg245
 z138:=Tryz.sizeOf245
 v138:=Tryz.zeroValue245
 t139:=Tryz.underlying246
 a139:=Tryz.isAgg246
 z139:=Tryz.sizeOf246
 v139:=Tryz.zeroValue246
 g3:=by kernel_rfl
 g4:=by kernel_rfl }
def Tryz.lays172_ren:Go.Shelf.Ren:=⟨fun | 172=>70 | 244=>99 | 245=>100 | 247=>127 | 279=>128 | 280=>129 | 281=>130 | 282=>131 | 287=>169 | 316=>170 | 171=>88 | 205=>171 | 321=>211 | 322=>212 | 243=>116 | 246=>147 | 283=>183 | 284=>184 | 285=>185 | 286=>186 | 129=>161 | 317=>215 | 318=>216 | 319=>217 | 320=>218 | 337=>231 | 338=>232 | n=>n,fun | 9=>9 | 3=>3 | 75=>96 | 76=>97 | 4=>4 | 5=>5 | 167=>137 | 37=>138 | 0=>0 | 85=>139 | 2=>2 | 168=>141 | 53=>167 | 175=>175 | 46=>84 | 210=>179 | 127=>217 | 145=>220 | 143=>218 | 21=>21 | 171=>189 | 173=>191 | 212=>225 | 51=>165 | 20=>20 | 213=>226 | 232=>249 | 233=>250 | 80=>200 | n=>n,fun | 15=>0 | 16=>1 | 17=>2 | 18=>5 | 19=>6 | n=>n⟩
theorem Tryz.lays172:Go.Proofs.Lays.n172 Tryz.prog Tryz.lays172_ren:={
 mixed:=by kernel_rfl
 f129:=Tryz.func161.trans (congrArg some (by kernel_rfl))
 f171:=Tryz.func88.trans (congrArg some (by kernel_rfl))
 f172:=Tryz.func70.trans (congrArg some (by kernel_rfl))
 f205:=Tryz.func171.trans (congrArg some (by kernel_rfl))
 f243:=Tryz.func116.trans (congrArg some (by kernel_rfl))
 f244:=Tryz.func99.trans (congrArg some (by kernel_rfl))
 f245:=Tryz.func100.trans (congrArg some (by kernel_rfl))
 f246:=Tryz.func147.trans (congrArg some (by kernel_rfl))
 f247:=Tryz.func127.trans (congrArg some (by kernel_rfl))
 f279:=Tryz.func128.trans (congrArg some (by kernel_rfl))
 f280:=Tryz.func129.trans (congrArg some (by kernel_rfl))
 f281:=Tryz.func130.trans (congrArg some (by kernel_rfl))
 f282:=Tryz.func131.trans (congrArg some (by kernel_rfl))
 f283:=Tryz.func183.trans (congrArg some (by kernel_rfl))
 f284:=Tryz.func184.trans (congrArg some (by kernel_rfl))
 f285:=Tryz.func185.trans (congrArg some (by kernel_rfl))
 f286:=Tryz.func186.trans (congrArg some (by kernel_rfl))
 f287:=Tryz.func169.trans (congrArg some (by kernel_rfl))
 f316:=Tryz.func170.trans (congrArg some (by kernel_rfl))
 f317:=Tryz.func215.trans (congrArg some (by kernel_rfl))
 f318:=Tryz.func216.trans (congrArg some (by kernel_rfl))
 f319:=Tryz.func217.trans (congrArg some (by kernel_rfl))
 f320:=Tryz.func218.trans (congrArg some (by kernel_rfl))
 f321:=Tryz.func211.trans (congrArg some (by kernel_rfl))
 f322:=Tryz.func212.trans (congrArg some (by kernel_rfl))
 f337:=Tryz.func231.trans (congrArg some (by kernel_rfl))
 f338:=Tryz.func232.trans (congrArg some (by kernel_rfl))
 t0:=Tryz.underlying0
 a0:=Tryz.isAgg0
 z0:=Tryz.sizeOf0
 v0:=Tryz.zeroValue0
 t2:=Tryz.underlying2
 a2:=Tryz.isAgg2
 z2:=Tryz.sizeOf2
 v2:=Tryz.zeroValue2
 t3:=Tryz.underlying3
 a3:=Tryz.isAgg3
 z3:=Tryz.sizeOf3
 v3:=Tryz.zeroValue3
 t4:=Tryz.underlying4
 a4:=Tryz.isAgg4
 z4:=Tryz.sizeOf4
 v4:=Tryz.zeroValue4
 t5:=Tryz.underlying5
 a5:=Tryz.isAgg5
 z5:=Tryz.sizeOf5
 v5:=Tryz.zeroValue5
 t9:=Tryz.underlying9
 a9:=Tryz.isAgg9
 z9:=Tryz.sizeOf9
 v9:=Tryz.zeroValue9
 t20:=Tryz.underlying20
 a20:=Tryz.isAgg20
 z20:=Tryz.sizeOf20
 v20:=Tryz.zeroValue20
 t21:=Tryz.underlying21
 a21:=Tryz.isAgg21
 z21:=Tryz.sizeOf21
 v21:=Tryz.zeroValue21
 t37:=Tryz.underlying138
 a37:=Tryz.isAgg138
 z37:=Tryz.sizeOf138
 v37:=Tryz.zeroValue138
 t46:=Tryz.underlying84
 a46:=Tryz.isAgg84
 z46:=Tryz.sizeOf84
 v46:=Tryz.zeroValue84
 t51:=Tryz.underlying165
 a51:=Tryz.isAgg165
 z51:=Tryz.sizeOf165
 v51:=Tryz.zeroValue165
 t53:=Tryz.underlying167
 a53:=Tryz.isAgg167
 z53:=Tryz.sizeOf167
 v53:=Tryz.zeroValue167
 t75:=Tryz.underlying96
 a75:=Tryz.isAgg96
 z75:=Tryz.sizeOf96
 v75:=Tryz.zeroValue96
 t76:=Tryz.underlying97
 a76:=Tryz.isAgg97
 z76:=Tryz.sizeOf97
 v76:=Tryz.zeroValue97
 t85:=Tryz.underlying139
 a85:=Tryz.isAgg139
 z85:=Tryz.sizeOf139
 v85:=Tryz.zeroValue139
 t127:=Tryz.underlying217
 a127:=Tryz.isAgg217
 z127:=Tryz.sizeOf217
 v127:=Tryz.zeroValue217
 t143:=Tryz.underlying218
 a143:=Tryz.isAgg218
 z143:=Tryz.sizeOf218
 v143:=Tryz.zeroValue218
 t145:=Tryz.underlying220
 a145:=Tryz.isAgg220
 z145:=Tryz.sizeOf220
 v145:=Tryz.zeroValue220
 t167:=Tryz.underlying137
 a167:=Tryz.isAgg137
 z167:=Tryz.sizeOf137
 v167:=Tryz.zeroValue137
 t168:=Tryz.underlying141
 a168:=Tryz.isAgg141
 z168:=Tryz.sizeOf141
 v168:=Tryz.zeroValue141
 t171:=Tryz.underlying189
 a171:=Tryz.isAgg189
 z171:=Tryz.sizeOf189
 v171:=Tryz.zeroValue189
 t173:=Tryz.underlying191
 a173:=Tryz.isAgg191
 z173:=Tryz.sizeOf191
 v173:=Tryz.zeroValue191
 t175:=Tryz.underlying175
 a175:=Tryz.isAgg175
 z175:=Tryz.sizeOf175
 v175:=Tryz.zeroValue175
 t210:=Tryz.underlying179
 a210:=Tryz.isAgg179
 z210:=Tryz.sizeOf179
 v210:=Tryz.zeroValue179
 t212:=Tryz.underlying225
 a212:=Tryz.isAgg225
 z212:=Tryz.sizeOf225
 v212:=Tryz.zeroValue225
 t213:=Tryz.underlying226
 a213:=Tryz.isAgg226
 z213:=Tryz.sizeOf226
 t232:=Tryz.underlying249
 a232:=Tryz.isAgg249
 z232:=Tryz.sizeOf249
 v232:=Tryz.zeroValue249
 t233:=Tryz.underlying250
 a233:=Tryz.isAgg250
 z233:=Tryz.sizeOf250
 v233:=Tryz.zeroValue250
 g15:=by kernel_rfl
 g16:=by kernel_rfl
 g17:=by kernel_rfl
 g18:=by kernel_rfl
 g19:=by kernel_rfl }
open Go.RowKit in
theorem Tryz.strconv_Atoi (s:ByteArray) (n:Int) (hl:s.size≤18) (h:Lib.atoi s.data.toList=some n) (w:World) :
  Calls Tryz.prog 70 #[.string s] w fun e w'=>e = .returned (.tuple #[.int .i64 n,.nilIface])∧∃t,w'=Lib.bytesWorld w 5 t:=Any.strconv_Atoi Tryz.lays172 s n hl h w
def Tryz.lays283_ren:Go.Shelf.Ren:=⟨fun | 283=>183 | n=>n,fun | 3=>3 | 9=>9 | 4=>4 | n=>n,fun | n=>n⟩
theorem Tryz.lays283:Go.Proofs.Lays.n283 Tryz.prog Tryz.lays283_ren:={
 mixed:=by kernel_rfl
 f283:=Tryz.func183.trans (congrArg some (by kernel_rfl))
 t3:=Tryz.underlying3
 a3:=Tryz.isAgg3
 z3:=Tryz.sizeOf3
 v3:=Tryz.zeroValue3
 t4:=Tryz.underlying4
 a4:=Tryz.isAgg4
 z4:=Tryz.sizeOf4
 v4:=Tryz.zeroValue4
 t9:=Tryz.underlying9
 a9:=Tryz.isAgg9
 z9:=Tryz.sizeOf9
 v9:=Tryz.zeroValue9 }
open Go.Lib in
theorem Tryz.internal_strconv_small (i:Nat) (h:i<100) (w:World) :
  Calls Tryz.prog 183 #[.int .i64 i] w fun e w'=>e = .returned (.string ⟨(Lib.decDigits i).toArray⟩)∧w'=w:=Any.internal_strconv_small Tryz.lays283 i h w
def Tryz.laysM284_ren:Go.Shelf.Ren:=⟨fun | 284=>184 | 129=>161 | 317=>215 | 318=>216 | n=>n,fun | 53=>167 | 3=>3 | 212=>225 | 0=>0 | 4=>4 | 46=>84 | 5=>5 | 9=>9 | n=>n,fun | 17=>2 | n=>n⟩
theorem Tryz.laysM284:Go.Proofs.LaysM.n284 Tryz.prog Tryz.laysM284_ren:={
 mixed:=by kernel_rfl
 f129:=Tryz.func161.trans (congrArg some (by kernel_rfl))
 f284:=Tryz.func184.trans (congrArg some (by kernel_rfl))
 f317:=Tryz.func215.trans (congrArg some (by kernel_rfl))
 f318:=Tryz.func216.trans (congrArg some (by kernel_rfl))
 t0:=Tryz.underlying0
 a0:=Tryz.isAgg0
 z0:=Tryz.sizeOf0
 v0:=Tryz.zeroValue0
 t3:=Tryz.underlying3
 a3:=Tryz.isAgg3
 z3:=Tryz.sizeOf3
 v3:=Tryz.zeroValue3
 t4:=Tryz.underlying4
 a4:=Tryz.isAgg4
 z4:=Tryz.sizeOf4
 v4:=Tryz.zeroValue4
 t5:=Tryz.underlying5
 a5:=Tryz.isAgg5
 z5:=Tryz.sizeOf5
 v5:=Tryz.zeroValue5
 t9:=Tryz.underlying9
 a9:=Tryz.isAgg9
 z9:=Tryz.sizeOf9
 v9:=Tryz.zeroValue9
 t46:=Tryz.underlying84
 a46:=Tryz.isAgg84
 z46:=Tryz.sizeOf84
 v46:=Tryz.zeroValue84
 t53:=Tryz.underlying167
 a53:=Tryz.isAgg167
 z53:=Tryz.sizeOf167
 v53:=Tryz.zeroValue167
 t212:=Tryz.underlying225
 a212:=Tryz.isAgg225
 z212:=Tryz.sizeOf225
 v212:=Tryz.zeroValue225
 g17:=by kernel_rfl
 i0:=by kernel_rfl
 i3:=by kernel_rfl
 i4:=by kernel_rfl
 i5:=by kernel_rfl
 i9:=by kernel_rfl
 i46:=by kernel_rfl
 i53:=by kernel_rfl
 i212:=by kernel_rfl
 m17:=by kernel_rfl }
open Go.Lib in
theorem Tryz.internal_strconv_numDigits (u:Nat) (h1:1≤u) (h2:u<18446744073709551616) (w:World) (htab:Lib.TabIs Tryz.prog w "internal/strconv.uint64pow10" .u64 Lib.pow10Tab) :
  Calls Tryz.prog 184 #[.int .u64 u] w fun e w'=>e = .returned (.int .i64 (Lib.nDigits u))∧w'=w:=Any.internal_strconv_numDigits Tryz.laysM284 u h1 h2 w htab
def Tryz.lays285_ren:Go.Shelf.Ren:=⟨fun | 285=>185 | n=>n,fun | 37=>138 | 53=>167 | 3=>3 | 4=>4 | 51=>165 | 9=>9 | 5=>5 | 0=>0 | n=>n,fun | n=>n⟩
theorem Tryz.lays285:Go.Proofs.Lays.n285 Tryz.prog Tryz.lays285_ren:={
 mixed:=by kernel_rfl
 f285:=Tryz.func185.trans (congrArg some (by kernel_rfl))
 t0:=Tryz.underlying0
 a0:=Tryz.isAgg0
 z0:=Tryz.sizeOf0
 v0:=Tryz.zeroValue0
 t3:=Tryz.underlying3
 a3:=Tryz.isAgg3
 z3:=Tryz.sizeOf3
 v3:=Tryz.zeroValue3
 t4:=Tryz.underlying4
 a4:=Tryz.isAgg4
 z4:=Tryz.sizeOf4
 v4:=Tryz.zeroValue4
 t5:=Tryz.underlying5
 a5:=Tryz.isAgg5
 z5:=Tryz.sizeOf5
 v5:=Tryz.zeroValue5
 t9:=Tryz.underlying9
 a9:=Tryz.isAgg9
 z9:=Tryz.sizeOf9
 v9:=Tryz.zeroValue9
 t37:=Tryz.underlying138
 a37:=Tryz.isAgg138
 z37:=Tryz.sizeOf138
 v37:=Tryz.zeroValue138
 t51:=Tryz.underlying165
 a51:=Tryz.isAgg165
 z51:=Tryz.sizeOf165
 v51:=Tryz.zeroValue165
 t53:=Tryz.underlying167
 a53:=Tryz.isAgg167
 z53:=Tryz.sizeOf167
 v53:=Tryz.zeroValue167 }
open Go.RowKit Go.Sort Go.Lib in
theorem Tryz.internal_strconv_formatBase10 (blk off cap:Nat) (u:Nat) (d:Array UInt8) (w:World) (hH:Holds (fun (b:UInt8)=>Value.int .u8 (b.toNat:Int)) w blk off d) (hu:u<10 ^ d.size) (hu64:u<18446744073709551616) (hsz:d.size<4611686018427387904) :
  Calls Tryz.prog 185 #[.slice (some ⟨blk,off,none⟩) d.size cap,.int .u64 u] w fun e w' =>
   e = .returned (.tuple #[])∧∃(n v':Nat) (dk:Array UInt8),w'=(putRow (fun (b:UInt8)=>Value.int .u8 (b.toNat:Int)) w blk off dk).drewN n∧FmtInv d.size u 0 v' dk:=Any.internal_strconv_formatBase10 Tryz.lays285 blk off cap u d w hH hu hu64 hsz
def Tryz.laysM171_ren:Go.Shelf.Ren:=⟨fun | 171=>88 | 243=>116 | 246=>147 | 283=>183 | 284=>184 | 285=>185 | 286=>186 | 129=>161 | 317=>215 | 318=>216 | 319=>217 | 320=>218 | 337=>231 | 338=>232 | n=>n,fun | 3=>3 | 9=>9 | 2=>2 | 4=>4 | 171=>189 | 0=>0 | 53=>167 | 37=>138 | 5=>5 | 173=>191 | 212=>225 | 51=>165 | 20=>20 | 213=>226 | 46=>84 | 232=>249 | 233=>250 | n=>n,fun | 17=>2 | 18=>5 | 19=>6 | n=>n⟩
theorem Tryz.laysM171:Go.Proofs.LaysM.n171 Tryz.prog Tryz.laysM171_ren:={
 mixed:=by kernel_rfl
 f129:=Tryz.func161.trans (congrArg some (by kernel_rfl))
 f171:=Tryz.func88.trans (congrArg some (by kernel_rfl))
 f243:=Tryz.func116.trans (congrArg some (by kernel_rfl))
 f246:=Tryz.func147.trans (congrArg some (by kernel_rfl))
 f283:=Tryz.func183.trans (congrArg some (by kernel_rfl))
 f284:=Tryz.func184.trans (congrArg some (by kernel_rfl))
 f285:=Tryz.func185.trans (congrArg some (by kernel_rfl))
 f286:=Tryz.func186.trans (congrArg some (by kernel_rfl))
 f317:=Tryz.func215.trans (congrArg some (by kernel_rfl))
 f318:=Tryz.func216.trans (congrArg some (by kernel_rfl))
 f319:=Tryz.func217.trans (congrArg some (by kernel_rfl))
 f320:=Tryz.func218.trans (congrArg some (by kernel_rfl))
 f337:=Tryz.func231.trans (congrArg some (by kernel_rfl))
 f338:=Tryz.func232.trans (congrArg some (by kernel_rfl))
 t0:=Tryz.underlying0
 a0:=Tryz.isAgg0
 z0:=Tryz.sizeOf0
 v0:=Tryz.zeroValue0
 t2:=Tryz.underlying2
 a2:=Tryz.isAgg2
 z2:=Tryz.sizeOf2
 v2:=Tryz.zeroValue2
 t3:=Tryz.underlying3
 a3:=Tryz.isAgg3
 z3:=Tryz.sizeOf3
 v3:=Tryz.zeroValue3
 t4:=Tryz.underlying4
 a4:=Tryz.isAgg4
 z4:=Tryz.sizeOf4
 v4:=Tryz.zeroValue4
 t5:=Tryz.underlying5
 a5:=Tryz.isAgg5
 z5:=Tryz.sizeOf5
 v5:=Tryz.zeroValue5
 t9:=Tryz.underlying9
 a9:=Tryz.isAgg9
 z9:=Tryz.sizeOf9
 v9:=Tryz.zeroValue9
 t20:=Tryz.underlying20
 a20:=Tryz.isAgg20
 z20:=Tryz.sizeOf20
 v20:=Tryz.zeroValue20
 t37:=Tryz.underlying138
 a37:=Tryz.isAgg138
 z37:=Tryz.sizeOf138
 v37:=Tryz.zeroValue138
 t46:=Tryz.underlying84
 a46:=Tryz.isAgg84
 z46:=Tryz.sizeOf84
 v46:=Tryz.zeroValue84
 t51:=Tryz.underlying165
 a51:=Tryz.isAgg165
 z51:=Tryz.sizeOf165
 v51:=Tryz.zeroValue165
 t53:=Tryz.underlying167
 a53:=Tryz.isAgg167
 z53:=Tryz.sizeOf167
 v53:=Tryz.zeroValue167
 t171:=Tryz.underlying189
 a171:=Tryz.isAgg189
 z171:=Tryz.sizeOf189
 v171:=Tryz.zeroValue189
 t173:=Tryz.underlying191
 a173:=Tryz.isAgg191
 z173:=Tryz.sizeOf191
 v173:=Tryz.zeroValue191
 t212:=Tryz.underlying225
 a212:=Tryz.isAgg225
 z212:=Tryz.sizeOf225
 v212:=Tryz.zeroValue225
 t213:=Tryz.underlying226
 a213:=Tryz.isAgg226
 z213:=Tryz.sizeOf226
 t232:=Tryz.underlying249
 a232:=Tryz.isAgg249
 z232:=Tryz.sizeOf249
 v232:=Tryz.zeroValue249
 t233:=Tryz.underlying250
 a233:=Tryz.isAgg250
 z233:=Tryz.sizeOf250
 v233:=Tryz.zeroValue250
 g17:=by kernel_rfl
 g18:=by kernel_rfl
 g19:=by kernel_rfl
 i0:=by kernel_rfl
 i2:=by kernel_rfl
 i3:=by kernel_rfl
 i4:=by kernel_rfl
 i5:=by kernel_rfl
 i9:=by kernel_rfl
 i20:=by kernel_rfl
 i37:=by kernel_rfl
 i46:=by kernel_rfl
 i51:=by kernel_rfl
 i53:=by kernel_rfl
 i171:=by kernel_rfl
 i173:=by kernel_rfl
 i212:=by kernel_rfl
 i232:=by kernel_rfl
 i233:=by kernel_rfl
 m17:=by kernel_rfl
 m18:=by kernel_rfl
 m19:=by kernel_rfl }
open Go.RowKit Go.Sort Go.Lib in
theorem Tryz.strconv_Itoa (n:Int) (h0 : -9223372036854775808≤n) (h1:n≤9223372036854775807) (w:World) (htab:Lib.TabIs Tryz.prog w "internal/strconv.uint64pow10" .u64 Lib.pow10Tab) :
  Calls Tryz.prog 88 #[.int .i64 n] w fun e w'=>e = .returned (.string ⟨(Lib.itoa n).toArray⟩)∧∃k os,w'=grow (w.drewN k) os:=Any.strconv_Itoa Tryz.laysM171 n h0 h1 w htab
def Tryz.lays287_ren:Go.Shelf.Ren:=⟨fun | 287=>169 | 321=>211 | 322=>212 | n=>n,fun | 9=>9 | 3=>3 | 53=>167 | 75=>96 | 4=>4 | 167=>137 | 5=>5 | 46=>84 | 37=>138 | 0=>0 | 21=>21 | 80=>200 | n=>n,fun | n=>n⟩
theorem Tryz.lays287:Go.Proofs.Lays.n287 Tryz.prog Tryz.lays287_ren:={
 mixed:=by kernel_rfl
 f287:=Tryz.func169.trans (congrArg some (by kernel_rfl))
 f321:=Tryz.func211.trans (congrArg some (by kernel_rfl))
 f322:=Tryz.func212.trans (congrArg some (by kernel_rfl))
 t0:=Tryz.underlying0
 a0:=Tryz.isAgg0
 z0:=Tryz.sizeOf0
 v0:=Tryz.zeroValue0
 t3:=Tryz.underlying3
 a3:=Tryz.isAgg3
 z3:=Tryz.sizeOf3
 v3:=Tryz.zeroValue3
 t4:=Tryz.underlying4
 a4:=Tryz.isAgg4
 z4:=Tryz.sizeOf4
 v4:=Tryz.zeroValue4
 t5:=Tryz.underlying5
 a5:=Tryz.isAgg5
 z5:=Tryz.sizeOf5
 v5:=Tryz.zeroValue5
 t9:=Tryz.underlying9
 a9:=Tryz.isAgg9
 z9:=Tryz.sizeOf9
 v9:=Tryz.zeroValue9
 t21:=Tryz.underlying21
 a21:=Tryz.isAgg21
 z21:=Tryz.sizeOf21
 v21:=Tryz.zeroValue21
 t37:=Tryz.underlying138
 a37:=Tryz.isAgg138
 z37:=Tryz.sizeOf138
 v37:=Tryz.zeroValue138
 t46:=Tryz.underlying84
 a46:=Tryz.isAgg84
 z46:=Tryz.sizeOf84
 v46:=Tryz.zeroValue84
 t53:=Tryz.underlying167
 a53:=Tryz.isAgg167
 z53:=Tryz.sizeOf167
 v53:=Tryz.zeroValue167
 t75:=Tryz.underlying96
 a75:=Tryz.isAgg96
 z75:=Tryz.sizeOf96
 v75:=Tryz.zeroValue96
 t167:=Tryz.underlying137
 a167:=Tryz.isAgg137
 z167:=Tryz.sizeOf137
 v167:=Tryz.zeroValue137 }
open Go.RowKit in
def Tryz.lays101_ren:Go.Shelf.Ren:=⟨fun | 101=>87 | 208=>115 | 206=>146 | n=>n,fun | 9=>9 | 4=>4 | 3=>3 | n=>n,fun | n=>n⟩
theorem Tryz.lays101:Go.Proofs.Lays.n101 Tryz.prog Tryz.lays101_ren:={
 mixed:=by kernel_rfl
 f101:=Tryz.func87.trans (congrArg some (by kernel_rfl))
 f206:=Tryz.func146.trans (congrArg some (by kernel_rfl))
 f208:=Tryz.func115.trans (congrArg some (by kernel_rfl))
 t3:=Tryz.underlying3
 a3:=Tryz.isAgg3
 z3:=Tryz.sizeOf3
 v3:=Tryz.zeroValue3
 t4:=Tryz.underlying4
 a4:=Tryz.isAgg4
 z4:=Tryz.sizeOf4
 v4:=Tryz.zeroValue4
 t9:=Tryz.underlying9
 a9:=Tryz.isAgg9
 z9:=Tryz.sizeOf9
 v9:=Tryz.zeroValue9 }
open Go.RowKit Go.Lib in
theorem Tryz.strings_TrimPrefix (s p:ByteArray) (w:World) :
  Calls Tryz.prog 87 #[.string s,.string p] w fun e w'=>e = .returned (.string ⟨(Lib.trimPrefix s.data.toList p.data.toList).toArray⟩)∧w'=w:=Any.strings_TrimPrefix Tryz.lays101 s p w
def Tryz.lays105_ren:Go.Shelf.Ren:=⟨fun | 105=>191 | 212=>221 | 99=>222 | 165=>223 | 166=>190 | 170=>192 | 169=>193 | 263=>234 | 264=>235 | 206=>146 | 240=>220 | 241=>236 | 276=>233 | 277=>242 | n=>n,fun | 9=>9 | 3=>3 | 4=>4 | 20=>20 | 0=>0 | 46=>84 | 109=>227 | 5=>5 | 72=>196 | 76=>97 | 51=>165 | 146=>238 | 53=>167 | 148=>240 | 70=>194 | 37=>138 | 75=>96 | 127=>217 | 164=>236 | 80=>200 | n=>n,fun | n=>n⟩
theorem Tryz.lays105:Go.Proofs.Lays.n105 Tryz.prog Tryz.lays105_ren:={
 mixed:=by kernel_rfl
 f99:=Tryz.func222.trans (congrArg some (by kernel_rfl))
 f105:=Tryz.func191.trans (congrArg some (by kernel_rfl))
 f165:=Tryz.func223.trans (congrArg some (by kernel_rfl))
 f166:=Tryz.func190.trans (congrArg some (by kernel_rfl))
 f169:=Tryz.func193.trans (congrArg some (by kernel_rfl))
 f170:=Tryz.func192.trans (congrArg some (by kernel_rfl))
 f206:=Tryz.func146.trans (congrArg some (by kernel_rfl))
 f212:=Tryz.func221.trans (congrArg some (by kernel_rfl))
 f240:=Tryz.func220.trans (congrArg some (by kernel_rfl))
 f241:=Tryz.func236.trans (congrArg some (by kernel_rfl))
 f263:=Tryz.func234.trans (congrArg some (by kernel_rfl))
 f264:=Tryz.func235.trans (congrArg some (by kernel_rfl))
 f276:=Tryz.func233.trans (congrArg some (by kernel_rfl))
 f277:=Tryz.func242.trans (congrArg some (by kernel_rfl))
 t0:=Tryz.underlying0
 a0:=Tryz.isAgg0
 z0:=Tryz.sizeOf0
 v0:=Tryz.zeroValue0
 t3:=Tryz.underlying3
 a3:=Tryz.isAgg3
 z3:=Tryz.sizeOf3
 v3:=Tryz.zeroValue3
 t4:=Tryz.underlying4
 a4:=Tryz.isAgg4
 z4:=Tryz.sizeOf4
 v4:=Tryz.zeroValue4
 t5:=Tryz.underlying5
 a5:=Tryz.isAgg5
 z5:=Tryz.sizeOf5
 v5:=Tryz.zeroValue5
 t9:=Tryz.underlying9
 a9:=Tryz.isAgg9
 z9:=Tryz.sizeOf9
 v9:=Tryz.zeroValue9
 t20:=Tryz.underlying20
 a20:=Tryz.isAgg20
 z20:=Tryz.sizeOf20
 v20:=Tryz.zeroValue20
 t37:=Tryz.underlying138
 a37:=Tryz.isAgg138
 z37:=Tryz.sizeOf138
 v37:=Tryz.zeroValue138
 t46:=Tryz.underlying84
 a46:=Tryz.isAgg84
 z46:=Tryz.sizeOf84
 v46:=Tryz.zeroValue84
 t51:=Tryz.underlying165
 a51:=Tryz.isAgg165
 z51:=Tryz.sizeOf165
 v51:=Tryz.zeroValue165
 t53:=Tryz.underlying167
 a53:=Tryz.isAgg167
 z53:=Tryz.sizeOf167
 v53:=Tryz.zeroValue167
 t70:=Tryz.underlying194
 a70:=Tryz.isAgg194
 z70:=Tryz.sizeOf194
 v70:=Tryz.zeroValue194
 t72:=Tryz.underlying196
 a72:=Tryz.isAgg196
 z72:=Tryz.sizeOf196
 v72:=Tryz.zeroValue196
 t75:=Tryz.underlying96
 a75:=Tryz.isAgg96
 z75:=Tryz.sizeOf96
 v75:=Tryz.zeroValue96
 t76:=Tryz.underlying97
 a76:=Tryz.isAgg97
 z76:=Tryz.sizeOf97
 v76:=Tryz.zeroValue97
 t109:=Tryz.underlying227
 a109:=Tryz.isAgg227
 z109:=Tryz.sizeOf227
 v109:=Tryz.zeroValue227
 t127:=Tryz.underlying217
 a127:=Tryz.isAgg217
 z127:=Tryz.sizeOf217
 v127:=Tryz.zeroValue217
 t146:=Tryz.underlying238
 a146:=Tryz.isAgg238
 z146:=Tryz.sizeOf238
 v146:=Tryz.zeroValue238
 t148:=Tryz.underlying240
 a148:=Tryz.isAgg240
 z148:=Tryz.sizeOf240
 v148:=Tryz.zeroValue240
 t164:=Tryz.underlying236
 a164:=Tryz.isAgg236
 z164:=Tryz.sizeOf236
 v164:=Tryz.zeroValue236 }
theorem Tryz.Builder_Extra_105:Builder.Extra Tryz.prog Tryz.lays105_ren:={
 sizeBuilder:=by kernel_rfl
 liesBuilder:=by kernel_rfl
 t5:=Tryz.underlying5
 a5:=Tryz.isAgg5
 z5:=Tryz.sizeOf5
 v5:=Tryz.zeroValue5
 infoByte:=by kernel_rfl
 cellsByte:=by kernel_rfl
 sizeByte:=by kernel_rfl
 neB5:=by decide }
open Go.RowKit Go.Lib in
theorem Tryz.strings_Repeat (s:ByteArray) (c:Nat) (w:World) (hc:c≤9223372036854775807) (hlen:s.size * c≤140737488355328) :
  Calls Tryz.prog 191 #[.string s,.int .i64 c] w fun e w'=>e = .returned (.string ⟨(Lib.repeatL s.data.toList c).toArray⟩)∧Below w.heap.size w w':=Any.strings_Repeat Tryz.lays105 Tryz.Builder_Extra_105 s c w hc hlen
end Go.Proofs
namespace Go.Proofs.YtdekcppfpgeneaaGreatDoor
open Go Go.RowKit
def dt (w:World):Prop :=
 Lib.TabIs Tryz.prog w "internal/strconv.uint64pow10" .u64 Lib.pow10Tab∧w.cell? ⟨6,15,none⟩=some (.int .u8 4)∧6<w.heap.size
theorem dt.stays {w w':World} {B:Nat} (h:dt w) (hb:Below B w w') (hB:w.heap.size≤B):dt w':=by
 obtain ⟨h1,h2,h3⟩:=h
 refine ⟨Joins.tab_stays (g:=2) (by kernel_rfl) h1 hb hB,?_,?_⟩
 ·rw [hb.cell (by show 6<B;omega)];exact h2
 ·exact Nat.lt_of_lt_of_le h3 hb.size
theorem dt.on {w w':World} (h:dt w) (hb:Below w.heap.size w w'):dt w':=h.stays hb (Nat.le_refl _)
end Go.Proofs.YtdekcppfpgeneaaGreatDoor
namespace Go.Proofs.YtdekcppfpgeneaaGreatDoor
open Go Go.RowKit
end Go.Proofs.YtdekcppfpgeneaaGreatDoor
namespace Go.Proofs.YtdekcppfpgeneaaGreatDoor
open Go Go.RowKit
end Go.Proofs.YtdekcppfpgeneaaGreatDoor
namespace Go.Proofs.YtdekcppfpgeneaaGreatDoor
open Go Go.RowKit
end Go.Proofs.YtdekcppfpgeneaaGreatDoor
namespace Go.Proofs.YtdekcppfpgeneaaGreatDoor
open Go Go.RowKit
end Go.Proofs.YtdekcppfpgeneaaGreatDoor
namespace Go.Proofs.YtdekcppfpgeneaaGreatDoor
open Go Go.RowKit
end Go.Proofs.YtdekcppfpgeneaaGreatDoor
namespace Go.Proofs.YtdekcppfpgeneaaGreatDoor
open Go Go.RowKit
def bS (l:List UInt8):ByteArray:=⟨l.toArray⟩
theorem Br (l:List UInt8):(bS l).size=l.length:=by rw [Lib.size_eq];simp [bS]
theorem vp (l:List UInt8):(bS l).data.toList=l:=by simp [bS]
theorem A1 (t:ByteArray):bS t.data.toList=t:=by apply ByteArray.ext;simp [bS]
theorem fJ (p:UInt8→Bool):∀l:List UInt8,l.dropWhile p=[]↔∀x∈l,p x=true
 | []=>by simp
 | a::l=>by
  rw [List.dropWhile_cons]
  by_cases ha:p a=true
  ·rw [if_pos ha,fJ p l];simp [ha]
  ·rw [if_neg ha]
   constructor
   ·intro h;cases h
   ·intro h;exact absurd (h a (List.mem_cons_self ..)) ha
theorem gU (p:UInt8→Bool):∀{l:List UInt8} {a:UInt8} {r:List UInt8},l.dropWhile p=a::r→p a=false
 | [],_,_,h=>by cases h
 | x::l,a,r,h=>by
  rw [List.dropWhile_cons] at h
  by_cases hx:p x=true
  ·rw [if_pos hx] at h;exact gU p h
  ·rw [if_neg hx] at h
   injection h with h1 _
   subst h1
   simpa using hx
theorem xx (l cs:List UInt8):(Lib.trimS l cs=[])↔∀x∈l,cs.contains x=true:=by
 unfold Lib.trimS Lib.trimLeftS Lib.trimRightS
 rw [fJ]
 constructor
 ·intro h x hx
  cases hr:l.reverse.dropWhile (cs.contains ·) with
  | nil =>
   rw [fJ] at hr
   exact hr x (List.mem_reverse.2 hx)
  | cons a r =>
   exfalso
   have ha:cs.contains a=false:=gU _ hr
   have:=h a (by rw [hr];simp)
   rw [ha] at this
   cases this
 ·intro h x hx
  have h1:=List.mem_reverse.1 hx
  exact h x (List.mem_reverse.1 ((List.dropWhile_sublist _).subset h1))
end Go.Proofs.YtdekcppfpgeneaaGreatDoor
namespace Go.Proofs.YtdekcppfpgeneaaGreatDoor
open Go Go.RowKit
def lI (n:Nat):ByteArray:=⟨(Lib.decDigits n).toArray⟩
end Go.Proofs.YtdekcppfpgeneaaGreatDoor
namespace Go.Proofs.YtdekcppfpgeneaaGreatDoor
open Go Go.RowKit
end Go.Proofs.YtdekcppfpgeneaaGreatDoor
namespace Go.Proofs.YtdekcppfpgeneaaGreatDoor
open Go Go.RowKit
def oz (d:Nat):UInt8:=UInt8.ofNat (48+d)
theorem rk (d:Nat) (h:d<10) (W:World) :
  (Instr.slice 9 (.string { data := #[48,49,50,51,52,53,54,55,56,57] }) (some (.int .u64 (d:Int))) (some (.int .u64 ((d:Int)+1))) none).run Tryz.prog W = .ok (.string (bS [oz d])) W:=by
 have hs:(({ data := #[48,49,50,51,52,53,54,55,56,57] }:ByteArray).size:Int)=10:=rfl
 rw [run_slice_string W 9 _ _ _ _ _ Tryz.underlying9 (by omega) (by omega) (by rw [hs];omega)]
 have:∀m:Fin 10,({ data := #[48,49,50,51,52,53,54,55,56,57] }:ByteArray).extract m.val (m.val+1)=bS [oz m.val]:=by decide +kernel
 have h1:=this ⟨d,h⟩
 rw [←h1]
 rfl
def hd (v:Nat):List UInt8:=if v=0 then [] else Lib.decDigits v
theorem u7 (v:Nat) (h:v≠0):hd v=hd (v / 10)++[oz (v % 10)]:=by
 unfold hd
 rw [if_neg h]
 conv=>lhs;rw [Lib.decDigits]
 split
 ·rw [if_pos (by omega),List.nil_append,Nat.mod_eq_of_lt (by assumption)];rfl
 ·rw [if_neg (by omega)];rfl
theorem zI (v:Nat):Lib.decDigits v=hd (v / 10)++[oz (v % 10)]:=by
 by_cases h:v=0
 ·subst h;rw [Lib.decDigits];rfl
 ·have:=u7 v h
  unfold hd at this ⊢
  rwa [if_neg h] at this
theorem rS (n:Nat) (h:n≤9223372036854775807):(lI n).size≤21:=by
 rw [Lib.size_eq]
 have:=Lib.itoa_length_le (n:Int) (by omega) (by omega)
 rw [Lib.itoa_nonneg] at this
 simpa [lI] using this
set_option maxHeartbeats 1000000 in
theorem qq (n:Nat) (hn:n≤9223372036854775807) (w:World) :
  Calls Tryz.prog 175 #[.int .u64 n] w fun e w'=>e = .returned (.string (lI n))∧w'=w:=by
 have hle:=rS n hn
 obtain ⟨d,hd0⟩:∃d:Nat,d=n % 10:=⟨_,rfl⟩
 have hdi:(n:Int) % 10=(d:Int):=by omega
 have hsl:=rk d (by omega)
 have H0:Hid (Lib.decDigits n=hd (n / 10)++(bS [oz d]).data.toList):=by rw [vp,hd0];exact zI n
 have HL:=Lib.hid hle
 clear hd0 hle
 generalize bS [oz d]=s0 at *
 go_enter Tryz.func175,Tryz.ntmps175
 go_wp2_with fail
 clear hsl hdi
 go_loop [0,3] (fun vn vs=>∃(v:Nat) (s:ByteArray),vn = .int .u64 (v:Int)∧vs = .string s∧v≤9223372036854775807∧Hid (Lib.decDigits n=hd v++s.data.toList)) (fun vn _=>(RowKit.intOf vn).toNat)
 case atStart=>exact ⟨n / 10,s0,rfl,rfl,by omega,H0⟩
 case round =>
  obtain ⟨v,s,rfl,rfl,hv,HI⟩:=hrel
  clear H0
  have hsz:s.size≤21:=by
   have h1:=HL.out
   have h2:=congrArg List.length HI.out
   rw [Lib.size_eq] at h1
   simp only [lI,List.length_append,←Lib.size_eq] at h1 h2
   omega
  by_cases h0:0<v
  ·obtain ⟨c,hc0⟩:∃c:Nat,c=v % 10:=⟨_,rfl⟩
   have hci:(v:Int) % 10=(c:Int):=by omega
   have hsl:=rk c (by omega)
   have hs1:(bS [oz c]).size=1:=by rw [Br];rfl
   have hnb:¬9223372036854775807<(bS [oz c]).size+s.size:=by omega
   have HI2:Hid (Lib.decDigits n=hd (v / 10)++(bS [oz c]++s).data.toList):=by
    have:=HI.out
    rw [u7 v (by omega),←hc0,List.append_assoc] at this
    rw [this,ByteArray.data_append,Array.toList_append,vp]
    exact Lib.hid rfl
   clear hc0 HI hs1
   generalize bS [oz c]=s1 at *
   go_wp2
   go_round
   case rel=>exact ⟨v / 10,s1++s,rfl,rfl,by omega,HI2⟩
   case measure=>simp only [RowKit.intOf];omega
  ·have e:v=0:=by omega
   subst e
   have HF:Hid (s=lI n):=by
    have:=HI.out
    simp only [hd] at this
    rw [lI,this]
    exact (A1 s).symm
   go_wp2
   go_ret
   exact ⟨by rw [←HF.out];rfl,rfl⟩
theorem oy (n:Nat) (hn:n≤9223372036854775807) (w:World) :
  Calls Tryz.prog 135 #[.int .i64 n] w fun e w'=>e = .returned (.string (lI n))∧w'=w:=by
 go_enter Tryz.func135,Tryz.ntmps135
 go_wp2_with fail
 refine (qq n hn w).mono ?_
 rintro e w1 ⟨rfl,rfl⟩
 go_wp2
 go_ret
 exact ⟨rfl,rfl⟩
end Go.Proofs.YtdekcppfpgeneaaGreatDoor
namespace Go.Proofs.YtdekcppfpgeneaaGreatDoor
open Go Go.RowKit
namespace Av
theorem C2 {vs:Array Value} {a:Value} (h:vs.toList=[a]):vs = #[a]:=Array.toList_inj.1 h
theorem gQ {s:St} {r:List AV} {x:Value} {vs:List Value} (h:ax s (.d (.v x)::r) vs):∃t,vs=x::t∧ax s r t:=by
 simp only [ax,Rep,aQ] at h
 obtain ⟨_,t,rfl,⟨rfl,h1⟩,h2⟩:=h
 exact ⟨t,rfl,h2⟩
theorem iI {s:St} {vs:List Value} (h:ax s [] vs):vs=[]:=by simpa only [ax] using h
theorem Cn {s:St} {x:Value} {vs:Array Value} (h:ax s [.d (.v x)] vs.toList):vs = #[x]:=by
 obtain ⟨t,e,h⟩:=gQ h
 rw [iI h] at e
 exact C2 e
theorem vv {s:St} {x y:Value} {vs:Array Value} (h:ax s [.d (.v x),.d (.v y)] vs.toList):vs = #[x,y]:=by
 obtain ⟨t,e,h⟩:=gQ h
 obtain ⟨t2,e2,h⟩:=gQ h
 rw [e2,iI h] at e
 exact Array.toList_inj.1 e
theorem Ek {s:St} {x y z:Value} {vs:Array Value} (h:ax s [.d (.v x),.d (.v y),.d (.v z)] vs.toList):vs = #[x,y,z]:=by
 obtain ⟨t,e,h⟩:=gQ h
 obtain ⟨t2,e2,h⟩:=gQ h
 obtain ⟨t3,e3,h⟩:=gQ h
 rw [e3,iI h] at e2
 rw [e2] at e
 exact Array.toList_inj.1 e
theorem dN {P:Program} {base:World} {f:FuncId} {args:List AV} {x:Value} (hcall:∀(vs:Array Value) (w:World),(callFunc f vs).run P w = .ok (.enter f vs) w) (hx:small x)
  (h:∀(s:St) (vs:Array Value),Sim base s→ax s args vs.toList→Calls P f vs s.w fun e w'=>e = .returned x∧Below s.w.heap.size s.w w'):aI P base f args (.d (.v x)) :=
 oo hcall fun s vs hs ha=>(h s vs hs ha).mono fun e w' ⟨h1,h2⟩=>⟨x,h1,h2,by simp only [aQ];exact ⟨trivial,hx⟩⟩
theorem lD {P:Program} {base:World} {f:FuncId} {args:List AV} {r:AV} (hcall:∀(vs:Array Value) (w:World),(callFunc f vs).run P w = .ok (.enter f vs) w)
  (h:∀(s:St) (vs:Array Value),Sim base s→ax s args vs.toList→Calls P f vs s.w fun e w'=>∃v,e = .returned v∧Below s.w.heap.size s.w w'∧∀s':St,s'.w=w'→(∀b,b<w'.heap.size→s.w.heap.size≤b→s'.imm b)→Rep s' r v):aI P base f args r:=fun H =>
 ⟨hcall,fun μ w vs hs ha=>(h ⟨μ,H,w⟩ vs hs ha).mono fun e w' ⟨v,h1,h2,h3⟩=>by
  have hs':=hs.below' (s:=⟨μ,H,w⟩) h2
  refine ⟨v,r,H,μ,h1,⟨rfl,rfl⟩,Nat.le_refl _,hs'.1,?_,hs'.2⟩
  refine h3 ⟨μ,H,w'⟩ rfl fun b hb hge=>⟨hb,fun hl => ?_⟩
  have hlt:=(hs.live_ge (s:=⟨μ,H,w⟩) hl).2
  have hge':w.heap.size≤b:=hge
  have hlt':b<w.heap.size:=hlt
  omega⟩
theorem xH {base:World} {s:St} (hs:Sim base s) (hT:dt base):dt s.w:=hT.on hs.below
def aD (n:Nat):ByteArray:=⟨(Lib.decDigits n).toArray⟩
theorem aX (n:Nat):(aD n).size=(Lib.decDigits n).length:=by rw [Lib.size_eq];simp [aD]
theorem dx (n:Nat):(aD n).data.toList=Lib.decDigits n:=by simp [aD]
theorem zN {n:Nat} (h:n<1000000000):0<(aD n).size∧(aD n).size≤9:=by
 rw [aX]
 exact ⟨Nt.dec_pos n,Nt.dec_9 h⟩
theorem rW (w:World) (T:TypeId) (nd:Nat) (hs:nd≤24):Sort.Holds (fun (b:UInt8)=>Value.int .u8 (b.toNat:Int)) (w.alloc (.cells Lib.zeros24 T)) w.heap.size 0 (Array.replicate nd (0:UInt8)):=fun j hj=>by
 have hj':j<nd:=by simpa using hj
 refine ⟨?_,World.frozen?_alloc_new _ _ _ _⟩
 rw [World.cell?_alloc_new,Lib.zeros24_at _ (by omega),getElem!_pos _ j hj]
 simp
theorem zk (w:World) (o:Obj) (dk:Array UInt8) (k:Nat):∃os,(Sort.putRow (fun (b:UInt8)=>Value.int .u8 (b.toNat:Int)) (w.alloc o) w.heap.size 0 dk).drewN k=Sort.grow (w.drewN k) os:=by
 rw [Sort.alloc_eq_grow]
 obtain ⟨os',_,e⟩:=Sort.putRow_grow_new (fun (b:UInt8)=>Value.int .u8 (b.toNat:Int)) w #[o] w.heap.size 0 dk (Nat.le_refl _)
 exact ⟨os',by rw [e];rfl⟩
set_option maxHeartbeats 4000000 in
set_option maxRecDepth 100000 in
theorem tP (u:Nat) (hu64:u<18446744073709551616) (w:World) (htab:dt w):Calls Tryz.prog 219 #[.int .u64 u,.int .i64 10] w fun e w'=>e = .returned (.string (aD u))∧Below w.heap.size w w':=by
 by_cases hs:u<100
 ·go_enter Tryz.func219,Tryz.ntmps219
  have hw:IntKind.i64.wrap (u:Int)=(u:Int):=by rw [IntKind.wrap_i64];omega
  go_wp2_with fail
  refine (Tryz.internal_strconv_small u hs _).mono ?_
  rintro e w1 ⟨rfl,rfl⟩
  go_wp2
  go_ret
  exact ⟨rfl,Below.refl _ _⟩
 ·have hu1:1≤u:=by omega
  have hnd20:Lib.nDigits u≤20:=by have:=Lib.numDigits_eq u hu1 hu64;split at this<;>omega
  have hal:Tryz.prog.arrayLen 189=24:=by kernel_rfl
  have hsl1:∀W,(Instr.sliceAt 189 (.pointer (some ⟨w.heap.size,0,none⟩)) none (some (.int .i64 (Lib.nDigits u:Int))) none).run Tryz.prog W = .ok (.slice (some ⟨w.heap.size,0,none⟩) (Lib.nDigits u) 24) W:=fun W=>by
   have hel:Tryz.prog.elem 189=5:=by kernel_rfl
   rw [run_sliceAt_array_h W 189 ⟨w.heap.size,0,none⟩ (by kernel_rfl) .i64 (Lib.nDigits u:Int) (by omega) (by rw [hal];omega),hal,hel,Tryz.sizeOf5]
   simp [slicedAt,Lib.add_plain,Result.andThen]
  have hH0:=rW w 189 (Lib.nDigits u) (by omega)
  have hfmt:=Tryz.internal_strconv_formatBase10 w.heap.size 0 24 u (Array.replicate (Lib.nDigits u) 0) (w.alloc (.cells Lib.zeros24 189)) hH0 (by rw [Array.size_replicate];exact Lib.lt_pow_nDigits u) hu64 (by rw [Array.size_replicate];omega)
  rw [Array.size_replicate] at hfmt
  have HH0:=Lib.hid hH0
  clear hH0 hal
  go_enter Tryz.func219,Tryz.ntmps219
  go_wp2_with fail
  refine (Tryz.internal_strconv_numDigits u hu1 hu64 _ (Lib.tabIs_alloc htab.1 _)).mono ?_
  rintro e w' ⟨rfl,rfl⟩
  go_wp2_with fail
  refine hfmt.mono ?_
  rintro e w' ⟨rfl,k,v',dk,rfl,hF⟩
  have hcv:(convert 138 9 (.slice (some ⟨w.heap.size,0,none⟩) (Lib.nDigits u) 24)).run Tryz.prog ((Sort.putRow (fun (b:UInt8)=>Value.int .u8 (b.toNat:Int)) (w.alloc (.cells Lib.zeros24 189)) w.heap.size 0 dk).drewN k) = .ok (.string ⟨(Lib.decDigits u).toArray⟩) ((Sort.putRow (fun (b:UInt8)=>Value.int .u8 (b.toNat:Int)) (w.alloc (.cells Lib.zeros24 189)) w.heap.size 0 dk).drewN k):=by
   have h:=run_convert_bytes_back (P:=Tryz.prog) ((Sort.putRow (fun (b:UInt8)=>Value.int .u8 (b.toNat:Int)) (w.alloc (.cells Lib.zeros24 189)) w.heap.size 0 dk).drewN k) 138 9 5 ⟨w.heap.size,0,none⟩ 24 (Lib.decDigits u) (by kernel_rfl) (by kernel_rfl) (by kernel_rfl) (fun j hj=>by
    rw [Lib.row_is_numeral hF j hj,Lib.add_plain,World.cell?_drewN]
    exact Sort.cell?_putRow (fun (b:UInt8)=>Value.int .u8 (b.toNat:Int)) _ w.heap.size 0 _ dk HH0.out (by rw [hF.size,Array.size_replicate]) j (by rw [hF.size];rw [Lib.decDigits_length] at hj;exact hj))
   rw [Lib.decDigits_length] at h
   exact h
  go_wp2
  go_ret
  obtain ⟨os,eo⟩:=zk w (.cells Lib.zeros24 189) dk k
  exact ⟨rfl,by rw [eo];exact Lib.below_grow _ _ (Nat.le_refl _) _ _⟩
theorem wR (u:Nat) (hu64:u<18446744073709551616) (w:World) (htab:dt w):Calls Tryz.prog 189 #[.int .u64 u,.int .i64 10] w fun e w'=>e = .returned (.string (aD u))∧Below w.heap.size w w':=by
 go_enter Tryz.func189,Tryz.ntmps189
 go_wp2_with fail
 refine (tP u hu64 w htab).mono ?_
 rintro e w1 ⟨rfl,hb⟩
 go_wp2
 go_ret
 exact ⟨rfl,hb⟩
theorem Ea {base:World} (hT:dt base) (u:Nat) (hu:u<1000000000):aI Tryz.prog base 189 [.d (.v (.int .u64 (u:Int))),.d (.v (.int .i64 10))] (.d (.v (.string (aD u)))) :=
 dN Tryz.call189 (by have:=(zN hu).2;show _≤_;omega) fun s vs hs ha=>by
  rw [vv ha]
  exact wR u (by omega) s.w (xH hs hT)
theorem DE {base:World} (x:ByteArray) (c:Nat) (hc:c≤1000) (hx:x.size≤1000):aI Tryz.prog base 191 [.d (.v (.string x)),.d (.v (.int .i64 (c:Int)))] (.d (.v (.string ⟨(Lib.repeatL x.data.toList c).toArray⟩))) :=
 dN Tryz.call191 (by
  show ByteArray.size _≤_
  rw [Lib.size_eq]
  simp only [Lib.repeatL_length]
  have:c * x.data.toList.length≤1000 * 1000:=Nat.mul_le_mul hc (by rw [←Lib.size_eq];exact hx)
  omega) fun s vs hs ha=>by
  rw [vv ha]
  exact Tryz.strings_Repeat x c s.w (by omega) (Nat.le_trans (Nat.mul_le_mul hx hc) (by decide))
end Av
end Go.Proofs.YtdekcppfpgeneaaGreatDoor
namespace Go.Proofs.YtdekcppfpgeneaaGreatDoor
open Go Go.RowKit
namespace Av
theorem kv {a b:ByteArray} (h:¬a=b):¬a.toList=b.toList:=fun e=>by
 rw [ByteArray.toList_eq,ByteArray.toList_eq] at e
 exact h (ByteArray.ext (Array.toList_inj.1 e))
theorem ny {xs:List Value} (h:bT [.int .i64,.int .i64] xs=true):∃a n,xs=[.int .i64 a,.int .i64 n]:=by
 match xs,h with
 | [],h=>simp [bT] at h
 | [x],h=>simp [bT] at h
 | x::y::z::r,h=>simp [bT] at h
 | [x,y],h =>
  simp only [bT,Bool.and_eq_true,Bool.and_true] at h
  cases x<;>simp [eH] at h
  cases y<;>simp [eH] at h
  obtain ⟨rfl,rfl⟩:=h
  exact ⟨_,_,rfl⟩
theorem kO {xs:List Value} (h:bT [.bool,.str,.str] xs=true):∃a b c,xs=[.bool a,.string b,.string c]:=by
 match xs,h with
 | [],h=>simp [bT] at h
 | [x],h=>simp [bT] at h
 | [x,y],h=>simp [bT] at h
 | x::y::z::u::r,h=>simp [bT] at h
 | [x,y,z],h =>
  simp only [bT,Bool.and_eq_true,Bool.and_true] at h
  cases x<;>simp [eH] at h
  cases y<;>simp [eH] at h
  cases z<;>simp [eH] at h
  exact ⟨_,_,_,rfl⟩
theorem CN:og Tryz.prog 63 [.int .i64,.int .i64]:=by
 have u3:=Tryz.underlying3
 have a3:=Tryz.isAgg3
 have z3:=Tryz.sizeOf3
 have hS:Tryz.prog.underlying 63=some (.struct (Tryz.prog.fieldsOf 63)):=by kernel_rfl
 have hp:Tryz.prog.stoodInHeld 63=false:=by kernel_rfl
 refine ⟨by kernel_rfl,fun xs ys w hx hy => ?_⟩
 obtain ⟨a,p,rfl⟩:=ny hx
 obtain ⟨b,q,rfl⟩:=ny hy
 refine ⟨?_,fun e => ?_⟩
 ·show (Op.equalIn (9999+1) 63 (.agg #[.int .i64 a,.int .i64 p]) (.agg #[.int .i64 b,.int .i64 q])).run Tryz.prog w=_
  rw [run_equalIn_agg w 9999 63 _ _ hS hp]
  simp only [Program.fieldsOf,Tryz.underlying63]
  go_simp
  simp only [eqL,eqV]
  by_cases h1:a=b<;>by_cases h2:p=q<;>simp [h1,h2]
 ·show (Instr.checkKey e (9999+1) 63 (.agg #[.int .i64 a,.int .i64 p])).run Tryz.prog w=_
  unfold Instr.checkKey
  simp only [Program.fieldsOf,Tryz.underlying63]
  go_simp
  rw [MapKept.run_checkKey u3 (k := .int .i64 a) (by first | rfl | trivial) e 9998,Result.andThen_ok,MapKept.run_checkKey u3 (k := .int .i64 p) (by first | rfl | trivial) e 9998]
theorem CP:og Tryz.prog 40 [.bool,.str,.str]:=by
 have u4:=Tryz.underlying4
 have a4:=Tryz.isAgg4
 have z4:=Tryz.sizeOf4
 have u9:=Tryz.underlying9
 have a9:=Tryz.isAgg9
 have z9:=Tryz.sizeOf9
 have hS:Tryz.prog.underlying 40=some (.struct (Tryz.prog.fieldsOf 40)):=by kernel_rfl
 have hp:Tryz.prog.stoodInHeld 40=false:=by kernel_rfl
 refine ⟨by kernel_rfl,fun xs ys w hx hy => ?_⟩
 obtain ⟨a,p,s,rfl⟩:=kO hx
 obtain ⟨b,q,t,rfl⟩:=kO hy
 refine ⟨?_,fun e => ?_⟩
 ·show (Op.equalIn (9999+1) 40 (.agg #[.bool a,.string p,.string s]) (.agg #[.bool b,.string q,.string t])).run Tryz.prog w=_
  rw [run_equalIn_agg w 9999 40 _ _ hS hp]
  simp only [Program.fieldsOf,Tryz.underlying40]
  go_simp
  simp only [eqL,eqV]
  by_cases h2:p=q
  ·subst h2
   by_cases h3:s=t
   ·subst h3;cases a<;>cases b<;>simp
   ·have h5:=kv h3
    cases a<;>cases b<;>simp [h3,h5]
  ·have h4:=kv h2
   by_cases h3:s=t
   ·subst h3;cases a<;>cases b<;>simp [h2,h4]
   ·have h5:=kv h3
    cases a<;>cases b<;>simp [h2,h4,h3,h5]
 ·show (Instr.checkKey e (9999+1) 40 (.agg #[.bool a,.string p,.string s])).run Tryz.prog w=_
  unfold Instr.checkKey
  simp only [Program.fieldsOf,Tryz.underlying40]
  go_simp
  rw [MapKept.run_checkKey u4 (k := .bool a) (by first | rfl | trivial) e 9998,Result.andThen_ok,MapKept.run_checkKey u9 (k := .string p) (by first | rfl | trivial) e 9998,Result.andThen_ok,MapKept.run_checkKey u9 (k := .string s) (by first | rfl | trivial) e 9998]
theorem lH {xs:List Value} (h:bT [.int .i64,.int .i64,.bool,.str,.str] xs=true):∃i j a b c,xs=[.int .i64 i,.int .i64 j,.bool a,.string b,.string c]:=by
 match xs,h with
 | [],h=>simp [bT] at h
 | [x],h=>simp [bT] at h
 | x::y::r,h =>
  have h1:bT [.int .i64,.int .i64] [x,y]=true∧bT [.bool,.str,.str] r=true:=by
   simp only [bT,Bool.and_eq_true,Bool.and_true] at h ⊢
   exact ⟨⟨h.1,h.2.1⟩,h.2.2⟩
  obtain ⟨i,j,e1⟩:=ny h1.1
  obtain ⟨a,b,c,e2⟩:=kO h1.2
  simp only [List.cons.injEq,and_true] at e1
  exact ⟨i,j,a,b,c,by rw [e1.1,e1.2,e2]⟩
theorem Ec (d:Nat) (a b:Bool) (p q s t:ByteArray) (w:World):(Op.equalIn (d+1+1) 40 (.agg #[.bool a,.string p,.string s]) (.agg #[.bool b,.string q,.string t])).run Tryz.prog w = .ok (eqL [.bool a,.string p,.string s] [.bool b,.string q,.string t]) w:=by
 have u4:=Tryz.underlying4
 have a4:=Tryz.isAgg4
 have z4:=Tryz.sizeOf4
 have u9:=Tryz.underlying9
 have a9:=Tryz.isAgg9
 have z9:=Tryz.sizeOf9
 have hS:Tryz.prog.underlying 40=some (.struct (Tryz.prog.fieldsOf 40)):=by kernel_rfl
 have hp:Tryz.prog.stoodInHeld 40=false:=by kernel_rfl
 rw [run_equalIn_agg w (d+1) 40 _ _ hS hp]
 simp only [Program.fieldsOf,Tryz.underlying40]
 go_simp
 simp only [eqL,eqV]
 by_cases h2:p=q
 ·subst h2
  by_cases h3:s=t
  ·subst h3;cases a<;>cases b<;>simp
  ·have h5:=kv h3
   cases a<;>cases b<;>simp [h3,h5]
 ·have h4:=kv h2
  by_cases h3:s=t
  ·subst h3;cases a<;>cases b<;>simp [h2,h4]
  ·have h5:=kv h3
   cases a<;>cases b<;>simp [h2,h4,h3,h5]
theorem CO:og Tryz.prog 42 [.int .i64,.int .i64,.bool,.str,.str]:=by
 have u3:=Tryz.underlying3
 have a3:=Tryz.isAgg3
 have z3:=Tryz.sizeOf3
 have u4:=Tryz.underlying4
 have u9:=Tryz.underlying9
 have a40:=Tryz.isAgg40
 have z40:=Tryz.sizeOf40
 have hS:Tryz.prog.underlying 42=some (.struct (Tryz.prog.fieldsOf 42)):=by kernel_rfl
 have hp:Tryz.prog.stoodInHeld 42=false:=by kernel_rfl
 refine ⟨by kernel_rfl,fun xs ys w hx hy => ?_⟩
 obtain ⟨i,j,a,p,s,rfl⟩:=lH hx
 obtain ⟨k,l,b,q,t,rfl⟩:=lH hy
 refine ⟨?_,fun e => ?_⟩
 ·show (Op.equalIn (9999+1) 42 (.agg #[.int .i64 i,.int .i64 j,.bool a,.string p,.string s]) (.agg #[.int .i64 k,.int .i64 l,.bool b,.string q,.string t])).run Tryz.prog w=_
  rw [run_equalIn_agg w 9999 42 _ _ hS hp]
  simp only [Program.fieldsOf,Tryz.underlying42]
  have e40:=Ec 9997 a b p q s t
  simp only [Nat.reduceAdd] at e40
  go_simp
  show _=Result.ok (eqV (.int .i64 i) (.int .i64 k)&&(eqV (.int .i64 j) (.int .i64 l)&&eqL [.bool a,.string p,.string s] [.bool b,.string q,.string t])) w
  generalize eqL [.bool a,.string p,.string s] [.bool b,.string q,.string t]=c
  simp only [eqV]
  by_cases h1:i=k<;>by_cases h2:j=l<;>cases c<;>simp [h1,h2]
 ·show (Instr.checkKey e (9999+1) 42 (.agg #[.int .i64 i,.int .i64 j,.bool a,.string p,.string s])).run Tryz.prog w=_
  unfold Instr.checkKey
  simp only [Program.fieldsOf,Tryz.underlying42]
  go_simp
  rw [MapKept.run_checkKey u3 (k := .int .i64 i) (by first | rfl | trivial) e 9998,Result.andThen_ok,MapKept.run_checkKey u3 (k := .int .i64 j) (by first | rfl | trivial) e 9998,Result.andThen_ok]
  have u40:=Tryz.underlying40
  unfold Instr.checkKey
  simp only [Program.fieldsOf,u40]
  go_simp
  rw [MapKept.run_checkKey u4 (k := .bool a) (by first | rfl | trivial) e 9997,Result.andThen_ok,MapKept.run_checkKey u9 (k := .string p) (by first | rfl | trivial) e 9997,Result.andThen_ok,MapKept.run_checkKey u9 (k := .string s) (by first | rfl | trivial) e 9997]
end Av
end Go.Proofs.YtdekcppfpgeneaaGreatDoor
namespace Go.Proofs.YtdekcppfpgeneaaGreatDoor
open Go Go.RowKit
namespace Av
def ti1:TI:={ size:=1,bytes:=8,kind := .func,zero:=[.nilFunc] }
theorem ok1:bC Tryz.prog 1 ti1:=aU Tryz.type1 (by kernel_rfl) (by kernel_rfl) (by kernel_rfl) (fun _ h=>nomatch h)
def ti2:TI:={ size:=1,bytes:=8,kind := .int .i64,zero:=[.int .i64 0] }
theorem ok2:bC Tryz.prog 2 ti2:=aU Tryz.type2 (by kernel_rfl) (by kernel_rfl) (by kernel_rfl) (fun _ h=>nomatch h)
def ti3:TI:={ size:=1,bytes:=8,kind := .int .i64,zero:=[.int .i64 0] }
theorem ok3:bC Tryz.prog 3 ti3:=aU Tryz.type3 (by kernel_rfl) (by kernel_rfl) (by kernel_rfl) (fun _ h=>nomatch h)
def ti4:TI:={ size:=1,bytes:=1,kind := .bool,zero:=[.bool false] }
theorem ok4:bC Tryz.prog 4 ti4:=aU Tryz.type4 (by kernel_rfl) (by kernel_rfl) (by kernel_rfl) (fun _ h=>nomatch h)
def ti5:TI:={ size:=1,bytes:=1,kind := .int .u8,zero:=[.int .u8 0] }
theorem ok5:bC Tryz.prog 5 ti5:=aU Tryz.type5 (by kernel_rfl) (by kernel_rfl) (by kernel_rfl) (fun _ h=>nomatch h)
def ti9:TI:={ size:=1,bytes:=16,kind := .str,zero:=[.string ⟨#[]⟩] }
theorem ok9:bC Tryz.prog 9 ti9:=aU Tryz.type9 (by kernel_rfl) (by kernel_rfl) (by kernel_rfl) (fun _ h=>nomatch h)
def Dy:TI:={ size:=1,bytes:=24,kind := .slice 9,zero:=[.slice none 0 0] }
theorem E0:bC Tryz.prog 22 Dy:=aU Tryz.type22 (by kernel_rfl) (by kernel_rfl) (by kernel_rfl) (fun _ h=>nomatch h)
def Dx:TI:={ size:=1,bytes:=24,kind := .slice 42,zero:=[.slice none 0 0] }
theorem EZ:bC Tryz.prog 23 Dx:=aU Tryz.type23 (by kernel_rfl) (by kernel_rfl) (by kernel_rfl) (fun _ h=>nomatch h)
def Dw:TI:={ size:=3,bytes:=72,kind := .struct [(0,22),(1,23),(2,23)],zero:=[.slice none 0 0,.slice none 0 0,.slice none 0 0] }
theorem EY:bC Tryz.prog 25 Dw:=aU Tryz.type25 (by kernel_rfl) (by kernel_rfl) (by kernel_rfl) (fun _ h=>nomatch h)
def Dv:TI:={ size:=1,bytes:=24,kind := .slice 36,zero:=[.slice none 0 0] }
theorem EX:bC Tryz.prog 26 Dv:=aU Tryz.type26 (by kernel_rfl) (by kernel_rfl) (by kernel_rfl) (fun _ h=>nomatch h)
def Du:TI:={ size:=1,bytes:=8,kind := .int .i64,zero:=[.int .i64 0] }
theorem EW:bC Tryz.prog 30 Du:=aU Tryz.type30 (by kernel_rfl) (by kernel_rfl) (by kernel_rfl) (fun _ h=>nomatch h)
def Dt:TI:={ size:=10,bytes:=136,kind := .struct [(0,9),(1,9),(2,9),(3,9),(4,9),(5,22),(6,3),(7,3),(8,3),(9,3)],zero:=[.string ⟨#[]⟩,.string ⟨#[]⟩,.string ⟨#[]⟩,.string ⟨#[]⟩,.string ⟨#[]⟩,.slice none 0 0,.int .i64 0,.int .i64 0,.int .i64 0,.int .i64 0] }
theorem EV:bC Tryz.prog 36 Dt:=aU Tryz.type36 (by kernel_rfl) (by kernel_rfl) (by kernel_rfl) (fun _ h=>nomatch h)
def Dr:TI:={ size:=3,bytes:=40,kind := .struct [(0,4),(1,9),(2,9)],zero:=[.bool false,.string ⟨#[]⟩,.string ⟨#[]⟩],flat:=some [.bool,.str,.str] }
theorem EU:bC Tryz.prog 40 Dr:=aU Tryz.type40 (by kernel_rfl) (by kernel_rfl) (by kernel_rfl) (fun ks h=>by cases h;exact CP)
def Dq:TI:={ size:=5,bytes:=56,kind := .struct [(0,3),(1,3),(2,40)],zero:=[.int .i64 0,.int .i64 0,.bool false,.string ⟨#[]⟩,.string ⟨#[]⟩],flat:=some [.int .i64,.int .i64,.bool,.str,.str] }
theorem ET:bC Tryz.prog 42 Dq:=aU Tryz.type42 (by kernel_rfl) (by kernel_rfl) (by kernel_rfl) (fun ks h=>by cases h;exact CO)
def Dp:TI:={ size:=1,bytes:=8,kind := .func,zero:=[.nilFunc] }
theorem ES:bC Tryz.prog 56 Dp:=aU Tryz.type56 (by kernel_rfl) (by kernel_rfl) (by kernel_rfl) (fun _ h=>nomatch h)
def Do:TI:={ size:=1,bytes:=8,kind := .map 63 3,zero:=[.map none] }
theorem ER:bC Tryz.prog 58 Do:=aU Tryz.type58 (by kernel_rfl) (by kernel_rfl) (by kernel_rfl) (fun _ h=>nomatch h)
def Dn:TI:={ size:=1,bytes:=8,kind := .func,zero:=[.nilFunc] }
theorem EQ:bC Tryz.prog 61 Dn:=aU Tryz.type61 (by kernel_rfl) (by kernel_rfl) (by kernel_rfl) (fun _ h=>nomatch h)
def Dm:TI:={ size:=2,bytes:=16,kind := .struct [(0,3),(1,3)],zero:=[.int .i64 0,.int .i64 0],flat:=some [.int .i64,.int .i64] }
theorem EP:bC Tryz.prog 63 Dm:=aU Tryz.type63 (by kernel_rfl) (by kernel_rfl) (by kernel_rfl) (fun ks h=>by cases h;exact CN)
def Dl:TI:={ size:=1,bytes:=8,kind := .func,zero:=[.nilFunc] }
theorem EO:bC Tryz.prog 67 Dl:=aU Tryz.type67 (by kernel_rfl) (by kernel_rfl) (by kernel_rfl) (fun _ h=>nomatch h)
def Dk:TI:={ size:=1,bytes:=8,kind := .map 3 3,zero:=[.map none] }
theorem EN:bC Tryz.prog 68 Dk:=aU Tryz.type68 (by kernel_rfl) (by kernel_rfl) (by kernel_rfl) (fun _ h=>nomatch h)
def Dj:TI:={ size:=1,bytes:=8,kind := .func,zero:=[.nilFunc] }
theorem EM:bC Tryz.prog 69 Dj:=aU Tryz.type69 (by kernel_rfl) (by kernel_rfl) (by kernel_rfl) (fun _ h=>nomatch h)
def Di:TI:={ size:=1,bytes:=8,kind := .func,zero:=[.nilFunc] }
theorem EL:bC Tryz.prog 72 Di:=aU Tryz.type72 (by kernel_rfl) (by kernel_rfl) (by kernel_rfl) (fun _ h=>nomatch h)
def Dh:TI:={ size:=1,bytes:=8,kind := .map 9 4,zero:=[.map none] }
theorem EK:bC Tryz.prog 80 Dh:=aU Tryz.type80 (by kernel_rfl) (by kernel_rfl) (by kernel_rfl) (fun _ h=>nomatch h)
def Dg:TI:={ size:=1,bytes:=8,kind := .func,zero:=[.nilFunc] }
theorem EJ:bC Tryz.prog 81 Dg:=aU Tryz.type81 (by kernel_rfl) (by kernel_rfl) (by kernel_rfl) (fun _ h=>nomatch h)
def Df:TI:={ size:=1,bytes:=24,kind := .slice 40,zero:=[.slice none 0 0] }
theorem EI:bC Tryz.prog 82 Df:=aU Tryz.type82 (by kernel_rfl) (by kernel_rfl) (by kernel_rfl) (fun _ h=>nomatch h)
def De:TI:={ size:=1,bytes:=8,kind := .int .u64,zero:=[.int .u64 0] }
theorem EH:bC Tryz.prog 84 De:=aU Tryz.type84 (by kernel_rfl) (by kernel_rfl) (by kernel_rfl) (fun _ h=>nomatch h)
def Dd:TI:={ size:=1,bytes:=24,kind := .slice 63,zero:=[.slice none 0 0] }
theorem EG:bC Tryz.prog 86 Dd:=aU Tryz.type86 (by kernel_rfl) (by kernel_rfl) (by kernel_rfl) (fun _ h=>nomatch h)
def Dc:TI:={ size:=1,bytes:=8,kind := .func,zero:=[.nilFunc] }
theorem EF:bC Tryz.prog 89 Dc:=aU Tryz.type89 (by kernel_rfl) (by kernel_rfl) (by kernel_rfl) (fun _ h=>nomatch h)
def Db:TI:={ size:=1,bytes:=8,kind := .func,zero:=[.nilFunc] }
theorem ED:bC Tryz.prog 93 Db:=aU Tryz.type93 (by kernel_rfl) (by kernel_rfl) (by kernel_rfl) (fun _ h=>nomatch h)
def Da:TI:={ size:=1,bytes:=16,kind := .iface,zero:=[.nilIface] }
theorem EC:bC Tryz.prog 96 Da:=aU Tryz.type96 (by kernel_rfl) (by kernel_rfl) (by kernel_rfl) (fun _ h=>nomatch h)
def C9:TI:={ size:=1,bytes:=24,kind := .slice 3,zero:=[.slice none 0 0] }
theorem EB:bC Tryz.prog 99 C9:=aU Tryz.type99 (by kernel_rfl) (by kernel_rfl) (by kernel_rfl) (fun _ h=>nomatch h)
def BU:TI:={ size:=1,bytes:=8,kind := .map 9 103,zero:=[.map none] }
theorem DX:bC Tryz.prog 101 BU:=aU Tryz.type101 (by kernel_rfl) (by kernel_rfl) (by kernel_rfl) (fun _ h=>nomatch h)
def BT:TI:={ size:=2,bytes:=16,kind := .struct [(0,3),(1,3)],zero:=[.int .i64 0,.int .i64 0] }
theorem DW:bC Tryz.prog 103 BT:=aU Tryz.type103 (by kernel_rfl) (by kernel_rfl) (by kernel_rfl) (fun _ h=>nomatch h)
def BS:TI:={ size:=2,bytes:=16,kind := .struct [(0,4),(1,81)],zero:=[.bool false,.nilFunc] }
theorem DV:bC Tryz.prog 110 BS:=aU Tryz.type110 (by kernel_rfl) (by kernel_rfl) (by kernel_rfl) (fun _ h=>nomatch h)
def BR:TI:={ size:=1,bytes:=8,kind := .func,zero:=[.nilFunc] }
theorem DU:bC Tryz.prog 114 BR:=aU Tryz.type114 (by kernel_rfl) (by kernel_rfl) (by kernel_rfl) (fun _ h=>nomatch h)
def BQ:TI:={ size:=1,bytes:=8,kind := .func,zero:=[.nilFunc] }
theorem DT:bC Tryz.prog 118 BQ:=aU Tryz.type118 (by kernel_rfl) (by kernel_rfl) (by kernel_rfl) (fun _ h=>nomatch h)
def BP:TI:={ size:=1,bytes:=8,kind := .func,zero:=[.nilFunc] }
theorem DS:bC Tryz.prog 126 BP:=aU Tryz.type126 (by kernel_rfl) (by kernel_rfl) (by kernel_rfl) (fun _ h=>nomatch h)
def BO:TI:={ size:=2,bytes:=32,kind := .arr 2 9,zero:=[.string ⟨#[]⟩,.string ⟨#[]⟩] }
theorem DR:bC Tryz.prog 127 BO:=aU Tryz.type127 (by kernel_rfl) (by kernel_rfl) (by kernel_rfl) (fun _ h=>nomatch h)
def BN:TI:={ size:=1,bytes:=24,kind := .slice 167,zero:=[.slice none 0 0] }
theorem DQ:bC Tryz.prog 136 BN:=aU Tryz.type136 (by kernel_rfl) (by kernel_rfl) (by kernel_rfl) (fun _ h=>nomatch h)
def BM:TI:={ size:=1,bytes:=24,kind := .slice 5,zero:=[.slice none 0 0] }
theorem DP:bC Tryz.prog 138 BM:=aU Tryz.type138 (by kernel_rfl) (by kernel_rfl) (by kernel_rfl) (fun _ h=>nomatch h)
def BL:TI:={ size:=1,bytes:=24,kind := .slice 127,zero:=[.slice none 0 0] }
theorem DO:bC Tryz.prog 148 BL:=aU Tryz.type148 (by kernel_rfl) (by kernel_rfl) (by kernel_rfl) (fun _ h=>nomatch h)
def BK:TI:={ size:=1,bytes:=8,kind := .int .u64,zero:=[.int .u64 0] }
theorem DN:bC Tryz.prog 167 BK:=aU Tryz.type167 (by kernel_rfl) (by kernel_rfl) (by kernel_rfl) (fun _ h=>nomatch h)
def BJ:TI:={ size:=1,bytes:=8,kind := .func,zero:=[.nilFunc] }
theorem DM:bC Tryz.prog 186 BJ:=aU Tryz.type186 (by kernel_rfl) (by kernel_rfl) (by kernel_rfl) (fun _ h=>nomatch h)
def BI:TI:={ size:=1,bytes:=8,kind := .ptr 196,zero:=[.pointer none] }
theorem DL:bC Tryz.prog 194 BI:=aU Tryz.type194 (by kernel_rfl) (by kernel_rfl) (by kernel_rfl) (fun _ h=>nomatch h)
def BH:TI:={ size:=2,bytes:=32,kind := .struct [(0,194),(1,138)],zero:=[.pointer none,.slice none 0 0] }
theorem DK:bC Tryz.prog 196 BH:=aU Tryz.type196 (by kernel_rfl) (by kernel_rfl) (by kernel_rfl) (fun _ h=>nomatch h)
def tt:aY:=fun t=>match t with
 | 1=>some ti1
 | 2=>some ti2
 | 3=>some ti3
 | 4=>some ti4
 | 5=>some ti5
 | 9=>some ti9
 | 22=>some Dy
 | 23=>some Dx
 | 25=>some Dw
 | 26=>some Dv
 | 30=>some Du
 | 36=>some Dt
 | 40=>some Dr
 | 42=>some Dq
 | 56=>some Dp
 | 58=>some Do
 | 61=>some Dn
 | 63=>some Dm
 | 67=>some Dl
 | 68=>some Dk
 | 69=>some Dj
 | 72=>some Di
 | 80=>some Dh
 | 81=>some Dg
 | 82=>some Df
 | 84=>some De
 | 86=>some Dd
 | 89=>some Dc
 | 93=>some Db
 | 96=>some Da
 | 99=>some C9
 | 101=>some BU
 | 103=>some BT
 | 110=>some BS
 | 114=>some BR
 | 118=>some BQ
 | 126=>some BP
 | 127=>some BO
 | 136=>some BN
 | 138=>some BM
 | 148=>some BL
 | 167=>some BK
 | 186=>some BJ
 | 194=>some BI
 | 196=>some BH
 | _=>none
theorem af:bD Tryz.prog tt:=by
 intro t ti h
 unfold tt at h
 split at h<;>first | (cases h;done) | (simp only [Option.some.injEq] at h;subst h)
 ·exact ok1
 ·exact ok2
 ·exact ok3
 ·exact ok4
 ·exact ok5
 ·exact ok9
 ·exact E0
 ·exact EZ
 ·exact EY
 ·exact EX
 ·exact EW
 ·exact EV
 ·exact EU
 ·exact ET
 ·exact ES
 ·exact ER
 ·exact EQ
 ·exact EP
 ·exact EO
 ·exact EN
 ·exact EM
 ·exact EL
 ·exact EK
 ·exact EJ
 ·exact EI
 ·exact EH
 ·exact EG
 ·exact EF
 ·exact ED
 ·exact EC
 ·exact EB
 ·exact DX
 ·exact DW
 ·exact DV
 ·exact DU
 ·exact DT
 ·exact DS
 ·exact DR
 ·exact DQ
 ·exact DP
 ·exact DO
 ·exact DN
 ·exact DM
 ·exact DL
 ·exact DK
theorem tts:(tt 1=some { size:=1,bytes:=8,kind := .func,zero:=[.nilFunc],flat:=none })∧(tt 2=some { size:=1,bytes:=8,kind := .int .i64,zero:=[.int .i64 0],flat:=none })∧(tt 3=some { size:=1,bytes:=8,kind := .int .i64,zero:=[.int .i64 0],flat:=none })∧(tt 4=some { size:=1,bytes:=1,kind := .bool,zero:=[.bool false],flat:=none })∧(tt 5=some { size:=1,bytes:=1,kind := .int .u8,zero:=[.int .u8 0],flat:=none })∧(tt 9=some { size:=1,bytes:=16,kind := .str,zero:=[.string ⟨#[]⟩],flat:=none })∧(tt 22=some { size:=1,bytes:=24,kind := .slice 9,zero:=[.slice none 0 0],flat:=none })∧(tt 23=some { size:=1,bytes:=24,kind := .slice 42,zero:=[.slice none 0 0],flat:=none })∧(tt 25=some { size:=3,bytes:=72,kind := .struct [(0,22),(1,23),(2,23)],zero:=[.slice none 0 0,.slice none 0 0,.slice none 0 0],flat:=none })∧(tt 26=some { size:=1,bytes:=24,kind := .slice 36,zero:=[.slice none 0 0],flat:=none })∧(tt 30=some { size:=1,bytes:=8,kind := .int .i64,zero:=[.int .i64 0],flat:=none })∧(tt 36=some { size:=10,bytes:=136,kind := .struct [(0,9),(1,9),(2,9),(3,9),(4,9),(5,22),(6,3),(7,3),(8,3),(9,3)],zero:=[.string ⟨#[]⟩,.string ⟨#[]⟩,.string ⟨#[]⟩,.string ⟨#[]⟩,.string ⟨#[]⟩,.slice none 0 0,.int .i64 0,.int .i64 0,.int .i64 0,.int .i64 0],flat:=none })∧(tt 40=some { size:=3,bytes:=40,kind := .struct [(0,4),(1,9),(2,9)],zero:=[.bool false,.string ⟨#[]⟩,.string ⟨#[]⟩],flat:=some [.bool,.str,.str] })∧(tt 42=some { size:=5,bytes:=56,kind := .struct [(0,3),(1,3),(2,40)],zero:=[.int .i64 0,.int .i64 0,.bool false,.string ⟨#[]⟩,.string ⟨#[]⟩],flat:=some [.int .i64,.int .i64,.bool,.str,.str] })∧(tt 56=some { size:=1,bytes:=8,kind := .func,zero:=[.nilFunc],flat:=none })∧(tt 58=some { size:=1,bytes:=8,kind := .map 63 3,zero:=[.map none],flat:=none })∧(tt 61=some { size:=1,bytes:=8,kind := .func,zero:=[.nilFunc],flat:=none })∧(tt 63=some { size:=2,bytes:=16,kind := .struct [(0,3),(1,3)],zero:=[.int .i64 0,.int .i64 0],flat:=some [.int .i64,.int .i64] })∧(tt 67=some { size:=1,bytes:=8,kind := .func,zero:=[.nilFunc],flat:=none })∧(tt 68=some { size:=1,bytes:=8,kind := .map 3 3,zero:=[.map none],flat:=none })∧(tt 69=some { size:=1,bytes:=8,kind := .func,zero:=[.nilFunc],flat:=none })∧(tt 72=some { size:=1,bytes:=8,kind := .func,zero:=[.nilFunc],flat:=none })∧(tt 80=some { size:=1,bytes:=8,kind := .map 9 4,zero:=[.map none],flat:=none })∧(tt 81=some { size:=1,bytes:=8,kind := .func,zero:=[.nilFunc],flat:=none })∧(tt 82=some { size:=1,bytes:=24,kind := .slice 40,zero:=[.slice none 0 0],flat:=none })∧(tt 84=some { size:=1,bytes:=8,kind := .int .u64,zero:=[.int .u64 0],flat:=none })∧(tt 86=some { size:=1,bytes:=24,kind := .slice 63,zero:=[.slice none 0 0],flat:=none })∧(tt 89=some { size:=1,bytes:=8,kind := .func,zero:=[.nilFunc],flat:=none })∧(tt 93=some { size:=1,bytes:=8,kind := .func,zero:=[.nilFunc],flat:=none })∧(tt 96=some { size:=1,bytes:=16,kind := .iface,zero:=[.nilIface],flat:=none })∧(tt 99=some { size:=1,bytes:=24,kind := .slice 3,zero:=[.slice none 0 0],flat:=none })∧(tt 101=some { size:=1,bytes:=8,kind := .map 9 103,zero:=[.map none],flat:=none })∧(tt 103=some { size:=2,bytes:=16,kind := .struct [(0,3),(1,3)],zero:=[.int .i64 0,.int .i64 0],flat:=none })∧(tt 110=some { size:=2,bytes:=16,kind := .struct [(0,4),(1,81)],zero:=[.bool false,.nilFunc],flat:=none })∧(tt 114=some { size:=1,bytes:=8,kind := .func,zero:=[.nilFunc],flat:=none })∧(tt 118=some { size:=1,bytes:=8,kind := .func,zero:=[.nilFunc],flat:=none })∧(tt 126=some { size:=1,bytes:=8,kind := .func,zero:=[.nilFunc],flat:=none })∧(tt 127=some { size:=2,bytes:=32,kind := .arr 2 9,zero:=[.string ⟨#[]⟩,.string ⟨#[]⟩],flat:=none })∧(tt 136=some { size:=1,bytes:=24,kind := .slice 167,zero:=[.slice none 0 0],flat:=none })∧(tt 138=some { size:=1,bytes:=24,kind := .slice 5,zero:=[.slice none 0 0],flat:=none })∧(tt 148=some { size:=1,bytes:=24,kind := .slice 127,zero:=[.slice none 0 0],flat:=none })∧(tt 167=some { size:=1,bytes:=8,kind := .int .u64,zero:=[.int .u64 0],flat:=none })∧(tt 186=some { size:=1,bytes:=8,kind := .func,zero:=[.nilFunc],flat:=none })∧(tt 194=some { size:=1,bytes:=8,kind := .ptr 196,zero:=[.pointer none],flat:=none })∧(tt 196=some { size:=2,bytes:=32,kind := .struct [(0,194),(1,138)],zero:=[.pointer none,.slice none 0 0],flat:=none }):=⟨rfl,rfl,rfl,rfl,rfl,rfl,rfl,rfl,rfl,rfl,rfl,rfl,rfl,rfl,rfl,rfl,rfl,rfl,rfl,rfl,rfl,rfl,rfl,rfl,rfl,rfl,rfl,rfl,rfl,rfl,rfl,rfl,rfl,rfl,rfl,rfl,rfl,rfl,rfl,rfl,rfl,rfl,rfl,rfl,rfl⟩
theorem mixed:Tryz.prog.follows .mixedOrders=true:=by kernel_rfl
end Av
end Go.Proofs.YtdekcppfpgeneaaGreatDoor
namespace Go.Proofs.YtdekcppfpgeneaaGreatDoor
open Go Go.RowKit
namespace Av
attribute [local irreducible] AW aL aH
open Nt
def iA (n:Int):AV := .d (.v (.int .i64 n))
def bA (b:Bool):AV := .d (.v (.bool b))
def jQ:AV := .d (.v (.slice none 0 0))
theorem aP {k:Nat} {n:Nat} (h:k<n) (hn:n≤9223372036854775807):IntKind.i64.wrap ((k:Int)+1)=((k+1:Nat):Int):=by rw [IntKind.wrap_i64];omega
theorem ut {n:Int} (h1 : -9223372036854775808≤n) (h2:n≤9223372036854775807):IntKind.i64.wrap n=n:=by rw [IntKind.wrap_i64];omega
def cw (l:List Nat):List (List PD):=l.map fun n:Nat=>[PD.v (.int .u64 (n:Int))]
def aO (l:List Nat):PD := .sl 1 (cw l)
theorem bO (l:List Nat):(cw l).length=l.length:=List.length_map _
theorem fX (l:List Nat) {i:Nat} (h:i<l.length):(cw l).getD i []=[.v (.int .u64 (l[i]:Int))]:=by simp [cw,h]
theorem wh (l:List Nat) (k:Nat):(cw l).take k=cw (l.take k):=by simp [cw,List.map_take]
theorem jP (l:List Nat) {i:Nat} (h:i<l.length):(dI (cw l)).getD i []=[.d (.v (.int .u64 (l[i]:Int)))]:=by simp [cw,dI,dL,h]
theorem jO (l:List Nat) (i n:Nat):(dI (cw l)).set i [.d (.v (.int .u64 (n:Int)))]=dI (cw (l.set i n)):=by simp [cw,dI,dL,List.map_set]
theorem wi (l:List Nat) (n:Nat):dI (cw l)++[[.d (.v (.int .u64 (n:Int)))]]=dI (cw (l++[n])):=by simp [cw,dI,dL]
theorem hV {l:List Nat} {k:Nat} (h:k<l.length):l.take (k+1)=l.take k++[l[k]]:=by rw [List.take_add_one,List.getElem?_eq_getElem h];rfl
theorem mJ (base:World) (l:List Nat) (hl:l.length≤9223372036854775807):aI Tryz.prog base 179 [.d (aO l)] (.d (aO (dy l))):=by
 refine aC af Tryz.call179 Tryz.func179 rfl fun H hB hb hF => ?_
 rw [Tryz.results179,Tryz.ntmps179]
 simp only [aA,List.length_cons,List.length_nil,List.replicate,List.cons_append,List.nil_append,Nat.reduceAdd,Nat.reduceSub]
 clear hF hb hB
 repeat refine ag ?_
 refine zr af ?_
 repeat (refine aa ?_;first | (apply ai;rfl;simp only [aj,avs,tts,seval]<;>exact rr) | (refine zg rfl ?_;first | refine ah ?_ | refine zo ?_))
 refine ae ?_
 repeat refine ag ?_
 refine an (aZ (fun k env H'=>k≤l.length∧H'=H∧dy l=dy (l.take k)∧env = .d (aO (l.take k))::List.replicate 20 .undef) ?_ ⟨Nat.le_refl _,rfl,by rw [List.take_length],rfl⟩ ?_)
 ·simp [mc,aJ,List.replicate,aO]
 rintro k env H' ⟨hk,rfl,ht,rfl⟩ hN
 simp only [List.replicate,aO]
 have hnl:(cw (l.take k)).length=k:=by rw [bO,List.length_take];omega
 cases k with
 | zero =>
  repeat refine ag ?_
  refine zr af ?_
  repeat (refine aa ?_;first | (apply ai;rfl;simp only [aj,avs,tts,seval,hnl]<;>exact rr) | (refine zg rfl ?_;first | refine ah ?_ | refine zo ?_))
  refine ae ?_
  repeat refine ag ?_
  refine am rfl rfl (fun hb => ?_) fun hb => ?_
  ·cases hb
  refine aq ?_
  repeat refine ag ?_
  refine zr af ?_
  repeat (refine aa ?_;first | (apply ai;rfl;simp only [aj,avs,tts,seval]<;>exact rr) | (refine zg rfl ?_;first | refine ah ?_ | refine zo ?_))
  refine ae ?_
  exact aw ⟨_,rfl,[],by simp,by rw [ht];rfl⟩
 | succ k =>
  have e0:decide (((k+1:Nat):Int)>0)=true:=by simp
  have e1:IntKind.i64.wrap (((k+1:Nat):Int) - 1)=(k:Int):=by rw [IntKind.wrap_i64];omega
  have hlt:k<(l.take (k+1)).length:=by rw [List.length_take];omega
  have hg:=fX (l.take (k+1)) hlt
  have hx:(l.take (k+1))[k]=l[k]:=by simp
  rw [hx] at hg
  have hix:(0:Int)≤(k:Int):=by omega
  have hkk:k<k+1:=by omega
  have hks:k≤k+1:=by omega
  by_cases hz:l[k]=0
  ·have e2:decide (((l[k]:Nat):Int)=0)=true:=by simp [hz]
   repeat refine ag ?_
   refine zr af ?_
   repeat (refine aa ?_;first | (apply ai;rfl;simp only [aj,avs,tts,seval,hnl,e0,e1,hg,hix,hkk,e2]<;>exact rr) | (refine zg rfl ?_;first | refine ah ?_ | refine zo ?_))
   refine ae ?_
   repeat refine ag ?_
   refine am rfl rfl (fun hb => ?_) fun hb => ?_
   rotate_left
   ·cases hb
   refine ap ?_
   repeat refine ag ?_
   refine an ?_
   repeat refine ag ?_
   refine zr af ?_
   repeat (refine aa ?_;first | (apply ai;rfl;simp only [aj,avs,tts,seval,hnl,e1,hix,hks,Nat.zero_le,Nat.sub_zero]<;>exact rr) | (refine zg rfl ?_;first | refine ah ?_ | refine zo ?_))
   refine ae ?_
   refine ⟨k,_,_,by omega,⟨?_,.inl rfl⟩,by omega,rfl,?_,rfl⟩
   ·simp [aJ,List.replicate,aO,wh]
    rw [List.take_take,Nat.min_eq_left (by omega)]
   ·rw [ht,hV (by omega:k<l.length),hz,tj]
  ·have e2:decide (((l[k]:Nat):Int)=0)=false:=by simp [hz]
   repeat refine ag ?_
   refine zr af ?_
   repeat (refine aa ?_;first | (apply ai;rfl;simp only [aj,avs,tts,seval,hnl,e0,e1,hg,hix,hkk,e2]<;>exact rr) | (refine zg rfl ?_;first | refine ah ?_ | refine zo ?_))
   refine ae ?_
   repeat refine ag ?_
   refine am rfl rfl (fun hb => ?_) fun hb => ?_
   ·cases hb
   refine aq ?_
   repeat refine ag ?_
   refine zr af ?_
   repeat (refine aa ?_;first | (apply ai;rfl;simp only [aj,avs,tts,seval]<;>exact rr) | (refine zg rfl ?_;first | refine ah ?_ | refine zo ?_))
   refine ae ?_
   exact aw ⟨_,rfl,[],by simp,by rw [ht,hV (by omega:k<l.length),vO hz];rfl⟩
end Av
end Go.Proofs.YtdekcppfpgeneaaGreatDoor
namespace Go.Proofs.YtdekcppfpgeneaaGreatDoor
open Go
namespace Nt
theorem wQ {l:List Nat} {k:Nat} (h:k<l.length):l.take (k+1)=l.take k++[l.getD k 0]:=by
 rw [List.take_add_one,List.getElem?_eq_getElem h]
 simp [List.getD,h]
theorem cY (l:List Nat) (k:Nat):bg (l.take (k+1))=bg (l.take k)+B9 ^ k * l.getD k 0:=by
 by_cases h:k<l.length
 ·rw [wQ h,fv,List.length_take,Nat.min_eq_left (by omega)]
  simp [bg]
 ·have h1:l.getD k 0=0:=by simp [List.getD,Nat.le_of_not_lt h]
  rw [h1,List.take_of_length_le (by omega),List.take_of_length_le (by omega)];simp
theorem dc {l:List Nat} (h:bt l) (k:Nat):l.getD k 0<B9:=by
 by_cases hk:k<l.length
 ·rw [show l.getD k 0=l[k] by simp [List.getD,hk]];exact h _ (List.getElem_mem hk)
 ·rw [show l.getD k 0=0 by simp [List.getD,Nat.le_of_not_lt hk]];decide
def cU (n m:List Nat):Nat→List Nat × Nat
 | 0=>([],0)
 | k+1=>let t:=(cU n m k).2+m.getD k 0
  if n.getD k 0<t then ((cU n m k).1++[n.getD k 0+B9 - t],1) else ((cU n m k).1++[n.getD k 0 - t],0)
theorem dT (n m:List Nat) (k:Nat):(cU n m k).1.length=k:=by
 induction k with
 | zero=>rfl
 | succ k ih=>simp only [cU];split<;>simp [ih]
theorem pL (n m:List Nat) (k:Nat):(cU n m k).2≤1:=by
 cases k with
 | zero=>exact Nat.zero_le _
 | succ k=>simp only [cU];split<;>simp
theorem uB {n m:List Nat} (hn:bt n) (hm:bt m) (k:Nat):bt (cU n m k).1:=by
 induction k with
 | zero=>intro x hx;simp [cU] at hx
 | succ k ih =>
  have h1:=dc hn k
  have h2:=dc hm k
  have h3:=pL n m k
  intro x hx
  simp only [cU] at hx
  split at hx
  ·simp only [List.mem_append,List.mem_singleton] at hx
   rcases hx with hx | rfl
   ·exact ih x hx
   ·omega
  ·simp only [List.mem_append,List.mem_singleton] at hx
   rcases hx with hx | rfl
   ·exact ih x hx
   ·omega
theorem uz (P a b c B:Nat) (h:c+b≤a+B):P * (a+B - (c+b))+(P * c+P * b)=P * a+P * B:=by
 rw [←Nat.mul_add,←Nat.mul_add,Nat.sub_add_cancel h,Nat.mul_add]
theorem vU {P a b c B x y z:Nat} (ih:x+y=z+P * c) (h:c+b≤a+B):x+P * (a+B - (c+b))+(y+P * b)=z+P * a+P * B * 1:=by
 have:=uz P a b c B h
 rw [Nat.mul_one]
 generalize P * (a+B - (c+b))=u at *
 generalize P * B=v at *
 generalize P * c=w at *
 omega
theorem vT {P a b c x y z:Nat} (ih:x+y=z+P * c) (h:c+b≤a):x+P * (a - (c+b))+(y+P * b)=z+P * a:=by
 have:=uz P a b c 0 (by omega)
 simp only [Nat.add_zero,Nat.mul_zero] at this
 generalize P * (a - (c+b))=u at *
 generalize P * c=w at *
 omega
theorem oM (n m:List Nat) (k:Nat):cU n m (k+1)=if n.getD k 0<(cU n m k).2+m.getD k 0 then ((cU n m k).1++[n.getD k 0+B9 - ((cU n m k).2+m.getD k 0)],1) else ((cU n m k).1++[n.getD k 0 - ((cU n m k).2+m.getD k 0)],0):=rfl
theorem oJ (l:List Nat) (x:Nat):bg (l++[x])=bg l+B9 ^ l.length * x:=by rw [fv];rfl
theorem xL {n m:List Nat} (hn:bt n) (hm:bt m) (k:Nat):bg (cU n m k).1+bg (m.take k)=bg (n.take k)+B9 ^ k * (cU n m k).2:=by
 induction k with
 | zero=>rfl
 | succ k ih =>
  have h2:=dc hm k
  have h3:=pL n m k
  rw [cY,cY,oM]
  by_cases hlt:n.getD k 0<(cU n m k).2+m.getD k 0
  ·rw [if_pos hlt]
   have hb:(cU n m k).2+m.getD k 0≤n.getD k 0+B9:=by omega
   show bg ((cU n m k).1++[_])+_=_+B9 ^ (k+1) * 1
   rw [oJ,dT,Nat.pow_succ]
   exact vU ih hb
  ·rw [if_neg hlt]
   show bg ((cU n m k).1++[_])+_=_+B9 ^ (k+1) * 0
   rw [oJ,dT,Nat.mul_zero,Nat.add_zero]
   exact vT ih (by omega)
theorem AC {n m:List Nat} (hn:bt n) (hm:bt m) (hl:m.length≤n.length) (hv:bg m≤bg n):dy (cU n m n.length).1=limbs (bg n - bg m):=by
 rw [di (uB hn hm _)]
 have h1:=xL hn hm n.length
 rw [List.take_length,List.take_of_length_le hl] at h1
 have h2:=gE (uB hn hm n.length)
 rw [dT] at h2
 have h3:=pL n m n.length
 have h4:(cU n m n.length).2=0:=by
  rcases Nat.lt_or_ge (cU n m n.length).2 1 with h | h
  ·omega
  ·have h5:(cU n m n.length).2=1:=by omega
   rw [h5,Nat.mul_one] at h1
   omega
 rw [h4] at h1
 simp only [Nat.mul_zero,Nat.add_zero] at h1
 congr 1
 omega
theorem qW {l:List Nat} {k:Nat} (h:k<l.length) (x:Nat):bg (l.set k x)+B9 ^ k * l.getD k 0=bg l+B9 ^ k * x:=by
 induction l generalizing k with
 | nil=>cases h
 | cons a r ih =>
  cases k with
  | zero=>simp [bg];omega
  | succ k =>
   have h1:=ih (k:=k) (by simpa using h)
   simp only [List.set_cons_succ,bg,List.getD_cons_succ,Nat.pow_succ]
   have h2:B9 * bg (r.set k x)+B9 * (B9 ^ k * r.getD k 0)=B9 * bg r+B9 * (B9 ^ k * x):=by rw [←Nat.mul_add,h1,Nat.mul_add]
   rw [Nat.mul_comm (B9 ^ k) B9,Nat.mul_assoc,Nat.mul_assoc]
   omega
theorem vH (k:Nat):bg (List.replicate k 0)=0:=by
 induction k with
 | zero=>rfl
 | succ k ih=>simp [List.replicate_succ,bg,ih]
def eI (a b:Nat):Int:=if a<b then -1 else if b<a then 1 else 0
theorem nL {l m:List Nat} (hl:Can l) (hm:Can m) (h:l.length<m.length):bg l<bg m:=by
 have h1:=gE hl.1
 have h2:bg m≠0:=fun e=>by
  have:=pr hm
  rw [e,bE] at this
  rw [this] at h;cases h
 have h3:=qb h2
 rw [←pr hm] at h3
 exact Nat.lt_of_lt_of_le h1 (Nat.le_trans (Nat.pow_le_pow_right (by decide) (by omega)) h3)
theorem mG (l:List Nat) (k:Nat):bg l=bg (l.take k)+B9 ^ (l.take k).length * bg (l.drop k):=by
 rw [←fv,List.take_append_drop]
theorem zU {l m:List Nat} (hl:bt l) (hm:bt m) (he:l.length=m.length) {i:Nat} (hi:i<l.length) (hd:l.drop (i+1)=m.drop (i+1)) (hlt:l.getD i 0<m.getD i 0):bg l<bg m:=by
 rw [mG l (i+1),mG m (i+1),hd,cY,cY,List.length_take,List.length_take,Nat.min_eq_left (by omega),Nat.min_eq_left (by omega)]
 have h1:=gE (l:=l.take i) fun x hx=>hl x (List.mem_of_mem_take hx)
 rw [List.length_take,Nat.min_eq_left (by omega)] at h1
 have h2:B9 ^ i * (l.getD i 0+1)≤B9 ^ i * m.getD i 0:=Nat.mul_le_mul_left _ hlt
 rw [Nat.mul_add] at h2
 omega
theorem w7 {l m:List Nat} (he:l.length=m.length) {i:Nat} (hi:i<l.length) (hd:l.drop (i+1)=m.drop (i+1)) (hx:l.getD i 0=m.getD i 0):l.drop i=m.drop i:=by
 have hm:i<m.length:=by omega
 rw [List.drop_eq_getElem_cons hi,List.drop_eq_getElem_cons hm,hd]
 have h1:l.getD i 0=l[i]:=by simp [List.getD,hi]
 have h2:m.getD i 0=m[i]:=by simp [List.getD,hm]
 rw [←h1,←h2,hx]
end Nt
end Go.Proofs.YtdekcppfpgeneaaGreatDoor
namespace Go.Proofs.YtdekcppfpgeneaaGreatDoor
open Go Go.RowKit
namespace Av
attribute [local irreducible] AW aL aH
open Nt
theorem qR {n:Nat} (h:n<18446744073709551616):IntKind.u64.wrap (n:Int)=(n:Int):=by rw [IntKind.wrap_u64];omega
theorem uw {a b:Nat} (h:a+b<18446744073709551616):IntKind.u64.wrap ((a:Int)+(b:Int))=((a+b:Nat):Int):=by rw [←Int.natCast_add];exact qR h
theorem BG {a b:Nat} (h:b≤a) (h2:a<18446744073709551616):IntKind.u64.wrap ((a:Int) - (b:Int))=((a - b:Nat):Int):=by rw [←Int.ofNat_sub h];exact qR (by omega)
theorem C6 {a b:Nat} (h:a * b<18446744073709551616):IntKind.u64.wrap ((a:Int) * (b:Int))=((a * b:Nat):Int):=by rw [←Int.natCast_mul];exact qR h
theorem C7 (a:Nat):((a:Int)).tmod 1000000000=((a % B9:Nat):Int):=rfl
theorem C8 {a:Nat} (h:a<18446744073709551616):IntKind.u64.wrap (((a:Int)).tdiv 1000000000)=((a / B9:Nat):Int):=by
 show IntKind.u64.wrap ((a / B9:Nat):Int)=_
 exact qR (Nat.lt_of_le_of_lt (Nat.div_le_self _ _) h)
theorem Cm:((1000000000:Int)=0)=False:=by simp
theorem iZ {l:List Nat} {k:Nat} (h:k<l.length):l[k]=l.getD k 0:=by simp [List.getD,h]
end Av
end Go.Proofs.YtdekcppfpgeneaaGreatDoor
namespace Go.Proofs.YtdekcppfpgeneaaGreatDoor
open Go Go.RowKit
namespace Av
attribute [local irreducible] AW aL aH
open Nt
theorem kG (n:Nat):List.replicate n [AV.d (.v (.int .u64 0))]=dI (cw (List.replicate n 0)):=by simp [cw,dI,dL]
theorem AI {l:List Nat} {k j x:Nat} (h:l.length=k):(l++List.replicate (j+1) 0).set k x=(l++[x])++List.replicate j 0:=by
 subst h
 rw [List.set_append_right _ _ (Nat.le_refl _),Nat.sub_self,List.replicate_succ]
 simp
set_option maxRecDepth 100000 in
set_option maxHeartbeats 4000000 in
theorem DA (base:World) (p q:List Nat) (hp:bt p) (hq:bt q) (hbp:p.length≤1000000) (hpq:q.length≤p.length) (hv:bg q≤bg p):aI Tryz.prog base 145 [.d (aO p),.d (aO q)] (.d (aO (limbs (bg p - bg q)))):=by
 refine aC af Tryz.call145 Tryz.func145 rfl fun H hB hb hF => ?_
 rw [Tryz.results145,Tryz.ntmps145]
 simp only [aA,List.length_cons,List.length_nil,List.replicate,List.cons_append,List.nil_append,Nat.reduceAdd,Nat.reduceSub]
 clear hF hb
 have hnl:=bO p
 have hml:=bO q
 have c1:(0:Int)≤(p.length:Int):=by omega
 have c2:(p.length:Int)≤9223372036854775807:=by omega
 have c3:((8:Nat):Int) * (p.length:Int)≤281474976710656:=by omega
 repeat refine ag ?_
 refine zr af ?_
 repeat (refine aa ?_;first | (apply ai;rfl;simp only [aj,avs,tts,Nat.reduceAdd,Nat.reduceMul,Nat.reduceSub,Nat.reduceEqDiff,Nat.reduceLT,Nat.reduceLeDiff,Int.reduceToNat,Int.reduceLE,Int.reduceLT,Int.toNat_natCast,reduceCtorEq]<;>exact rr) | (refine zg rfl ?_;first | refine ah ?_ | refine zo ?_))
 refine ae ?_
 repeat refine ag ?_
 refine zr af ?_
 repeat (refine aa ?_;first | (apply ai;rfl;simp only [aj,avs,tts,Nat.reduceAdd,Nat.reduceMul,Nat.reduceSub,Nat.reduceEqDiff,Nat.reduceLT,Nat.reduceLeDiff,Int.reduceToNat,Int.reduceLE,Int.reduceLT,Int.toNat_natCast,reduceCtorEq,aO,hnl,c1,c2,c3,Int.le_refl,kG]<;>exact rr) | (refine zg rfl ?_;first | refine ah ?_ | refine zo ?_))
 refine ae ?_
 repeat refine ag ?_
 refine zr af ?_
 repeat (refine aa ?_;first | (apply ai;rfl;simp only [aj,avs,tts,Nat.reduceAdd,Nat.reduceMul,Nat.reduceSub,Nat.reduceEqDiff,Nat.reduceLT,Nat.reduceLeDiff,Int.reduceToNat,Int.reduceLE,Int.reduceLT,Int.toNat_natCast,reduceCtorEq]<;>exact rr) | (refine zg rfl ?_;first | refine ah ?_ | refine zo ?_))
 refine ae ?_
 repeat refine ag ?_
 refine zr af ?_
 repeat (refine aa ?_;first | (apply ai;rfl;simp only [aj,avs,tts,Nat.reduceAdd,Nat.reduceMul,Nat.reduceSub,Nat.reduceEqDiff,Nat.reduceLT,Nat.reduceLeDiff,Int.reduceToNat,Int.reduceLE,Int.reduceLT,Int.toNat_natCast,reduceCtorEq,aO,hnl]<;>exact rr) | (refine zg rfl ?_;first | refine ah ?_ | refine zo ?_))
 refine ae ?_
 refine an (aZ (H0:=H++[.row 167 1 0 (dI (cw (List.replicate p.length 0)))]) (fun r env K'=>∃k,r=p.length - k∧k≤p.length∧K'=H++[.row 167 1 0 (dI (cw ((cU p q k).1++List.replicate (p.length - k) 0)))]∧env = .undef :: .d (aO q) :: .undef :: .undef :: .undef :: .ms H.length 0 p.length :: .d (.v (.int .u64 ((cU p q k).2:Int)))::List.replicate 6 .undef ++ .d (aO p)::iA p.length::iA k::List.replicate 29 .undef) ?_ ⟨0,rfl,Nat.zero_le _,rfl,rfl⟩ ?_)
 ·exact ⟨by simp [aJ,List.replicate,aO,iA,cU],.inl rfl⟩
 rintro r env K' ⟨k,rfl,hk,rfl,rfl⟩ hN
 simp only [List.replicate,aO,iA,List.cons_append,List.nil_append]
 repeat refine ag ?_
 refine zr af ?_
 repeat (refine aa ?_;first | (apply ai;rfl;simp only [aj,avs,tts,Nat.reduceAdd,Nat.reduceMul,Nat.reduceSub,Nat.reduceEqDiff,Nat.reduceLT,Nat.reduceLeDiff,Int.reduceToNat,Int.reduceLE,Int.reduceLT,Int.toNat_natCast,reduceCtorEq]<;>exact rr) | (refine zg rfl ?_;first | refine ah ?_ | refine zo ?_))
 refine ae ?_
 repeat refine ag ?_
 refine am rfl rfl (fun hb => ?_) fun hb => ?_
 ·have hlt:k<p.length:=by simpa using hb
  have hix:(0:Int)≤(k:Int):=by omega
  have g1:=fX p hlt
  rw [iZ hlt] at g1
  have b1:p.getD k 0<1000000000:=dc hp k
  have b2:q.getD k 0<1000000000:=dc hq k
  have b3:=pL p q k
  have hol:(dI (cw ((cU p q k).1++List.replicate (p.length - k) 0))).length=p.length:=by rw [bc,bO,List.length_append,dT,List.length_replicate];omega
  have hgl:(dI (cw ((cU p q k).1++List.replicate (p.length - k) 0))).getD k []=[.d (.v (.int .u64 0))]:=by
   rw [jP _ (by rw [List.length_append,dT,List.length_replicate];omega),List.getElem_append_right (by rw [dT];omega)];simp
  refine ap ?_
  repeat refine ag ?_
  refine an ?_
  repeat refine ag ?_
  refine zr af ?_
  repeat (refine aa ?_;first | (apply ai;rfl;simp only [aj,avs,tts,Nat.reduceAdd,Nat.reduceMul,Nat.reduceSub,Nat.reduceEqDiff,Nat.reduceLT,Nat.reduceLeDiff,Int.reduceToNat,Int.reduceLE,Int.reduceLT,Int.toNat_natCast,reduceCtorEq,hnl,hix,hlt,g1]<;>exact rr) | (refine zg rfl ?_;first | refine ah ?_ | refine zo ?_))
  refine ae ?_
  repeat refine ag ?_
  refine zr af ?_
  repeat (refine aa ?_;first | (apply ai;rfl;simp only [aj,avs,tts,Nat.reduceAdd,Nat.reduceMul,Nat.reduceSub,Nat.reduceEqDiff,Nat.reduceLT,Nat.reduceLeDiff,Int.reduceToNat,Int.reduceLE,Int.reduceLT,Int.toNat_natCast,reduceCtorEq]<;>exact rr) | (refine zg rfl ?_;first | refine ah ?_ | refine zo ?_))
  refine ae ?_
  repeat refine ag ?_
  refine zr af ?_
  repeat (refine aa ?_;first | (apply ai;rfl;simp only [aj,avs,tts,Nat.reduceAdd,Nat.reduceMul,Nat.reduceSub,Nat.reduceEqDiff,Nat.reduceLT,Nat.reduceLeDiff,Int.reduceToNat,Int.reduceLE,Int.reduceLT,Int.toNat_natCast,reduceCtorEq,hml]<;>exact rr) | (refine zg rfl ?_;first | refine ah ?_ | refine zo ?_))
  refine ae ?_
  repeat refine ag ?_
  refine eh (Q0:=fun env K'=>K'=H++[.row 167 1 0 (dI (cw ((cU p q k).1++List.replicate (p.length - k) 0)))]∧env = .undef :: .d (aO q) :: .undef :: .undef :: .undef :: .ms H.length 0 p.length :: .undef::iA k :: .d (.v (.int .u64 (p.getD k 0:Int))) :: .d (.v (.int .u64 (((cU p q k).2+q.getD k 0:Nat):Int)))::List.replicate 3 .undef ++ .d (aO p)::iA p.length::iA k::List.replicate 29 .undef) ?_ ?_
  ·repeat refine ag ?_
   refine am rfl rfl (fun hb => ?_) fun hb => ?_
   ·have hlq:k<q.length:=by simpa using hb
    have g2:=fX q hlq
    rw [iZ hlq] at g2
    have s2:=uw (a:=(cU p q k).2) (b:=q.getD k 0) (by omega)
    repeat refine ag ?_
    refine zr af ?_
    repeat (refine aa ?_;first | (apply ai;rfl;simp only [aj,avs,tts,Nat.reduceAdd,Nat.reduceMul,Nat.reduceSub,Nat.reduceEqDiff,Nat.reduceLT,Nat.reduceLeDiff,Int.reduceToNat,Int.reduceLE,Int.reduceLT,Int.toNat_natCast,reduceCtorEq,hml,hix,hlq,g2,s2]<;>exact rr) | (refine zg rfl ?_;first | refine ah ?_ | refine zo ?_))
    refine ae ?_
    exact ⟨rfl,_,_,⟨by simp [aJ,List.replicate,aO,iA],.inl rfl⟩,rfl,rfl⟩
   ·have hlq:¬k<q.length:=by simpa using hb
    have g2:q.getD k 0=0:=by simp [List.getD,Nat.le_of_not_lt hlq]
    refine ap ⟨rfl,_,_,⟨?_,.inl rfl⟩,rfl,rfl⟩
    rw [g2]
    simp [aJ,List.replicate,aO,iA]
  rintro env K' ⟨rfl,rfl⟩
  simp only [List.replicate,aO,iA,List.cons_append,List.nil_append]
  have hsx:=oM p q k
  have hl0:=dT p q k
  have hj:p.length - k=(p.length - (k+1))+1:=by omega
  repeat refine ag ?_
  refine zr af ?_
  repeat (refine aa ?_;first | (apply ai;rfl;simp only [aj,avs,tts,Nat.reduceAdd,Nat.reduceMul,Nat.reduceSub,Nat.reduceEqDiff,Nat.reduceLT,Nat.reduceLeDiff,Int.reduceToNat,Int.reduceLE,Int.reduceLT,Int.toNat_natCast,reduceCtorEq]<;>exact rr) | (refine zg rfl ?_;first | refine ah ?_ | refine zo ?_))
  refine ae ?_
  have fin:∀(c x:Nat),cU p q (k+1)=((cU p q k).1++[x],c)→(dI (cw ((cU p q k).1++List.replicate (p.length - k) 0))).set k [.d (.v (.int .u64 (x:Int)))]=dI (cw ((cU p q (k+1)).1++List.replicate (p.length - (k+1)) 0)):=fun c x he=>by
   rw [jO,hj,AI hl0,he]
  generalize htk:(cU p q k).2+q.getD k 0=t at *
  repeat refine ag ?_
  refine zr af ?_
  repeat (refine aa ?_;first | (apply ai;rfl;simp only [aj,avs,tts,Nat.reduceAdd,Nat.reduceMul,Nat.reduceSub,Nat.reduceEqDiff,Nat.reduceLT,Nat.reduceLeDiff,Int.reduceToNat,Int.reduceLE,Int.reduceLT,Int.toNat_natCast,reduceCtorEq]<;>exact rr) | (refine zg rfl ?_;first | refine ah ?_ | refine zo ?_))
  refine ae ?_
  repeat refine ag ?_
  by_cases hlt2:p.getD k 0<t
  ·have e0:decide (((p.getD k 0:Nat):Int)<(t:Int))=true:=decide_eq_true (by omega)
   have s3:IntKind.u64.wrap (((p.getD k 0:Nat):Int)+1000000000)=((p.getD k 0+B9:Nat):Int):=uw (a:=p.getD k 0) (b:=B9) (by show _+1000000000<_;omega)
   have s4:=BG (a:=p.getD k 0+B9) (b:=t) (by show t≤_+1000000000;omega) (by show _+1000000000<_;omega)
   rw [if_pos hlt2] at hsx
   have hfin:=fin _ _ hsx
   refine eh (Q0:=fun env K'=>K'=H++[.row 167 1 0 (dI (cw ((cU p q k).1++List.replicate (p.length - k) 0)))]∧env = .undef :: .d (aO q) :: .undef :: .undef :: .undef :: .ms H.length 0 p.length :: .d (.v (.int .u64 ((1:Nat):Int)))::iA k :: .d (.v (.int .u64 ((p.getD k 0+B9:Nat):Int))) :: .d (.v (.int .u64 (t:Int)))::List.replicate 3 .undef ++ .d (aO p)::iA p.length::iA k::List.replicate 29 .undef) ?_ ?_
   ·repeat refine ag ?_
    refine am rfl rfl (fun hb => ?_) fun hb => ?_
    rotate_left
    ·rw [e0] at hb;cases hb
    repeat refine ag ?_
    refine zr af ?_
    repeat (refine aa ?_;first | (apply ai;rfl;simp only [aj,avs,tts,Nat.reduceAdd,Nat.reduceMul,Nat.reduceSub,Nat.reduceEqDiff,Nat.reduceLT,Nat.reduceLeDiff,Int.reduceToNat,Int.reduceLE,Int.reduceLT,Int.toNat_natCast,reduceCtorEq,s3]<;>exact rr) | (refine zg rfl ?_;first | refine ah ?_ | refine zo ?_))
    refine ae ?_
    repeat refine ag ?_
    refine zr af ?_
    repeat (refine aa ?_;first | (apply ai;rfl;simp only [aj,avs,tts,Nat.reduceAdd,Nat.reduceMul,Nat.reduceSub,Nat.reduceEqDiff,Nat.reduceLT,Nat.reduceLeDiff,Int.reduceToNat,Int.reduceLE,Int.reduceLT,Int.toNat_natCast,reduceCtorEq]<;>exact rr) | (refine zg rfl ?_;first | refine ah ?_ | refine zo ?_))
    refine ae ?_
    exact ⟨rfl,_,_,⟨by simp [aJ,List.replicate,aO,iA],.inl rfl⟩,rfl,rfl⟩
   rintro env K' ⟨rfl,rfl⟩
   simp only [List.replicate,aO,iA,List.cons_append,List.nil_append]
   repeat refine ag ?_
   refine zr af ?_
   repeat (refine aa ?_;first | (apply ai;rfl;simp only [aj,avs,tts,Nat.reduceAdd,Nat.reduceMul,Nat.reduceSub,Nat.reduceEqDiff,Nat.reduceLT,Nat.reduceLeDiff,Int.reduceToNat,Int.reduceLE,Int.reduceLT,Int.toNat_natCast,reduceCtorEq,s4,hol,hgl,hix,hlt,hfin,bQ]<;>exact rr) | (refine zg rfl ?_;first | refine ah ?_ | refine zo ?_))
   refine ae ?_
   repeat refine ag ?_
   refine zr af ?_
   repeat (refine aa ?_;first | (apply ai;rfl;simp only [aj,avs,tts,Nat.reduceAdd,Nat.reduceMul,Nat.reduceSub,Nat.reduceEqDiff,Nat.reduceLT,Nat.reduceLeDiff,Int.reduceToNat,Int.reduceLE,Int.reduceLT,Int.toNat_natCast,reduceCtorEq,aP hlt (by omega:p.length≤9223372036854775807)]<;>exact rr) | (refine zg rfl ?_;first | refine ah ?_ | refine zo ?_))
   refine ae ?_
   refine ⟨p.length - (k+1),_,_,by omega,⟨?_,.inl rfl⟩,k+1,rfl,hlt,rfl,rfl⟩
   rw [hsx];simp [aJ,List.replicate,aO,iA]
  ·have e0:decide (((p.getD k 0:Nat):Int)<(t:Int))=false:=decide_eq_false (by omega)
   have s4:=BG (a:=p.getD k 0) (b:=t) (by omega) (by omega)
   rw [if_neg hlt2] at hsx
   have hfin:=fin _ _ hsx
   refine eh (Q0:=fun env K'=>K'=H++[.row 167 1 0 (dI (cw ((cU p q k).1++List.replicate (p.length - k) 0)))]∧env = .undef :: .d (aO q) :: .undef :: .undef :: .undef :: .ms H.length 0 p.length :: .d (.v (.int .u64 ((0:Nat):Int)))::iA k :: .d (.v (.int .u64 ((p.getD k 0:Nat):Int))) :: .d (.v (.int .u64 (t:Int)))::List.replicate 3 .undef ++ .d (aO p)::iA p.length::iA k::List.replicate 29 .undef) ?_ ?_
   ·repeat refine ag ?_
    refine am rfl rfl (fun hb => ?_) fun hb => ?_
    ·rw [e0] at hb;cases hb
    exact ap ⟨rfl,_,_,⟨by simp [aJ,List.replicate,aO,iA],.inl rfl⟩,rfl,rfl⟩
   rintro env K' ⟨rfl,rfl⟩
   simp only [List.replicate,aO,iA,List.cons_append,List.nil_append]
   repeat refine ag ?_
   refine zr af ?_
   repeat (refine aa ?_;first | (apply ai;rfl;simp only [aj,avs,tts,Nat.reduceAdd,Nat.reduceMul,Nat.reduceSub,Nat.reduceEqDiff,Nat.reduceLT,Nat.reduceLeDiff,Int.reduceToNat,Int.reduceLE,Int.reduceLT,Int.toNat_natCast,reduceCtorEq,s4,hol,hgl,hix,hlt,hfin,bQ]<;>exact rr) | (refine zg rfl ?_;first | refine ah ?_ | refine zo ?_))
   refine ae ?_
   repeat refine ag ?_
   refine zr af ?_
   repeat (refine aa ?_;first | (apply ai;rfl;simp only [aj,avs,tts,Nat.reduceAdd,Nat.reduceMul,Nat.reduceSub,Nat.reduceEqDiff,Nat.reduceLT,Nat.reduceLeDiff,Int.reduceToNat,Int.reduceLE,Int.reduceLT,Int.toNat_natCast,reduceCtorEq,aP hlt (by omega:p.length≤9223372036854775807)]<;>exact rr) | (refine zg rfl ?_;first | refine ah ?_ | refine zo ?_))
   refine ae ?_
   refine ⟨p.length - (k+1),_,_,by omega,⟨?_,.inl rfl⟩,k+1,rfl,hlt,rfl,rfl⟩
   rw [hsx];simp [aJ,List.replicate,aO,iA]
 ·refine aq ?_
  have hkl:k=p.length:=by simp at hb;omega
  subst hkl
  have ct:=mJ base (cU p q p.length).1 (by rw [dT];omega)
  rw [AC hp hq hpq hv] at ct
  have hol2:(cw (cU p q p.length).1).length=p.length:=by rw [bO,dT]
  rw [Nat.sub_self,List.replicate_zero,List.append_nil]
  repeat refine ag ?_
  refine zr af ?_
  repeat (refine aa ?_;first | (apply ai;rfl;simp only [aj,avs,tts,Nat.reduceAdd,Nat.reduceMul,Nat.reduceSub,Nat.reduceEqDiff,Nat.reduceLT,Nat.reduceLeDiff,Int.reduceToNat,Int.reduceLE,Int.reduceLT,Int.toNat_natCast,reduceCtorEq]<;>exact rr) | (refine zg rfl ?_;first | refine ah ?_ | refine zo ?_))
  refine eD (H.length) rfl (by simp only [avs]<;>rfl) (by simp only [avs,tts,Nat.reduceAdd,Nat.reduceMul,Nat.reduceSub,Nat.reduceEqDiff,Nat.reduceLT,Nat.reduceLeDiff,Int.reduceToNat,Int.reduceLE,Int.reduceLT,Int.toNat_natCast,reduceCtorEq,bU,bY,cP,bh,bc,unI,unL,Nat.add_eq_left,Nat.left_eq_add,Nat.one_ne_zero,hol2]<;>rfl) (by simp only [avs,tts,Nat.reduceAdd,Nat.reduceMul,Nat.reduceSub,Nat.reduceEqDiff,Nat.reduceLT,Nat.reduceLeDiff,Int.reduceToNat,Int.reduceLE,Int.reduceLT,Int.toNat_natCast,reduceCtorEq,bU,bY,cP,bh,bc,unI,unL,Nat.add_eq_left,Nat.left_eq_add,Nat.one_ne_zero,hol2]<;>rfl) (ct) (by simp only [avs]<;>rfl) ?_
  repeat (refine aa ?_;first | (apply ai;rfl;simp only [aj,avs,tts,Nat.reduceAdd,Nat.reduceMul,Nat.reduceSub,Nat.reduceEqDiff,Nat.reduceLT,Nat.reduceLeDiff,Int.reduceToNat,Int.reduceLE,Int.reduceLT,Int.toNat_natCast,reduceCtorEq]<;>exact rr) | (refine zg rfl ?_;first | refine ah ?_ | refine zo ?_))
  refine ae ?_
  exact aw ⟨_,rfl,[.dead],by simp,rfl⟩
end Av
end Go.Proofs.YtdekcppfpgeneaaGreatDoor
namespace Go.Proofs.YtdekcppfpgeneaaGreatDoor
open Go
namespace Nt
structure qO (p q:List Nat) (i:Nat) (out:List Nat):Prop where
 len:out.length=p.length+q.length
 ok:bt out
 val:bg out=bg (p.take i) * bg q
 hi:∀j,i+q.length≤j→out.getD j 0=0
structure s6 (p q:List Nat) (i k:Nat) (out:List Nat) (c:Nat):Prop where
 len:out.length=p.length+q.length
 ok:bt out
 car:c<1000000000
 val:bg out+B9 ^ (i+k) * c=bg (p.take i) * bg q+p.getD i 0 * (B9 ^ i * bg (q.take k))
 hi:∀j,i+q.length≤j→out.getD j 0=0
theorem qO.start (p q:List Nat):qO p q 0 (List.replicate (p.length+q.length) 0):=⟨by simp,fun x hx=>by rw [List.eq_of_mem_replicate hx];decide,by rw [vH];simp [bg],fun j _=>by simp only [List.getD,List.getElem?_replicate];split<;>rfl⟩
theorem qO.inner {p q out:List Nat} {i:Nat} (h:qO p q i out):s6 p q i 0 out 0:=⟨h.len,h.ok,by decide,by rw [h.val];simp [bg],h.hi⟩
theorem xX {l:List Nat} (h:bt l) (k:Nat) {x:Nat} (hx:x<B9):bt (l.set k x):=fun y hy=>by
 rcases List.mem_or_eq_of_mem_set hy with hy | rfl
 ·exact h y hy
 ·exact hx
theorem oZ {a b c d:Nat} (ha:a<1000000000) (hb:b<1000000000) (hc:c<1000000000) (hd:d<1000000000):d+a * b+c<1000000000 * 1000000000:=by
 have h1:a * b≤999999999 * 999999999:=Nat.mul_le_mul (by omega) (by omega)
 omega
theorem AX {V P B o a b c x y z w:Nat} (h1:V+P * o=z+P * (x % B)) (h2:z+P * c=w) (hx:x=o+a * b+c):V+P * B * (x / B)=w+P * (a * b):=by
 have h3:=Nat.mod_add_div x B
 have h4:P * (x % B)+P * B * (x / B)=P * x:=by rw [Nat.mul_assoc,←Nat.mul_add,h3]
 rw [hx] at h4
 rw [hx]
 rw [hx] at h1
 rw [Nat.mul_add P (o+a * b) c,Nat.mul_add P o (a * b)] at h4
 generalize P * ((o+a * b+c) % B)=u at *
 generalize P * B * ((o+a * b+c) / B)=v at *
 generalize P * (a * b)=t at *
 generalize P * o=r at *
 generalize P * c=q at *
 omega
theorem s6.step {p q out:List Nat} {i k c:Nat} (h:s6 p q i k out c) (hp:bt p) (hq:bt q) (hi:i<p.length) (hk:k<q.length) :
  s6 p q i (k+1) (out.set (i+k) ((out.getD (i+k) 0+p.getD i 0 * q.getD k 0+c) % B9)) ((out.getD (i+k) 0+p.getD i 0 * q.getD k 0+c) / B9):=by
 have hlen:=h.len
 have hb:=oZ (dc hp i) (dc hq k) h.car (dc h.ok (i+k))
 refine ⟨by simp [hlen],xX h.ok _ (Nat.mod_lt _ (by decide)),Nat.div_lt_of_lt_mul hb,?_,fun j hj => ?_⟩
 ·have h1:=qW (l:=out) (k:=i+k) (by omega) ((out.getD (i+k) 0+p.getD i 0 * q.getD k 0+c) % B9)
  have:=AX (y:=0) h1 h.val rfl
  rw [←Nat.add_assoc,Nat.pow_succ,this,cY,Nat.mul_add,Nat.mul_add,Nat.pow_add,Nat.add_assoc]
  congr 2
  rw [Nat.mul_assoc,Nat.mul_left_comm (B9 ^ k),Nat.mul_left_comm (B9 ^ i)]
 ·rw [List.getD_eq_getElem?_getD,List.getElem?_set_ne (by omega),←List.getD_eq_getElem?_getD]
  exact h.hi j hj
theorem s6.outer {p q out:List Nat} {i c:Nat} (h:s6 p q i q.length out c) (hi:i<p.length):qO p q (i+1) (out.set (i+q.length) c):=by
 have hlen:=h.len
 refine ⟨by simp [hlen],xX h.ok _ h.car,?_,fun j hj => ?_⟩
 ·have h1:=qW (l:=out) (k:=i+q.length) (by omega) c
  rw [h.hi _ (Nat.le_refl _),Nat.mul_zero,Nat.add_zero,h.val,List.take_length] at h1
  rw [h1,cY,Nat.add_mul]
  congr 1
  rw [Nat.mul_comm (B9 ^ i) (p.getD i 0),Nat.mul_assoc]
 ·rw [List.getD_eq_getElem?_getD,List.getElem?_set_ne (by omega),←List.getD_eq_getElem?_getD]
  exact h.hi j (by omega)
theorem qO.fin {p q out:List Nat} (h:qO p q p.length out):dy out=limbs (bg p * bg q):=by
 rw [di h.ok,h.val,List.take_length]
end Nt
end Go.Proofs.YtdekcppfpgeneaaGreatDoor
namespace Go.Proofs.YtdekcppfpgeneaaGreatDoor
open Go Go.RowKit
namespace Av
attribute [local irreducible] AW aL aH
open Nt
theorem gX {a b:Nat} (h:a+b≤9223372036854775807):IntKind.i64.wrap ((a:Int)+(b:Int))=((a+b:Nat):Int):=by rw [IntKind.wrap_i64];omega
set_option maxRecDepth 100000 in
set_option maxHeartbeats 4000000 in
theorem B6 (base:World) (p q:List Nat) (hp:bt p) (hq:bt q) (hbp:p.length≤1000000) (hbq:q.length≤1000000):aI Tryz.prog base 178 [.d (aO p),.d (aO q)] (.d (aO (limbs (bg p * bg q)))):=by
 refine aC af Tryz.call178 Tryz.func178 rfl fun H hB hb hF => ?_
 rw [Tryz.results178,Tryz.ntmps178]
 simp only [aA,List.length_cons,List.length_nil,List.replicate,List.cons_append,List.nil_append,Nat.reduceAdd,Nat.reduceSub]
 clear hF hb
 have hnl:=bO p
 have hml:=bO q
 have w0:=gX (a:=p.length) (b:=q.length) (by omega)
 have c1:(0:Int)≤((p.length+q.length:Nat):Int):=by omega
 have c2:((p.length+q.length:Nat):Int)≤9223372036854775807:=by omega
 have c3:((8:Nat):Int) * ((p.length+q.length:Nat):Int)≤281474976710656:=by omega
 repeat refine ag ?_
 refine zr af ?_
 repeat (refine aa ?_;first | (apply ai;rfl;simp only [aj,avs,tts,Nat.reduceAdd,Nat.reduceMul,Nat.reduceSub,Nat.reduceEqDiff,Nat.reduceLT,Nat.reduceLeDiff,Int.reduceToNat,Int.reduceLE,Int.reduceLT,Int.toNat_natCast,reduceCtorEq]<;>exact rr) | (refine zg rfl ?_;first | refine ah ?_ | refine zo ?_))
 refine ae ?_
 repeat refine ag ?_
 refine zr af ?_
 repeat (refine aa ?_;first | (apply ai;rfl;simp only [aj,avs,tts,Nat.reduceAdd,Nat.reduceMul,Nat.reduceSub,Nat.reduceEqDiff,Nat.reduceLT,Nat.reduceLeDiff,Int.reduceToNat,Int.reduceLE,Int.reduceLT,Int.toNat_natCast,reduceCtorEq,aO,hnl,hml,w0,c1,c2,c3,Int.le_refl,kG]<;>exact rr) | (refine zg rfl ?_;first | refine ah ?_ | refine zo ?_))
 refine ae ?_
 repeat refine ag ?_
 refine zr af ?_
 repeat (refine aa ?_;first | (apply ai;rfl;simp only [aj,avs,tts,Nat.reduceAdd,Nat.reduceMul,Nat.reduceSub,Nat.reduceEqDiff,Nat.reduceLT,Nat.reduceLeDiff,Int.reduceToNat,Int.reduceLE,Int.reduceLT,Int.toNat_natCast,reduceCtorEq,aO,hnl]<;>exact rr) | (refine zg rfl ?_;first | refine ah ?_ | refine zo ?_))
 refine ae ?_
 refine eh (Q0:=fun env K'=>∃out,qO p q p.length out∧K'=H++[.row 167 1 0 (dI (cw out))]∧env = .d (aO p) :: .d (aO q) :: .undef :: .undef :: .undef :: .ms H.length 0 (p.length+q.length)::List.replicate 58 .undef) ?_ ?_
 ·refine an (aZ (H0:=H++[.row 167 1 0 (dI (cw (List.replicate (p.length+q.length) 0)))]) (fun r env K'=>∃i out,r=p.length - i∧i≤p.length∧qO p q i out∧K'=H++[.row 167 1 0 (dI (cw out))]∧env = .d (aO p) :: .d (aO q) :: .undef :: .undef :: .undef :: .ms H.length 0 (p.length+q.length)::List.replicate 12 .undef ++ .d (aO p)::iA p.length::iA i::List.replicate 43 .undef) ?_ ⟨0,_,rfl,Nat.zero_le _,.start p q,rfl,rfl⟩ ?_)
  ·exact ⟨by simp [aJ,List.replicate,aO,iA],.inl rfl⟩
  rintro r env K' ⟨i,out,rfl,hi,hO,rfl,rfl⟩ hN
  simp only [List.replicate,aO,iA,List.cons_append,List.nil_append]
  repeat refine ag ?_
  refine zr af ?_
  repeat (refine aa ?_;first | (apply ai;rfl;simp only [aj,avs,tts,Nat.reduceAdd,Nat.reduceMul,Nat.reduceSub,Nat.reduceEqDiff,Nat.reduceLT,Nat.reduceLeDiff,Int.reduceToNat,Int.reduceLE,Int.reduceLT,Int.toNat_natCast,reduceCtorEq]<;>exact rr) | (refine zg rfl ?_;first | refine ah ?_ | refine zo ?_))
  refine ae ?_
  repeat refine ag ?_
  refine am rfl rfl (fun hb => ?_) fun hb => ?_
  rotate_left
  ·refine aq ?_
   have hil:i=p.length:=by simp at hb;omega
   subst hil
   exact ⟨rfl,_,_,⟨by simp [aJ,List.replicate,aO,iA],.inl rfl⟩,out,hO,rfl,rfl⟩
  have hlt:i<p.length:=by simpa using hb
  have hix:(0:Int)≤(i:Int):=by omega
  have g1:=fX p hlt
  rw [iZ hlt] at g1
  have b1:p.getD i 0<1000000000:=dc hp i
  refine ap ?_
  repeat refine ag ?_
  refine an ?_
  repeat refine ag ?_
  refine zr af ?_
  repeat (refine aa ?_;first | (apply ai;rfl;simp only [aj,avs,tts,Nat.reduceAdd,Nat.reduceMul,Nat.reduceSub,Nat.reduceEqDiff,Nat.reduceLT,Nat.reduceLeDiff,Int.reduceToNat,Int.reduceLE,Int.reduceLT,Int.toNat_natCast,reduceCtorEq,hnl,hix,hlt,g1]<;>exact rr) | (refine zg rfl ?_;first | refine ah ?_ | refine zo ?_))
  refine ae ?_
  repeat refine ag ?_
  refine zr af ?_
  repeat (refine aa ?_;first | (apply ai;rfl;simp only [aj,avs,tts,Nat.reduceAdd,Nat.reduceMul,Nat.reduceSub,Nat.reduceEqDiff,Nat.reduceLT,Nat.reduceLeDiff,Int.reduceToNat,Int.reduceLE,Int.reduceLT,Int.toNat_natCast,reduceCtorEq]<;>exact rr) | (refine zg rfl ?_;first | refine ah ?_ | refine zo ?_))
  refine ae ?_
  repeat refine ag ?_
  refine zr af ?_
  repeat (refine aa ?_;first | (apply ai;rfl;simp only [aj,avs,tts,Nat.reduceAdd,Nat.reduceMul,Nat.reduceSub,Nat.reduceEqDiff,Nat.reduceLT,Nat.reduceLeDiff,Int.reduceToNat,Int.reduceLE,Int.reduceLT,Int.toNat_natCast,reduceCtorEq,hml]<;>exact rr) | (refine zg rfl ?_;first | refine ah ?_ | refine zo ?_))
  refine ae ?_
  refine eh (Q0:=fun env K'=>∃out c,s6 p q i q.length out c∧K'=H++[.row 167 1 0 (dI (cw out))]∧env = .d (aO p) :: .d (aO q) :: .undef :: .undef :: .undef :: .ms H.length 0 (p.length+q.length)::iA i :: .undef :: .d (.v (.int .u64 ((c:Nat):Int)))::List.replicate 9 .undef ++ .d (aO p)::iA p.length::iA i::List.replicate 43 .undef) ?_ ?_
  ·refine an (aZ (H0:=H++[.row 167 1 0 (dI (cw out))]) (fun r env K'=>∃k out c,r=q.length - k∧k≤q.length∧s6 p q i k out c∧K'=H++[.row 167 1 0 (dI (cw out))]∧env = .d (aO p) :: .d (aO q) :: .undef :: .undef :: .undef :: .ms H.length 0 (p.length+q.length)::iA i :: .d (.v (.int .u64 ((p.getD i 0:Nat):Int))) :: .d (.v (.int .u64 ((c:Nat):Int)))::List.replicate 9 .undef ++ .d (aO p)::iA p.length::iA i::List.replicate 4 .undef ++ .d (aO q)::iA q.length::iA k::List.replicate 36 .undef) ?_ ⟨0,_,0,rfl,Nat.zero_le _,hO.inner,rfl,rfl⟩ ?_)
   ·exact ⟨by simp [aJ,List.replicate,aO,iA],.inl rfl⟩
   clear hO hN
   rintro r env K' ⟨k,out,c,rfl,hk,hI,rfl,rfl⟩ hN
   simp only [List.replicate,aO,iA,List.cons_append,List.nil_append]
   repeat refine ag ?_
   refine zr af ?_
   repeat (refine aa ?_;first | (apply ai;rfl;simp only [aj,avs,tts,Nat.reduceAdd,Nat.reduceMul,Nat.reduceSub,Nat.reduceEqDiff,Nat.reduceLT,Nat.reduceLeDiff,Int.reduceToNat,Int.reduceLE,Int.reduceLT,Int.toNat_natCast,reduceCtorEq]<;>exact rr) | (refine zg rfl ?_;first | refine ah ?_ | refine zo ?_))
   refine ae ?_
   repeat refine ag ?_
   refine am rfl rfl (fun hb => ?_) fun hb => ?_
   rotate_left
   ·refine aq ?_
    have hil:k=q.length:=by simp at hb;omega
    subst hil
    exact ⟨rfl,_,_,⟨by simp [aJ,List.replicate,aO,iA],.inl rfl⟩,out,c,hI,rfl,rfl⟩
   have hlk:k<q.length:=by simpa using hb
   have hkx:(0:Int)≤(k:Int):=by omega
   have g2:=fX q hlk
   rw [iZ hlk] at g2
   have b2:q.getD k 0<1000000000:=dc hq k
   have hik:i+k<out.length:=by rw [hI.len];omega
   have hik2:i+k<p.length+q.length:=by omega
   have hikx:(0:Int)≤((i+k:Nat):Int):=by omega
   have g3:=jP out hik
   rw [iZ hik] at g3
   have b3:out.getD (i+k) 0<1000000000:=dc hI.ok (i+k)
   have hol:(dI (cw out)).length=p.length+q.length:=by rw [bc,bO,hI.len]
   have w2:=gX (a:=i) (b:=k) (by omega)
   have hbd:=oZ b1 b2 hI.car b3
   have s1:=C6 (a:=p.getD i 0) (b:=q.getD k 0) (by omega)
   have s2:=uw (a:=out.getD (i+k) 0) (b:=p.getD i 0 * q.getD k 0) (by omega)
   have s3:=uw (a:=out.getD (i+k) 0+p.getD i 0 * q.getD k 0) (b:=c) (by omega)
   have s4:=C8 (a:=out.getD (i+k) 0+p.getD i 0 * q.getD k 0+c) (by omega)
   have hst:=hI.step hp hq hlt hlk
   refine ap ?_
   repeat refine ag ?_
   refine an ?_
   repeat refine ag ?_
   refine zr af ?_
   repeat (refine aa ?_;first | (apply ai;rfl;simp only [aj,avs,tts,Nat.reduceAdd,Nat.reduceMul,Nat.reduceSub,Nat.reduceEqDiff,Nat.reduceLT,Nat.reduceLeDiff,Int.reduceToNat,Int.reduceLE,Int.reduceLT,Int.toNat_natCast,reduceCtorEq,hml,hkx,hlk,g2]<;>exact rr) | (refine zg rfl ?_;first | refine ah ?_ | refine zo ?_))
   refine ae ?_
   repeat refine ag ?_
   refine zr af ?_
   repeat (refine aa ?_;first | (apply ai;rfl;simp only [aj,avs,tts,Nat.reduceAdd,Nat.reduceMul,Nat.reduceSub,Nat.reduceEqDiff,Nat.reduceLT,Nat.reduceLeDiff,Int.reduceToNat,Int.reduceLE,Int.reduceLT,Int.toNat_natCast,reduceCtorEq,w2,hol,hikx,hik2,g3,s1,s2,s3]<;>exact rr) | (refine zg rfl ?_;first | refine ah ?_ | refine zo ?_))
   refine ae ?_
   repeat refine ag ?_
   refine zr af ?_
   repeat (refine aa ?_;first | (apply ai;rfl;simp only [aj,avs,tts,Nat.reduceAdd,Nat.reduceMul,Nat.reduceSub,Nat.reduceEqDiff,Nat.reduceLT,Nat.reduceLeDiff,Int.reduceToNat,Int.reduceLE,Int.reduceLT,Int.toNat_natCast,reduceCtorEq,w2,hol,hikx,hik2,g3,C7,Cm,bQ,jO]<;>exact rr) | (refine zg rfl ?_;first | refine ah ?_ | refine zo ?_))
   refine ae ?_
   repeat refine ag ?_
   refine zr af ?_
   repeat (refine aa ?_;first | (apply ai;rfl;simp only [aj,avs,tts,Nat.reduceAdd,Nat.reduceMul,Nat.reduceSub,Nat.reduceEqDiff,Nat.reduceLT,Nat.reduceLeDiff,Int.reduceToNat,Int.reduceLE,Int.reduceLT,Int.toNat_natCast,reduceCtorEq,s4,Cm]<;>exact rr) | (refine zg rfl ?_;first | refine ah ?_ | refine zo ?_))
   refine ae ?_
   repeat refine ag ?_
   refine zr af ?_
   repeat (refine aa ?_;first | (apply ai;rfl;simp only [aj,avs,tts,Nat.reduceAdd,Nat.reduceMul,Nat.reduceSub,Nat.reduceEqDiff,Nat.reduceLT,Nat.reduceLeDiff,Int.reduceToNat,Int.reduceLE,Int.reduceLT,Int.toNat_natCast,reduceCtorEq,aP hlk (by omega:q.length≤9223372036854775807)]<;>exact rr) | (refine zg rfl ?_;first | refine ah ?_ | refine zo ?_))
   refine ae ?_
   refine ⟨q.length - (k+1),_,_,by omega,⟨?_,.inl rfl⟩,k+1,_,_,rfl,hlk,hst,rfl,rfl⟩
   simp [aJ,List.replicate,aO,iA]
  clear hO
  rintro env K' ⟨out,c,hI,rfl,rfl⟩
  simp only [List.replicate,aO,iA,List.cons_append,List.nil_append]
  have hol:(dI (cw out)).length=p.length+q.length:=by rw [bc,bO,hI.len]
  have w3:=gX (a:=i) (b:=q.length) (by omega)
  have hik:i+q.length<out.length:=by rw [hI.len];omega
  have hik2:i+q.length<p.length+q.length:=by omega
  have hikx:(0:Int)≤((i+q.length:Nat):Int):=by omega
  have g3:=jP out hik
  have hst:=hI.outer hlt
  repeat refine ag ?_
  refine zr af ?_
  repeat (refine aa ?_;first | (apply ai;rfl;simp only [aj,avs,tts,Nat.reduceAdd,Nat.reduceMul,Nat.reduceSub,Nat.reduceEqDiff,Nat.reduceLT,Nat.reduceLeDiff,Int.reduceToNat,Int.reduceLE,Int.reduceLT,Int.toNat_natCast,reduceCtorEq,hml,w3,hol,hikx,hik2,g3,bQ,jO]<;>exact rr) | (refine zg rfl ?_;first | refine ah ?_ | refine zo ?_))
  refine ae ?_
  repeat refine ag ?_
  refine zr af ?_
  repeat (refine aa ?_;first | (apply ai;rfl;simp only [aj,avs,tts,Nat.reduceAdd,Nat.reduceMul,Nat.reduceSub,Nat.reduceEqDiff,Nat.reduceLT,Nat.reduceLeDiff,Int.reduceToNat,Int.reduceLE,Int.reduceLT,Int.toNat_natCast,reduceCtorEq,aP hlt (by omega:p.length≤9223372036854775807)]<;>exact rr) | (refine zg rfl ?_;first | refine ah ?_ | refine zo ?_))
  refine ae ?_
  refine ⟨p.length - (i+1),_,_,by omega,⟨?_,.inl rfl⟩,i+1,_,rfl,hlt,hst,rfl,rfl⟩
  simp [aJ,List.replicate,aO,iA]
 rintro env K' ⟨out,hO,rfl,rfl⟩
 simp only [List.replicate,aO,iA,List.cons_append,List.nil_append]
 have ct:=mJ base out (by rw [hO.len];omega)
 rw [hO.fin] at ct
 have hol2:(cw out).length=p.length+q.length:=by rw [bO,hO.len]
 repeat refine ag ?_
 refine zr af ?_
 repeat (refine aa ?_;first | (apply ai;rfl;simp only [aj,avs,tts,Nat.reduceAdd,Nat.reduceMul,Nat.reduceSub,Nat.reduceEqDiff,Nat.reduceLT,Nat.reduceLeDiff,Int.reduceToNat,Int.reduceLE,Int.reduceLT,Int.toNat_natCast,reduceCtorEq]<;>exact rr) | (refine zg rfl ?_;first | refine ah ?_ | refine zo ?_))
 refine eD (H.length) rfl (by simp only [avs]<;>rfl) (by simp only [avs,tts,Nat.reduceAdd,Nat.reduceMul,Nat.reduceSub,Nat.reduceEqDiff,Nat.reduceLT,Nat.reduceLeDiff,Int.reduceToNat,Int.reduceLE,Int.reduceLT,Int.toNat_natCast,reduceCtorEq,bU,bY,cP,bh,bc,unI,unL,Nat.add_eq_left,Nat.left_eq_add,Nat.one_ne_zero,hol2]<;>rfl) (by simp only [avs,tts,Nat.reduceAdd,Nat.reduceMul,Nat.reduceSub,Nat.reduceEqDiff,Nat.reduceLT,Nat.reduceLeDiff,Int.reduceToNat,Int.reduceLE,Int.reduceLT,Int.toNat_natCast,reduceCtorEq,bU,bY,cP,bh,bc,unI,unL,Nat.add_eq_left,Nat.left_eq_add,Nat.one_ne_zero,hol2]<;>rfl) (ct) (by simp only [avs]<;>rfl) ?_
 repeat (refine aa ?_;first | (apply ai;rfl;simp only [aj,avs,tts,Nat.reduceAdd,Nat.reduceMul,Nat.reduceSub,Nat.reduceEqDiff,Nat.reduceLT,Nat.reduceLeDiff,Int.reduceToNat,Int.reduceLE,Int.reduceLT,Int.toNat_natCast,reduceCtorEq]<;>exact rr) | (refine zg rfl ?_;first | refine ah ?_ | refine zo ?_))
 refine ae ?_
 exact aw ⟨_,rfl,[.dead],by simp,rfl⟩
end Av
end Go.Proofs.YtdekcppfpgeneaaGreatDoor
namespace Go.Proofs.YtdekcppfpgeneaaGreatDoor
open Go Go.RowKit
namespace Av
open Nt
attribute [local go_sem] Oper.semAt_some
def uA (n:Int):AV := .d (.v (.int .u64 n))
def pD (l:List Nat) (k:Nat):Array Value := #[.int .i64 (((l.length - 1 - k:Nat):Int)),.int .u64 ((l.getD (l.length - 1 - k) 0:Nat):Int)]
def nS (l:List Nat):List (Array Value):=(List.range l.length).map (pD l)
theorem nQ (l:List Nat):(nS l).length=l.length:=by simp [nS]
theorem nR (l:List Nat) {k:Nat} (h:k<l.length):(nS l).getD k #[]=pD l k:=by simp [nS,h]
theorem oS {w:World} {imm:Nat→Prop} {b:Nat}:∀(l:List Nat) (o:Nat),bi w imm (cw l) b 1 o→∀j,j<l.length→w.cell? ⟨b,o+j,none⟩=some (.int .u64 ((l.getD j 0:Nat):Int))
 | [],o,_,j,h=>by cases h
 | a::r,o,h,j,hj=>by
  simp only [cw,List.map_cons,bi,aK] at h
  obtain ⟨_,⟨⟨_,c,h1,h2⟩,_⟩,h3⟩:=h
  simp only [aQ] at h2
  cases j with
  | zero=>rw [Nat.add_zero,h1,h2.1];rfl
  | succ j =>
   have:=oS r (o+1) h3 j (by simpa using hj)
   rw [show o+(j+1)=o+1+j by omega,this];rfl
set_option maxRecDepth 100000 in
set_option maxHeartbeats 1000000 in
theorem pC {P0:Prop} (l:List Nat) (ao:Option Addr) (b o g o2 cap:Nat) (l0:Nat) (J:Nat→World→Prop) (Jx:World→Prop) (W:World) (hlen:l.length≤1000000)
  (hc:∀k W1,J k W1→W1.cell? ⟨b,o,none⟩=some (.slice ao l.length cap)∧∀j,j<l.length→ao=some ⟨g,o2,none⟩∧W1.cell? ⟨g,o2+j,none⟩=some (.int .u64 ((l.getD j 0:Nat):Int)))
  (hY:∀k W1,k<l.length→J k W1→YieldAt Fence.wide 7 Tryz.prog l0 (pD l k) W1 fun e W'=>(e = .returned (.bool true)∧J (k+1) W')∨(e = .returned (.bool false)∧Jx W')) (h0:J 0 W) :
  CallsIn Fence.wide 8 Tryz.prog 213 #[.func (.yield l0) #[] #[],.pointer (some ⟨b,o,none⟩)] W fun e W'=>(∃v,e = .returned v)∧(J l.length W'∨Jx W'):=by
 refine callsIn_of_wp Tryz.func213 rfl trivial ?_ rfl
 simp only [Tryz.ntmps213,List.size_toArray,List.length_cons,List.length_nil,Nat.reduceAdd,Nat.reduceSub,Array.replicate_succ,Array.replicate_zero,List.push_toArray,List.append_toArray,List.nil_append,List.cons_append]
 have hc0:=(hc 0 W h0).1
 have hw0:wrap64 ((l.length:Int) - 1)=(l.length:Int) - 1:=IntWalk.wrap64_in _ (by omega)
 gi_wp2
 gi_loopw [3] (fun i wr=>∃k:Nat,k≤l.length∧i = .int .i64 ((l.length:Int) - 1 - k)∧J k wr) (fun i _=>(intOf i+1).toNat)
 case atStart=>exact ⟨0,Nat.zero_le _,by simp,h0⟩
 case round =>
  obtain ⟨k,hk,rfl,hJ⟩:=hrel
  by_cases hlt:k<l.length
  ·obtain ⟨m,hm⟩:∃m:Nat,m=l.length - 1 - k:=⟨_,rfl⟩
   have e1:(l.length:Int) - 1 - k=(m:Int):=by omega
   have hcw:=hc k wr hJ
   have hcb:=hcw.1
   have hcx:=(hcw.2 m (by omega)).2
   have hao:=(hcw.2 m (by omega)).1
   subst hao
   have hyk:=hY k wr hlt hJ
   unfold pD at hyk
   rw [←hm] at hyk
   obtain ⟨fn,tmps,assign,body,hy,hR⟩:=hyk
   have hge:decide (0≤(m:Int))=true:=by simp
   have hml:m<l.length:=by omega
   obtain ⟨x,hx⟩:∃x:Nat,x=l.getD m 0:=⟨_,rfl⟩
   rw [←hx] at hcx hy
   have hw1:wrap64 ((m:Int) - 1)=(m:Int) - 1:=IntWalk.wrap64_in _ (by omega)
   rw [e1]
   have E1:=Lib.hid e1
   clear hc hY hcw h0 hc0 hw0 hm e1 hx
   gi_wp2
   refine hR.mono ?_
   rintro e W3 (⟨rfl,hJ3⟩ | ⟨rfl,hJx3⟩)
   ·gi_wp2
    go_roundw
    case rel=>exact ⟨k+1,hlt,by have:=E1.out;congr 1;omega,hJ3⟩
    case measure=>simp [intOf]<;>omega
   ·gi_wp2
    refine bodyPost_ret (results_none rfl _ _ _) rfl ?_
    exact ⟨⟨_,rfl⟩,.inr hJx3⟩
  ·have e1:(l.length:Int) - 1 - k = -1:=by omega
   have hkl:k=l.length:=by omega
   rw [e1]
   subst hkl
   clear hc hY h0 hc0 hw0 e1
   gi_wp2
   go_end0
   exact ⟨⟨_,rfl⟩,.inl hJ⟩
end Av
end Go.Proofs.YtdekcppfpgeneaaGreatDoor
namespace Go.Proofs.YtdekcppfpgeneaaGreatDoor
open Go Go.RowKit
namespace Av
attribute [local irreducible] AW aL aH
open Nt
theorem B5 (base:World) (x:Int):aI Tryz.prog base 96 [iA x] (bA false):=by
 refine aC af Tryz.call96 Tryz.func96 rfl fun H hB hb hF => ?_
 rw [Tryz.results96,Tryz.ntmps96]
 simp only [aA,List.length_cons,List.length_nil,List.replicate,List.cons_append,List.nil_append,Nat.reduceAdd,Nat.reduceSub]
 clear hF hb hB
 have e:(!decide (x=x))=false:=by simp
 simp only [iA,bA]
 repeat refine ag ?_
 refine zr af ?_
 repeat (refine aa ?_;first | (apply ai;rfl;simp only [aj,avs,tts,seval]<;>exact rr) | (refine zg rfl ?_;first | refine ah ?_ | refine zo ?_))
 refine ae ?_
 repeat refine ag ?_
 refine zr af ?_
 repeat (refine aa ?_;first | (apply ai;rfl;simp only [aj,avs,tts,seval,e]<;>exact rr) | (refine zg rfl ?_;first | refine ah ?_ | refine zo ?_))
 refine ae ?_
 exact aw ⟨_,rfl,[],by simp,rfl⟩
theorem B3 (base:World) (x:Int):aI Tryz.prog base 214 [uA x] (bA false):=by
 refine aC af Tryz.call214 Tryz.func214 rfl fun H hB hb hF => ?_
 rw [Tryz.results214,Tryz.ntmps214]
 simp only [aA,List.length_cons,List.length_nil,List.replicate,List.cons_append,List.nil_append,Nat.reduceAdd,Nat.reduceSub]
 clear hF hb hB
 have e:(!decide (x=x))=false:=by simp
 simp only [uA,bA]
 repeat refine ag ?_
 refine zr af ?_
 repeat (refine aa ?_;first | (apply ai;rfl;simp only [aj,avs,tts,seval]<;>exact rr) | (refine zg rfl ?_;first | refine ah ?_ | refine zo ?_))
 refine ae ?_
 repeat refine ag ?_
 refine zr af ?_
 repeat (refine aa ?_;first | (apply ai;rfl;simp only [aj,avs,tts,seval,e]<;>exact rr) | (refine zg rfl ?_;first | refine ah ?_ | refine zo ?_))
 refine ae ?_
 exact aw ⟨_,rfl,[],by simp,rfl⟩
def gn (a b:Int):Int:=if a<b then -1 else if b<a then 1 else 0
set_option maxHeartbeats 4000000 in
theorem Ee (base:World) (a b:Int):aI Tryz.prog base 68 [iA a,iA b] (iA (gn a b)):=by
 refine aC af Tryz.call68 Tryz.func68 rfl fun H hB hb hF => ?_
 rw [Tryz.results68,Tryz.ntmps68]
 simp only [aA,List.length_cons,List.length_nil,List.replicate,List.cons_append,List.nil_append,Nat.reduceAdd,Nat.reduceSub]
 clear hF hb hB
 have ca:=B5 base a
 have cb:=B5 base b
 simp only [iA,bA] at ca cb ⊢
 repeat refine ag ?_
 refine zr af ?_
 repeat (refine aa ?_;first | (apply ai;rfl;simp only [aj,avs,tts,seval]<;>exact rr) | (refine zg rfl ?_;first | refine ah ?_ | refine zo ?_))
 refine ae ?_
 repeat refine ag ?_
 refine zr af ?_
 repeat (refine aa ?_;first | (apply ai;rfl;simp only [aj,avs,tts,seval]<;>exact rr) | (refine zg rfl ?_;first | refine ah ?_ | refine zo ?_))
 refine zP rfl (ca) ?_
 repeat (refine aa ?_;first | (apply ai;rfl;simp only [aj,avs,tts,seval]<;>exact rr) | (refine zg rfl ?_;first | refine ah ?_ | refine zo ?_))
 refine ae ?_
 repeat refine ag ?_
 refine zr af ?_
 repeat (refine aa ?_;first | (apply ai;rfl;simp only [aj,avs,tts,seval]<;>exact rr) | (refine zg rfl ?_;first | refine ah ?_ | refine zo ?_))
 refine zP rfl (cb) ?_
 repeat (refine aa ?_;first | (apply ai;rfl;simp only [aj,avs,tts,seval]<;>exact rr) | (refine zg rfl ?_;first | refine ah ?_ | refine zo ?_))
 refine ae ?_
 repeat refine ag ?_
 refine zr af ?_
 repeat (refine aa ?_;first | (apply ai;rfl;simp only [aj,avs,tts,seval]<;>exact rr) | (refine zg rfl ?_;first | refine ah ?_ | refine zo ?_))
 refine ae ?_
 repeat refine ag ?_
 refine am rfl rfl (fun hb => ?_) fun hb => ?_
 ·cases hb
 refine ap ?_
 repeat refine ag ?_
 refine zr af ?_
 repeat (refine aa ?_;first | (apply ai;rfl;simp only [aj,avs,tts,seval]<;>exact rr) | (refine zg rfl ?_;first | refine ah ?_ | refine zo ?_))
 refine ae ?_
 repeat refine ag ?_
 refine am rfl rfl (fun hb => ?_) fun hb => ?_
 ·cases hb
 refine ap ?_
 repeat refine ag ?_
 refine zr af ?_
 repeat (refine aa ?_;first | (apply ai;rfl;simp only [aj,avs,tts,seval]<;>exact rr) | (refine zg rfl ?_;first | refine ah ?_ | refine zo ?_))
 refine ae ?_
 repeat refine ag ?_
 refine am rfl rfl (fun hb => ?_) fun hb => ?_
 ·repeat refine ag ?_
  refine zr af ?_
  repeat (refine aa ?_;first | (apply ai;rfl;simp only [aj,avs,tts,seval]<;>exact rr) | (refine zg rfl ?_;first | refine ah ?_ | refine zo ?_))
  refine ae ?_
  have h1:a<b:=by simpa using hb
  refine aw ⟨_,rfl,[],by simp,?_⟩
  simp [bk,cM,gn,h1]
 have h1:¬a<b:=by simpa using hb
 refine ap ?_
 repeat refine ag ?_
 refine zr af ?_
 repeat (refine aa ?_;first | (apply ai;rfl;simp only [aj,avs,tts,seval]<;>exact rr) | (refine zg rfl ?_;first | refine ah ?_ | refine zo ?_))
 refine ae ?_
 repeat refine ag ?_
 refine am rfl rfl (fun hb => ?_) fun hb => ?_
 ·repeat refine ag ?_
  refine zr af ?_
  repeat (refine aa ?_;first | (apply ai;rfl;simp only [aj,avs,tts,seval]<;>exact rr) | (refine zg rfl ?_;first | refine ah ?_ | refine zo ?_))
  refine ae ?_
  have h2:b<a:=by simpa using hb
  refine aw ⟨_,rfl,[],by simp,?_⟩
  simp [bk,cM,gn,h1,h2]
 have h2:¬b<a:=by simpa using hb
 refine ap ?_
 repeat refine ag ?_
 refine zr af ?_
 repeat (refine aa ?_;first | (apply ai;rfl;simp only [aj,avs,tts,seval]<;>exact rr) | (refine zg rfl ?_;first | refine ah ?_ | refine zo ?_))
 refine ae ?_
 refine aw ⟨_,rfl,[],by simp,?_⟩
 simp [bk,cM,gn,h1,h2]
set_option maxHeartbeats 4000000 in
theorem Ed (base:World) (a b:Int):aI Tryz.prog base 182 [uA a,uA b] (iA (gn a b)):=by
 refine aC af Tryz.call182 Tryz.func182 rfl fun H hB hb hF => ?_
 rw [Tryz.results182,Tryz.ntmps182]
 simp only [aA,List.length_cons,List.length_nil,List.replicate,List.cons_append,List.nil_append,Nat.reduceAdd,Nat.reduceSub]
 clear hF hb hB
 have ca:=B3 base a
 have cb:=B3 base b
 simp only [iA,uA,bA] at ca cb ⊢
 repeat refine ag ?_
 refine zr af ?_
 repeat (refine aa ?_;first | (apply ai;rfl;simp only [aj,avs,tts,seval]<;>exact rr) | (refine zg rfl ?_;first | refine ah ?_ | refine zo ?_))
 refine ae ?_
 repeat refine ag ?_
 refine zr af ?_
 repeat (refine aa ?_;first | (apply ai;rfl;simp only [aj,avs,tts,seval]<;>exact rr) | (refine zg rfl ?_;first | refine ah ?_ | refine zo ?_))
 refine zP rfl (ca) ?_
 repeat (refine aa ?_;first | (apply ai;rfl;simp only [aj,avs,tts,seval]<;>exact rr) | (refine zg rfl ?_;first | refine ah ?_ | refine zo ?_))
 refine ae ?_
 repeat refine ag ?_
 refine zr af ?_
 repeat (refine aa ?_;first | (apply ai;rfl;simp only [aj,avs,tts,seval]<;>exact rr) | (refine zg rfl ?_;first | refine ah ?_ | refine zo ?_))
 refine zP rfl (cb) ?_
 repeat (refine aa ?_;first | (apply ai;rfl;simp only [aj,avs,tts,seval]<;>exact rr) | (refine zg rfl ?_;first | refine ah ?_ | refine zo ?_))
 refine ae ?_
 repeat refine ag ?_
 refine zr af ?_
 repeat (refine aa ?_;first | (apply ai;rfl;simp only [aj,avs,tts,seval]<;>exact rr) | (refine zg rfl ?_;first | refine ah ?_ | refine zo ?_))
 refine ae ?_
 repeat refine ag ?_
 refine am rfl rfl (fun hb => ?_) fun hb => ?_
 ·cases hb
 refine ap ?_
 repeat refine ag ?_
 refine zr af ?_
 repeat (refine aa ?_;first | (apply ai;rfl;simp only [aj,avs,tts,seval]<;>exact rr) | (refine zg rfl ?_;first | refine ah ?_ | refine zo ?_))
 refine ae ?_
 repeat refine ag ?_
 refine am rfl rfl (fun hb => ?_) fun hb => ?_
 ·cases hb
 refine ap ?_
 repeat refine ag ?_
 refine zr af ?_
 repeat (refine aa ?_;first | (apply ai;rfl;simp only [aj,avs,tts,seval]<;>exact rr) | (refine zg rfl ?_;first | refine ah ?_ | refine zo ?_))
 refine ae ?_
 repeat refine ag ?_
 refine am rfl rfl (fun hb => ?_) fun hb => ?_
 ·repeat refine ag ?_
  refine zr af ?_
  repeat (refine aa ?_;first | (apply ai;rfl;simp only [aj,avs,tts,seval]<;>exact rr) | (refine zg rfl ?_;first | refine ah ?_ | refine zo ?_))
  refine ae ?_
  have h1:a<b:=by simpa using hb
  refine aw ⟨_,rfl,[],by simp,?_⟩
  simp [bk,cM,gn,h1]
 have h1:¬a<b:=by simpa using hb
 refine ap ?_
 repeat refine ag ?_
 refine zr af ?_
 repeat (refine aa ?_;first | (apply ai;rfl;simp only [aj,avs,tts,seval]<;>exact rr) | (refine zg rfl ?_;first | refine ah ?_ | refine zo ?_))
 refine ae ?_
 repeat refine ag ?_
 refine am rfl rfl (fun hb => ?_) fun hb => ?_
 ·repeat refine ag ?_
  refine zr af ?_
  repeat (refine aa ?_;first | (apply ai;rfl;simp only [aj,avs,tts,seval]<;>exact rr) | (refine zg rfl ?_;first | refine ah ?_ | refine zo ?_))
  refine ae ?_
  have h2:b<a:=by simpa using hb
  refine aw ⟨_,rfl,[],by simp,?_⟩
  simp [bk,cM,gn,h1,h2]
 have h2:¬b<a:=by simpa using hb
 refine ap ?_
 repeat refine ag ?_
 refine zr af ?_
 repeat (refine aa ?_;first | (apply ai;rfl;simp only [aj,avs,tts,seval]<;>exact rr) | (refine zg rfl ?_;first | refine ah ?_ | refine zo ?_))
 refine ae ?_
 refine aw ⟨_,rfl,[],by simp,?_⟩
 simp [bk,cM,gn,h1,h2]
def Cl (l:List Nat):AV := .fn (.func 213) [] [.rp [aO l]]
theorem ui (base:World) (l:List Nat):aI Tryz.prog base 181 [.d (aO l)] (Cl l):=by
 refine aC af Tryz.call181 Tryz.func181 rfl fun H hB hb hF => ?_
 rw [Tryz.results181,Tryz.ntmps181]
 simp only [aA,List.length_cons,List.length_nil,List.replicate,List.cons_append,List.nil_append,Nat.reduceAdd,Nat.reduceSub]
 clear hF hb hB
 repeat refine ag ?_
 refine zr af ?_
 repeat (refine aa ?_;first | (apply ai;rfl;simp only [aj,avs,tts,seval]<;>exact rr) | (refine zg rfl ?_;first | refine ah ?_ | refine zo ?_))
 refine ae ?_
 repeat refine ag ?_
 refine zr af ?_
 repeat (refine aa ?_;first | (apply ai;rfl;simp only [aj,avs,tts,seval]<;>exact rr) | (refine zg rfl ?_;first | refine ah ?_ | refine zo ?_))
 refine ae ?_
 refine aw ⟨_,rfl,_,rfl,?_⟩
 simp [bk,cM,jJ,unL,Cl,AV.one,aO,PD.one]
end Av
end Go.Proofs.YtdekcppfpgeneaaGreatDoor
namespace Go.Proofs.YtdekcppfpgeneaaGreatDoor
open Go Go.RowKit
namespace Av
attribute [local irreducible] AW aL aH
open Nt
def jk (l:List Nat):List (List AV):=(List.range l.length).map fun k=>[iA (((l.length - 1 - k:Nat):Int)),uA ((l.getD (l.length - 1 - k) 0:Nat):Int)]
theorem dP (l:List Nat):(jk l).length=l.length:=by simp [jk]
theorem jb (l:List Nat) {k:Nat} (h:k<l.length):(jk l).getD k []=[iA (((l.length - 1 - k:Nat):Int)),uA ((l.getD (l.length - 1 - k) 0:Nat):Int)]:=by simp [jk,h]
theorem nP {base:World} {l:List Nat} (hl:bt l) (hlen:l.length≤1000000) {H:av} (μ:Nat→Option Nat) (w:World) (lb:Array Value) (hs:Sim base ⟨μ,H,w⟩) (hr:ax ⟨μ,H,w⟩ [.rp [aO l]] lb.toList) :
  ∃encs:List (Array Value),En Tryz.prog 213 lb encs ⟨μ,H,w⟩∧encs.length=(jk l).length∧∀k,k<(jk l).length→(encs.getD k #[]).size=2∧ax ⟨μ,H,w⟩ ((jk l).getD k []) (encs.getD k #[]).toList:=by
 simp only [ax] at hr
 obtain ⟨v,r,e1,hv,rfl⟩:=hr
 simp only [Rep] at hv
 obtain ⟨b,o,rfl,him,hc⟩:=hv
 simp only [aK,aO] at hc
 obtain ⟨⟨_,c,h1,h2⟩,_⟩:=hc
 simp only [aQ,bO] at h2
 obtain ⟨ao,cap,rfl,_,_,h3⟩:=h2
 obtain rfl:lb = #[.pointer (some ⟨b,o,none⟩)]:=Array.toList_inj.1 (by simpa using e1)
 refine ⟨nS l,?_,by rw [nQ,dP],fun k hk => ?_⟩
 ·intro l0 J Jx W himm hY h0
  rw [nQ] at hY ⊢
  have hY':∀k W1,k<l.length→J k W1→YieldAt Fence.wide 7 Tryz.prog l0 (pD l k) W1 fun e W'=>(e = .returned (.bool true)∧J (k+1) W')∨(e = .returned (.bool false)∧Jx W'):=fun k W1 hk hJ=>by
   have:=hY k W1 hk hJ
   rwa [nR l hk] at this
  rcases h3 with h3 | ⟨g,o2,rfl,him2,hrows⟩
  ·have hl0:l=[]:=by cases l with
    | nil=>rfl
    | cons a t=>simp [cw] at h3
   subst hl0
   refine pC (P0:=True) [] ao b o 0 0 cap l0 J Jx W hlen (fun k W1 hJ=>⟨?_,fun j hj=>by cases hj⟩) hY' h0
   rw [ja (himm k W1 hJ b him)];exact h1
  ·refine pC (P0:=True) l _ b o g o2 cap l0 J Jx W hlen (fun k W1 hJ=>⟨?_,fun j hj=>⟨rfl,?_⟩⟩) hY' h0
   ·rw [ja (himm k W1 hJ b him)];exact h1
   ·rw [ja (himm k W1 hJ g him2)];exact oS l o2 hrows j hj
 ·rw [dP] at hk
  rw [nR l hk,jb l hk]
  refine ⟨rfl,?_⟩
  have hx:l.getD (l.length - 1 - k) 0<1000000000:=dc hl _
  simp only [pD,ax,iA,uA]
  have m1:IntKind.i64.min = -9223372036854775808:=by decide
  have m2:IntKind.i64.max=9223372036854775807:=by decide
  have m3:IntKind.u64.min=0:=by decide
  have m4:IntKind.u64.max=18446744073709551615:=by decide
  generalize l.getD (l.length - 1 - k) 0=x at hx
  refine ⟨_,_,rfl,?_,_,_,rfl,?_,rfl⟩
  ·simp only [Rep,aQ,small,m1,m2,true_and]
   omega
  ·simp only [Rep,aQ,small,m3,m4,true_and]
   omega
end Av
end Go.Proofs.YtdekcppfpgeneaaGreatDoor
namespace Go.Proofs.YtdekcppfpgeneaaGreatDoor
open Go Go.RowKit
namespace Av
attribute [local irreducible] AW aL aH
open Nt
theorem zV {p q:List Nat} (hp:Nt.Can p) (hq:Nt.Can q) (h:gn (p.length:Int) (q.length:Int)≠0):gn (p.length:Int) (q.length:Int)=eI (bg p) (bg q):=by
 unfold gn at h ⊢
 by_cases h1:(p.length:Int)<(q.length:Int)
 ·have h2:=nL hp hq (by omega)
  rw [if_pos h1,eI,if_pos h2]
 ·rw [if_neg h1] at h ⊢
  by_cases h3:(q.length:Int)<(p.length:Int)
  ·have h2:=nL hq hp (by omega)
   rw [if_pos h3,eI,if_neg (by omega),if_pos h2]
  ·rw [if_neg h3] at h
   exact absurd rfl h
theorem Bm {p q:List Nat} (hp:bt p) (hq:bt q) (he:p.length=q.length) {i:Nat} (hi:i<p.length) (hd:p.drop (i+1)=q.drop (i+1)) (h:gn (p.getD i 0:Int) (q.getD i 0:Int)≠0):gn (p.getD i 0:Int) (q.getD i 0:Int)=eI (bg p) (bg q):=by
 unfold gn at h ⊢
 by_cases h1:(p.getD i 0:Int)<(q.getD i 0:Int)
 ·have h2:=zU hp hq he hi hd (by omega)
  rw [if_pos h1,eI,if_pos h2]
 ·rw [if_neg h1] at h ⊢
  by_cases h3:(q.getD i 0:Int)<(p.getD i 0:Int)
  ·have h2:=zU hq hp he.symm (by omega) hd.symm (by omega)
   rw [if_pos h3,eI,if_neg (by omega),if_pos h2]
  ·rw [if_neg h3] at h
   exact absurd rfl h
theorem po {a b:Nat} (h:gn (a:Int) (b:Int)=0):a=b:=by
 unfold gn at h
 by_cases h1:(a:Int)<(b:Int)
 ·rw [if_pos h1] at h;cases h
 ·rw [if_neg h1] at h
  by_cases h2:(b:Int)<(a:Int)
  ·rw [if_pos h2] at h;cases h
  ·omega
theorem xb (n:Nat):eI n n=0:=by simp [eI]
set_option maxRecDepth 100000 in
set_option maxHeartbeats 4000000 in
theorem pn (base:World) (p q:List Nat) (hp:Nt.Can p) (hq:Nt.Can q) (hbp:p.length≤1000000) (hbq:q.length≤1000000):aI Tryz.prog base 144 [.d (aO p),.d (aO q)] (iA (eI (bg p) (bg q))):=by
 refine aC af Tryz.call144 Tryz.func144 rfl fun H hB hb hF => ?_
 rw [Tryz.results144,Tryz.ntmps144]
 simp only [aA,List.length_cons,List.length_nil,List.replicate,List.cons_append,List.nil_append,Nat.reduceAdd,Nat.reduceSub]
 clear hF hb
 have hnl:=bO p
 have hml:=bO q
 have c1:=Ee base p.length q.length
 simp only [iA] at c1 ⊢
 repeat refine ag ?_
 refine zr af ?_
 repeat (refine aa ?_;first | (apply ai;rfl;simp only [aj,avs,tts,seval]<;>exact rr) | (refine zg rfl ?_;first | refine ah ?_ | refine zo ?_))
 refine ae ?_
 repeat refine ag ?_
 refine zr af ?_
 repeat (refine aa ?_;first | (apply ai;rfl;simp only [aj,avs,tts,seval,aO,hnl,hml]<;>exact rr) | (refine zg rfl ?_;first | refine ah ?_ | refine zo ?_))
 refine zP rfl (c1) ?_
 repeat (refine aa ?_;first | (apply ai;rfl;simp only [aj,avs,tts,seval]<;>exact rr) | (refine zg rfl ?_;first | refine ah ?_ | refine zo ?_))
 refine ae ?_
 repeat refine ag ?_
 refine zr af ?_
 repeat (refine aa ?_;first | (apply ai;rfl;simp only [aj,avs,tts,seval]<;>exact rr) | (refine zg rfl ?_;first | refine ah ?_ | refine zo ?_))
 refine ae ?_
 repeat refine ag ?_
 refine am rfl rfl (fun hb => ?_) fun hb => ?_
 ·repeat refine ag ?_
  refine zr af ?_
  repeat (refine aa ?_;first | (apply ai;rfl;simp only [aj,avs,tts,seval]<;>exact rr) | (refine zg rfl ?_;first | refine ah ?_ | refine zo ?_))
  refine ae ?_
  have hne:gn (p.length:Int) (q.length:Int)≠0:=by simpa using hb
  rw [zV hp hq hne]
  exact aw ⟨_,(by simp only [bk,cN,er,avs,tts]<;>rfl),_,rfl,rfl⟩
 have hz:gn (p.length:Int) (q.length:Int)=0:=by simpa using hb
 have hlen:p.length=q.length:=po hz
 have cb:=ui base p
 refine ap ?_
 repeat refine ag ?_
 refine zr af ?_
 repeat (refine aa ?_;first | (apply ai;rfl;simp only [aj,avs,tts,seval]<;>exact rr) | (refine zg rfl ?_;first | refine ah ?_ | refine zo ?_))
 refine zP rfl (cb) ?_
 repeat (refine aa ?_;first | (apply ai;rfl;simp only [aj,avs,tts,seval]<;>exact rr) | (refine zg rfl ?_;first | refine ah ?_ | refine zo ?_))
 refine ae ?_
 repeat refine ag ?_
 refine an ?_
 refine nT (gf:=213) (caps:=[.rp [aO p]]) (jk p) rfl rfl Tryz.call213 (fun μ w lb hs hr=>nP hp.1 hbp μ w lb hs hr)
  (fun k H'=>p.drop (p.length - k)=q.drop (p.length - k)∧H'=H++[.box 136 [.d (aO q)],.box 3 [.d (.v (.int .i64 0))]])
  (fun c H'=>c = .ret∧H'=H++[.box 136 [.d (aO q)],.box 3 [.d (.v (.int .i64 (eI (bg p) (bg q))))]]) ⟨by simp [hlen],rfl⟩ ?_ ?_ ?_
 ·rintro l k H' hk ⟨hd,rfl⟩ hN
  rw [dP] at hk
  rw [jb p hk]
  obtain ⟨m,hm⟩:∃m,m=p.length - 1 - k:=⟨_,rfl⟩
  rw [←hm]
  have hmp:m<p.length:=by omega
  have hmq:m<q.length:=by omega
  have hd':p.drop (m+1)=q.drop (m+1):=by rw [show m+1=p.length - k by omega];exact hd
  have hnext:p.length - (k+1)=m:=by omega
  have g1:=fX q hmq
  rw [iZ hmq] at g1
  have hix:(0:Int)≤(m:Int):=by omega
  have c2:=Ed base (p.getD m 0) (q.getD m 0)
  simp only [uA,iA] at c2
  simp only [gS,aA,List.zip_cons_cons,List.zip_nil_left,List.foldl_cons,List.foldl_nil,List.set_cons_succ,List.set_cons_zero,iA,uA,aO]
  clear hm hd cb c1 hN
  repeat refine ag ?_
  refine zr af ?_
  repeat (refine aa ?_;first | (apply ai;rfl;simp only [aj,avs,tts,seval]<;>exact rr) | (refine zg rfl ?_;first | refine ah ?_ | refine zo ?_))
  refine ae ?_
  repeat refine ag ?_
  refine zr af ?_
  repeat (refine aa ?_;first | (apply ai;rfl;simp only [aj,avs,tts,seval]<;>exact rr) | (refine zg rfl ?_;first | refine ah ?_ | refine zo ?_))
  refine ae ?_
  refine ⟨rfl,?_⟩
  refine an ?_
  repeat refine ag ?_
  refine zr af ?_
  repeat (refine aa ?_;first | (apply ai;rfl;simp only [aj,avs,tts,seval,hml,hix,hmq,g1]<;>exact rr) | (refine zg rfl ?_;first | refine ah ?_ | refine zo ?_))
  refine zP rfl (c2) ?_
  repeat (refine aa ?_;first | (apply ai;rfl;simp only [aj,avs,tts,seval]<;>exact rr) | (refine zg rfl ?_;first | refine ah ?_ | refine zo ?_))
  refine ae ?_
  repeat refine ag ?_
  refine zr af ?_
  repeat (refine aa ?_;first | (apply ai;rfl;simp only [aj,avs,tts,seval]<;>exact rr) | (refine zg rfl ?_;first | refine ah ?_ | refine zo ?_))
  refine ae ?_
  repeat refine ag ?_
  refine am rfl rfl (fun hb => ?_) fun hb => ?_
  ·repeat refine ag ?_
   refine zr af ?_
   repeat (refine aa ?_;first | (apply ai;rfl;simp only [aj,avs,tts,seval]<;>exact rr) | (refine zg rfl ?_;first | refine ah ?_ | refine zo ?_))
   refine ae ?_
   have hne:gn (p.getD m 0:Int) (q.getD m 0:Int)≠0:=by simpa using hb
   have:=Bm hp.1 hq.1 hlen hmp hd' hne
   rw [this]
   exact aw ⟨rfl,rfl⟩
  have hzz:gn (p.getD m 0:Int) (q.getD m 0:Int)=0:=by simpa using hb
  refine ap ?_
  refine ⟨?_,rfl⟩
  rw [hnext]
  exact w7 hlen hmp hd' (po hzz)
 ·rintro H' ⟨hd,rfl⟩ hN
  rw [dP,Nat.sub_self,List.drop_zero,List.drop_zero] at hd
  subst hd
  rw [xb]
  repeat refine ag ?_
  refine zr af ?_
  repeat (refine aa ?_;first | (apply ai;rfl;simp only [aj,avs,tts,seval]<;>exact rr) | (refine zg rfl ?_;first | refine ah ?_ | refine zo ?_))
  refine ae ?_
  exact aw ⟨_,(by simp only [bk,cN,er,avs,tts]<;>rfl),_,rfl,rfl⟩
 ·rintro c H' ⟨rfl,rfl⟩ hN
  exact aw ⟨_,(by simp only [bk,cN,er,avs,tts]<;>rfl),_,rfl,rfl⟩
end Av
end Go.Proofs.YtdekcppfpgeneaaGreatDoor
namespace Go.Proofs.YtdekcppfpgeneaaGreatDoor
open Go Go.RowKit
namespace Av
attribute [local irreducible] AW aL aH
open Nt
def Es (base:World) (C:Nat):Prop:=∀a b:Nat,a<C→b<C→0<b→aI Tryz.prog base 148 [.d (aO (limbs a)),.d (aO (limbs b))] (.tup [.d (aO (limbs (a / b))),.d (aO (limbs (a % b)))])
set_option maxRecDepth 100000 in
set_option maxHeartbeats 4000000 in
theorem D9 (base:World) {C:Nat} (hd:Es base C) (p q:Nat) (hp:p<C) (hq:q<C):aI Tryz.prog base 126 [.d (aO (limbs p)),.d (aO (limbs q))] (.d (aO (limbs (Nat.gcd p q)))):=by
 refine aC af Tryz.call126 Tryz.func126 rfl fun H hB hb hF => ?_
 rw [Tryz.results126,Tryz.ntmps126]
 simp only [aA,List.length_cons,List.length_nil,List.replicate,List.cons_append,List.nil_append,Nat.reduceAdd,Nat.reduceSub]
 clear hF hb
 repeat refine ag ?_
 refine zr af ?_
 repeat (refine aa ?_;first | (apply ai;rfl;simp only [aj,avs,tts,seval]<;>exact rr) | (refine zg rfl ?_;first | refine ah ?_ | refine zo ?_))
 refine ae ?_
 repeat refine ag ?_
 refine eh (Q0:=fun env K'=>K'=H∧env = .d (aO (limbs (Nat.gcd p q))) :: .d (aO []) :: .undef :: .undef::jQ::List.replicate 14 .undef) ?_ ?_
 ·refine an (aZ (H0:=H) (fun r env K'=>∃a b,r=b∧a<C∧b<C∧Nat.gcd a b=Nat.gcd p q∧K'=H∧env = .d (aO (limbs a)) :: .d (aO (limbs b)) :: .undef :: .undef::jQ::List.replicate 14 .undef) ?_ ⟨p,q,rfl,hp,hq,rfl,rfl,rfl⟩ ?_)
  ·exact ⟨by simp [aJ,List.replicate,aO,jQ],.inl rfl⟩
  rintro r env K' ⟨a,b,rfl,ha,hbC,hg,rfl,rfl⟩ hN
  simp only [List.replicate,aO,jQ]
  have hnl:=bO (limbs r)
  repeat refine ag ?_
  refine zr af ?_
  repeat (refine aa ?_;first | (apply ai;rfl;simp only [aj,avs,tts,seval,hnl]<;>exact rr) | (refine zg rfl ?_;first | refine ah ?_ | refine zo ?_))
  refine ae ?_
  repeat refine ag ?_
  refine am rfl rfl (fun hb => ?_) fun hb => ?_
  rotate_left
  ·refine aq ?_
   have hz:limbs r=[]:=by
    have:(limbs r).length=0:=by simpa using hb
    exact List.eq_nil_of_length_eq_zero this
   have h0:r=0:=by have:=bG r;rw [hz] at this;exact this.symm
   subst h0
   rw [Nat.gcd_zero_right] at hg
   subst hg
   rw [hz]
   exact ⟨rfl,_,_,⟨by simp [aJ,List.replicate,aO,jQ],.inl rfl⟩,rfl,rfl⟩
  have hpos:0<r:=by
   refine Nat.pos_of_ne_zero fun e => ?_
   subst e
   simp [bE] at hb
  have cd:=hd a r ha hbC hpos
  simp only [aO] at cd
  refine ap ?_
  repeat refine ag ?_
  refine an ?_
  repeat refine ag ?_
  refine zr af ?_
  repeat (refine aa ?_;first | (apply ai;rfl;simp only [aj,avs,tts,seval]<;>exact rr) | (refine zg rfl ?_;first | refine ah ?_ | refine zo ?_))
  refine zP rfl (cd) ?_
  repeat (refine aa ?_;first | (apply ai;rfl;simp only [aj,avs,tts,seval]<;>exact rr) | (refine zg rfl ?_;first | refine ah ?_ | refine zo ?_))
  refine ae ?_
  repeat refine ag ?_
  refine zr af ?_
  repeat (refine aa ?_;first | (apply ai;rfl;simp only [aj,avs,tts,seval]<;>exact rr) | (refine zg rfl ?_;first | refine ah ?_ | refine zo ?_))
  refine ae ?_
  refine ⟨a % r,_,_,Nat.mod_lt _ hpos,⟨?_,.inl rfl⟩,r,a % r,rfl,hbC,Nat.lt_trans (Nat.mod_lt _ hpos) hbC,?_,rfl,rfl⟩
  ·simp [aJ,List.replicate,aO,jQ]
  ·rw [←hg,Nat.gcd_comm a r,Nat.gcd_rec r a,Nat.gcd_comm]
 rintro env K' ⟨rfl,rfl⟩
 simp only [List.replicate,aO,jQ]
 repeat refine ag ?_
 refine zr af ?_
 repeat (refine aa ?_;first | (apply ai;rfl;simp only [aj,avs,tts,seval]<;>exact rr) | (refine zg rfl ?_;first | refine ah ?_ | refine zo ?_))
 refine ae ?_
 exact aw ⟨_,rfl,[],by simp,rfl⟩
end Av
end Go.Proofs.YtdekcppfpgeneaaGreatDoor
namespace Go.Proofs.YtdekcppfpgeneaaGreatDoor
open Go Go.RowKit
namespace Av
attribute [local irreducible] AW aL aH
open Nt
set_option maxRecDepth 100000 in
set_option maxHeartbeats 4000000 in
theorem xY (base:World) (H:av) (g:FuncId) (caps:List AV) (n:Nat) (hn:n≤1000000000) (T:Nat→Bool) (hT:∀i,i<n→da Tryz.prog base g (iA i::caps) H (bA (T i)))
  (k:Nat) (hk:k≤n) (h0:∀i,i<k→T i=false) (h1:∀i,k≤i→i<n→T i=true):da Tryz.prog base 187 [iA n,.fn (.func g) [] caps] H (iA k):=by
 refine cC af Tryz.call187 Tryz.func187 rfl fun hB hb hF => ?_
 rw [Tryz.results187,Tryz.ntmps187]
 simp only [aA,List.length_cons,List.length_nil,List.replicate,List.cons_append,List.nil_append,Nat.reduceAdd,Nat.reduceSub]
 clear hF hb
 simp only [iA]
 repeat refine ag ?_
 refine zr af ?_
 repeat (refine aa ?_;first | (apply ai;rfl;simp only [aj,avs,tts,seval]<;>exact rr) | (refine zg rfl ?_;first | refine ah ?_ | refine zo ?_))
 refine ae ?_
 repeat refine ag ?_
 refine zr af ?_
 repeat (refine aa ?_;first | (apply ai;rfl;simp only [aj,avs,tts,seval]<;>exact rr) | (refine zg rfl ?_;first | refine ah ?_ | refine zo ?_))
 refine ae ?_
 repeat refine ag ?_
 refine eh (Q0:=fun env K'=>K'=H∧env=iA n :: .fn (.func g) [] caps :: .undef :: .undef::iA 0::iA k::iA k::List.replicate 19 .undef) ?_ ?_
 ·refine an (aZ (H0:=H) (fun r env K'=>∃a b:Nat,r=b - a∧a≤k∧k≤b∧b≤n∧K'=H∧env=iA n :: .fn (.func g) [] caps :: .undef :: .undef::iA 0::iA a::iA b::List.replicate 19 .undef) ?_ ⟨0,n,rfl,Nat.zero_le _,hk,Nat.le_refl _,rfl,rfl⟩ ?_)
  ·exact ⟨by simp [aJ,List.replicate,iA],.inl rfl⟩
  rintro r env K' ⟨a,b,rfl,ha,hbk,hbn,rfl,rfl⟩ hN
  simp only [List.replicate,iA]
  repeat refine ag ?_
  refine zr af ?_
  repeat (refine aa ?_;first | (apply ai;rfl;simp only [aj,avs,tts,seval]<;>exact rr) | (refine zg rfl ?_;first | refine ah ?_ | refine zo ?_))
  refine ae ?_
  repeat refine ag ?_
  refine am rfl rfl (fun hb => ?_) fun hb => ?_
  rotate_left
  ·refine aq ?_
   have hab:¬a<b:=by simpa using hb
   have e1:a=k:=by omega
   have e2:b=k:=by omega
   subst e1 e2
   exact ⟨rfl,_,_,⟨by simp [aJ,List.replicate,iA],.inl rfl⟩,rfl,rfl⟩
  have hab:a<b:=by simpa using hb
  obtain ⟨m,hm⟩:∃m,m=(a+b) / 2:=⟨_,rfl⟩
  have hmn:m<n:=by omega
  have c:=hT m hmn
  simp only [iA,bA] at c
  have w1:=gX (a:=a) (b:=b) (by omega)
  refine ap ?_
  repeat refine ag ?_
  refine an ?_
  have w2:IntKind.u64.wrap ((a+b:Nat):Int)=((a+b:Nat):Int):=by rw [IntKind.wrap_u64];omega
  have w3:((a+b:Nat):Int).fdiv (2 ^ Nat.min 1 IntKind.u64.bits)=(m:Int):=by
   have e:(2 ^ Nat.min 1 IntKind.u64.bits:Int)=2:=by decide
   rw [e,Int.fdiv_eq_ediv_of_nonneg _ (by omega)]
   omega
  have w4:IntKind.i64.wrap (m:Int)=(m:Int):=ut (by omega) (by omega)
  repeat refine ag ?_
  refine zr af ?_
  repeat (refine aa ?_;first | (apply ai;rfl;simp only [aj,avs,tts,seval,w1,w2,w3,w4,Int.one_nonneg]<;>exact rr) | (refine zg rfl ?_;first | refine ah ?_ | refine zo ?_))
  refine ae ?_
  repeat refine ag ?_
  refine zr af ?_
  repeat (refine aa ?_;first | (apply ai;rfl;simp only [aj,avs,tts,seval]<;>exact rr) | (refine zg rfl ?_;first | refine ah ?_ | refine zo ?_))
  refine zD rfl (c) ?_
  repeat (refine aa ?_;first | (apply ai;rfl;simp only [aj,avs,tts,seval]<;>exact rr) | (refine zg rfl ?_;first | refine ah ?_ | refine zo ?_))
  refine ae ?_
  repeat refine ag ?_
  refine am rfl rfl (fun hb => ?_) fun hb => ?_
  ·have hf:T m=false:=by simpa using hb
   have hkm:m<k:=by
    refine Nat.lt_of_not_le fun h => ?_
    have:=h1 m h hmn
    rw [hf] at this;cases this
   repeat refine ag ?_
   refine zr af ?_
   repeat (refine aa ?_;first | (apply ai;rfl;simp only [aj,avs,tts,seval,aP hmn (by omega)]<;>exact rr) | (refine zg rfl ?_;first | refine ah ?_ | refine zo ?_))
   refine ae ?_
   refine ⟨b - (m+1),_,_,by omega,⟨?_,.inl rfl⟩,m+1,b,rfl,by omega,hbk,hbn,rfl,rfl⟩
   simp [aJ,List.replicate,iA]
  have ht:T m=true:=by simpa using hb
  have hkm:k≤m:=by
   refine Nat.le_of_not_lt fun h => ?_
   have:=h0 m h
   rw [ht] at this;cases this
  repeat refine ag ?_
  refine zr af ?_
  repeat (refine aa ?_;first | (apply ai;rfl;simp only [aj,avs,tts,seval]<;>exact rr) | (refine zg rfl ?_;first | refine ah ?_ | refine zo ?_))
  refine ae ?_
  refine ⟨m - a,_,_,by omega,⟨?_,.inl rfl⟩,a,m,rfl,ha,hkm,by omega,rfl,rfl⟩
  simp [aJ,List.replicate,iA]
 rintro env K' ⟨rfl,rfl⟩
 simp only [List.replicate,iA]
 repeat refine ag ?_
 refine zr af ?_
 repeat (refine aa ?_;first | (apply ai;rfl;simp only [aj,avs,tts,seval]<;>exact rr) | (refine zg rfl ?_;first | refine ah ?_ | refine zo ?_))
 refine ae ?_
 exact aw ⟨_,rfl,[],by simp,rfl⟩
end Av
end Go.Proofs.YtdekcppfpgeneaaGreatDoor
namespace Go.Proofs.YtdekcppfpgeneaaGreatDoor
open Go Go.RowKit
namespace Av
attribute [local irreducible] AW aL aH
open Nt
theorem qX (x:Nat):bg [x]=x:=by simp [bg]
theorem Bl (a b:Nat):decide (eI a b>0)=decide (b<a):=by
 unfold eI
 by_cases h1:a<b
 ·rw [if_pos h1]
  have:¬b<a:=by omega
  simp [this]
 ·rw [if_neg h1]
  by_cases h2:b<a
  ·simp [h2]
  ·simp [h2]
theorem Bk (a b:Nat):decide (eI a b<0)=decide (a<b):=by
 unfold eI
 by_cases h1:a<b
 ·simp [h1]
 ·rw [if_neg h1]
  by_cases h2:b<a
  ·simp [h1,h2]
  ·simp [h1,h2]
set_option maxRecDepth 100000 in
set_option maxHeartbeats 4000000 in
theorem CV (base:World) (H:av) (l3 l7 b r i:Nat) (h3:H[l3]?=some (.box 136 [.d (aO (limbs b))])) (h7:H[l7]?=some (.box 136 [.d (aO (limbs r))])) (hi:i<999999999) (hbl:(limbs b).length≤1000) (hrl:(limbs r).length≤1000) (hml:(limbs (b * (i+1))).length≤1000000) :
  da Tryz.prog base 188 [iA i,.ptr l3 0,.ptr l7 0] H (bA (decide (r<b * (i+1)))):=by
 have cm:=B6 base (limbs b) [i+1] (ce b) (fun x hx=>by simp only [List.mem_singleton] at hx;subst hx;show i+1<1000000000;omega) (by omega) (by simp)
 rw [bG,qX] at cm
 have cc:=pn base (limbs (b * (i+1))) (limbs r) (iX _) (iX _) hml (by omega)
 rw [bG,bG] at cc
 have ec:=Bl (b * (i+1)) r
 refine cC af Tryz.call188 Tryz.func188 rfl fun hB hb hF => ?_
 rw [Tryz.results188,Tryz.ntmps188]
 simp only [aA,List.length_cons,List.length_nil,List.replicate,List.cons_append,List.nil_append,Nat.reduceAdd,Nat.reduceSub]
 clear hF hb
 have w1:IntKind.i64.wrap ((i:Int)+1)=((i+1:Nat):Int):=aP (n:=999999999) hi (by omega)
 have w2:IntKind.u64.wrap ((i+1:Nat):Int)=((i+1:Nat):Int):=by rw [IntKind.wrap_u64];omega
 simp only [iA,bA] at cc ⊢
 have hl3:=aF h3
 have hl7:=aF h7
 repeat refine ag ?_
 refine zr af ?_
 repeat (refine aa ?_;first | (apply ai;rfl;simp only [aj,avs,tts,seval]<;>exact rr) | (refine zg rfl ?_;first | refine ah ?_ | refine zo ?_))
 refine ae ?_
 repeat refine ag ?_
 refine zw 10 af mixed ?_
 repeat (refine ak ?_;first | (apply au;rfl;simp only [aB,avs,tts,seval,h3,h7,w1,w2,hl3,hl7]<;>exact rr;first | trivial | omega) | (refine yg rfl ?_;first | refine ar ?_ | refine yo ?_))
 refine yP rfl (cm) ?_
 repeat (refine ak ?_;first | (apply au;rfl;simp only [aB,avs,tts,seval,h3,h7,got h7,hl7]<;>exact rr;first | trivial | omega) | (refine yg rfl ?_;first | refine ar ?_ | refine yo ?_))
 refine yP rfl (cc) ?_
 repeat (refine ak ?_;first | (apply au;rfl;simp only [aB,avs,tts,seval,ec]<;>exact rr;first | trivial | omega) | (refine yg rfl ?_;first | refine ar ?_ | refine yo ?_))
 refine al ?_
 repeat (refine aa ?_;first | (apply ai;rfl;simp only [aj,avs,tts,seval]<;>exact rr) | (refine zg rfl ?_;first | refine ah ?_ | refine zo ?_))
 refine ae ?_
 exact aw ⟨_,rfl,[.dead],by simp,rfl⟩
end Av
end Go.Proofs.YtdekcppfpgeneaaGreatDoor
namespace Go.Proofs.YtdekcppfpgeneaaGreatDoor
open Go
namespace Nt
structure mf (p:List Nat) (b m r:Nat) (out:List Nat):Prop where
 len:out.length=p.length
 ok:bt out
 zero:∀j,j<m→out.getD j 0=0
 lt:r<b
 eq:bg (p.drop m)=b * bg (out.drop m)+r
theorem mf.start {p:List Nat} {b:Nat} (hb:0<b):mf p b p.length 0 (List.replicate p.length 0) where
 len:=by simp
 ok:=fun x hx=>by rw [List.mem_replicate] at hx;rw [hx.2];show 0<1000000000;omega
 zero:=fun j hj=>by simp [hj]
 lt:=hb
 eq:=by simp [bg]
theorem oK {l:List Nat} {m:Nat} (h:m<l.length):bg (l.drop m)=l.getD m 0+B9 * bg (l.drop (m+1)):=by
 rw [List.drop_eq_getElem_cons h]
 simp [bg,List.getD,h]
theorem zA {x r b:Nat} (hx:x<B9) (hr:r<b):x+B9 * r<b * B9:=by
 have h1:B9 * (r+1)≤B9 * b:=Nat.mul_le_mul_left _ hr
 rw [Nat.mul_succ] at h1
 rw [Nat.mul_comm b B9]
 omega
theorem drop_set {l:List Nat} {m x:Nat}:(l.set m x).drop (m+1)=l.drop (m+1):=by
 rw [List.drop_set]
 simp
theorem mf.step {p out:List Nat} {b m r:Nat} (hp:bt p) (hb:0<b) (h:mf p b (m+1) r out) (hm:m<p.length):mf p b m ((p.getD m 0+B9 * r) % b) (out.set m ((p.getD m 0+B9 * r) / b)):=by
 have hx:p.getD m 0<B9:=dc hp m
 have hl:=zA hx h.lt
 have hq:(p.getD m 0+B9 * r) / b<B9:=Nat.div_lt_of_lt_mul hl
 have hml:m<out.length:=by rw [h.len];exact hm
 refine ⟨by rw [List.length_set,h.len],fun y hy => ?_,fun j hj => ?_,Nat.mod_lt _ hb,?_⟩
 ·rcases List.mem_or_eq_of_mem_set hy with h1 | rfl
  ·exact h.ok y h1
  ·exact hq
 ·have:=h.zero j (by omega)
  simp only [List.getD_eq_getElem?_getD] at this ⊢
  rw [List.getElem?_set_ne (by omega)]
  exact this
 ·have e1:=oK (l:=p) hm
  have e2:=oK (l:=out.set m ((p.getD m 0+B9 * r) / b)) (m:=m) (by rw [List.length_set];exact hml)
  rw [drop_set] at e2
  have e3:(out.set m ((p.getD m 0+B9 * r) / b)).getD m 0=(p.getD m 0+B9 * r) / b:=by
   simp [List.getD,hml]
  rw [e3] at e2
  rw [e1,e2,h.eq]
  have e4:=Nat.div_add_mod (p.getD m 0+B9 * r) b
  generalize (p.getD m 0+B9 * r) / b=q at *
  generalize (p.getD m 0+B9 * r) % b=s at *
  generalize bg (out.drop (m+1))=v
  rw [Nat.mul_add B9,Nat.mul_add b,←Nat.add_assoc,Nat.add_right_comm,←e4,Nat.mul_left_comm B9 b v]
  omega
theorem mf.small {p out:List Nat} {b m r:Nat} (hp:bt p) (hb:0<b) (h:mf p b (m+1) r out) (hm:m<p.length) (hs:p.getD m 0+B9 * r<b):mf p b m (p.getD m 0+B9 * r) out:=by
 have h1:=h.step hp hb hm
 rw [Nat.mod_eq_of_lt hs,Nat.div_eq_of_lt hs] at h1
 have hml:m<out.length:=by rw [h.len];exact hm
 have e:out.set m 0=out:=by
  have h0:=h.zero m (Nat.lt_succ_self m)
  have h2:out[m]=0:=by simpa [List.getD,hml] using h0
  rw [←h2,List.set_getElem_self]
 rwa [e] at h1
theorem mf.fin {p out:List Nat} {b r:Nat} (hb:0<b) (h:mf p b 0 r out):dy out=limbs (bg p / b)∧r=bg p % b:=by
 have e:=h.eq
 rw [List.drop_zero,List.drop_zero] at e
 have h1:bg p / b=bg out:=by
  rw [e,Nat.mul_add_div hb,Nat.div_eq_of_lt h.lt,Nat.add_zero]
 have h2:bg p % b=r:=by
  rw [e,Nat.mul_add_mod,Nat.mod_eq_of_lt h.lt]
 exact ⟨by rw [di h.ok,h1],h2.symm⟩
theorem zB {t b i:Nat} (hb:0<b) (h:i<t / b):decide (t<b * (i+1))=false:=by
 have h1:b * (t / b)≤t:=Nat.mul_div_le t b
 have h2:b * (i+1)≤b * (t / b):=Nat.mul_le_mul_left _ h
 simp only [decide_eq_false_iff_not]
 omega
theorem zC {t b i:Nat} (hb:0<b) (h:t / b≤i):decide (t<b * (i+1))=true:=by
 have h1:=Nat.div_add_mod t b
 have h3:=Nat.mod_lt t hb
 have h2:b * (t / b+1)≤b * (i+1):=Nat.mul_le_mul_left _ (by omega)
 rw [Nat.mul_succ] at h2
 simp only [decide_eq_true_eq]
 omega
theorem tk {x r:Nat} (hx:x<B9):dy (x::limbs r)=limbs (x+B9 * r):=by
 rw [di (l:=x::limbs r) (fun y hy=>by
  rcases List.mem_cons.1 hy with rfl | h
  ·exact hx
  ·exact ce r y h)]
 simp only [bg,bG]
end Nt
end Go.Proofs.YtdekcppfpgeneaaGreatDoor
namespace Go.Proofs.YtdekcppfpgeneaaGreatDoor
open Go Go.RowKit
namespace Av
theorem aJ.refl:∀l:List AV,aJ l l
 | []=>trivial
 | a::r=>⟨.inr rfl,aJ.refl r⟩
theorem CM {X:Ctx} {c:Code} {Q:Exit→List AV→av→Prop} {env:List AV} {H:av} {o1 o4:aN} {ty k t:Nat} {L:List (List PD)}
 (h:AW X c Q (bU (some (.row ty k 0 (dI L))) (H.length+1) env) (H++[o1,.dead,.box t [.d (.sl k L)],o4])):AW X c Q env (H++[o1,.row ty k 0 (dI L),.box t [.ms (H.length+1) 0 L.length],o4]):=by
 have g1:(H++[o1,.row ty k 0 (dI L),.box t [.ms (H.length+1) 0 L.length],o4])[H.length+1]?=some (.row ty k 0 (dI L)):=by simp
 have g2:(H++[o1,.row ty k 0 (dI L),.box t [.ms (H.length+1) 0 L.length],o4])[H.length+2]?=some (.box t [.ms (H.length+1) 0 L.length]):=by simp
 refine vq (H.length+1) (H.length+2) (by omega) g2 (by rw [g1]) (by rw [g1]) ?_ h
 have hl:(dI L).length=L.length:=by simp [dI]
 simp only [bU,bY,cP,if_true,hl,and_self,bh]
 simp
theorem Bt {X:Ctx} {c:Code} {Q:Exit→List AV→av→Prop} {env:List AV} {H:av} (h:AW X c (fun ex env' H'=>∃env0 H0,mc X env' H' env0 H0∧Q ex env0 H0) env H):AW X c Q env H:=fun s0 μ a w hN hs he hev =>
 Go.wpIn_mono (h s0 μ a w hN hs he hev) (by
  rintro e a w ⟨μ,env,H,⟨env0,H0,g,q⟩,h2,h3,h4,h5⟩
  obtain ⟨k1,k2,k3,k4⟩:=g.state h2 h3 h4 h5
  exact ⟨μ,env0,H0,q,k1,k2,k3,k4⟩)
attribute [local irreducible] AW aL aH
open Nt
theorem nr {a b:Nat} (h:a≤b):(limbs a).length≤(limbs b).length:=by
 have h1:=gE (ce b)
 rw [bG] at h1
 exact dV (Nat.lt_of_le_of_lt h h1)
set_option maxRecDepth 100000 in
set_option maxHeartbeats 4000000 in
theorem Ci (base:World) (a b:Nat) (hb0:0<b) (hal:(limbs a).length≤900) (hbl:(limbs b).length≤900):aI Tryz.prog base 148 [.d (aO (limbs a)),.d (aO (limbs b))] (.tup [.d (aO (limbs (a / b))),.d (aO (limbs (a % b)))]):=by
 refine aC af Tryz.call148 Tryz.func148 rfl fun H hB hb hF => ?_
 rw [Tryz.results148,Tryz.ntmps148]
 simp only [aA,List.length_cons,List.length_nil,List.replicate,List.cons_append,List.nil_append,Nat.reduceAdd,Nat.reduceSub]
 clear hF hb
 have hnl:=bO (limbs a)
 have cb:=ui base (limbs a)
 have c1:(0:Int)≤(((limbs a).length:Nat):Int):=by omega
 have c2:(((limbs a).length:Nat):Int)≤9223372036854775807:=by omega
 have c3:((8:Nat):Int) * (((limbs a).length:Nat):Int)≤281474976710656:=by omega
 repeat refine ag ?_
 refine zr af ?_
 repeat (refine aa ?_;first | (apply ai;rfl;simp only [aj,avs,tts,Nat.reduceAdd,Nat.reduceMul,Nat.reduceSub,Nat.reduceEqDiff,Nat.reduceLT,Nat.reduceLeDiff,Int.reduceToNat,Int.reduceLE,Int.reduceLT,Int.toNat_natCast,reduceCtorEq]<;>exact rr) | (refine zg rfl ?_;first | refine ah ?_ | refine zo ?_))
 refine ae ?_
 repeat refine ag ?_
 refine zr af ?_
 repeat (refine aa ?_;first | (apply ai;rfl;simp only [aj,avs,tts,Nat.reduceAdd,Nat.reduceMul,Nat.reduceSub,Nat.reduceEqDiff,Nat.reduceLT,Nat.reduceLeDiff,Int.reduceToNat,Int.reduceLE,Int.reduceLT,Int.toNat_natCast,reduceCtorEq,aO,hnl,c1,c2,c3,Int.le_refl,kG]<;>exact rr) | (refine zg rfl ?_;first | refine ah ?_ | refine zo ?_))
 refine ae ?_
 repeat refine ag ?_
 refine zr af ?_
 repeat (refine aa ?_;first | (apply ai;rfl;simp only [aj,avs,tts,Nat.reduceAdd,Nat.reduceMul,Nat.reduceSub,Nat.reduceEqDiff,Nat.reduceLT,Nat.reduceLeDiff,Int.reduceToNat,Int.reduceLE,Int.reduceLT,Int.toNat_natCast,reduceCtorEq]<;>exact rr) | (refine zg rfl ?_;first | refine ah ?_ | refine zo ?_))
 refine ae ?_
 repeat refine ag ?_
 refine zr af ?_
 repeat (refine aa ?_;first | (apply ai;rfl;simp only [aj,avs,tts,Nat.reduceAdd,Nat.reduceMul,Nat.reduceSub,Nat.reduceEqDiff,Nat.reduceLT,Nat.reduceLeDiff,Int.reduceToNat,Int.reduceLE,Int.reduceLT,Int.toNat_natCast,reduceCtorEq]<;>exact rr) | (refine zg rfl ?_;first | refine ah ?_ | refine zo ?_))
 refine zP rfl (cb) ?_
 repeat (refine aa ?_;first | (apply ai;rfl;simp only [aj,avs,tts,Nat.reduceAdd,Nat.reduceMul,Nat.reduceSub,Nat.reduceEqDiff,Nat.reduceLT,Nat.reduceLeDiff,Int.reduceToNat,Int.reduceLE,Int.reduceLT,Int.toNat_natCast,reduceCtorEq]<;>exact rr) | (refine zg rfl ?_;first | refine ah ?_ | refine zo ?_))
 refine ae ?_
 repeat refine ag ?_
 refine an ?_
 refine nT (gf:=213) (caps:=[.rp [aO (limbs a)]]) (jk (limbs a)) rfl rfl Tryz.call213 (fun μ w lb hs hr=>nP (ce a) (by omega) μ w lb hs hr)
  (fun k H'=>∃out r c,mf (limbs a) b ((limbs a).length - k) r out∧(c=AV.d (.v (.slice none 0 0))∧r=0∨c = .d (aO (limbs r)))∧H'=H++[.box 136 [.d (aO (limbs b))],.row 167 1 0 (dI (cw out)),.box 136 [.ms (H.length+1) 0 (limbs a).length],.box 136 [c]])
  (fun c H'=>False) ⟨_,0,_,mf.start hb0,.inl ⟨rfl,rfl⟩,rfl⟩ ?_ ?_ (fun c H' h=>h.elim)
 ·rintro l k H' hk ⟨out,r,c,hD,hc,rfl⟩ hN
  rw [dP] at hk
  rw [jb _ hk]
  obtain ⟨m,hm⟩:∃m,m=(limbs a).length - 1 - k:=⟨_,rfl⟩
  rw [←hm]
  have hmp:m<(limbs a).length:=by omega
  rw [show (limbs a).length - k=m+1 by omega] at hD
  have hnext:(limbs a).length - (k+1)=m:=by omega
  simp only [gS,aA,List.zip_cons_cons,List.zip_nil_left,List.foldl_cons,List.foldl_nil,List.set_cons_succ,List.set_cons_zero,iA,uA,aO]
  clear hm cb hN
  have hx:(limbs a).getD m 0<1000000000:=dc (ce a) m
  have hrl:(limbs r).length≤900:=by
   have h3:=gE (ce b)
   rw [bG] at h3
   have h4:=dV (Nat.lt_trans hD.lt h3)
   omega
  have ct:=mJ base ((limbs a).getD m 0::limbs r) (by simp only [List.length_cons];omega)
  rw [tk hx] at ct
  repeat refine ag ?_
  refine zr af ?_
  repeat (refine aa ?_;first | (apply ai;rfl;simp only [aj,avs,tts,Nat.reduceAdd,Nat.reduceMul,Nat.reduceSub,Nat.reduceEqDiff,Nat.reduceLT,Nat.reduceLeDiff,Int.reduceToNat,Int.reduceLE,Int.reduceLT,Int.toNat_natCast,reduceCtorEq]<;>exact rr) | (refine zg rfl ?_;first | refine ah ?_ | refine zo ?_))
  refine ae ?_
  repeat refine ag ?_
  refine zr af ?_
  repeat (refine aa ?_;first | (apply ai;rfl;simp only [aj,avs,tts,Nat.reduceAdd,Nat.reduceMul,Nat.reduceSub,Nat.reduceEqDiff,Nat.reduceLT,Nat.reduceLeDiff,Int.reduceToNat,Int.reduceLE,Int.reduceLT,Int.toNat_natCast,reduceCtorEq]<;>exact rr) | (refine zg rfl ?_;first | refine ah ?_ | refine zo ?_))
  refine ae ?_
  refine ⟨rfl,Bt ?_⟩
  refine an ?_
  repeat refine ag ?_
  refine eh (Q0:=fun env K'=>K'=H++[.box 136 [.d (aO (limbs b))],.row 167 1 0 (dI (cw out)),.box 136 [.ms (H.length+1) 0 (limbs a).length],.box 136 [.d (aO (limbs ((limbs a).getD m 0+B9 * r)))]]∧env = .undef :: .undef :: .undef :: .ptr H.length 0 :: .undef :: .undef :: .ptr (H.length+2) 0 :: .ptr (H.length+3) 0::iA m::uA ((limbs a).getD m 0:Nat)::List.replicate 34 .undef) ?_ ?_
  ·rcases hc with ⟨rfl,rfl⟩ | rfl
   ·rw [bE] at ct
    repeat refine ag ?_
    refine zr af ?_
    repeat (refine aa ?_;first | (apply ai;rfl;simp only [aj,avs,tts,Nat.reduceAdd,Nat.reduceMul,Nat.reduceSub,Nat.reduceEqDiff,Nat.reduceLT,Nat.reduceLeDiff,Int.reduceToNat,Int.reduceLE,Int.reduceLT,Int.toNat_natCast,reduceCtorEq,aO]<;>exact rr) | (refine zg rfl ?_;first | refine ah ?_ | refine zo ?_))
    refine eD ((H.length+4)) rfl (by simp only [avs]<;>rfl) (by simp only [avs,tts,Nat.reduceAdd,Nat.reduceMul,Nat.reduceSub,Nat.reduceEqDiff,Nat.reduceLT,Nat.reduceLeDiff,Int.reduceToNat,Int.reduceLE,Int.reduceLT,Int.toNat_natCast,reduceCtorEq,bU,bY,cP,bh,bc,unI,unL,Nat.add_eq_left,Nat.left_eq_add,Nat.one_ne_zero]<;>rfl) (by simp only [avs,tts,Nat.reduceAdd,Nat.reduceMul,Nat.reduceSub,Nat.reduceEqDiff,Nat.reduceLT,Nat.reduceLeDiff,Int.reduceToNat,Int.reduceLE,Int.reduceLT,Int.toNat_natCast,reduceCtorEq,bU,bY,cP,bh,bc,unI,unL,Nat.add_eq_left,Nat.left_eq_add,Nat.one_ne_zero]<;>rfl) (ct) (by simp only [avs]<;>rfl) ?_
    repeat (refine aa ?_;first | (apply ai;rfl;simp only [aj,avs,tts,Nat.reduceAdd,Nat.reduceMul,Nat.reduceSub,Nat.reduceEqDiff,Nat.reduceLT,Nat.reduceLeDiff,Int.reduceToNat,Int.reduceLE,Int.reduceLT,Int.toNat_natCast,reduceCtorEq]<;>exact rr) | (refine zg rfl ?_;first | refine ah ?_ | refine zo ?_))
    refine ae ?_
    refine ⟨rfl,_,_,⟨?_,.inr ⟨by simp,?_,.more hB (.cons (by simp [aN.bel,aS,AV.bel]) (.cons (fM _) (.cons (by simp [aN.bel,aS,AV.bel]) (.cons (by simp [aN.bel,aS,AV.bel]) .nil)))),[.dead],by simp [aO]⟩⟩,rfl,rfl⟩
    ·simp [aJ,List.replicate,aO,iA,uA]
    ·simp [aS,AV.bel,List.replicate,iA,uA]
   ·have hnlr:=bO (limbs r)
    have f1:1+(limbs r).length≤9223372036854775807:=by omega
    have f2:(1+(limbs r).length) * 8≤140737488355328:=by omega
    have f3:(1+(limbs r).length=(limbs r).length+1)=True:=by simp [Nat.add_comm]
    have f4:unI (List.map (fun it=>List.map AV.d it) (cw (limbs r)))=some (cw (limbs r)):=bh _
    repeat refine ag ?_
    refine zr af ?_
    repeat (refine aa ?_;first | (apply ai;rfl;simp only [aj,avs,tts,Nat.reduceAdd,Nat.reduceMul,Nat.reduceSub,Nat.reduceEqDiff,Nat.reduceLT,Nat.reduceLeDiff,Int.reduceToNat,Int.reduceLE,Int.reduceLT,Int.toNat_natCast,reduceCtorEq,aO,bc,hnlr,f1,f2]<;>exact rr) | (refine zg rfl ?_;first | refine ah ?_ | refine zo ?_))
    refine eD ((H.length+4)) rfl (by simp only [avs]<;>rfl) (by simp only [avs,tts,Nat.reduceAdd,Nat.reduceMul,Nat.reduceSub,Nat.reduceEqDiff,Nat.reduceLT,Nat.reduceLeDiff,Int.reduceToNat,Int.reduceLE,Int.reduceLT,Int.toNat_natCast,reduceCtorEq,bU,bY,cP,bh,bc,unI,unL,Nat.add_eq_left,Nat.left_eq_add,Nat.one_ne_zero,hnlr,f3,f4,if_true,Option.map_some]<;>rfl) (by simp only [avs,tts,Nat.reduceAdd,Nat.reduceMul,Nat.reduceSub,Nat.reduceEqDiff,Nat.reduceLT,Nat.reduceLeDiff,Int.reduceToNat,Int.reduceLE,Int.reduceLT,Int.toNat_natCast,reduceCtorEq,bU,bY,cP,bh,bc,unI,unL,Nat.add_eq_left,Nat.left_eq_add,Nat.one_ne_zero,hnlr,f3,f4,if_true,Option.map_some]<;>rfl) (ct) (by simp only [avs]<;>rfl) ?_
    repeat (refine aa ?_;first | (apply ai;rfl;simp only [aj,avs,tts,Nat.reduceAdd,Nat.reduceMul,Nat.reduceSub,Nat.reduceEqDiff,Nat.reduceLT,Nat.reduceLeDiff,Int.reduceToNat,Int.reduceLE,Int.reduceLT,Int.toNat_natCast,reduceCtorEq]<;>exact rr) | (refine zg rfl ?_;first | refine ah ?_ | refine zo ?_))
    refine ae ?_
    refine ⟨rfl,_,_,⟨?_,.inr ⟨by simp,?_,.more hB (.cons (by simp [aN.bel,aS,AV.bel]) (.cons (fM _) (.cons (by simp [aN.bel,aS,AV.bel]) (.cons (by simp [aN.bel,aS,AV.bel]) .nil)))),[.dead],by simp [aO]⟩⟩,rfl,rfl⟩
    ·simp [aJ,List.replicate,aO,iA,uA]
    ·simp [aS,AV.bel,List.replicate,iA,uA]
  clear hc ct
  rintro env K' ⟨rfl,rfl⟩
  obtain ⟨t,ht⟩:∃t,t=(limbs a).getD m 0+B9 * r:=⟨_,rfl⟩
  rw [←ht]
  have htb:t<b * B9:=by rw [ht];exact zA hx hD.lt
  have hvb:=gE (ce b)
  rw [bG] at hvb
  have hbB:b * B9≤B9 ^ ((limbs b).length+1):=by rw [Nat.pow_succ];exact Nat.mul_le_mul_right _ (Nat.le_of_lt hvb)
  have htl:(limbs t).length≤901:=by
   have:=dV (Nat.lt_of_lt_of_le htb hbB)
   omega
  have hml:∀i,i<1000000000→(limbs (b * i)).length≤901:=fun i hi=>by
   have h1:b * i<b * B9:=Nat.mul_lt_mul_of_pos_left hi hb0
   have:=dV (Nat.lt_of_lt_of_le h1 hbB)
   omega
  have cc:=pn base (limbs t) (limbs b) (iX _) (iX _) (by omega) (by omega)
  rw [bG,bG] at cc
  have ec:=Bk t b
  simp only [List.replicate,iA,uA] at cc ⊢
  repeat refine ag ?_
  refine zr af ?_
  repeat (refine aa ?_;first | (apply ai;rfl;simp only [aj,avs,tts,Nat.reduceAdd,Nat.reduceMul,Nat.reduceSub,Nat.reduceEqDiff,Nat.reduceLT,Nat.reduceLeDiff,Int.reduceToNat,Int.reduceLE,Int.reduceLT,Int.toNat_natCast,reduceCtorEq]<;>exact rr) | (refine zg rfl ?_;first | refine ah ?_ | refine zo ?_))
  refine zP rfl (cc) ?_
  repeat (refine aa ?_;first | (apply ai;rfl;simp only [aj,avs,tts,Nat.reduceAdd,Nat.reduceMul,Nat.reduceSub,Nat.reduceEqDiff,Nat.reduceLT,Nat.reduceLeDiff,Int.reduceToNat,Int.reduceLE,Int.reduceLT,Int.toNat_natCast,reduceCtorEq,ec]<;>exact rr) | (refine zg rfl ?_;first | refine ah ?_ | refine zo ?_))
  refine ae ?_
  repeat refine ag ?_
  refine am rfl rfl (fun hb => ?_) fun hb => ?_
  ·have hlt:t<b:=by simpa using hb
   refine aq ?_
   refine ⟨_,_,⟨aJ.refl _,.inl rfl⟩,?_⟩
   simp only [yf]
   refine ⟨out,t,_,?_,.inr rfl,rfl⟩
   rw [hnext]
   have:=hD.small (ce a) hb0 hmp (by rw [←ht];exact hlt)
   rwa [←ht] at this
  refine ap ?_
  have hst:=hD.step (ce a) hb0 hmp
  rw [←ht] at hst
  obtain ⟨d,hd⟩:∃d,d=t / b:=⟨_,rfl⟩
  rw [←hd] at hst
  have hdl:d≤999999999:=by
   have:d<B9:=by rw [hd];exact Nat.div_lt_of_lt_mul htb
   have:d<1000000000:=this
   omega
  have hbd:b * d≤t:=by rw [hd];exact Nat.mul_div_le t b
  have hmod:t - b * d=t % b:=by
   have:=Nat.div_add_mod t b
   rw [←hd] at this
   omega
  have cs:=xY base (H++[.box 136 [.d (aO (limbs b))],.row 167 1 0 (dI (cw out)),.box 136 [.ms (H.length+1) 0 (limbs a).length],.box 136 [.d (aO (limbs t))]]) 188 [.ptr H.length 0,.ptr (H.length+3) 0] 999999999 (by omega) (fun i=>decide (t<b * (i+1)))
   (fun i hi=>CV base _ _ _ b t i (by simp) (by simp) hi (by omega) (by omega) (by have:=hml (i+1) (by omega);omega)) d hdl (fun i hi=>zB hb0 (by rw [←hd];exact hi)) (fun i hi _=>zC hb0 (by rw [←hd];exact hi))
  have cm:=B6 base (limbs b) [d] (ce b) (fun x hx=>by simp only [List.mem_singleton] at hx;subst hx;show x<1000000000;omega) (by omega) (by simp)
  rw [bG,qX] at cm
  have cu:=DA base (limbs t) (limbs (b * d)) (ce _) (ce _) (by omega) (nr hbd) (by rw [bG,bG];exact hbd)
  rw [bG,bG,hmod] at cu
  have hol:(dI (cw out)).length=(limbs a).length:=by rw [bc,bO,hD.len]
  have hix:(0:Int)≤(m:Int):=by omega
  have w2:IntKind.u64.wrap ((d:Nat):Int)=((d:Nat):Int):=by rw [IntKind.wrap_u64];omega
  simp only [iA] at cs
  clear cc ec
  repeat refine ag ?_
  refine zr af ?_
  repeat (refine aa ?_;first | (apply ai;rfl;simp only [aj,avs,tts,Nat.reduceAdd,Nat.reduceMul,Nat.reduceSub,Nat.reduceEqDiff,Nat.reduceLT,Nat.reduceLeDiff,Int.reduceToNat,Int.reduceLE,Int.reduceLT,Int.toNat_natCast,reduceCtorEq]<;>exact rr) | (refine zg rfl ?_;first | refine ah ?_ | refine zo ?_))
  refine zD rfl (cs) ?_
  repeat (refine aa ?_;first | (apply ai;rfl;simp only [aj,avs,tts,Nat.reduceAdd,Nat.reduceMul,Nat.reduceSub,Nat.reduceEqDiff,Nat.reduceLT,Nat.reduceLeDiff,Int.reduceToNat,Int.reduceLE,Int.reduceLT,Int.toNat_natCast,reduceCtorEq]<;>exact rr) | (refine zg rfl ?_;first | refine ah ?_ | refine zo ?_))
  refine ae ?_
  have hmo:m<out.length:=by rw [hD.len];exact hmp
  have g3:=jP out hmo
  repeat refine ag ?_
  refine zr af ?_
  repeat (refine aa ?_;first | (apply ai;rfl;simp only [aj,avs,tts,Nat.reduceAdd,Nat.reduceMul,Nat.reduceSub,Nat.reduceEqDiff,Nat.reduceLT,Nat.reduceLeDiff,Int.reduceToNat,Int.reduceLE,Int.reduceLT,Int.toNat_natCast,reduceCtorEq,hol,hix,hmp,w2,g3,bQ,jO]<;>exact rr) | (refine zg rfl ?_;first | refine ah ?_ | refine zo ?_))
  refine ae ?_
  repeat refine ag ?_
  refine zw 7 af mixed ?_
  repeat (refine ak ?_;first | (apply au;rfl;simp only [aB,avs,tts,Nat.reduceAdd,Nat.reduceMul,Nat.reduceSub,Nat.reduceEqDiff,Nat.reduceLT,Nat.reduceLeDiff,Int.reduceToNat,Int.reduceLE,Int.reduceLT,Int.toNat_natCast,reduceCtorEq,w2]<;>exact rr;first | trivial | omega) | (refine yg rfl ?_;first | refine ar ?_ | refine yo ?_))
  refine yP rfl (cm) ?_
  repeat (refine ak ?_;first | (apply au;rfl;simp only [aB,avs,tts,Nat.reduceAdd,Nat.reduceMul,Nat.reduceSub,Nat.reduceEqDiff,Nat.reduceLT,Nat.reduceLeDiff,Int.reduceToNat,Int.reduceLE,Int.reduceLT,Int.toNat_natCast,reduceCtorEq,w2]<;>exact rr;first | trivial | omega) | (refine yg rfl ?_;first | refine ar ?_ | refine yo ?_))
  refine yP rfl (cu) ?_
  repeat (refine ak ?_;first | (apply au;rfl;simp only [aB,avs,tts,Nat.reduceAdd,Nat.reduceMul,Nat.reduceSub,Nat.reduceEqDiff,Nat.reduceLT,Nat.reduceLeDiff,Int.reduceToNat,Int.reduceLE,Int.reduceLT,Int.toNat_natCast,reduceCtorEq,w2]<;>exact rr;first | trivial | omega) | (refine yg rfl ?_;first | refine ar ?_ | refine yo ?_))
  refine al ?_
  repeat (refine aa ?_;first | (apply ai;rfl;simp only [aj,avs,tts,Nat.reduceAdd,Nat.reduceMul,Nat.reduceSub,Nat.reduceEqDiff,Nat.reduceLT,Nat.reduceLeDiff,Int.reduceToNat,Int.reduceLE,Int.reduceLT,Int.toNat_natCast,reduceCtorEq]<;>exact rr) | (refine zg rfl ?_;first | refine ah ?_ | refine zo ?_))
  refine ae ?_
  refine ⟨List.replicate 44 .undef,H++[.box 136 [.d (aO (limbs b))],.row 167 1 0 (dI (cw (out.set m d))),.box 136 [.ms (H.length+1) 0 (limbs a).length],.box 136 [.d (aO (limbs (t % b)))]],⟨?_,.inr ⟨by simp,?_,.more hB (.cons (by simp [aN.bel,aS,AV.bel]) (.cons (fM _) (.cons (by simp [aN.bel,aS,AV.bel]) (.cons (by simp [aN.bel,aS,AV.bel]) .nil)))),[.dead],by simp [aO]⟩⟩,?_⟩
  ·simp [aJ,List.replicate]
  ·simp [aS,AV.bel,List.replicate]
  ·simp only [yf]
   exact ⟨_,_,_,by rw [hnext];exact hst,.inr rfl,rfl⟩
 ·rintro H' ⟨out,r,c,hD,hc,rfl⟩ hN
  rw [dP,Nat.sub_self] at hD
  have hf:=hD.fin hb0
  rw [bG] at hf
  have ct:=mJ base out (by rw [hD.len];omega)
  rw [hf.1] at ct
  have hol2:(cw out).length=(limbs a).length:=by rw [bO,hD.len]
  show AW _ _ _ _ _
  repeat refine ag ?_
  rw [←hol2]
  refine CM ?_
  have hcr:c=AV.d (.v (.slice none 0 0))∧r=0∨c = .d (aO (limbs r)):=hc
  have ht2:aI Tryz.prog base 179 [.d (.sl 1 (cw out))] (.d (aO (limbs (a / b)))):=ct
  simp only [bU,bY]
  rcases hcr with ⟨rfl,h0⟩ | rfl
  ·have e0:limbs (a % b)=[]:=by rw [←hf.2,h0];exact bE
   repeat refine ag ?_
   refine zw 5 af mixed ?_
   repeat (refine ak ?_;first | (apply au;rfl;simp only [aB,avs,tts,Nat.reduceAdd,Nat.reduceMul,Nat.reduceSub,Nat.reduceEqDiff,Nat.reduceLT,Nat.reduceLeDiff,Int.reduceToNat,Int.reduceLE,Int.reduceLT,Int.toNat_natCast,reduceCtorEq]<;>exact rr;first | trivial | omega) | (refine yg rfl ?_;first | refine ar ?_ | refine yo ?_))
   refine yP rfl (ht2) ?_
   repeat (refine ak ?_;first | (apply au;rfl;simp only [aB,avs,tts,Nat.reduceAdd,Nat.reduceMul,Nat.reduceSub,Nat.reduceEqDiff,Nat.reduceLT,Nat.reduceLeDiff,Int.reduceToNat,Int.reduceLE,Int.reduceLT,Int.toNat_natCast,reduceCtorEq]<;>exact rr;first | trivial | omega) | (refine yg rfl ?_;first | refine ar ?_ | refine yo ?_))
   refine al ?_
   repeat (refine aa ?_;first | (apply ai;rfl;simp only [aj,avs,tts,Nat.reduceAdd,Nat.reduceMul,Nat.reduceSub,Nat.reduceEqDiff,Nat.reduceLT,Nat.reduceLeDiff,Int.reduceToNat,Int.reduceLE,Int.reduceLT,Int.toNat_natCast,reduceCtorEq]<;>exact rr) | (refine zg rfl ?_;first | refine ah ?_ | refine zo ?_))
   refine ae ?_
   show AW _ _ _ _ _
   refine kd 5 1 rfl rfl ?_
   rw [e0]
   exact aw ⟨_,rfl,_,rfl,rfl⟩
  ·repeat refine ag ?_
   refine zw 5 af mixed ?_
   repeat (refine ak ?_;first | (apply au;rfl;simp only [aB,avs,tts,Nat.reduceAdd,Nat.reduceMul,Nat.reduceSub,Nat.reduceEqDiff,Nat.reduceLT,Nat.reduceLeDiff,Int.reduceToNat,Int.reduceLE,Int.reduceLT,Int.toNat_natCast,reduceCtorEq]<;>exact rr;first | trivial | omega) | (refine yg rfl ?_;first | refine ar ?_ | refine yo ?_))
   refine yP rfl (ht2) ?_
   repeat (refine ak ?_;first | (apply au;rfl;simp only [aB,avs,tts,Nat.reduceAdd,Nat.reduceMul,Nat.reduceSub,Nat.reduceEqDiff,Nat.reduceLT,Nat.reduceLeDiff,Int.reduceToNat,Int.reduceLE,Int.reduceLT,Int.toNat_natCast,reduceCtorEq]<;>exact rr;first | trivial | omega) | (refine yg rfl ?_;first | refine ar ?_ | refine yo ?_))
   refine al ?_
   repeat (refine aa ?_;first | (apply ai;rfl;simp only [aj,avs,tts,Nat.reduceAdd,Nat.reduceMul,Nat.reduceSub,Nat.reduceEqDiff,Nat.reduceLT,Nat.reduceLeDiff,Int.reduceToNat,Int.reduceLE,Int.reduceLT,Int.toNat_natCast,reduceCtorEq]<;>exact rr) | (refine zg rfl ?_;first | refine ah ?_ | refine zo ?_))
   refine ae ?_
   rw [←hf.2]
   exact aw ⟨_,rfl,_,rfl,rfl⟩
end Av
end Go.Proofs.YtdekcppfpgeneaaGreatDoor
