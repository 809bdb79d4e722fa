import Derived.Below
import Derived.WalkKit
import Derived.Laws.BitsLemmas
import Derived.Lib.Strings
import Derived.Lib.ItoaNum
import Derived.Lib.ItoaMem
import Derived.Lib.AtoiAll
import Derived.StillTail
import Derived.MapKept
import Derived.Laws.Closers25b
import Derived.ChangeKeysEq
import Derived.Laws.CopyRow
import Derived.Laws.Cells
import Derived.Laws.MakeOwn
import Derived.Laws.AppendOwn
import Derived.Laws.Strings
import Derived.Lib.AppendStr
import Derived.Laws.BytesString
import Derived.Laws.StructEq
import Derived.LaidEql
import Derived.OrdersIn
import Derived.RangeFuncIn
import Derived.RangeFuncCalls
import Derived.RangeFuncLeaves
import Derived.RangeFuncRecord
import Derived.KernelRfl
set_option linter.unusedVariables false
set_option linter.unusedSimpArgs false
namespace Go.Proofs.YtdekcppfpgeneaaGreatDoor
open Go
namespace Nt
abbrev B9:Nat:=1000000000
def bg:List Nat→Nat
 | []=>0
 | a::r=>a+B9 * bg r
def dy:List Nat→List Nat
 | []=>[]
 | a::r=>match dy r with
  | []=>if a=0 then [] else [a]
  | t::ts=>a::t::ts
def bt (l:List Nat):Prop:=∀x∈l,x<B9
def Can (l:List Nat):Prop:=bt l∧dy l=l
theorem fv (l m:List Nat):bg (l++m)=bg l+B9 ^ l.length * bg m:=by
 induction l with
 | nil=>simp [bg]
 | cons a r ih=>simp only [List.cons_append,bg,ih,List.length_cons,Nat.pow_succ,Nat.mul_add];rw [Nat.mul_comm (B9 ^ r.length) B9,Nat.mul_assoc,Nat.add_assoc]
theorem gE {l:List Nat} (h:bt l):bg l<B9 ^ l.length:=by
 induction l with
 | nil=>simp [bg]
 | cons a r ih =>
  have h1:=ih fun x hx=>h x (by simp [hx])
  have h2:a<B9:=h a (by simp)
  simp only [bg,List.length_cons,Nat.pow_succ]
  have h3:B9 * (bg r+1)≤B9 * B9 ^ r.length:=Nat.mul_le_mul_left _ h1
  rw [Nat.mul_comm (B9 ^ r.length)]
  rw [Nat.mul_add] at h3
  omega
theorem tj (l:List Nat):dy (l++[0])=dy l:=by
 induction l with
 | nil=>rfl
 | cons a r ih=>simp only [List.cons_append,dy,ih]
theorem vO {a:Nat} (h:a≠0) (l:List Nat):dy (l++[a])=l++[a]:=by
 induction l with
 | nil=>simp [dy,h]
 | cons b r ih =>
  simp only [List.cons_append,dy,ih]
  cases r<;>rfl
def limbs (n:Nat):List Nat:=if h:n=0 then [] else n % B9::limbs (n / B9)
 termination_by n
 decreasing_by exact Nat.div_lt_self (by omega) (by decide)
theorem bE:limbs 0=[]:=by unfold limbs;simp
theorem dO {n:Nat} (h:n≠0):limbs n=n % B9::limbs (n / B9):=by
 conv=>lhs;unfold limbs
 rw [dif_neg h]
theorem bG (n:Nat):bg (limbs n)=n:=by
 induction n using Nat.strongRecOn with
 | ind n ih =>
  by_cases h:n=0
  ·subst h;rw [bE];rfl
  ·rw [dO h,bg,ih _ (Nat.div_lt_self (by omega) (by decide))]
   exact Nat.mod_add_div n B9
theorem dW {n:Nat}:limbs n=[]↔n=0:=by
 constructor
 ·intro h
  have:=bG n
  rw [h] at this
  exact this.symm
 ·rintro rfl;exact bE
theorem ce (n:Nat):bt (limbs n):=by
 induction n using Nat.strongRecOn with
 | ind n ih =>
  by_cases h:n=0
  ·subst h;rw [bE];intro x hx;simp at hx
  ·rw [dO h]
   intro x hx
   rcases List.mem_cons.1 hx with rfl | hx
   ·exact Nat.mod_lt _ (by decide)
   ·exact ih _ (Nat.div_lt_self (by omega) (by decide)) x hx
theorem di {l:List Nat} (h:bt l):dy l=limbs (bg l):=by
 induction l with
 | nil=>simp [dy,bg,bE]
 | cons a r ih =>
  have h1:=ih fun x hx=>h x (by simp [hx])
  have h2:a<B9:=h a (by simp)
  unfold dy
  rw [h1]
  have hm:(a+B9 * bg r) % B9=a:=by rw [Nat.add_mul_mod_self_left];exact Nat.mod_eq_of_lt h2
  have hd:(a+B9 * bg r) / B9=bg r:=by rw [Nat.add_mul_div_left _ _ (by decide),Nat.div_eq_of_lt h2];omega
  cases he:limbs (bg r) with
  | nil =>
   have h0:=dW.1 he
   simp only [bg,h0,Nat.mul_zero,Nat.add_zero]
   by_cases ha:a=0
   ·rw [if_pos ha,ha,bE]
   ·rw [if_neg ha,dO ha,Nat.mod_eq_of_lt h2,Nat.div_eq_of_lt h2,bE]
  | cons t ts =>
   have h0:bg r≠0:=fun e=>by rw [e,bE] at he;cases he
   have hne:a+B9 * bg r≠0:=by
    have:0<B9 * bg r:=Nat.mul_pos (by decide) (by omega)
    omega
   simp only [bg]
   rw [dO hne,hm,hd,he]
theorem iX (n:Nat):Can (limbs n):=⟨ce n,by rw [di (ce n),bG]⟩
theorem pr {l:List Nat} (h:Can l):l=limbs (bg l):=by rw [←di h.1,h.2]
theorem dV {n k:Nat} (h:n<B9 ^ k):(limbs n).length≤k:=by
 induction k generalizing n with
 | zero =>
  have:n=0:=by simpa using h
  rw [this,bE];exact Nat.le_refl _
 | succ k ih =>
  by_cases h0:n=0
  ·rw [h0,bE];simp
  ·rw [dO h0,List.length_cons]
   have:=ih (n:=n / B9) (Nat.div_lt_of_lt_mul (by rw [Nat.pow_succ,Nat.mul_comm] at h;exact h))
   omega
theorem qb {n:Nat} (h:n≠0):B9 ^ ((limbs n).length - 1)≤n:=by
 induction n using Nat.strongRecOn with
 | ind n ih =>
  rw [dO h,List.length_cons,Nat.add_sub_cancel]
  by_cases h0:n / B9=0
  ·rw [h0,bE];simp;omega
  ·have h1:=ih _ (Nat.div_lt_self (by omega) (by decide)) h0
   have h2:(limbs (n / B9)).length≠0:=fun e=>h0 (dW.1 (List.eq_nil_of_length_eq_zero e))
   have h3:B9 ^ (limbs (n / B9)).length=B9 * B9 ^ ((limbs (n / B9)).length - 1):=by
    rw [Nat.mul_comm,←Nat.pow_succ];congr 1;omega
   rw [h3]
   calc B9 * B9 ^ ((limbs (n / B9)).length - 1)≤B9 * (n / B9):=Nat.mul_le_mul_left _ h1
    _≤n:=Nat.mul_div_le n B9
end Nt
end Go.Proofs.YtdekcppfpgeneaaGreatDoor
namespace Go.Proofs.YtdekcppfpgeneaaGreatDoor
open Go Go.RowKit
def E3 (z:BitVec 64):BitVec 64 :=
 let a:=z * 2862933555777941757#64
 let b:=(a ^^^ (a >>> 32)) * 3935559000370003845#64
 b ^^^ (b >>> 29)
theorem qR (n:Int):IntKind.u64.wrap n=n % 18446744073709551616:=by simp [IntKind.wrap,IntKind.bits,IntKind.signed]
end Go.Proofs.YtdekcppfpgeneaaGreatDoor
namespace Go.Proofs.YtdekcppfpgeneaaGreatDoor
open Go Go.RowKit
def CY (t:List UInt8) (i:Nat):Nat:=(t[i]?.getD 0).toNat
def blk (t:List UInt8) (f:Nat):Nat→Nat
 | 0=>0
 | k+1=>blk t f k * 256+CY t (f+k)
def st (t:List UInt8):Nat→BitVec 64
 | 0=>2611923443488327891#64 ^^^ BitVec.ofNat 64 t.length
 | j+1=>E3 (st t j ^^^ BitVec.ofNat 64 (blk t (8 * j) 8))
end Go.Proofs.YtdekcppfpgeneaaGreatDoor
namespace Go.Proofs.YtdekcppfpgeneaaGreatDoor
open Go Go.RowKit
end Go.Proofs.YtdekcppfpgeneaaGreatDoor
namespace Go.Proofs.YtdekcppfpgeneaaGreatDoor
open Go Go.RowKit
def aG (l:List UInt8):Nat:=l.foldl (fun a c=>a * 10+(c.toNat - 48)) 0
theorem gm (n:Nat) (h:n<10):(UInt8.ofNat (48+n)).toNat=48+n:=by
 have:∀m:Fin 10,(UInt8.ofNat (48+m.val)).toNat=48+m.val:=by decide
 exact this ⟨n,h⟩
theorem cK (n:Nat):aG (Lib.decDigits n)=n:=by
 induction n using Nat.strongRecOn with
 | _ n ih =>
  rw [Lib.decDigits]
  split
  ·simp [aG];omega
  ·have e:=ih (n / 10) (by omega)
   unfold aG at e ⊢
   rw [List.foldl_append,e]
   simp only [List.foldl_cons,List.foldl_nil,gm _ (Nat.mod_lt n (by decide:0<10))]
   omega
end Go.Proofs.YtdekcppfpgeneaaGreatDoor
namespace Go.Proofs.YtdekcppfpgeneaaGreatDoor
open Go Go.RowKit
namespace Nt
theorem dK {n:Nat} (h:n<10):Lib.decDigits n=[UInt8.ofNat (48+n)]:=by rw [Lib.decDigits,dif_pos h]
theorem gP {n:Nat} (h:10≤n):Lib.decDigits n=Lib.decDigits (n / 10)++[UInt8.ofNat (48+n % 10)]:=by rw [Lib.decDigits,dif_neg (by omega)]
theorem dec_pos (n:Nat):0<(Lib.decDigits n).length:=by
 rw [Lib.decDigits]
 split<;>simp
theorem gO (k:Nat):∀n,n<10 ^ (k+1)→(Lib.decDigits n).length≤k+1:=by
 induction k with
 | zero=>intro n h;rw [dK (by simpa using h)];simp
 | succ k ih =>
  intro n h
  by_cases h10:n<10
  ·rw [dK h10];simp
  ·rw [gP (by omega),List.length_append]
   have:=ih (n / 10) (by rw [Nat.pow_succ] at h;omega)
   simp only [List.length_cons,List.length_nil]
   omega
theorem Bi (k:Nat):∀v x,0<v→x<10 ^ (k+1)→Lib.decDigits (v * 10 ^ (k+1)+x)=Lib.decDigits v++(List.replicate (k+1 - (Lib.decDigits x).length) 48++Lib.decDigits x):=by
 induction k with
 | zero =>
  intro v x hv hx
  have hx:x<10:=by simpa using hx
  rw [gP (by omega),dK hx,show (v * 10 ^ (0+1)+x) / 10=v by omega,show (v * 10 ^ (0+1)+x) % 10=x by omega]
  simp
 | succ k ih =>
  intro v x hv hx
  obtain ⟨p,hp⟩:∃p,p=10 ^ (k+1):=⟨_,rfl⟩
  have hp0:0<p:=hp ▸ Nat.pow_pos (by decide)
  have hpx:10 ^ (k+1+1)=p * 10:=by rw [hp];rfl
  rw [hpx] at hx ⊢
  have hvp:v * (p * 10)=v * p * 10:=(Nat.mul_assoc ..).symm
  have hge:10≤v * (p * 10)+x:=by
   have:1 * (1 * 10)≤v * (p * 10):=Nat.mul_le_mul hv (Nat.mul_le_mul hp0 (Nat.le_refl _))
   omega
  have h1:=ih v (x / 10) hv (by rw [←hp];omega)
  rw [gP hge,hvp,show (v * p * 10+x) / 10=v * p+x / 10 by omega,show (v * p * 10+x) % 10=x % 10 by omega,hp,h1]
  by_cases h10:x<10
  ·have hd:x / 10=0:=by omega
   rw [hd,dK (by decide:(0:Nat)<10),dK h10,Nat.mod_eq_of_lt h10]
   simp only [List.length_cons,List.length_nil,List.append_assoc]
   congr 1
   rw [show k+1+1 - (0+1)=k+1 by omega,show k+1 - (0+1)=k by omega,List.replicate_succ']
   simp
  ·rw [gP (n:=x) (by omega)]
   simp only [List.length_append,List.length_cons,List.length_nil,List.append_assoc]
   rw [show k+1+1 - ((Lib.decDigits (x / 10)).length+(0+1))=k+1 - (Lib.decDigits (x / 10)).length by omega]
def DJ (x:Nat):List UInt8:=List.replicate (9 - (Lib.decDigits x).length) 48++Lib.decDigits x
theorem CW {v x:Nat} (hv:0<v) (hx:x<B9):Lib.decDigits (x+B9 * v)=Lib.decDigits v++DJ x:=by
 have:=Bi 8 v x hv hx
 rw [Nat.add_comm,Nat.mul_comm]
 exact this
theorem dec_9 {x:Nat} (hx:x<B9):(Lib.decDigits x).length≤9:=gO 8 x hx
theorem nt (m:Nat):∀n,(limbs n).drop m=limbs (n / B9 ^ m):=by
 induction m with
 | zero=>intro n;simp
 | succ m ih =>
  intro n
  by_cases h:n=0
  ·subst h;rw [bE,Nat.zero_div,bE];rfl
  ·rw [dO h,List.drop_succ_cons,ih,Nat.div_div_eq_div_mul,Nat.pow_succ,Nat.mul_comm B9]
theorem o3 (n m:Nat) (h:m<(limbs n).length):(limbs n).getD m 0=n / B9 ^ m % B9∧n / B9 ^ m≠0:=by
 have h1:=nt m n
 have h2:(limbs n).drop m=(limbs n).getD m 0::(limbs n).drop (m+1):=by
  rw [List.drop_eq_getElem_cons h]
  simp [List.getD,h]
 rw [h2] at h1
 by_cases h0:n / B9 ^ m=0
 ·rw [h0,bE] at h1;cases h1
 ·rw [dO h0] at h1
  simp only [List.cons.injEq] at h1
  exact ⟨h1.1,h0⟩
theorem wy (n:Nat):n / B9 ^ (limbs n).length=0:=by
 have:=nt (limbs n).length n
 rw [List.drop_length] at this
 exact dW.1 this.symm
theorem wz (n m:Nat):n / B9 ^ m=n / B9 ^ m % B9+B9 * (n / B9 ^ (m+1)):=by
 rw [Nat.pow_succ,←Nat.div_div_eq_div_mul]
 exact (Nat.mod_add_div _ _).symm
def aM (c:UInt8):Bool:=48≤c.toNat&&c.toNat≤57
theorem qv (l:List UInt8):∀a,l.foldl (fun a c=>a * 10+(c.toNat - 48)) a=a * 10 ^ l.length+aG l:=by
 induction l with
 | nil=>intro a;simp [aG]
 | cons c r ih =>
  intro a
  unfold aG
  simp only [List.foldl_cons,List.length_cons]
  rw [ih,ih (0 * 10+(c.toNat - 48)),Nat.pow_succ,Nat.add_mul,Nat.mul_assoc,Nat.mul_comm 10,Nat.zero_mul,Nat.zero_add]
  omega
theorem cV (a b:List UInt8):aG (a++b)=aG a * 10 ^ b.length+aG b:=by
 conv=>lhs;unfold aG
 rw [List.foldl_append,qv]
 rfl
theorem cA {l:List UInt8} (h:l.all aM=true):aG l<10 ^ l.length:=by
 induction l with
 | nil=>decide
 | cons c r ih =>
  simp only [List.all_cons,Bool.and_eq_true] at h
  have h1:=ih h.2
  have:aG (c::r)=aG [c] * 10 ^ r.length+aG r:=cV [c] r
  have h2:aG [c]=c.toNat - 48:=by simp [aG]
  have h3:c.toNat≤57:=by have:=h.1;simp [aM] at this;omega
  rw [this,h2,List.length_cons,Nat.pow_succ]
  have:(c.toNat - 48) * 10 ^ r.length≤9 * 10 ^ r.length:=Nat.mul_le_mul_right _ (by omega)
  omega
theorem oT:∀(l:List UInt8) (acc k:Nat),l.all aM=true→acc<10 ^ k→k+l.length≤18→Lib.parseUint10 acc l = .ok (acc * 10 ^ l.length+aG l)
 | [],acc,k,_,_,_=>by simp [Lib.parseUint10,aG]
 | c::r,acc,k,h,ha,hk=>by
  simp only [List.all_cons,Bool.and_eq_true] at h
  have hd:=h.1
  simp [aM] at hd
  have hk2:k+1≤18:=by simp only [List.length_cons] at hk;omega
  have h17:acc<10 ^ 17:=Nat.lt_of_lt_of_le ha (Nat.pow_le_pow_right (by decide) (by omega))
  have h17':acc<100000000000000000:=h17
  have hr:=oT r (acc * 10+(c.toNat - 48)) (k+1) h.2 (by rw [Nat.pow_succ];omega) (by simp only [List.length_cons] at hk;omega)
  rw [Lib.parseUint10,if_pos hd,if_neg (by omega),if_neg (by omega),hr]
  have e:aG (c::r)=aG [c] * 10 ^ r.length+aG r:=cV [c] r
  have h2:aG [c]=c.toNat - 48:=by simp [aG]
  rw [e,h2,List.length_cons,Nat.pow_succ,Nat.add_mul,Nat.mul_assoc,Nat.mul_comm 10]
  congr 1
  omega
theorem AT {l:List UInt8} (h:l.all aM=true) (hl:l.length≤18):Lib.parseUint10 0 l = .ok (aG l):=by
 have:=oT l 0 0 h (by decide) (by omega)
 simpa using this
theorem Aj {l:List UInt8} (h:l.all aM=true) (k:Nat):(l.drop k).all aM=true:=by
 rw [List.all_eq_true] at h ⊢
 exact fun x hx=>h x (List.mem_of_mem_drop hx)
theorem gy {l:List UInt8} (h:l.all aM=true) (k:Nat):(l.take k).all aM=true:=by
 rw [List.all_eq_true] at h ⊢
 exact fun x hx=>h x (List.mem_of_mem_take hx)
structure jw (l:List UInt8) (e:Nat) (out:List Nat):Prop where
 le:e≤l.length
 ok:bt out
 len:9 * out.length=l.length - e
 val:bg out=aG (l.drop e)
theorem jw.start (l:List UInt8):jw l l.length []:=⟨Nat.le_refl _,fun x hx=>by simp at hx,by simp,by rw [List.drop_length];rfl⟩
def kC (l:List UInt8) (e:Nat):List UInt8:=(l.drop (e - 9)).take (e - (e - 9))
theorem zz {l:List UInt8} {e:Nat} (h:e≤l.length):l.drop (e - 9)=kC l e++l.drop e:=by
 unfold kC
 conv=>lhs;rw [←List.take_append_drop (e - (e - 9)) (l.drop (e - 9))]
 rw [List.drop_drop,show e - 9+(e - (e - 9))=e by omega]
theorem uF {l:List UInt8} {e:Nat} (h:e≤l.length):(kC l e).length=e - (e - 9):=by
 unfold kC
 rw [List.length_take,List.length_drop]
 omega
theorem uG {l:List UInt8} (hd:l.all aM=true) (e:Nat):(kC l e).all aM=true:=gy (Aj hd _) _
theorem Cu {l:List UInt8} (hd:l.all aM=true) {e:Nat} (h:e≤l.length):aG (kC l e)<B9:=by
 have:=cA (uG hd e)
 refine Nat.lt_of_lt_of_le this ?_
 show 10 ^ _≤10 ^ 9
 exact Nat.pow_le_pow_right (by decide) (by rw [uF h];omega)
theorem tC (k:Nat):(10:Nat) ^ (9 * k)=B9 ^ k:=Nat.pow_mul 10 9 k
theorem jw.val' {l:List UInt8} {e:Nat} {out:List Nat} (h:jw l e out):bg (out++[aG (kC l e)])=aG (l.drop (e - 9)):=by
 rw [fv,h.val,zz h.le,cV,List.length_drop,←h.len,tC]
 simp only [bg]
 rw [Nat.mul_zero,Nat.add_zero,Nat.mul_comm,Nat.add_comm]
theorem jw.ok' {l:List UInt8} (hd:l.all aM=true) {e:Nat} {out:List Nat} (h:jw l e out):bt (out++[aG (kC l e)]):=fun x hx=>by
 rcases List.mem_append.1 hx with hx | hx
 ·exact h.ok x hx
 ·simp only [List.mem_singleton] at hx;subst hx;exact Cu hd h.le
theorem jw.step {l:List UInt8} (hd:l.all aM=true) {e:Nat} {out:List Nat} (h:jw l e out) (h9:9≤e):jw l (e - 9) (out++[aG (kC l e)]) :=
 ⟨by have:=h.le;omega,h.ok' hd,by have:=h.len;have:=h.le;simp only [List.length_append,List.length_cons,List.length_nil];omega,h.val'⟩
theorem jw.fin {l:List UInt8} {out:List Nat} (h:jw l 0 out):dy out=limbs (aG l):=by
 rw [di h.ok,h.val,List.drop_zero]
theorem jw.last {l:List UInt8} (hd:l.all aM=true) {e:Nat} {out:List Nat} (h:jw l e out) (h9:e<9):dy (out++[aG (kC l e)])=limbs (aG l):=by
 rw [di (h.ok' hd),h.val',show e - 9=0 by omega,List.drop_zero]
end Nt
end Go.Proofs.YtdekcppfpgeneaaGreatDoor
namespace Go.Proofs.YtdekcppfpgeneaaGreatDoor
open Go Go.RowKit
namespace Av
structure qQ (es:Array MapEntry) (clock:Nat):Prop where
 st:Go.MapKept.Stamped es clock
 cl:clock=es.size
 at_:∀(i:Nat) (e:MapEntry),es[i]?=some e→e.born=i
theorem uf:qQ #[] 0:=⟨Go.MapKept.stamped_empty _,rfl,fun i e h=>by simp at h⟩
theorem pA {es:Array MapEntry} {clock:Nat} (h:qQ es clock) {key val:Value} (hk:∀x∈es.toList,x.key≠key):qQ (es.push { key,val,born:=clock }) (clock+1):=by
 refine ⟨Go.MapKept.stamped_push h.st hk,by rw [Array.size_push,h.cl],fun i e he => ?_⟩
 rw [Array.getElem?_push] at he
 split at he
 ·rename_i hi;cases he;rw [hi];exact h.cl
 ·exact h.at_ i e he
theorem lS {es:Array MapEntry} {clock:Nat} (h:qQ es clock) (i:Nat) (f:MapEntry→MapEntry) (hb:∀e,(f e).born=e.born) (hk:∀e∈es.toList,es[i]?=some e→(f e).key=e.key):qQ (es.modify i f) clock:=by
 refine ⟨Go.MapKept.stamped_modify h.st i f (fun e _=>hb e) hk,by rw [Array.size_modify,h.cl],fun j e he => ?_⟩
 rw [Array.getElem?_modify] at he
 split at he
 ·rename_i hj
  subst hj
  cases hx:es[i]? with
  | none=>rw [hx] at he;cases he
  | some x=>rw [hx] at he;cases he;rw [hb];exact h.at_ _ _ hx
 ·exact h.at_ _ _ he
inductive TK where
 | bool | str | func | iface | other
 | int (k:IntKind)
 | slice (e:Nat)
 | arr (n e:Nat)
 | map (k e:Nat)
 | struct (fs:List (Nat × Nat))
 | ptr (e:Nat)
 deriving DecidableEq
def eH:TK→Value→Bool
 | .int k,.int k' _=>k == k'
 | .str,.string _=>true
 | .bool,.bool _=>true
 | _,_=>false
def bT:List TK→List Value→Bool
 | [],[]=>true
 | t::r,v::vs=>eH t v&&bT r vs
 | _,_=>false
inductive KS where
 | one (t:TK)
 | flat (l:List TK)
 deriving DecidableEq
def bo:KS→Value→Bool
 | .one t,v=>eH t v
 | .flat l,.agg xs=>bT l xs.toList
 | _,_=>false
inductive PD where
 | v (x:Value)
 | sl (k:Nat) (l:List (List PD))
def PD.one:PD→Bool
 | .v x=>x.oneCell'
 | .sl _ _=>true
inductive AV where
 | d (p:PD)
 | undef
 | ptr (l off:Nat)
 | ms (l ver n:Nat)
 | ep (l ver n i c:Nat)
 | rp (cells:List PD)
 | mp (l:Nat)
 | fn (f:Fn) (first caps:List AV)
 | agg (cells:List AV)
 | tup (vs:List AV)
inductive aN where
 | free
 | dead
 | box (ty:Nat) (cells:List AV)
 | row (ty k ver:Nat) (items:List (List AV))
 | mp (kt et:Nat) (ks:KS) (es:List (Value × AV))
def aN.live:aN→Bool
 | .free | .dead=>false
 | _=>true
abbrev av:=List aN
structure St where
 μ:Nat→Option Nat
 H:av
 w:World
def St.live (s:St) (b:Nat):Prop:=∃l o,s.H[l]?=some o∧o.live=true∧s.μ l=some b
def St.imm (s:St) (b:Nat):Prop:=b<s.w.heap.size∧¬s.live b
def small:Value→Prop
 | .string s=>s.size≤9223372036854775807
 | .int k n=>k.min≤n∧n≤k.max
 | _=>True
mutual
def aQ (w:World) (imm:Nat→Prop):PD→Value→Prop
 | .v x,v=>v=x∧small x
 | .sl k l,v=>∃ao cap,v = .slice ao l.length cap∧l.length≤cap∧cap≤maxLen∧(l=[]∨∃b o,ao=some ⟨b,o,none⟩∧imm b∧bi w imm l b k o)
def bi (w:World) (imm:Nat→Prop):List (List PD)→Nat→Nat→Nat→Prop
 | [],_,_,_=>True
 | it::r,b,k,o=>it.length=k∧aK w imm it b o∧bi w imm r b k (o+k)
def aK (w:World) (imm:Nat→Prop):List PD→Nat→Nat→Prop
 | [],_,_=>True
 | p::r,b,o=>(p.one=true∧∃c,w.cell? ⟨b,o,none⟩=some c∧aQ w imm p c)∧aK w imm r b (o+1)
end
theorem ja {w w':World} {b o:Nat} (h:w'.heap[b]?=w.heap[b]?):w'.cell? ⟨b,o,none⟩=w.cell? ⟨b,o,none⟩:=World.cell?_of_block (w:=w) h
mutual
theorem aQ.on {w w':World} {imm imm':Nat→Prop} (hi:∀b,imm b→imm' b) (hh:∀b,imm b→w'.heap[b]?=w.heap[b]?):∀(p:PD) (v:Value),aQ w imm p v→aQ w' imm' p v
 | .v x,v,h=>h
 | .sl k l,v,h=>by
  simp only [aQ] at h ⊢
  obtain ⟨ao,cap,h1,h2,h3,h4⟩:=h
  refine ⟨ao,cap,h1,h2,h3,?_⟩
  rcases h4 with h4 | ⟨b,o,h4,h5,h6⟩
  ·exact .inl h4
  ·exact .inr ⟨b,o,h4,hi b h5,bi.on hi hh l b k o h5 h6⟩
theorem bi.on {w w':World} {imm imm':Nat→Prop} (hi:∀b,imm b→imm' b) (hh:∀b,imm b→w'.heap[b]?=w.heap[b]?):∀(l:List (List PD)) (b k o:Nat),imm b→bi w imm l b k o→bi w' imm' l b k o
 | [],_,_,_,_,_=>by simp only [bi]
 | it::r,b,k,o,hb,h=>by
  simp only [bi] at h ⊢
  exact ⟨h.1,aK.on hi hh it b o hb h.2.1,bi.on hi hh r b k (o+k) hb h.2.2⟩
theorem aK.on {w w':World} {imm imm':Nat→Prop} (hi:∀b,imm b→imm' b) (hh:∀b,imm b→w'.heap[b]?=w.heap[b]?):∀(l:List PD) (b o:Nat),imm b→aK w imm l b o→aK w' imm' l b o
 | [],_,_,_,_=>by simp only [aK]
 | p::r,b,o,hb,h=>by
  simp only [aK] at h ⊢
  obtain ⟨⟨h0,c,h1,h2⟩,h3⟩:=h
  exact ⟨⟨h0,c,by rw [ja (hh b hb)];exact h1,aQ.on hi hh p c h2⟩,aK.on hi hh r b (o+1) hb h3⟩
end
def cG (a b c d:Nat):Prop:=a<c∨(a=c∧b≤d)
theorem cG.refl (a b:Nat):cG a b a b := .inr ⟨rfl,Nat.le_refl _⟩
theorem cG.trans {a b c d e f:Nat} (h:cG a b c d) (k:cG c d e f):cG a b e f:=by unfold cG at *;omega
def eS (w:World) (b:Nat):Nat:=match w.heap[b]? with
 | some (.cells arr _ _)=>arr.size
 | _=>0
def cB (s:St) (l ver n:Nat) (v:Value):Prop :=
 match s.H[l]? with
 | some .dead=>True
 | some (.row _ k ver' items)=>cG ver n ver' items.length∧(ver=ver'→n=items.length→(s.μ l=none∧v = .slice none 0 0∧n=0)∨∃b cap,s.μ l=some b∧v = .slice (some ⟨b,0,none⟩) n cap∧n≤cap∧cap≤maxLen∧cap * k=eS s.w b)
 | _=>False
def cE (s:St) (l off:Nat) (v:Value):Prop :=
 match s.H[l]? with
 | some .dead=>True
 | some (.box _ _)=>∃b,s.μ l=some b∧v = .pointer (some ⟨b,off,none⟩)
 | _=>False
def eT (s:St) (l ver n i c:Nat) (v:Value):Prop :=
 match s.H[l]? with
 | some .dead=>True
 | some (.row _ k ver' items)=>cG ver n ver' items.length∧(ver=ver'→n=items.length→∃b,s.μ l=some b∧v = .pointer (some ⟨b,i * k+c,none⟩))
 | _=>False
def dD (s:St) (l:Nat) (v:Value):Prop :=
 match s.H[l]? with
 | some .dead=>True
 | some (.mp _ _ _ _)=>∃b,s.μ l=some b∧v = .map (some b)
 | _=>False
mutual
def Rep (s:St):AV→Value→Prop
 | .d p,v=>aQ s.w s.imm p v
 | .undef,_=>True
 | .ptr l off,v=>(∃a,v = .pointer (some a))∧cE s l off v
 | .ms l ver n,v=>(∃a c,v = .slice a n c)∧cB s l ver n v
 | .ep l ver n i c,v=>(∃a,v = .pointer (some a))∧eT s l ver n i c v
 | .rp cells,v=>∃b o,v = .pointer (some ⟨b,o,none⟩)∧s.imm b∧aK s.w s.imm cells b o
 | .mp l,v=>(∃b,v = .map (some b))∧dD s l v
 | .fn f first caps,v=>∃a c,v = .func f a c∧ax s first a.toList∧ax s caps c.toList
 | .agg cells,v=>∃c,v = .agg c∧ax s cells c.toList
 | .tup vs,v=>∃c,v = .tuple c∧ax s vs c.toList
def ax (s:St):List AV→List Value→Prop
 | [],l=>l=[]
 | a::r,l=>∃x t,l=x::t∧Rep s a x∧ax s r t
end
structure lY (s s':St):Prop where
 size:s.w.heap.size≤s'.w.heap.size
 imm:∀b,s.imm b→s'.imm b
 heap:∀b,s.imm b→s'.w.heap[b]?=s.w.heap[b]?
theorem lY.refl (s:St):lY s s:=⟨Nat.le_refl _,fun _ h=>h,fun _ _=>rfl⟩
theorem lY.trans {a b c:St} (h:lY a b) (k:lY b c):lY a c :=
 ⟨Nat.le_trans h.size k.size,fun i hi=>k.imm i (h.imm i hi),fun i hi=>(k.heap i (h.imm i hi)).trans (h.heap i hi)⟩
def aW (s s':St) (l:Nat):Prop :=
 match s.H[l]? with
 | none=>True
 | some .free=>True
 | some .dead=>s'.H[l]?=some .dead
 | some (.box ty _)=>s'.H[l]?=some .dead∨∃cells',s'.H[l]?=some (.box ty cells')∧s'.μ l=s.μ l
 | some (.row ty k ver items)=>s'.H[l]?=some .dead∨∃ver' items',s'.H[l]?=some (.row ty k ver' items')∧cG ver items.length ver' items'.length∧(ver'=ver→items'.length=items.length→s'.μ l=s.μ l∧∀b,s.μ l=some b→eS s'.w b=eS s.w b)
 | some (.mp kt et ks _)=>s'.H[l]?=some .dead∨∃es',s'.H[l]?=some (.mp kt et ks es')∧s'.μ l=s.μ l
theorem aW.refl (s:St) (l:Nat):aW s s l:=by
 unfold aW
 split
 ·trivial
 ·trivial
 ·assumption
 ·exact .inr ⟨_,‹_›,rfl⟩
 ·exact .inr ⟨_,_,‹_›,cG.refl _ _,fun _ _=>⟨rfl,fun _ _=>rfl⟩⟩
 ·exact .inr ⟨_,‹_›,rfl⟩
theorem aW.of_eq {s s':St} {l:Nat} (h1:s'.H[l]?=s.H[l]?) (h2:s'.μ l=s.μ l) (h3:∀b,s.μ l=some b→eS s'.w b=eS s.w b):aW s s' l:=by
 unfold aW
 rw [h1,h2]
 split
 ·trivial
 ·trivial
 ·assumption
 ·exact .inr ⟨_,‹_›,rfl⟩
 ·exact .inr ⟨_,_,‹_›,cG.refl _ _,fun _ _=>⟨rfl,h3⟩⟩
 ·exact .inr ⟨_,‹_›,rfl⟩
theorem aW.trans {a b c:St} {l:Nat} (h:aW a b l) (k:aW b c l):aW a c l:=by
 unfold aW at h ⊢
 split at h
 ·trivial
 ·trivial
 ·unfold aW at k
  rw [h] at k
  exact k
 ·rcases h with h | ⟨cs,h,h2⟩
  ·unfold aW at k
   rw [h] at k
   exact .inl k
  ·unfold aW at k
   rw [h] at k
   rcases k with k | ⟨cs',k,k2⟩
   ·exact .inl k
   ·exact .inr ⟨cs',k,k2.trans h2⟩
 ·rcases h with h | ⟨v,it,h,h2,h3⟩
  ·unfold aW at k
   rw [h] at k
   exact .inl k
  ·unfold aW at k
   rw [h] at k
   rcases k with k | ⟨v',it',k,k2,k3⟩
   ·exact .inl k
   ·refine .inr ⟨v',it',k,h2.trans k2,fun e1 e2 => ?_⟩
    have e3:v=_∧it.length=_:=(by unfold cG at h2 k2;exact ⟨by omega,by omega⟩:v=v'∧it.length=it'.length)
    have r1:=h3 (by omega) (by omega)
    have r2:=k3 (by omega) (by omega)
    refine ⟨r2.1.trans r1.1,fun x hx => ?_⟩
    rw [r2.2 x (by rw [r1.1];exact hx),r1.2 x hx]
 ·rcases h with h | ⟨cs,h,h2⟩
  ·unfold aW at k
   rw [h] at k
   exact .inl k
  ·unfold aW at k
   rw [h] at k
   rcases k with k | ⟨cs',k,k2⟩
   ·exact .inl k
   ·exact .inr ⟨cs',k,k2.trans h2⟩
structure Evo (N:Nat) (s s':St):Prop where
 keeps:lY s s'
 refs:∀l,l<N→aW s s' l
theorem Evo.refl (N:Nat) (s:St):Evo N s s:=⟨.refl s,fun l _ => .refl s l⟩
theorem Evo.trans {N:Nat} {a b c:St} (h:Evo N a b) (k:Evo N b c):Evo N a c:=⟨h.keeps.trans k.keeps,fun l hl=>(h.refs l hl).trans (k.refs l hl)⟩
theorem Evo.mono {N M:Nat} {a b:St} (h:Evo N a b) (hm:M≤N):Evo M a b:=⟨h.keeps,fun l hl=>h.refs l (by omega)⟩
theorem aF {H:av} {l:Nat} {o:aN} (h:H[l]?=some o):l<H.length:=(List.getElem?_eq_some_iff.1 h).1
theorem cE.evo {s s':St} {l off:Nat} {v:Value} (h:cE s l off v) (e:aW s s' l):cE s' l off v:=by
 unfold cE at h
 split at h
 ·rename_i hd
  unfold aW at e;rw [hd] at e
  unfold cE;rw [e];trivial
 ·rename_i hd
  obtain ⟨b,h1,h2⟩:=h
  unfold aW at e;rw [hd] at e
  rcases e with e | ⟨cs,e,e2⟩
  ·unfold cE;rw [e];trivial
  ·unfold cE;rw [e];exact ⟨b,by rw [e2];exact h1,h2⟩
 ·exact h.elim
theorem dD.evo {s s':St} {l:Nat} {v:Value} (h:dD s l v) (e:aW s s' l):dD s' l v:=by
 unfold dD at h
 split at h
 ·rename_i hd
  unfold aW at e;rw [hd] at e
  unfold dD;rw [e];trivial
 ·rename_i hd
  obtain ⟨b,h1,h2⟩:=h
  unfold aW at e;rw [hd] at e
  rcases e with e | ⟨cs,e,e2⟩
  ·unfold dD;rw [e];trivial
  ·unfold dD;rw [e];exact ⟨b,by rw [e2];exact h1,h2⟩
 ·exact h.elim
theorem cB.evo {s s':St} {l ver n:Nat} {v:Value} (h:cB s l ver n v) (e:aW s s' l):cB s' l ver n v:=by
 unfold cB at h
 split at h
 ·rename_i hd
  unfold aW at e;rw [hd] at e
  unfold cB;rw [e];trivial
 ·rename_i ty k ver' items hd
  obtain ⟨h1,h2⟩:=h
  unfold aW at e;rw [hd] at e
  rcases e with e | ⟨v2,it2,e,e2,e3⟩
  ·unfold cB;rw [e];trivial
  ·unfold cB;rw [e]
   refine ⟨h1.trans e2,fun q1 q2 => ?_⟩
   have q3:ver=ver'∧n=items.length:=by clear h2;unfold cG at h1 e2;exact ⟨by omega,by omega⟩
   have r:=e3 (by omega) (by omega)
   rcases h2 q3.1 q3.2 with ⟨a1,a2⟩ | ⟨b,cap,a1,a2,a3,a4,a5⟩
   ·exact .inl ⟨by rw [r.1];exact a1,a2⟩
   ·exact .inr ⟨b,cap,by rw [r.1];exact a1,a2,a3,a4,by rw [r.2 b a1];exact a5⟩
 ·exact h.elim
theorem eT.evo {s s':St} {l ver n i c:Nat} {v:Value} (h:eT s l ver n i c v) (e:aW s s' l):eT s' l ver n i c v:=by
 unfold eT at h
 split at h
 ·rename_i hd
  unfold aW at e;rw [hd] at e
  unfold eT;rw [e];trivial
 ·rename_i ty k ver' items hd
  obtain ⟨h1,h2⟩:=h
  unfold aW at e;rw [hd] at e
  rcases e with e | ⟨v2,it2,e,e2,e3⟩
  ·unfold eT;rw [e];trivial
  ·unfold eT;rw [e]
   refine ⟨h1.trans e2,fun q1 q2 => ?_⟩
   have q3:ver=ver'∧n=items.length:=by clear h2;unfold cG at h1 e2;exact ⟨by omega,by omega⟩
   have r:=e3 (by omega) (by omega)
   obtain ⟨b,a1,a2⟩:=h2 q3.1 q3.2
   exact ⟨b,by rw [r.1];exact a1,a2⟩
 ·exact h.elim
theorem cE.lt {s:St} {l off:Nat} {v:Value} (h:cE s l off v):l<s.H.length:=by
 unfold cE at h
 split at h
 ·exact aF ‹_›
 ·exact aF ‹_›
 ·exact h.elim
theorem dD.lt {s:St} {l:Nat} {v:Value} (h:dD s l v):l<s.H.length:=by
 unfold dD at h
 split at h
 ·exact aF ‹_›
 ·exact aF ‹_›
 ·exact h.elim
theorem cB.lt {s:St} {l ver n:Nat} {v:Value} (h:cB s l ver n v):l<s.H.length:=by
 unfold cB at h
 split at h
 ·exact aF ‹_›
 ·exact aF ‹_›
 ·exact h.elim
theorem eT.lt {s:St} {l ver n i c:Nat} {v:Value} (h:eT s l ver n i c v):l<s.H.length:=by
 unfold eT at h
 split at h
 ·exact aF ‹_›
 ·exact aF ‹_›
 ·exact h.elim
mutual
theorem Rep.evo {s s':St} (e:Evo s.H.length s s'):∀(a:AV) (v:Value),Rep s a v→Rep s' a v
 | .d p,v,h=>by
  simp only [Rep] at h ⊢
  exact aQ.on e.keeps.imm e.keeps.heap p v h
 | .undef,v,h=>by simp only [Rep]
 | .ptr l off,v,h=>by
  simp only [Rep] at h ⊢
  exact ⟨h.1,h.2.evo (e.refs l h.2.lt)⟩
 | .ms l ver n,v,h=>by
  simp only [Rep] at h ⊢
  exact ⟨h.1,h.2.evo (e.refs l h.2.lt)⟩
 | .ep l ver n i c,v,h=>by
  simp only [Rep] at h ⊢
  exact ⟨h.1,h.2.evo (e.refs l h.2.lt)⟩
 | .rp cells,v,h=>by
  simp only [Rep] at h ⊢
  obtain ⟨b,o,h1,h2,h3⟩:=h
  exact ⟨b,o,h1,e.keeps.imm b h2,aK.on e.keeps.imm e.keeps.heap cells b o h2 h3⟩
 | .mp l,v,h=>by
  simp only [Rep] at h ⊢
  exact ⟨h.1,h.2.evo (e.refs l h.2.lt)⟩
 | .fn f first caps,v,h=>by
  simp only [Rep] at h ⊢
  obtain ⟨a,c,h1,h2,h3⟩:=h
  exact ⟨a,c,h1,ax.evo e first _ h2,ax.evo e caps _ h3⟩
 | .agg cells,v,h=>by
  simp only [Rep] at h ⊢
  obtain ⟨c,h1,h2⟩:=h
  exact ⟨c,h1,ax.evo e cells _ h2⟩
 | .tup vs,v,h=>by
  simp only [Rep] at h ⊢
  obtain ⟨c,h1,h2⟩:=h
  exact ⟨c,h1,ax.evo e vs _ h2⟩
theorem ax.evo {s s':St} (e:Evo s.H.length s s'):∀(l:List AV) (vs:List Value),ax s l vs→ax s' l vs
 | [],vs,h=>by simp only [ax] at h ⊢;exact h
 | a::r,vs,h=>by
  simp only [ax] at h ⊢
  obtain ⟨x,t,h1,h2,h3⟩:=h
  exact ⟨x,t,h1,Rep.evo e a x h2,ax.evo e r t h3⟩
end
def AV.one:AV→Bool
 | .d p=>p.one
 | .ptr _ _ | .ms _ _ _ | .ep _ _ _ _ _ | .rp _ | .mp _ | .fn _ _ _=>true
 | _=>false
def aR (s:St):List (Value × AV)→List MapEntry→Prop
 | [],l=>l=[]
 | (k,a)::r,l=>∃e t,l=e::t∧e.key=k∧Rep s a e.val∧aR s r t
theorem aR.evo {s s':St} (e:Evo s.H.length s s'):∀(es:List (Value × AV)) (l:List MapEntry),aR s es l→aR s' es l
 | [],_,h=>h
 | (k,a)::r,l,h=>by
  obtain ⟨x,t,h1,h2,h3,h4⟩:=h
  exact ⟨x,t,h1,h2,Rep.evo e a _ h3,aR.evo e r t h4⟩
def BB (base:World) (s:St) (l:Nat):aN→Prop
 | .free=>True
 | .dead=>True
 | .box ty cells=>∃b arr,s.μ l=some b∧base.heap.size≤b∧s.w.heap[b]?=some (.cells arr ty (0,0))∧ax s cells arr.toList
 | .row ty k _ items=>(∀it∈items,it.length=k)∧(∀it∈items,it.all AV.one=true)∧((s.μ l=none∧items=[])∨∃b arr front rest,s.μ l=some b∧base.heap.size≤b∧s.w.heap[b]?=some (.cells arr ty (0,0))∧arr.toList=front++rest∧ax s items.flatten front)
 | .mp _ _ ks es=>(∀p∈es,bo ks p.1=true)∧∃b ents clock,s.μ l=some b∧base.heap.size≤b∧s.w.heap[b]?=some (.map ents clock)∧aR s es ents.toList∧qQ ents clock
structure Sim (base:World) (s:St):Prop where
 below:Below base.heap.size base s.w
 obj:∀l o,s.H[l]?=some o→BB base s l o
 inj:∀l l' o o' b,s.H[l]?=some o→s.H[l']?=some o'→o.live=true→o'.live=true→s.μ l=some b→s.μ l'=some b→l=l'
theorem BB.evo {base:World} {s s':St} (e:Evo s.H.length s s') {l:Nat} {o:aN} (ho:BB base s l o) (hμ:o.live=true→s'.μ l=s.μ l) (hb:o.live=true→∀b,s.μ l=some b→s'.w.heap[b]?=s.w.heap[b]?):BB base s' l o:=by
 cases o with
 | free=>trivial
 | dead=>trivial
 | box ty cells =>
  obtain ⟨b,arr,h1,h2,h3,h4⟩:=ho
  exact ⟨b,arr,by rw [hμ rfl];exact h1,h2,by rw [hb rfl b h1];exact h3,ax.evo e _ _ h4⟩
 | row ty k ver items =>
  obtain ⟨h0,h9,h⟩:=ho
  refine ⟨h0,h9,?_⟩
  rcases h with ⟨h1,h2⟩ | ⟨b,arr,f,r,h1,h2,h3,h4,h5⟩
  ·exact .inl ⟨by rw [hμ rfl];exact h1,h2⟩
  ·exact .inr ⟨b,arr,f,r,by rw [hμ rfl];exact h1,h2,by rw [hb rfl b h1];exact h3,h4,ax.evo e _ _ h5⟩
 | mp kt et ks es =>
  obtain ⟨h0,b,ents,clock,h1,h2,h3,h4,h5⟩:=ho
  exact ⟨h0,b,ents,clock,by rw [hμ rfl];exact h1,h2,by rw [hb rfl b h1];exact h3,aR.evo e _ _ h4,h5⟩
theorem Sim.block {base:World} {s:St} (hs:Sim base s) {l b:Nat} {o:aN} (h:s.H[l]?=some o) (hl:o.live=true) (hb:s.μ l=some b):base.heap.size≤b∧b<s.w.heap.size:=by
 have ho:=hs.obj l o h
 have lt:∀{x:Obj},s.w.heap[b]?=some x→b<s.w.heap.size:=fun hx=>(Array.getElem?_eq_some_iff.1 hx).1
 cases o with
 | free=>cases hl
 | dead=>cases hl
 | box ty cells =>
  obtain ⟨b',arr,h1,h2,h3,h4⟩:=ho
  rw [hb] at h1;cases h1
  exact ⟨h2,lt h3⟩
 | row ty k ver items =>
  rcases ho.2.2 with ⟨h1,h2⟩ | ⟨b',arr,f,r,h1,h2,h3,h4,h5⟩
  ·rw [hb] at h1;cases h1
  ·rw [hb] at h1;cases h1
   exact ⟨h2,lt h3⟩
 | mp kt et ks es =>
  obtain ⟨_,b',ents,clock,h1,h2,h3,h4⟩:=ho
  rw [hb] at h1;cases h1
  exact ⟨h2,lt h3⟩
theorem Sim.live_ge {base:World} {s:St} (hs:Sim base s) {b:Nat} (h:s.live b):base.heap.size≤b∧b<s.w.heap.size:=by
 obtain ⟨l,o,h1,h2,h3⟩:=h
 exact hs.block h1 h2 h3
end Av
end Go.Proofs.YtdekcppfpgeneaaGreatDoor
namespace Go.Proofs.YtdekcppfpgeneaaGreatDoor
open Go Go.RowKit
namespace Av
def upd (μ:Nat→Option Nat) (l:Nat) (b:Option Nat):Nat→Option Nat:=fun x=>if x=l then b else μ x
theorem upd_same (μ:Nat→Option Nat) (l:Nat) (b:Option Nat):upd μ l b l=b:=by simp [upd]
theorem upd_ne {μ:Nat→Option Nat} {l x:Nat} {b:Option Nat} (h:x≠l):upd μ l b x=μ x:=by simp [upd,h]
theorem aV {H:av} {l x:Nat} {o:aN} (h:x≠l):(H.set l o)[x]?=H[x]?:=by simp [List.getElem?_set,Ne.symm h]
theorem aE {H:av} {l:Nat} {o:aN} (h:l<H.length):(H.set l o)[l]?=some o:=by simp [List.getElem?_set,h]
def Er (base:World) (s:St) (w':World) (b:Nat):aN→Prop
 | .box ty cells=>∃arr,w'.heap[b]?=some (.cells arr ty (0,0))∧ax s cells arr.toList
 | .row ty k _ items=>(∀it∈items,it.length=k)∧(∀it∈items,it.all AV.one=true)∧∃arr front rest,w'.heap[b]?=some (.cells arr ty (0,0))∧arr.toList=front++rest∧ax s items.flatten front
 | .mp _ _ ks es=>(∀p∈es,bo ks p.1=true)∧∃ents clock,w'.heap[b]?=some (.map ents clock)∧aR s es ents.toList∧qQ ents clock
 | _=>False
theorem Sim.upd {base:World} {s:St} (hs:Sim base s) {l:Nat} {o o':aN} (ho:s.H[l]?=some o) {w':World} {b:Nat}
  (hos:w'.os=s.w.os) (htape:w'.tape=s.w.tape) (hout:w'.output=s.w.output) (hsize:s.w.heap.size≤w'.heap.size)
  (hne:∀c,c≠b→c<s.w.heap.size→w'.heap[c]?=s.w.heap[c]?)
  (hbl:s.w.heap.size≤b∨(o.live=true∧s.μ l=some b))
  (hpre:Er base s w' b o') (hev:aW s ⟨Av.upd s.μ l (some b),s.H.set l o',w'⟩ l) :
  Sim base ⟨Av.upd s.μ l (some b),s.H.set l o',w'⟩∧Evo s.H.length s ⟨Av.upd s.μ l (some b),s.H.set l o',w'⟩:=by
 have hl:=aF ho
 have hbase:base.heap.size≤s.w.heap.size:=hs.below.size
 have hbge:base.heap.size≤b:=by
  rcases hbl with h | ⟨h1,h2⟩
  ·omega
  ·exact (hs.block ho h1 h2).1
 have hother:∀l' o2 b2,s.H[l']?=some o2→o2.live=true→s.μ l'=some b2→l'≠l→b2≠b:=by
  intro l' o2 b2 h1 h2 h3 h4 e
  subst e
  rcases hbl with h | ⟨k1,k2⟩
  ·exact absurd (hs.block h1 h2 h3).2 (by omega)
  ·exact h4 (hs.inj l' l o2 o b2 h1 ho h2 k1 h3 k2)
 have himm:∀c,s.imm c→c≠b:=by
  intro c hc e
  subst e
  rcases hbl with h | ⟨k1,k2⟩
  ·exact absurd hc.1 (by omega)
  ·exact hc.2 ⟨l,o,ho,k1,k2⟩
 have hevo:Evo s.H.length s ⟨Av.upd s.μ l (some b),s.H.set l o',w'⟩:=by
  refine ⟨⟨hsize,fun c hc=>⟨Nat.lt_of_lt_of_le hc.1 hsize,?_⟩,fun c hc=>hne c (himm c hc) hc.1⟩,fun l' hl' => ?_⟩
  ·rintro ⟨l',o2,h1,h2,h3⟩
   by_cases e:l'=l
   ·subst e
    simp only [upd_same] at h3
    exact himm c hc (Option.some.inj h3).symm
   ·simp only [aV e,upd_ne e] at h1 h3
    exact hc.2 ⟨l',o2,h1,h2,h3⟩
  ·by_cases e:l'=l
   ·subst e;exact hev
   ·unfold aW
    simp only [aV e,upd_ne e]
    split
    ·trivial
    ·trivial
    ·assumption
    ·exact .inr ⟨_,‹_›,(by first | rfl | trivial)⟩
    ·rename_i hd
     refine .inr ⟨_,_,‹_›,cG.refl _ _,fun _ _=>⟨(by first | rfl | trivial),fun b2 hb2 => ?_⟩⟩
     unfold eS
     rw [hne b2 (hother l' _ b2 hd rfl hb2 e) (hs.block hd rfl hb2).2]
    ·exact .inr ⟨_,‹_›,(by first | rfl | trivial)⟩
 refine ⟨⟨⟨hos.trans hs.below.os,htape.trans hs.below.tape,hout.trans hs.below.output,Nat.le_trans hbase hsize,fun c hc => ?_⟩,fun l' o2 h => ?_,fun l1 l2 o1 o2 b2 h1 h2 k1 k2 m1 m2 => ?_⟩,hevo⟩
 ·show w'.heap[c]?=_
  rw [hne c (by omega) (by omega)]
  exact hs.below.block c hc
 ·by_cases e:l'=l
  ·subst e
   simp only [aE hl,Option.some.injEq] at h
   subst h
   cases o' with
   | free=>trivial
   | dead=>trivial
   | box ty cells =>
    obtain ⟨arr,h1,h2⟩:=hpre
    exact ⟨b,arr,upd_same _ _ _,hbge,h1,ax.evo hevo _ _ h2⟩
   | row ty k ver items =>
    obtain ⟨h0,h9,arr,f,r,h1,h2,h3⟩:=hpre
    exact ⟨h0,h9,.inr ⟨b,arr,f,r,upd_same _ _ _,hbge,h1,h2,ax.evo hevo _ _ h3⟩⟩
   | mp kt et ks es =>
    obtain ⟨h0,ents,clock,h1,h2,h3⟩:=hpre
    exact ⟨h0,b,ents,clock,upd_same _ _ _,hbge,h1,aR.evo hevo _ _ h2,h3⟩
  ·simp only [aV e] at h
   refine (hs.obj l' o2 h).evo hevo (fun _=>upd_ne e) (fun hlv b2 hb2 => ?_)
   exact hne b2 (hother l' o2 b2 h hlv hb2 e) (hs.block h hlv hb2).2
 ·by_cases e1:l1=l
  ·by_cases e2:l2=l
   ·rw [e1,e2]
   ·exfalso
    subst e1
    simp only [upd_same,aV e2,upd_ne e2,Option.some.injEq] at m1 h2 m2
    exact hother l2 o2 b2 h2 k2 m2 e2 m1.symm
  ·by_cases e2:l2=l
   ·exfalso
    subst e2
    simp only [upd_same,aV e1,upd_ne e1,Option.some.injEq] at m2 h1 m1
    exact hother l1 o1 b2 h1 k1 m1 e1 m2.symm
   ·simp only [aV e1,aV e2,upd_ne e1,upd_ne e2] at h1 h2 m1 m2
    exact hs.inj l1 l2 o1 o2 b2 h1 h2 k1 k2 m1 m2
theorem Sim.drop {base:World} {s:St} (hs:Sim base s) {l:Nat} {o o':aN} (ho:s.H[l]?=some o) (ho':o' = .dead∨(o = .free∧∃ty k ver,o' = .row ty k ver [])∨∃ty k v v' items,o = .row ty k v items∧o' = .row ty k v' []∧v<v') :
  Sim base ⟨Av.upd s.μ l none,s.H.set l o',s.w⟩∧Evo s.H.length s ⟨Av.upd s.μ l none,s.H.set l o',s.w⟩:=by
 have hl:=aF ho
 have hevo:Evo s.H.length s ⟨Av.upd s.μ l none,s.H.set l o',s.w⟩:=by
  refine ⟨⟨Nat.le_refl _,fun c hc=>⟨hc.1,?_⟩,fun c hc=>rfl⟩,fun l' hl' => ?_⟩
  ·rintro ⟨l',o2,h1,h2,h3⟩
   by_cases e:l'=l
   ·subst e
    simp only [upd_same] at h3
    cases h3
   ·simp only [aV e,upd_ne e] at h1 h3
    exact hc.2 ⟨l',o2,h1,h2,h3⟩
  ·by_cases e:l'=l
   ·subst e
    unfold aW
    simp only [aE hl,ho]
    rcases ho' with h | ⟨h,_⟩ | ⟨ty,k,v,v',items,h,h',hv⟩
    ·subst h
     cases o<;>first | trivial | exact .inl rfl | rfl
    ·subst h;trivial
    ·subst h h'
     exact .inr ⟨v',[],rfl,.inl hv,fun e=>by omega⟩
   ·unfold aW
    simp only [aV e,upd_ne e]
    split
    ·trivial
    ·trivial
    ·assumption
    ·exact .inr ⟨_,‹_›,(by first | rfl | trivial)⟩
    ·exact .inr ⟨_,_,‹_›,cG.refl _ _,fun _ _=>⟨(by first | rfl | trivial),fun _ _=>(by first | rfl | trivial)⟩⟩
    ·exact .inr ⟨_,‹_›,(by first | rfl | trivial)⟩
 refine ⟨⟨hs.below,fun l' o2 h => ?_,fun l1 l2 o1 o2 b2 h1 h2 k1 k2 m1 m2 => ?_⟩,hevo⟩
 ·by_cases e:l'=l
  ·subst e
   simp only [aE hl,Option.some.injEq] at h
   subst h
   rcases ho' with h | ⟨_,ty,k,ver,h⟩ | ⟨ty,k,v,v',items,_,h,_⟩
   ·subst h;trivial
   ·subst h;exact ⟨by simp,by simp,.inl ⟨upd_same _ _ _,rfl⟩⟩
   ·subst h;exact ⟨by simp,by simp,.inl ⟨upd_same _ _ _,rfl⟩⟩
  ·simp only [aV e] at h
   exact (hs.obj l' o2 h).evo hevo (fun _=>upd_ne e) (fun _ _ _=>rfl)
 ·by_cases e1:l1=l
  ·subst e1;simp only [upd_same] at m1;cases m1
  ·by_cases e2:l2=l
   ·subst e2;simp only [upd_same] at m2;cases m2
   ·simp only [aV e1,aV e2,upd_ne e1,upd_ne e2] at h1 h2 m1 m2
    exact hs.inj l1 l2 o1 o2 b2 h1 h2 k1 k2 m1 m2
theorem Sim.below' {base:World} {s:St} (hs:Sim base s) {w':World} (hb:Below s.w.heap.size s.w w') :
  Sim base ⟨s.μ,s.H,w'⟩∧Evo s.H.length s ⟨s.μ,s.H,w'⟩:=by
 have hlt:∀{l o b},s.H[l]?=some o→o.live=true→s.μ l=some b→w'.heap[b]?=s.w.heap[b]?:=fun h1 h2 h3=>hb.block _ (hs.block h1 h2 h3).2
 have hevo:Evo s.H.length s ⟨s.μ,s.H,w'⟩:=by
  refine ⟨⟨hb.size,fun c hc=>⟨Nat.lt_of_lt_of_le hc.1 hb.size,hc.2⟩,fun c hc=>hb.block c hc.1⟩,fun l hl => ?_⟩
  unfold aW
  split
  ·trivial
  ·trivial
  ·assumption
  ·exact .inr ⟨_,‹_›,rfl⟩
  ·rename_i hd
   refine .inr ⟨_,_,‹_›,cG.refl _ _,fun _ _=>⟨rfl,fun b2 hb2 => ?_⟩⟩
   unfold eS
   rw [hlt hd rfl hb2]
  ·exact .inr ⟨_,‹_›,rfl⟩
 refine ⟨⟨hs.below.trans (hb.mono hs.below.size),fun l o h => ?_,hs.inj⟩,hevo⟩
 exact (hs.obj l o h).evo hevo (fun _=>rfl) (fun hl b hb2=>hlt h hl hb2)
theorem Sim.heapEq {base:World} {s:St} (hs:Sim base s) {w':World} (hos:w'.os=s.w.os) (htape:w'.tape=s.w.tape) (hout:w'.output=s.w.output) (hh:w'.heap=s.w.heap) :
  Sim base ⟨s.μ,s.H,w'⟩∧Evo s.H.length s ⟨s.μ,s.H,w'⟩:=hs.below' ⟨hos,htape,hout,by rw [hh];exact Nat.le_refl _,fun k _=>by rw [hh]⟩
end Av
end Go.Proofs.YtdekcppfpgeneaaGreatDoor
namespace Go.Proofs.YtdekcppfpgeneaaGreatDoor
open Go Go.RowKit
namespace Av
structure TI where
 size:Nat
 bytes:Nat
 kind:TK
 zero:List Value
 flat:Option (List TK):=none
def eqV:Value→Value→Bool
 | .int k a,.int k' b=>k == k'&&decide (a=b)
 | .string a,.string b=>decide (a=b)
 | .bool a,.bool b=>a == b
 | _,_=>false
def eqL:List Value→List Value→Bool
 | [],[]=>true
 | a::r,b::t=>eqV a b&&eqL r t
 | _,_=>false
def TI.agg (ti:TI):Bool:=match ti.kind with
 | .arr _ _ | .struct _=>true
 | _=>false
def TI.zval (ti:TI):Value:=if ti.agg then .agg ti.zero.toArray else ti.zero.headD Go.undef
abbrev aY:=Nat→Option TI
def dH:TypeDesc→TK
 | .bool => .bool
 | .int k => .int k
 | .string => .str
 | .slice e => .slice e
 | .array n e => .arr n e
 | .map k e => .map k e
 | .struct fs => .struct (fs.toList.map fun f=>(f.offset,f.type))
 | .pointer e => .ptr e
 | .func _ _ _ => .func
 | .interface _ => .iface
 | _ => .other
def og (P:Program) (t:Nat) (ks:List TK):Prop :=
 P.eqGuardType P.depth t=false∧∀(xs ys:List Value) (w:World),bT ks xs=true→bT ks ys=true→(Op.equal t (.agg xs.toArray) (.agg ys.toArray)).run P w = .ok (eqL xs ys) w∧∀e,(Instr.checkKey e 10000 t (.agg xs.toArray)).run P w = .ok () w
structure bC (P:Program) (t:Nat) (ti:TI):Prop where
 info:∃i,P.info? t=some i∧i.size=ti.size∧i.bytes=ti.bytes∧i.zero=some ti.zval
 und:∃d,P.underlying t=some d∧dH d=ti.kind
 len:ti.zero.length=ti.size
 zsmall:∀z∈ti.zero,small z∧z.oneCell'=true
 one:ti.agg=true∨ti.size=1
 places:∀fs,P.underlying t=some (.struct fs)→(fs.toList.mapM (fun f=>(P.info? f.type).map fun i=>(f.offset,i.size))).isSome=true
 flat:∀ks,ti.flat=some ks→og P t ks
def bD (P:Program) (tt:aY):Prop:=∀t ti,tt t=some ti→bC P t ti
section
variable {P:Program} {t:Nat} {ti:TI} (h:bC P t ti) (w:World)
include h
theorem bC.run_sizeOf:(sizeOf t).run P w = .ok ti.size w:=by
 obtain ⟨i,h1,h2,_⟩:=h.info
 simp [sizeOf,run_typeInfo w h1,h2]
theorem bC.run_isAgg:(isAgg t).run P w = .ok ti.agg w:=by
 obtain ⟨d,h1,h2⟩:=h.und
 unfold isAgg TI.agg
 rw [←h2]
 simp only [Sem.run_bind,run_underlying h1,Result.andThen_ok]
 cases d<;>rfl
theorem bC.run_zero:(zeroValue t).run P w = .ok ti.zval w:=by
 obtain ⟨i,h1,h2,_,h3⟩:=h.info
 simp [zeroValue,run_typeInfo w h1,h3]
end
theorem TI.zval_cells {ti:TI} (h:ti.zero.length=ti.size) (h1:ti.agg=true∨(ti.size=1∧ti.zero.all (·.oneCell')=true)):ti.zval.cells=ti.zero.toArray:=by
 unfold TI.zval
 cases ha:ti.agg with
 | true=>rfl
 | false =>
  rcases h1 with h1 | ⟨h1,h2⟩
  ·rw [ha] at h1;cases h1
  ·rw [h1] at h
   match hz:ti.zero,h with
   | [x],_ =>
    rw [hz] at h2
    simp at h2
    cases x<;>first | rfl | (simp [Value.oneCell'] at h2)
theorem ax.length {s:St}:∀{l:List AV} {vs:List Value},ax s l vs→l.length=vs.length
 | [],vs,h=>by simp only [ax] at h;subst h;rfl
 | a::r,vs,h=>by
  simp only [ax] at h
  obtain ⟨x,t,rfl,h2,h3⟩:=h
  simp [ax.length h3]
theorem ax.nil {s:St}:ax s [] []:=by simp only [ax]
theorem ax.cons {s:St} {a:AV} {r:List AV} {x:Value} {t:List Value} (h:Rep s a x) (k:ax s r t):ax s (a::r) (x::t):=by
 simp only [ax];exact ⟨x,t,rfl,h,k⟩
theorem ax.one {s:St} {a:AV} {x:Value} (h:Rep s a x):ax s [a] [x] := .cons h .nil
theorem ax.get {s:St}:∀{l:List AV} {vs:List Value} {i:Nat} {a:AV},ax s l vs→l[i]?=some a→∃x,vs[i]?=some x∧Rep s a x
 | [],_,i,a,_,h=>by simp at h
 | b::r,vs,0,a,h,e=>by
  simp only [ax] at h
  obtain ⟨x,t,rfl,h2,h3⟩:=h
  simp at e
  subst e
  exact ⟨x,rfl,h2⟩
 | b::r,vs,i+1,a,h,e=>by
  simp only [ax] at h
  obtain ⟨x,t,rfl,h2,h3⟩:=h
  simp at e
  obtain ⟨y,hy,hr⟩:=ax.get h3 e
  exact ⟨y,by simpa using hy,hr⟩
theorem ax.set {s:St} {a:AV} {x:Value} (hr:Rep s a x):∀{l:List AV} {vs:List Value} (i:Nat),ax s l vs→ax s (l.set i a) (vs.set i x)
 | [],vs,i,h=>by
  simp only [ax] at h
  subst h
  exact .nil
 | b::r,vs,0,h=>by
  simp only [ax] at h
  obtain ⟨y,t,rfl,h2,h3⟩:=h
  exact .cons hr h3
 | b::r,vs,i+1,h=>by
  simp only [ax] at h
  obtain ⟨y,t,rfl,h2,h3⟩:=h
  exact .cons h2 (ax.set hr i h3)
theorem ax.append {s:St}:∀{l:List AV} {vs:List Value} {m:List AV} {ws:List Value},ax s l vs→ax s m ws→ax s (l++m) (vs++ws)
 | [],vs,m,ws,h,k=>by
  simp only [ax] at h
  subst h
  exact k
 | b::r,vs,m,ws,h,k=>by
  simp only [ax] at h
  obtain ⟨y,t,rfl,h2,h3⟩:=h
  exact .cons h2 (ax.append h3 k)
theorem ax.drop {s:St}:∀{l:List AV} {vs:List Value} (i:Nat),ax s l vs→ax s (l.drop i) (vs.drop i)
 | l,vs,0,h=>h
 | [],vs,i+1,h=>by
  simp only [ax] at h
  subst h
  exact .nil
 | b::r,vs,i+1,h=>by
  simp only [ax] at h
  obtain ⟨y,t,rfl,h2,h3⟩:=h
  exact ax.drop i h3
theorem ax.take {s:St}:∀{l:List AV} {vs:List Value} (i:Nat),ax s l vs→ax s (l.take i) (vs.take i)
 | l,vs,0,h=>by simp only [List.take_zero];exact .nil
 | [],vs,i+1,h=>by
  simp only [ax] at h
  subst h
  exact .nil
 | b::r,vs,i+1,h=>by
  simp only [ax] at h
  obtain ⟨y,t,rfl,h2,h3⟩:=h
  exact .cons h2 (ax.take i h3)
theorem ax.split {s:St} {l m:List AV} {vs:List Value} (h:ax s (l++m) vs):ax s l (vs.take l.length)∧ax s m (vs.drop l.length):=by
 have h1:=ax.take l.length h
 have h2:=ax.drop l.length h
 simp only [List.take_left',List.drop_left'] at h1 h2
 exact ⟨h1,h2⟩
theorem uL {s:St} {a:AV} {v:Value} (h1:a.one=true) (h:Rep s a v):v.oneCell'=true:=by
 cases a with
 | d p =>
  cases p with
  | v x =>
   simp only [Rep,aQ] at h
   rw [h.1];exact h1
  | sl k l =>
   simp only [Rep,aQ] at h
   obtain ⟨ao,cap,rfl,_⟩:=h
   rfl
 | undef=>cases h1
 | ptr l off=>simp only [Rep] at h;obtain ⟨⟨a,rfl⟩,_⟩:=h;rfl
 | ms l ver n=>simp only [Rep] at h;obtain ⟨⟨a,c,rfl⟩,_⟩:=h;rfl
 | ep l ver n i c=>simp only [Rep] at h;obtain ⟨⟨a,rfl⟩,_⟩:=h;rfl
 | rp cells=>simp only [Rep] at h;obtain ⟨b,o,rfl,_⟩:=h;rfl
 | mp l=>simp only [Rep] at h;obtain ⟨⟨a,rfl⟩,_⟩:=h;rfl
 | fn f first caps=>simp only [Rep] at h;obtain ⟨a,c,rfl,_⟩:=h;rfl
 | agg cells=>cases h1
 | tup vs=>cases h1
theorem m7 {s:St}:∀{l:List AV} {vs:List Value},l.all AV.one=true→ax s l vs→∀v∈vs,v.oneCell'=true
 | [],vs,_,h,v,hv=>by
  simp only [ax] at h
  subst h
  cases hv
 | a::r,vs,h1,h,v,hv=>by
  simp only [ax] at h
  obtain ⟨x,t,rfl,h2,h3⟩:=h
  simp only [List.all_cons,Bool.and_eq_true] at h1
  rcases List.mem_cons.1 hv with rfl | hv
  ·exact uL h1.1 h2
  ·exact m7 h1.2 h3 v hv
def AV.cells:AV→List AV
 | .agg l=>l
 | a=>[a]
theorem i8 {s:St} {a:AV} {v:Value} (h:Rep s a v) (h1:a.cells.all AV.one=true):ax s a.cells v.cells.toList:=by
 cases a with
 | agg cells =>
  simp only [Rep] at h
  obtain ⟨c,rfl,h2⟩:=h
  exact h2
 | tup vs=>simp [AV.cells,AV.one] at h1
 | undef=>simp [AV.cells,AV.one] at h1
 | _ =>
  have ho:v.oneCell'=true:=uL (by simpa [AV.cells] using h1) h
  have:v.cells = #[v]:=by cases v<;>first | rfl | (simp [Value.oneCell'] at ho)
  rw [this]
  exact .one h
theorem aK.load {s:St} {b:Nat}:∀{cells:List PD} {o:Nat},aK s.w s.imm cells b o →
  ∃cs:List Value,cs.length=cells.length∧(∀j v,cs[j]?=some v→s.w.cell? ⟨b,o+j,none⟩=some v)∧ax s (cells.map .d) cs
 | [],o,h=>⟨[],rfl,fun j v h=>by simp at h,.nil⟩
 | p::r,o,h=>by
  simp only [aK] at h
  obtain ⟨⟨_,c,h1,h2⟩,h3⟩:=h
  obtain ⟨cs,k1,k2,k3⟩:=aK.load h3
  refine ⟨c::cs,by simp [k1],fun j v hj => ?_,.cons (by simp only [Rep];exact h2) k3⟩
  cases j with
  | zero=>simp at hj;subst hj;exact h1
  | succ j =>
   have:=k2 j v (by simpa using hj)
   rw [show o+(j+1)=o+1+j by omega]
   exact this
theorem aK.drop {w:World} {imm:Nat→Prop} {b:Nat}:∀{cells:List PD} {o:Nat} (n:Nat),aK w imm cells b o→aK w imm (cells.drop n) b (o+n)
 | cells,o,0,h=>h
 | [],o,n+1,h=>by simp [aK]
 | p::r,o,n+1,h=>by
  simp only [aK] at h
  have:=aK.drop (cells:=r) n h.2
  rw [show o+(n+1)=o+1+n by omega]
  exact this
theorem bi.get {w:World} {imm:Nat→Prop} {b k:Nat}:∀{l:List (List PD)} {o i:Nat},bi w imm l b k o→i<l.length→(l.getD i []).length=k∧aK w imm (l.getD i []) b (o+i * k)
 | [],o,i,h,hi=>by simp at hi
 | it::r,o,0,h,hi=>by
  simp only [bi] at h
  simpa using ⟨h.1,h.2.1⟩
 | it::r,o,i+1,h,hi=>by
  simp only [bi] at h
  have:=bi.get (i:=i) h.2.2 (by simpa using hi)
  rw [show o+k+i * k=o+(i+1) * k by rw [Nat.succ_mul];omega] at this
  simpa using this
theorem bi.drop {w:World} {imm:Nat→Prop} {b k:Nat}:∀{l:List (List PD)} {o:Nat} (n:Nat),bi w imm l b k o→bi w imm (l.drop n) b k (o+n * k)
 | l,o,0,h=>by simpa using h
 | [],o,n+1,h=>by simp [bi]
 | it::r,o,n+1,h=>by
  simp only [bi] at h
  have:=bi.drop n h.2.2
  rw [show o+k+n * k=o+(n+1) * k by rw [Nat.succ_mul];omega] at this
  exact this
theorem bi.take {w:World} {imm:Nat→Prop} {b k:Nat}:∀{l:List (List PD)} {o:Nat} (n:Nat),bi w imm l b k o→bi w imm (l.take n) b k o
 | l,o,0,h=>by simp [bi]
 | [],o,n+1,h=>by simp [bi]
 | it::r,o,n+1,h=>by
  simp only [bi,List.take_succ_cons] at h ⊢
  exact ⟨h.1,h.2.1,bi.take n h.2.2⟩
end Av
end Go.Proofs.YtdekcppfpgeneaaGreatDoor
namespace Go.Proofs.YtdekcppfpgeneaaGreatDoor
open Go Go.RowKit
namespace Av
def iL (ti:TI) (cells:List AV) (off:Nat):Option AV :=
 if ti.agg then (if off+ti.size≤cells.length then some (.agg ((cells.drop off).take ti.size)) else none) else cells[off]?
def iN (tt:aY) (H:av) (t:Nat) (a:AV):Option AV :=
 match tt t with
 | none=>none
 | some ti=>match a with
  | .ptr l off=>match H[l]? with
   | some (.box _ cells)=>iL ti cells off
   | _=>none
  | .ep l ver n i c=>match H[l]? with
   | some (.row _ _ ver' items)=>if ver=ver'∧n=items.length∧i<items.length then iL ti (items.getD i []) c else none
   | _=>none
  | .rp cells=>iL ti (cells.map .d) 0
  | _=>none
theorem cT (b o i:Nat):(⟨b,o,none⟩:Addr).add i=⟨b,o+i,none⟩:=by unfold Addr.add;split<;>simp_all
theorem fH {P:Program} {t:Nat} {ti:TI} (hT:bC P t ti) {s:St} {b o off:Nat} {cells:List AV} {cs:List Value} {r:AV}
  (hc:∀j v,cs[j]?=some v→s.w.cell? ⟨b,o+j,none⟩=some v) (hr:ax s cells cs) (h:iL ti cells off=some r) :
  ∃x,(loadVar t ⟨b,o+off,none⟩).run P s.w = .ok x s.w∧Rep s r x:=by
 unfold iL at h
 unfold loadVar
 simp only [Sem.run_bind,hT.run_isAgg,Result.andThen_ok]
 cases ha:ti.agg with
 | true =>
  simp only [ha,if_true] at h
  split at h
  ·rename_i hle
   simp only [Option.some.injEq] at h
   subst h
   have hlen:=hr.length
   have hl:=run_loadCells_list (P:=P) s.w ⟨b,o+off,none⟩ ((cs.drop off).take ti.size) (fun j v hj=>by
    rw [cT,Nat.add_assoc]
    refine hc (off+j) v ?_
    simp only [List.getElem?_take,List.getElem?_drop] at hj
    split at hj
    ·exact hj
    ·cases hj)
   rw [show ((cs.drop off).take ti.size).length=ti.size by simp;omega] at hl
   refine ⟨.agg ((cs.drop off).take ti.size).toArray,by simp [hT.run_sizeOf,hl],?_⟩
   simp only [Rep]
   exact ⟨_,rfl,by simpa using (hr.drop off).take ti.size⟩
  ·cases h
 | false =>
  simp only [ha,Bool.false_eq_true,if_false] at h
  obtain ⟨x,hx,hrx⟩:=hr.get h
  have:=hc off x hx
  exact ⟨x,by simp [this],hrx⟩
theorem lg {s:St} {b ty:Nat} {arr:Array Value} (h:s.w.heap[b]?=some (.cells arr ty (0,0))) (j:Nat) (v:Value) (hj:arr.toList[j]?=some v):s.w.cell? ⟨b,0+j,none⟩=some v:=by
 simp only [World.cell?,h]
 simpa using hj
theorem kQ {α:Type} {k:Nat}:∀{items:List (List α)} {i:Nat},(∀it∈items,it.length=k)→i<items.length→(items.flatten.drop (i * k)).take k=items.getD i []
 | [],i,_,h=>by simp at h
 | it::r,0,h,_=>by
  have:=h it (by simp)
  simp [←this]
 | it::r,i+1,h,hi=>by
  have h0:=h it (by simp)
  have:=kQ (items:=r) (i:=i) (fun x hx=>h x (by simp [hx])) (by simpa using hi)
  simp only [List.flatten_cons,List.getD_cons_succ]
  rw [←this,Nat.succ_mul,List.drop_append,show i * k+k - it.length=i * k by omega,List.drop_eq_nil_of_le (by omega),List.nil_append]
theorem cH {α:Type} {k:Nat}:∀{items:List (List α)},(∀it∈items,it.length=k)→items.flatten.length=items.length * k
 | [],_=>by simp
 | it::r,h=>by
  have h0:=h it (by simp)
  have:=cH (items:=r) (fun x hx=>h x (by simp [hx]))
  simp only [List.flatten_cons,List.length_append,List.length_cons,this,h0,Nat.succ_mul]
  omega
theorem x8 {k n i c:Nat} (hi:i<n) (hc:c≤k):i * k+c≤n * k:=by
 have:=Nat.mul_le_mul_right k (Nat.succ_le_of_lt hi)
 rw [Nat.succ_mul] at this
 omega
theorem zv {base:World} {s:St} (hs:Sim base s) {l ver n i c ty k ver':Nat} {items:List (List AV)} {v:Value} (hv:Rep s (.ep l ver n i c) v) (ho:s.H[l]?=some (.row ty k ver' items)) (e1:ver=ver') (e2:n=items.length) (hi:i<items.length) :
  ∃b arr front rest,s.μ l=some b∧v = .pointer (some ⟨b,i * k+c,none⟩)∧s.w.heap[b]?=some (.cells arr ty (0,0))∧arr.toList=front++rest∧ax s items.flatten front∧(∀it∈items,it.length=k)∧(∀it∈items,it.all AV.one=true):=by
 simp only [Rep,eT,ho] at hv
 obtain ⟨_,_,hv⟩:=hv
 obtain ⟨b,h1,h2⟩:=hv e1 e2
 obtain ⟨h0,h9,h⟩:=hs.obj l _ ho
 rcases h with ⟨h3,h4⟩ | ⟨b',arr,f,r,h3,h4,h5,h6,h7⟩
 ·rw [h1] at h3;cases h3
 ·rw [h1] at h3;cases h3
  exact ⟨b,arr,f,r,h1,h2,h5,h6,h7,h0,h9⟩
theorem lW {P:Program} {tt:aY} (hT:bD P tt) {base:World} {s:St} (hs:Sim base s) {t:Nat} {a r:AV} {v:Value} (hv:Rep s a v) (h:iN tt s.H t a=some r) :
  ∃x,(Instr.loadAt t v).run P s.w = .ok x s.w∧Rep s r x:=by
 unfold iN at h
 cases htt:tt t with
 | none=>simp [htt] at h
 | some ti =>
  have hti:=hT t ti htt
  simp only [htt] at h
  cases a with
  | ptr l off =>
   simp only at h
   split at h
   ·rename_i ty cells ho
    simp only [Rep,cE,ho] at hv
    obtain ⟨_,b,h1,rfl⟩:=hv
    obtain ⟨b',arr,h2,h3,h4,h5⟩:=hs.obj l _ ho
    rw [h1] at h2;cases h2
    have:=fH hti (o:=0) (lg h4) h5 h
    simpa [Instr.loadAt,Instr.sureAddr] using this
   ·cases h
  | ep l ver n i c =>
   simp only at h
   split at h
   ·rename_i ty k ver' items ho
    split at h
    ·rename_i e
     obtain ⟨e1,e2,hi⟩:=e
     obtain ⟨b,arr,f,rs,h1,rfl,h3,h4,h5,h6,h9⟩:=zv hs hv ho e1 e2 hi
     have hlen:=h5.length
     rw [cH h6] at hlen
     have hrow:=(h5.drop (i * k)).take k
     rw [kQ h6 hi] at hrow
     have:=fH hti (b:=b) (o:=i * k) (off:=c) (cs:=(f.drop (i * k)).take k) (fun j x hj=>by
      have:arr.toList[i * k+j]?=some x:=by
       rw [h4]
       simp only [List.getElem?_take,List.getElem?_drop] at hj
       split at hj
       ·rw [List.getElem?_append_left (by have:=x8 hi (show j+1≤k by omega);omega)]
        exact hj
       ·cases hj
      simp only [World.cell?,h3]
      simpa using this) hrow h
     simpa [Instr.loadAt,Instr.sureAddr] using this
    ·cases h
   ·cases h
  | rp cells =>
   simp only at h
   simp only [Rep] at hv
   obtain ⟨b,o,rfl,h1,h2⟩:=hv
   obtain ⟨cs,k1,k2,k3⟩:=h2.load
   have:=fH hti (off:=0) k2 k3 h
   simpa [Instr.loadAt,Instr.sureAddr] using this
  | _=>cases h
def bQ (cells:List AV) (off:Nat) (xs:List AV):List AV:=cells.take off++xs++cells.drop (off+xs.length)
def nW (tt:aY) (H:av) (t:Nat) (a x:AV):Option (Nat × aN) :=
 match tt t with
 | none=>none
 | some ti=>if x.cells.length=ti.size∧x.cells.all AV.one=true then
  match a with
  | .ptr l off=>match H[l]? with
   | some (.box ty cells)=>if off+x.cells.length≤cells.length then some (l,.box ty (bQ cells off x.cells)) else none
   | _=>none
  | .ep l ver n i c=>match H[l]? with
   | some (.row ty k ver' items)=>if ver=ver'∧n=items.length∧i<items.length∧c+x.cells.length≤k then some (l,.row ty k ver' (items.set i (bQ (items.getD i []) c x.cells))) else none
   | _=>none
  | _=>none
  else none
theorem ji {cells xs:List AV} {off:Nat} (h:off+xs.length≤cells.length):(bQ cells off xs).length=cells.length:=by
 unfold bQ;simp;omega
theorem jo {s:St} {cells xs:List AV} {cs vs:List Value} {off:Nat} (h:ax s cells cs) (k:ax s xs vs):ax s (bQ cells off xs) (cs.take off++vs++cs.drop (off+vs.length)):=by
 unfold bQ
 rw [k.length]
 exact ((h.take off).append k).append (h.drop _)
theorem lN {k:Nat} {xs:List AV} {c:Nat} (hc:c+xs.length≤k):∀{items:List (List AV)} {i:Nat},(∀it∈items,it.length=k)→i<items.length→(items.set i (bQ (items.getD i []) c xs)).flatten=bQ items.flatten (i * k+c) xs
 | [],i,_,h=>by simp at h
 | it::r,0,h,_=>by
  have h0:=h it (by simp)
  unfold bQ
  simp [List.take_append,List.drop_append,show c - it.length=0 by omega,show c+xs.length - it.length=0 by omega]
 | it::r,i+1,h,hi=>by
  have h0:=h it (by simp)
  have:=lN hc (items:=r) (i:=i) (fun x hx=>h x (by simp [hx])) (by simpa using hi)
  simp only [List.set_cons_succ,List.getD_cons_succ,List.flatten_cons,this]
  unfold bQ
  rw [Nat.succ_mul,List.take_append,List.drop_append,List.take_of_length_le (by omega:it.length≤i * k+k+c),List.drop_eq_nil_of_le (by omega:it.length≤i * k+k+c+xs.length)]
  simp [show i * k+k+c - it.length=i * k+c by omega,show i * k+k+c+xs.length - it.length=i * k+c+xs.length by omega]
theorem jF {P:Program} {t:Nat} {ti:TI} (hT:bC P t ti) {w:World} {b o ty:Nat} {arr:Array Value} {v:Value} (hb:w.heap[b]?=some (.cells arr ty (0,0))) (hn:v.cells.size=ti.size) (h1:∀x∈v.cells.toList,x.oneCell'=true) (hle:o+v.cells.size≤arr.size) :
  (storeVar t ⟨b,o,none⟩ v).run P w = .ok () (w.setRow b (arr.toList.take o++v.cells.toList++arr.toList.drop (o+v.cells.toList.length)).toArray):=by
 have h:=run_storeCells_at (P:=P) b o ty v.cells.toList 0 arr w hb (by simpa using hle) h1
 simp only [Nat.add_zero] at h
 unfold storeVar
 simp [hT.run_sizeOf,hn,h]
def dh (H:av):Option (Nat × aN)→av
 | none=>H
 | some (l,o)=>H.set l o
theorem ee {w:World} {b ty:Nat} {arr:Array Value} {fr:Nat × Nat} (h:w.heap[b]?=some (.cells arr ty fr)):eS w b=arr.size:=by unfold eS;rw [h]
theorem qH {P:Program} {tt:aY} (hT:bD P tt) {base:World} {s:St} (hs:Sim base s) {t:Nat} {a x:AV} {v y:Value} {q:Nat × aN} (hv:Rep s a v) (hy:Rep s x y) (h:nW tt s.H t a x=some q) :
  ∃w' μ',(Instr.storeAt t v y).run P s.w = .ok () w'∧Sim base ⟨μ',s.H.set q.1 q.2,w'⟩∧Evo s.H.length s ⟨μ',s.H.set q.1 q.2,w'⟩:=by
 unfold nW at h
 cases htt:tt t with
 | none=>simp [htt] at h
 | some ti =>
  have hti:=hT t ti htt
  simp only [htt] at h
  split at h
  ·rename_i hx
   obtain ⟨hx1,hx2⟩:=hx
   have hcr:=i8 hy hx2
   have hone:=m7 hx2 hcr
   have hlen:=hcr.length
   cases a with
   | ptr l off =>
    simp only at h
    split at h
    ·rename_i ty cells ho
     split at h
     ·rename_i hle
      simp only [Option.some.injEq] at h
      subst h
      simp only [Rep,cE,ho] at hv
      obtain ⟨_,b,h1,rfl⟩:=hv
      obtain ⟨b',arr,h2,h3,h4,h5⟩:=hs.obj l _ ho
      rw [h1] at h2;cases h2
      have hal:=h5.length
      simp only [Array.length_toList] at hal hlen
      have cJ:=jF hti (o:=off) h4 (by omega) hone (by omega)
      have hsp:=jo (off:=off) h5 hcr
      have hst:=hs.upd ho (b:=b) (w':=s.w.setRow b (arr.toList.take off++y.cells.toList++arr.toList.drop (off+y.cells.toList.length)).toArray) (o' := .box ty (bQ cells off x.cells)) rfl rfl rfl (by simp) (fun c hc _=>setRow_other _ _ _ _ hc) (.inr ⟨rfl,h1⟩)
       ⟨_,setRow_heap _ _ _ _ _ _ h4,by simpa using hsp⟩ (by
        unfold aW
        rw [ho]
        exact .inr ⟨_,aE (aF ho),(upd_same _ _ _).trans h1.symm⟩)
      exact ⟨_,_,by simpa [Instr.storeAt,Instr.sureAddr] using cJ,hst.1,hst.2⟩
     ·cases h
    ·cases h
   | ep l ver n i c =>
    simp only at h
    split at h
    ·rename_i ty k ver' items ho
     split at h
     ·rename_i e
      obtain ⟨e1,e2,hi,hck⟩:=e
      simp only [Option.some.injEq] at h
      subst h
      obtain ⟨b,arr,f,rs,h1,rfl,h3,h4,h5,h6,h9⟩:=zv hs hv ho e1 e2 hi
      have hfl:=h5.length
      rw [cH h6] at hfl
      have hal:arr.size=f.length+rs.length:=by rw [←Array.length_toList,h4,List.length_append]
      simp only [Array.length_toList] at hlen
      have hb1:=x8 hi hck
      have cJ:=jF hti (o:=i * k+c) h3 (by omega) hone (by omega)
      have hsp:=jo (off:=i * k+c) h5 hcr
      rw [←lN hck h6 hi] at hsp
      have hst:=hs.upd ho (b:=b) (w':=s.w.setRow b (arr.toList.take (i * k+c)++y.cells.toList++arr.toList.drop (i * k+c+y.cells.toList.length)).toArray) (o' := .row ty k ver' (items.set i (bQ (items.getD i []) c x.cells))) rfl rfl rfl (by simp) (fun c hc _=>setRow_other _ _ _ _ hc) (.inr ⟨rfl,h1⟩)
       ⟨fun it hit=>by
        rcases List.mem_or_eq_of_mem_set hit with hit | hit
        ·exact h6 it hit
        ·have hk:(items.getD i []).length=k:=h6 _ (by simp [List.getD,hi])
         rw [hit,ji (by rw [hk];exact hck),hk],fun it hit=>by
        rcases List.mem_or_eq_of_mem_set hit with hit | hit
        ·exact h9 it hit
        ·have hk:=h9 (items.getD i []) (by simp [List.getD,hi])
         rw [hit]
         unfold bQ
         rw [List.all_append,List.all_append,hx2]
         simp only [Bool.and_eq_true,Bool.and_true]
         exact ⟨List.all_eq_true.2 fun a ha=>List.all_eq_true.1 hk a (List.mem_of_mem_take ha),List.all_eq_true.2 fun a ha=>List.all_eq_true.1 hk a (List.mem_of_mem_drop ha)⟩,_,_,rs,setRow_heap _ _ _ _ _ _ h3,by
        rw [h4]
        show List.take (i * k+c) (f++rs)++_++_=_
        rw [List.take_append_of_le_length (by omega),List.drop_append_of_le_length (by simp only [Array.length_toList];omega),←List.append_assoc],hsp⟩ (by
        unfold aW
        rw [ho]
        refine .inr ⟨_,_,aE (aF ho),by rw [List.length_set];exact cG.refl _ _,fun _ _=>⟨(upd_same _ _ _).trans h1.symm,fun b2 hb2 => ?_⟩⟩
        rw [h1] at hb2;cases hb2
        rw [ee (setRow_heap _ _ _ _ _ _ h3),ee h3]
        simp only [List.size_toArray,List.length_append,List.length_take,List.length_drop,Array.length_toList]
        omega)
      exact ⟨_,_,by simpa [Instr.storeAt,Instr.sureAddr] using cJ,hst.1,hst.2⟩
     ·cases h
    ·cases h
   | _=>cases h
  ·cases h
end Av
end Go.Proofs.YtdekcppfpgeneaaGreatDoor
namespace Go.Proofs.YtdekcppfpgeneaaGreatDoor
open Go Go.RowKit
namespace Av
def fp (tt:aY) (t f:Nat) (a:AV):Option AV :=
 match tt t with
 | some ⟨_,_,.struct fs,_,_⟩=>match fs[f]? with
  | some (off,t')=>match tt t' with
   | some ti=>if ti.size≠0 then match a with
    | .ptr l o=>some (.ptr l (o+off))
    | .ep l ver n i c=>some (.ep l ver n i (c+off))
    | .rp cells=>some (.rp (cells.drop off))
    | _=>none
    else none
   | none=>none
  | none=>none
 | _=>none
theorem bC.struct {P:Program} {t:Nat} {ti:TI} (h:bC P t ti) {fs:List (Nat × Nat)} (hk:ti.kind = .struct fs) {f off t':Nat} (hf:fs[f]?=some (off,t')):∃fields:Array Field,P.underlying t=some (.struct fields)∧∃fd,fields[f]?=some fd∧fd.offset=off∧fd.type=t':=by
 obtain ⟨d,h1,h2⟩:=h.und
 rw [hk] at h2
 cases d with
 | struct fields =>
  simp only [dH,TK.struct.injEq] at h2
  subst h2
  simp only [List.getElem?_map,Option.map_eq_some_iff,Prod.mk.injEq] at hf
  obtain ⟨fd,h3,h4,h5⟩:=hf
  exact ⟨fields,h1,fd,by simpa using h3,h4,h5⟩
 | _=>simp [dH] at h2
theorem lu {P:Program} {tt:aY} (hT:bD P tt) {base:World} {s:St} (hs:Sim base s) {t f:Nat} {a r:AV} {v:Value} (hv:Rep s a v) (h:fp tt t f a=some r) :
  ∃x,(Instr.fieldAt t v f).run P s.w = .ok x s.w∧Rep s r x:=by
 unfold fp at h
 split at h
 ·rename_i sz by_ fs z fl htt
  split at h
  ·rename_i off t' hf
   split at h
   ·rename_i ti htt'
    split at h
    ·rename_i hsz
     obtain ⟨fields,hu,fd,hfd,rfl,rfl⟩:=(hT _ _ htt).struct rfl hf
     have hti:=hT _ _ htt'
     have cJ:∀a:Addr,(Instr.fieldAt t (.pointer (some a)) f).run P s.w = .ok (.pointer (some (a.add fd.offset))) s.w:=fun a=>by
      simp [Instr.fieldAt,run_underlying hu,hfd,Instr.sureAddr,fieldPlace,hti.run_sizeOf,hsz]
     cases a with
     | ptr l o =>
      simp only [Option.some.injEq] at h
      subst h
      simp only [Rep,cE] at hv ⊢
      obtain ⟨⟨a,rfl⟩,hv⟩:=hv
      refine ⟨_,cJ a,⟨_,rfl⟩,?_⟩
      split at hv
      ·trivial
      ·obtain ⟨b,h1,h2⟩:=hv
       simp only [Value.pointer.injEq,Option.some.injEq] at h2
       exact ⟨b,h1,by rw [h2,cT]⟩
      ·exact hv.elim
     | ep l ver n i c =>
      simp only [Option.some.injEq] at h
      subst h
      simp only [Rep,eT] at hv ⊢
      obtain ⟨⟨a,rfl⟩,hv⟩:=hv
      refine ⟨_,cJ a,⟨_,rfl⟩,?_⟩
      split at hv
      ·trivial
      ·refine ⟨hv.1,fun e1 e2 => ?_⟩
       obtain ⟨b,h1,h2⟩:=hv.2 e1 e2
       simp only [Value.pointer.injEq,Option.some.injEq] at h2
       exact ⟨b,h1,by rw [h2,cT,Nat.add_assoc]⟩
      ·exact hv.elim
     | rp cells =>
      simp only [Option.some.injEq] at h
      subst h
      simp only [Rep] at hv ⊢
      obtain ⟨b,o,rfl,h1,h2⟩:=hv
      exact ⟨_,cJ _,b,_,by rw [cT],h1,h2.drop _⟩
     | _=>simp at h
    ·cases h
   ·cases h
  ·cases h
 ·cases h
theorem m6 {P:Program} {t:Nat} {ti:TI} (hT:bC P t ti) {s:St} {off:Nat} {cells:List AV} {cs:Array Value} {r:AV}
  (hr:ax s cells cs.toList) (h:iL ti cells off=some r):∃x,(part t cs off).run P s.w = .ok x s.w∧Rep s r x:=by
 unfold iL at h
 unfold part
 simp only [Sem.run_bind,hT.run_isAgg,Result.andThen_ok]
 cases ha:ti.agg with
 | true =>
  simp only [ha,if_true] at h
  split at h
  ·simp only [Option.some.injEq] at h
   subst h
   refine ⟨.agg (cs.extract off (off+ti.size)),by simp [hT.run_sizeOf],?_⟩
   simp only [Rep]
   refine ⟨_,rfl,?_⟩
   have:=(hr.drop off).take ti.size
   rw [Array.toList_extract]
   simpa [List.extract_eq_take_drop] using this
  ·cases h
 | false =>
  simp only [ha,Bool.false_eq_true,if_false] at h
  obtain ⟨x,hx,hrx⟩:=hr.get h
  have hx':cs[off]?=some x:=by simpa using hx
  exact ⟨x,by simp [hx'],hrx⟩
def nZ (tt:aY) (t f:Nat) (x:AV):Option AV :=
 match tt t,x with
 | some ⟨_,_,.struct fs,_,_⟩,.agg cells=>match fs[f]? with
  | some (off,t')=>match tt t' with
   | some ti=>iL ti cells off
   | none=>none
  | none=>none
 | _,_=>none
theorem qK {P:Program} {tt:aY} (hT:bD P tt) {s:St} {t f:Nat} {a r:AV} {v:Value} (hv:Rep s a v) (h:nZ tt t f a=some r) :
  ∃x,(Instr.field t v f).run P s.w = .ok x s.w∧Rep s r x:=by
 unfold nZ at h
 split at h
 ·rename_i sz by_ fs z fl cells htt
  split at h
  ·rename_i off t' hf
   split at h
   ·rename_i ti htt'
    obtain ⟨fields,hu,fd,hfd,rfl,rfl⟩:=(hT _ _ htt).struct rfl hf
    simp only [Rep] at hv
    obtain ⟨cs,rfl,hv⟩:=hv
    obtain ⟨x,h1,h2⟩:=m6 (hT _ _ htt') hv h
    exact ⟨x,by simp [Instr.field,run_underlying hu,hfd,asAgg,h1],h2⟩
   ·cases h
  ·cases h
 ·cases h
def iP (x:AV) (i:Nat):Option AV:=match x with
 | .tup vs=>vs[i]?
 | _=>none
theorem n9 {P:Program} {s:St} {i:Nat} {a r:AV} {v:Value} (hv:Rep s a v) (h:iP a i=some r) :
  ∃x,(Instr.extract v i).run P s.w = .ok x s.w∧Rep s r x:=by
 unfold iP at h
 split at h
 ·simp only [Rep] at hv
  obtain ⟨cs,rfl,hv⟩:=hv
  obtain ⟨x,h1,h2⟩:=hv.get h
  have h1':cs[i]?=some x:=by simpa using h1
  exact ⟨x,by simp [Instr.extract,h1'],h2⟩
 ·cases h
theorem bC.slice {P:Program} {t:Nat} {ti:TI} (h:bC P t ti) {e:Nat} (hk:ti.kind = .slice e):P.underlying t=some (.slice e):=by
 obtain ⟨d,h1,h2⟩:=h.und
 rw [hk] at h2
 cases d<;>simp [dH] at h2
 subst h2;exact h1
theorem bC.arr {P:Program} {t:Nat} {ti:TI} (h:bC P t ti) {n e:Nat} (hk:ti.kind = .arr n e):P.underlying t=some (.array n e):=by
 obtain ⟨d,h1,h2⟩:=h.und
 rw [hk] at h2
 cases d<;>simp [dH] at h2
 obtain ⟨rfl,rfl⟩:=h2;exact h1
theorem bC.str {P:Program} {t:Nat} {ti:TI} (h:bC P t ti) (hk:ti.kind = .str):P.underlying t=some .string:=by
 obtain ⟨d,h1,h2⟩:=h.und
 rw [hk] at h2
 cases d<;>simp [dH] at h2
 exact h1
theorem bC.map {P:Program} {t:Nat} {ti:TI} (h:bC P t ti) {k e:Nat} (hk:ti.kind = .map k e):P.underlying t=some (.map k e):=by
 obtain ⟨d,h1,h2⟩:=h.und
 rw [hk] at h2
 cases d<;>simp [dH] at h2
 obtain ⟨rfl,rfl⟩:=h2;exact h1
def fc:AV→Option (IntKind × Int)
 | .d (.v (.int k i))=>some (k,i)
 | _=>none
theorem eA {s:St} {a:AV} {v:Value} {k:IntKind} {i:Int} (h:fc a=some (k,i)) (hv:Rep s a v):v = .int k i:=by
 unfold fc at h
 split at h
 ·simp only [Option.some.injEq,Prod.mk.injEq] at h
  obtain ⟨rfl,rfl⟩:=h
  simp only [Rep,aQ] at hv
  exact hv.1
 ·cases h
def dq (tt:aY) (H:av) (t:Nat) (x ix:AV):Option AV :=
 match tt t,fc ix with
 | some ti,some (_,i)=>match ti.kind with
  | .slice e=>match tt e with
   | some te=>match x with
    | .d (.sl k l)=>if 0≤i∧i.toNat<l.length∧k=te.size then some (.rp (l.getD i.toNat [])) else none
    | .ms l ver n=>match H[l]? with
     | some (.row _ k ver' items)=>if ver=ver'∧n=items.length∧k=te.size∧0≤i∧i.toNat<n then some (.ep l ver n i.toNat 0) else none
     | _=>none
    | _=>none
   | none=>none
  | .arr n e=>match tt e with
   | some te=>if 0≤i∧i.toNat<n then match x with
    | .ptr l off=>some (.ptr l (off+i.toNat * te.size))
    | .rp cells=>some (.rp (cells.drop (i.toNat * te.size)))
    | _=>none
    else none
   | none=>none
  | _=>none
 | _,_=>none
theorem lr {P:Program} {tt:aY} (hT:bD P tt) {base:World} {s:St} (hs:Sim base s) {t:Nat} {a ix r:AV} {v y:Value} (hv:Rep s a v) (hy:Rep s ix y) (h:dq tt s.H t a ix=some r) :
  ∃x,(Instr.indexAt t v y).run P s.w = .ok x s.w∧Rep s r x:=by
 unfold dq at h
 split at h
 ·rename_i ti ki i htt hix
  have hyv:=eA hix hy
  subst hyv
  have hti:=hT _ _ htt
  split at h
  ·rename_i e hk
   have hu:=hti.slice hk
   split at h
   ·rename_i te hte
    have hsz:=(hT _ _ hte).run_sizeOf s.w
    split at h
    ·rename_i k l
     split at h
     ·rename_i c
      obtain ⟨c1,c2,c3⟩:=c
      simp only [Option.some.injEq] at h
      subst h
      simp only [Rep,aQ] at hv ⊢
      obtain ⟨ao,cap,rfl,h2,h3,h4⟩:=hv
      rcases h4 with h4 | ⟨b,o,rfl,h5,h6⟩
      ·subst h4;simp at c2
      ·have hg:=h6.get c2
       have hc2:i<(l.length:Int):=by omega
       refine ⟨_,by simp [Instr.indexAt,run_underlying hu,asIntOf,c1,hc2,hsz,cT],b,o+i.toNat * te.size,rfl,h5,?_⟩
       rw [←c3]
       exact hg.2
     ·cases h
    ·rename_i l ver n
     split at h
     ·rename_i ty k ver' items ho
      split at h
      ·rename_i c
       obtain ⟨c1,c2,c3,c4,c5⟩:=c
       simp only [Option.some.injEq] at h
       subst h
       simp only [Rep,cB,eT,ho] at hv ⊢
       obtain ⟨_,hle,hv⟩:=hv
       rcases hv c1 c2 with ⟨m1,m2,m3⟩ | ⟨b,cap,m1,rfl,m3,m4,m5⟩
       ·omega
       ·have hc2:i<(n:Int):=by omega
        refine ⟨_,by simp [Instr.indexAt,run_underlying hu,asIntOf,c4,hc2,hsz,cT];rfl,⟨_,rfl⟩,hle,fun _ _=>⟨b,m1,?_⟩⟩
        rw [c3,Nat.add_zero]
      ·cases h
     ·cases h
    ·cases h
   ·cases h
  ·rename_i n e hk
   have hu:=hti.arr hk
   split at h
   ·rename_i te hte
    have hsz:=(hT _ _ hte).run_sizeOf s.w
    split at h
    ·rename_i c
     obtain ⟨c1,c2⟩:=c
     have hc2:i<(n:Int):=by omega
     have cJ:∀a:Addr,(Instr.indexAt t (.pointer (some a)) (.int ki i)).run P s.w = .ok (.pointer (some (a.add (i.toNat * te.size)))) s.w:=fun a=>by
      simp [Instr.indexAt,run_underlying hu,asIntOf,c1,hc2,hsz,Instr.sureAddr]
     split at h
     ·simp only [Option.some.injEq] at h
      subst h
      simp only [Rep,cE] at hv ⊢
      obtain ⟨⟨a,rfl⟩,hv⟩:=hv
      refine ⟨_,cJ a,⟨_,rfl⟩,?_⟩
      split at hv
      ·trivial
      ·obtain ⟨b,h1,h2⟩:=hv
       simp only [Value.pointer.injEq,Option.some.injEq] at h2
       exact ⟨b,h1,by rw [h2,cT]⟩
      ·exact hv.elim
     ·simp only [Option.some.injEq] at h
      subst h
      simp only [Rep] at hv ⊢
      obtain ⟨b,o,rfl,h1,h2⟩:=hv
      exact ⟨_,cJ _,b,_,by rw [cT],h1,h2.drop _⟩
     ·cases h
    ·cases h
   ·cases h
  ·cases h
 ·cases h
def nY (tt:aY) (t:Nat) (x ix:AV):Option AV :=
 match tt t,fc ix with
 | some ti,some (_,i)=>match ti.kind,x with
  | .str,.d (.v (.string s))=>if 0≤i∧i.toNat<s.size then some (.d (.v (.int .u8 ((s.data.toList.getD i.toNat 0).toNat:Int)))) else none
  | .arr n e,.agg cells=>match tt e with
   | some te=>if 0≤i∧i.toNat<n then iL te cells (i.toNat * te.size) else none
   | none=>none
  | _,_=>none
 | _,_=>none
theorem xw (b:UInt8):small (.int .u8 (b.toNat:Int)):=by
 have:=b.toNat_lt
 simp only [small,IntKind.min,IntKind.max,IntKind.signed,IntKind.bits]
 simp
 omega
theorem qJ {P:Program} {tt:aY} (hT:bD P tt) {s:St} {t:Nat} {a ix r:AV} {v y:Value} (hv:Rep s a v) (hy:Rep s ix y) (h:nY tt t a ix=some r) :
  ∃x,(Instr.index t v y).run P s.w = .ok x s.w∧Rep s r x:=by
 unfold nY at h
 split at h
 ·rename_i ti ki i htt hix
  have hyv:=eA hix hy
  subst hyv
  have hti:=hT _ _ htt
  split at h
  ·rename_i s' hk
   have hu:=hti.str hk
   split at h
   ·rename_i c
    obtain ⟨c1,c2⟩:=c
    simp only [Option.some.injEq] at h
    subst h
    simp only [Rep,aQ] at hv ⊢
    obtain ⟨rfl,_⟩:=hv
    refine ⟨_,?_,rfl,xw _⟩
    have:s'[i.toNat]?=some (s'.data.toList.getD i.toNat 0):=by
     rw [getElem?_pos s' i.toNat c2]
     have:i.toNat<s'.data.size:=c2
     rw [List.getD_eq_getElem?_getD,Array.getElem?_toList,Array.getElem?_eq_getElem this]
     rfl
    simp [Instr.index,run_underlying hu,asIntOf,c1,this]
   ·cases h
  ·rename_i n e cells hk
   have hu:=hti.arr hk
   split at h
   ·rename_i te hte
    split at h
    ·rename_i c
     obtain ⟨c1,c2⟩:=c
     have hc2:i<(n:Int):=by omega
     simp only [Rep] at hv
     obtain ⟨cs,rfl,hv⟩:=hv
     obtain ⟨x,h1,h2⟩:=m6 (hT _ _ hte) hv h
     exact ⟨x,by simp [Instr.index,run_underlying hu,asIntOf,c1,hc2,(hT _ _ hte).run_sizeOf,h1],h2⟩
    ·cases h
   ·cases h
  ·cases h
 ·cases h
end Av
end Go.Proofs.YtdekcppfpgeneaaGreatDoor
namespace Go.Proofs.YtdekcppfpgeneaaGreatDoor
open Go Go.RowKit
namespace Av
abbrev oE:=Option (AV × Option (Nat × aN))
def oh (P:Program) (base:World) (s:St) (x:Sem Value) (r:AV) (q:Option (Nat × aN)):Prop :=
 ∃v w' μ',x.run P s.w = .ok v w'∧Sim base ⟨μ',dh s.H q,w'⟩∧Rep ⟨μ',dh s.H q,w'⟩ r v∧Evo s.H.length s ⟨μ',dh s.H q,w'⟩
theorem Sim.new {base:World} {s:St} (hs:Sim base s) {l:Nat} (hl:s.H[l]?=some .free) (ob:Obj) (o':aN) {w0:World} (h0:w0.heap=s.w.heap∧w0.os=s.w.os∧w0.tape=s.w.tape∧w0.output=s.w.output) (hpre:Er base s (w0.alloc ob) s.w.heap.size o') :
  Sim base ⟨Av.upd s.μ l (some s.w.heap.size),s.H.set l o',w0.alloc ob⟩∧Evo s.H.length s ⟨Av.upd s.μ l (some s.w.heap.size),s.H.set l o',w0.alloc ob⟩:=by
 refine hs.upd hl h0.2.1 h0.2.2.1 h0.2.2.2 (by show _≤(w0.heap.push ob).size;rw [h0.1];simp) (fun c _ hc => ?_) (.inl (Nat.le_refl _)) hpre ?_
 ·show (w0.heap.push ob)[c]?=_
  rw [h0.1,Array.getElem?_push,if_neg (by omega)]
 ·unfold aW;rw [hl];trivial
theorem cL {w0:World} {ob:Obj} {n:Nat} (h:w0.heap.size=n):(w0.alloc ob).heap[n]?=some ob:=by
 subst h
 show (w0.heap.push ob)[w0.heap.size]?=_
 simp
theorem rl (w:World):w.heap=w.heap∧w.os=w.os∧w.tape=w.tape∧w.output=w.output:=⟨rfl,rfl,rfl,rfl⟩
def Aq (ty:Nat) (x:AV) (l:Nat):oE:=if x.cells.all AV.one=true then some (.ptr l 0,some (l,.box ty x.cells)) else none
theorem uq {P:Program} {base:World} {s:St} (hs:Sim base s) {ty l:Nat} {x r:AV} {v:Value} {q:Option (Nat × aN)} (hl:s.H[l]?=some .free) (hv:Rep s x v) (h:Aq ty x l=some (r,q)) :
  oh P base s (Instr.box ty v) r q:=by
 unfold Aq at h
 split at h
 ·rename_i h1
  simp only [Option.some.injEq,Prod.mk.injEq] at h
  obtain ⟨rfl,rfl⟩:=h
  have hc:=i8 hv h1
  have hn:=hs.new hl (.cells v.cells ty) (.box ty x.cells) (rl s.w) ⟨v.cells,cL rfl,hc⟩
  refine ⟨.pointer (some ⟨s.w.heap.size,0,none⟩),_,_,by simp [Instr.box,newVar,newRow],hn.1,?_,hn.2⟩
  simp only [Rep,cE,dh]
  rw [aE (aF hl)]
  exact ⟨⟨_,rfl⟩,_,upd_same _ _ _,rfl⟩
 ·cases h
def dz (ti:TI):List AV:=ti.zero.map fun z => .d (.v z)
theorem eX {P:Program} {t:Nat} {ti:TI} (h:bC P t ti) (s:St):ax s (dz ti) ti.zero:=by
 have hz:=h.zsmall
 unfold dz
 generalize ti.zero=l at hz
 induction l with
 | nil=>exact .nil
 | cons a l ih =>
  refine .cons ?_ (ih fun z hz'=>hz z (by simp [hz']))
  simp only [Rep,aQ]
  exact ⟨by first | rfl | trivial,(hz a (by simp)).1⟩
theorem s8 {P:Program} {t:Nat} {ti:TI} (h:bC P t ti):(dz ti).all AV.one=true:=by
 unfold dz
 rw [List.all_map,List.all_eq_true]
 intro z hz
 exact (h.zsmall z hz).2
theorem bC.zval_cells {P:Program} {t:Nat} {ti:TI} (h:bC P t ti):ti.zval.cells=ti.zero.toArray :=
 TI.zval_cells h.len (h.one.imp id fun e=>⟨e,by rw [List.all_eq_true];intro z hz;exact (h.zsmall z hz).2⟩)
def oc (tt:aY) (ty l:Nat):oE:=match tt ty with
 | some ti=>some (.ptr l 0,some (l,.box ty (dz ti)))
 | none=>none
theorem qN {P:Program} {tt:aY} (hT:bD P tt) {base:World} {s:St} (hs:Sim base s) {ty l:Nat} {r:AV} {q:Option (Nat × aN)} (hl:s.H[l]?=some .free) (h:oc tt ty l=some (r,q)) :
  oh P base s (Instr.alloc ty true (.tuple #[])) r q:=by
 unfold oc at h
 split at h
 ·rename_i ti htt
  have hti:=hT _ _ htt
  simp only [Option.some.injEq,Prod.mk.injEq] at h
  obtain ⟨rfl,rfl⟩:=h
  have hn:=hs.new hl (.cells ti.zero.toArray ty) (.box ty (dz ti)) (rl s.w) ⟨_,cL rfl,by simpa using eX hti s⟩
  refine ⟨.pointer (some ⟨s.w.heap.size,0,none⟩),_,_,by simp [Instr.alloc,hti.run_zero,newVar,newRow,hti.zval_cells],hn.1,?_,hn.2⟩
  simp only [Rep,cE,dh]
  rw [aE (aF hl)]
  exact ⟨⟨_,rfl⟩,_,upd_same _ _ _,rfl⟩
 ·cases h
def gD (place:Nat→Option (Nat × Nat)) (cells:List AV):List (Nat × AV)→Option (List AV)
 | []=>some cells
 | (i,a)::rest=>match place i with
  | none=>none
  | some (off,size)=>if a.cells.length=size∧off+size≤cells.length∧a.cells.all AV.one=true then gD place (bQ cells off a.cells) rest else none
theorem mT:∀(vs:List Value) (k off:Nat) (cs:Array Value),off+k+vs.length≤cs.size →
  ((vs.zipIdx k).foldl (fun cs (x:Value × Nat)=>cs.setIfInBounds (off+x.2) x.1) cs).toList=cs.toList.take (off+k)++vs++cs.toList.drop (off+k+vs.length)
 | [],k,off,cs,_=>by simp
 | v::vs,k,off,cs,h=>by
  simp only [List.length_cons] at h
  simp only [List.zipIdx_cons,List.foldl_cons]
  rw [mT vs (k+1) off _ (by simp;omega)]
  simp only [Array.toList_setIfInBounds,List.length_cons]
  rw [show off+(k+1)=off+k+1 by omega,List.take_add_one,List.getElem?_set_self (by simp;omega),List.take_set,List.drop_set]
  simp only [Option.toList_some,List.append_assoc,List.cons_append,List.nil_append]
  rw [List.set_eq_of_length_le (by simp only [List.length_take];omega)]
  simp [show off+k<off+k+1+vs.length by omega]
  omega
theorem iO {s:St} {place:Nat→Option (Nat × Nat)} {ρ:Operand→Value} {ρA:Operand→AV}:∀(ps:List (Nat × Operand)) (cells:List AV) (cs:Array Value) (r:List AV),(∀p∈ps,Rep s (ρA p.2) (ρ p.2))→ax s cells cs.toList →
  gD place cells (ps.map fun p=>(p.1,ρA p.2))=some r→∃cs',Instr.fill place cs (ps.map fun p=>(p.1,ρ p.2))=some cs'∧ax s r cs'.toList∧r.length=cells.length
 | [],cells,cs,r,_,h,e=>by
  simp only [List.map_nil,gD,Option.some.injEq] at e
  subst e
  exact ⟨cs,rfl,h,rfl⟩
 | (i,x)::ps,cells,cs,r,hp,h,e=>by
  simp only [List.map_cons,gD] at e
  split at e
  ·cases e
  ·rename_i off size hpl
   split at e
   ·rename_i c
    obtain ⟨c1,c2,c3⟩:=c
    have hc:=i8 (hp (i,x) (by simp)) c3
    have hl:=hc.length
    have hl2:=h.length
    simp only [Array.length_toList] at hl hl2
    have hsp:=jo (off:=off) h hc
    have hfold:=mT (ρ x).cells.toList 0 off cs (by simp only [Array.length_toList];omega)
    simp only [Nat.add_zero] at hfold
    rw [←hfold] at hsp
    obtain ⟨cs',h1,h2,h3⟩:=iO ps _ _ r (fun p hp'=>hp p (by simp [hp'])) hsp e
    refine ⟨cs',?_,h2,by rw [h3];exact ji (by show off+(ρA x).cells.length≤_;omega)⟩
    simp only [List.map_cons,Instr.fill,hpl]
    rw [if_neg (by simp;omega)]
    rw [←Array.foldl_toList,Array.toList_zipIdx]
    exact h1
   ·cases e
def oa (tt:aY) (t:Nat) (parts:List (Nat × AV)):Option AV :=
 match tt t with
 | some ti=>match ti.kind with
  | .struct fs=>(gD (fun i=>match fs[i]? with
    | some (off,t')=>(tt t').map fun ti'=>(off,ti'.size)
    | none=>none) (dz ti) parts).map .agg
  | .arr _ e=>match tt e with
   | some te=>(gD (fun i=>some (i * te.size,te.size)) (dz ti) parts).map .agg
   | none=>none
  | _=>none
 | none=>none
theorem rG {α β:Type} {f:α→Option β}:∀{l:List α} {r:List β},l.mapM f=some r→∀(i:Nat) (x:α),l[i]?=some x→f x=r[i]?
 | [],r,h,i,x,hx=>by simp at hx
 | a::l,r,h,i,x,hx=>by
  simp only [List.mapM_cons,Option.bind_eq_bind,Option.pure_def] at h
  cases ha:f a with
  | none=>simp [ha] at h
  | some y =>
   cases hr:l.mapM f with
   | none=>simp [ha,hr] at h
   | some ys =>
    simp [ha,hr] at h
    subst h
    cases i with
    | zero=>simp at hx;subst hx;simpa using ha
    | succ i=>simpa using rG hr i x (by simpa using hx)
theorem lX {p q:Nat→Option (Nat × Nat)} (h:∀i x,p i=some x→q i=some x):∀(ps:List (Nat × AV)) (cells r:List AV),gD p cells ps=some r→gD q cells ps=some r
 | [],cells,r,e=>e
 | (i,a)::ps,cells,r,e=>by
  simp only [gD] at e ⊢
  split at e
  ·cases e
  ·rename_i off size hp
   rw [h i _ hp]
   simp only
   split at e
   ·rename_i c
    rw [if_pos c]
    exact lX h ps _ r e
   ·cases e
theorem qM {P:Program} {tt:aY} (hT:bD P tt) {s:St} {t:Nat} {ps:List (Nat × Operand)} {ρ:Operand→Value} {ρA:Operand→AV} {r:AV} (hp:∀p∈ps,Rep s (ρA p.2) (ρ p.2)) (h:oa tt t (ps.map fun p=>(p.1,ρA p.2))=some r) :
  ∃x,(Instr.build t (ps.map fun p=>(p.1,ρ p.2)).toArray).run P s.w = .ok x s.w∧Rep s r x:=by
 unfold oa at h
 split at h
 ·rename_i ti htt
  have hti:=hT _ _ htt
  obtain ⟨it,i1,i2,i3,i4⟩:=hti.info
  have hz:=hti.zval_cells
  split at h
  ·rename_i fs hk
   obtain ⟨d,u1,u2⟩:=hti.und
   rw [hk] at u2
   cases d with
   | struct fields =>
    obtain ⟨places,hpl⟩:=Option.isSome_iff_exists.1 (hti.places fields u1)
    simp only [dH,TK.struct.injEq] at u2
    simp only [Option.map_eq_some_iff] at h
    obtain ⟨cells,h1,rfl⟩:=h
    have h2:=lX (q:=(places.toArray[·]?)) (fun i x hx=>by
     split at hx
     ·rename_i off t' hf
      subst u2
      simp only [List.getElem?_map,Option.map_eq_some_iff,Prod.mk.injEq] at hf hx
      obtain ⟨fd,f1,f2,f3⟩:=hf
      obtain ⟨ti',g1,g2⟩:=hx
      have:=rG hpl i fd f1
      obtain ⟨i',j1,j2,_⟩:=(hT _ _ g1).info
      rw [f3,j1] at this
      simp only [Option.map_some] at this
      show places.toArray[i]?=some x
      rw [List.getElem?_toArray,←this,f2,j2,g2]
     ·cases hx) _ _ _ h1
    obtain ⟨cs,k1,k2,k3⟩:=iO ps (dz ti) ti.zero.toArray _ hp (by simpa using eX hti s) h2
    refine ⟨.agg cs,run_build s.w t _ cs ?_,?_⟩
    ·unfold Program.built
     simp only [i1,u1,i4,hpl,hz]
     exact k1
    ·simp only [Rep]
     exact ⟨cs,rfl,k2⟩
   | _=>simp [dH] at u2
  ·rename_i n e hk
   have hu:=hti.arr hk
   split at h
   ·rename_i te hte
    obtain ⟨ie,j1,j2,j3,j4⟩:=(hT _ _ hte).info
    simp only [Option.map_eq_some_iff] at h
    obtain ⟨cells,h1,rfl⟩:=h
    obtain ⟨cs,k1,k2,k3⟩:=iO ps (dz ti) ti.zero.toArray _ hp (by simpa using eX hti s) h1
    refine ⟨.agg cs,run_build s.w t _ cs ?_,?_⟩
    ·unfold Program.built
     simp only [i1,hu,i4,j1,hz,j2]
     exact k1
    ·simp only [Rep]
     exact ⟨cs,rfl,k2⟩
   ·cases h
  ·cases h
 ·cases h
theorem tH {z:List Value} (hz:0<z.length):∀c:Nat,(madeCells z.toArray (c * z.length)).toList=(List.replicate c z).flatten:=by
 intro c
 apply List.ext_getElem?
 intro i
 have hlen:(List.replicate c z).flatten.length=c * z.length:=by
  rw [cH (k:=z.length) (fun it hit=>by rw [(List.mem_replicate.1 hit).2])];simp
 by_cases hi:i<c * z.length
 ·have hq:i / z.length<c:=Nat.div_lt_of_lt_mul (by rw [Nat.mul_comm];exact hi)
  have hf:=kQ (k:=z.length) (items:=List.replicate c z) (i:=i / z.length) (fun it hit=>by rw [(List.mem_replicate.1 hit).2]) (by simpa using hq)
  rw [show (List.replicate c z).getD (i / z.length) []=z by simp [List.getD,hq]] at hf
  have hm:i % z.length<z.length:=Nat.mod_lt _ hz
  have hd:i / z.length * z.length+i % z.length=i:=by rw [Nat.mul_comm];exact Nat.div_add_mod _ _
  have h2:(List.replicate c z).flatten[i]?=z[i % z.length]?:=by
   rw [←hd]
   have:((List.drop (i / z.length * z.length) (List.replicate c z).flatten).take z.length)[i % z.length]?=z[i % z.length]?:=by rw [hf]
   rw [List.getElem?_take,if_pos hm,List.getElem?_drop] at this
   rw [this]
   simp [Nat.add_mod]
  rw [h2]
  simp [madeCells,hi,hm]
 ·rw [List.getElem?_eq_none (by simp [madeCells];omega),List.getElem?_eq_none (by omega)]
def fm (tt:aY) (t:Nat) (x y:AV) (l:Nat):oE :=
 match tt t,fc x,fc y with
 | some ti,some (_,n),some (_,c)=>match ti.kind with
  | .slice e=>match tt e with
   | some te=>if 0≤n∧n≤c∧(te.bytes:Int) * c≤281474976710656∧c≤9223372036854775807∧0<te.size then some (.ms l 0 n.toNat,some (l,.row e te.size 0 (List.replicate n.toNat (dz te)))) else none
   | none=>none
  | _=>none
 | _,_,_=>none
theorem ij {s:St} {l:List AV} {vs:List Value} (h:ax s l vs):∀n,ax s (List.replicate n l).flatten (List.replicate n vs).flatten
 | 0 => .nil
 | n+1=>by
  simp only [List.replicate_succ,List.flatten_cons]
  exact h.append (ij h n)
theorem lq {P:Program} {tt:aY} (hT:bD P tt) {base:World} {s:St} (hs:Sim base s) {t l:Nat} {x y r:AV} {vx vy:Value} {q:Option (Nat × aN)} (hl:s.H[l]?=some .free) (hx:Rep s x vx) (hy:Rep s y vy) (h:fm tt t x y l=some (r,q)) :
  oh P base s (Instr.makeSlice t vx vy) r q:=by
 unfold fm at h
 split at h
 ·rename_i ti kx n ky c htt hix hiy
  have e1:=eA hix hx
  have e2:=eA hiy hy
  subst e1 e2
  have hti:=hT _ _ htt
  split at h
  ·rename_i e hk
   have hu:=hti.slice hk
   split at h
   ·rename_i te hte
    have hte':=hT _ _ hte
    split at h
    ·rename_i cc
     obtain ⟨c1,c2,c3,c4,c5⟩:=cc
     simp only [Option.some.injEq,Prod.mk.injEq] at h
     obtain ⟨rfl,rfl⟩:=h
     obtain ⟨ie,j1,j2,j3,j4⟩:=hte'.info
     have cJ:=run_make (P:=P) s.w t e ie te.zval hu j1 j4 kx ky n c c1 c2 (by rw [j3];exact c3) c4
     rw [hte'.zval_cells,j2,←hte'.len] at cJ
     have hzl:0<te.zero.length:=by rw [hte'.len];exact c5
     have hmc:=tH hzl c.toNat
     have hsplit:(List.replicate c.toNat te.zero).flatten=(List.replicate n.toNat te.zero).flatten++(List.replicate (c.toNat - n.toNat) te.zero).flatten:=by
      rw [←List.flatten_append,List.replicate_append_replicate,show n.toNat+(c.toNat - n.toNat)=c.toNat by omega]
     have hzc:=eX hte' s
     have hn:=hs.new hl (.cells (madeCells te.zero.toArray (c.toNat * te.zero.length)) e) (.row e te.size 0 (List.replicate n.toNat (dz te))) (rl s.w)
      ⟨fun it hit=>by rw [(List.mem_replicate.1 hit).2];rw [hzc.length,hte'.len],fun it hit=>by rw [(List.mem_replicate.1 hit).2];exact s8 hte',_,_,_,cL rfl,by rw [hmc,hsplit],ij hzc _⟩
     refine ⟨_,_,_,cJ,hn.1,?_,hn.2⟩
     simp only [Rep,cB,dh]
     rw [aE (aF hl)]
     refine ⟨⟨_,_,rfl⟩,by simp only [List.length_replicate];exact cG.refl _ _,fun _ _ => .inr ⟨_,_,upd_same _ _ _,rfl,by omega,by unfold maxLen;omega,?_⟩⟩
     rw [ee (cL rfl),size_madeCells,hte'.len]
    ·cases h
   ·cases h
  ·cases h
 ·cases h
def sO (k:Nat):Nat→List (Nat × AV)→Bool
 | _,[]=>true
 | i,(j,a)::r=>j == i&&(a.cells.length == k&&(a.cells.all AV.one&&sO k (i+1) r))
theorem pz {k:Nat}:∀{i:Nat} {l:List (Nat × AV)},sO k i l=true→l.map (·.1)=List.range' i l.length∧l.all (fun p=>p.2.cells.length == k&&p.2.cells.all AV.one)=true
 | i,[],_=>⟨rfl,rfl⟩
 | i,(j,a)::r,h=>by
  simp only [sO,Bool.and_eq_true,beq_iff_eq] at h
  obtain ⟨h1,h2,h3,h4⟩:=h
  have:=pz h4
  simp only [List.map_cons,List.length_cons,List.range'_succ,List.all_cons,Bool.and_eq_true,beq_iff_eq]
  exact ⟨by rw [this.1,h1],⟨h2,h3⟩,this.2⟩
def dr (tt:aY) (t len:Nat) (parts:List (Nat × AV)) (l:Nat):oE :=
 match tt t with
 | some ti=>match ti.kind with
  | .slice e=>match tt e with
   | some te=>if 0<te.size∧len * te.size≤16777216∧sO te.size 0 parts=true∧parts.length=len then
     some (.ms l 0 len,some (l,.row e te.size 0 (parts.map fun p=>p.2.cells))) else none
   | none=>none
  | _=>none
 | none=>none
theorem sr {k:Nat} (hk:0<k):∀(ps:List (Nat × Value)) (i:Nat) (done:List Value) (cs:Array Value),ps.map (·.1)=List.range' i ps.length→(∀p∈ps,p.2.cells.size=k)→done.length=i * k→cs.size=(i+ps.length) * k→cs.toList.take (i * k)=done →
  ∃cs',Instr.fill (fun i=>some (i * k,k)) cs ps=some cs'∧cs'.toList=done++(ps.map fun p=>p.2.cells.toList).flatten
 | [],i,done,cs,_,_,hd,hs,ht=>⟨cs,rfl,by
   simp only [List.map_nil,List.flatten_nil,List.append_nil]
   rw [←ht,List.take_of_length_le]
   simp only [List.length_nil,Nat.add_zero] at hs
   simp [hs]⟩
 | (j,v)::ps,i,done,cs,hm,hp,hd,hs,ht=>by
  simp only [List.map_cons,List.length_cons,List.range'_succ,List.cons.injEq] at hm
  obtain ⟨rfl,hm⟩:=hm
  have hv:=hp (j,v) (by simp)
  simp only at hv
  simp only [List.length_cons] at hs
  have hle:j * k+k≤cs.size:=by rw [hs,←Nat.succ_mul];exact Nat.mul_le_mul_right _ (by omega)
  have hfold:=mT v.cells.toList 0 (j * k) cs (by simp only [Array.length_toList];omega)
  simp only [Nat.add_zero] at hfold
  have hsz:(v.cells.zipIdx.foldl (fun cs (x:Value × Nat)=>cs.setIfInBounds (j * k+x.2) x.1) cs).toList=cs.toList.take (j * k)++v.cells.toList++cs.toList.drop (j * k+v.cells.toList.length):=by
   rw [←Array.foldl_toList,Array.toList_zipIdx];exact hfold
  obtain ⟨cs',h1,h2⟩:=sr hk ps (j+1) (done++v.cells.toList) (v.cells.zipIdx.foldl (fun cs (x:Value × Nat)=>cs.setIfInBounds (j * k+x.2) x.1) cs) hm (fun p hp'=>hp p (by simp [hp'])) (by rw [List.length_append,hd,Array.length_toList,hv,Nat.succ_mul]) (by
   rw [←Array.length_toList,hsz]
   simp only [List.length_append,List.length_take,List.length_drop,Array.length_toList,hv]
   rw [show j+1+ps.length=j+(ps.length+1) by omega,←hs]
   omega) (by
   rw [hsz,ht,Nat.succ_mul]
   rw [List.take_left' (by rw [List.length_append,hd,Array.length_toList,hv])])
  refine ⟨cs',?_,by rw [h2];simp⟩
  simp only [Instr.fill]
  rw [if_neg (by simp;omega)]
  exact h1
theorem kk {P:Program} {tt:aY} (hT:bD P tt) {base:World} {s:St} (hs:Sim base s) {t len l:Nat} {ps:List (Nat × Operand)} {ρ:Operand→Value} {ρA:Operand→AV} {r:AV} {q:Option (Nat × aN)} (hl:s.H[l]?=some .free) (hp:∀p∈ps,Rep s (ρA p.2) (ρ p.2)) (h:dr tt t len (ps.map fun p=>(p.1,ρA p.2)) l=some (r,q)) :
  oh P base s (Instr.buildSlice t len (ps.map fun p=>(p.1,ρ p.2)).toArray) r q:=by
 unfold dr at h
 split at h
 ·rename_i ti htt
  have hti:=hT _ _ htt
  split at h
  ·rename_i e hk
   have hu:=hti.slice hk
   split at h
   ·rename_i te hte
    have hte':=hT _ _ hte
    split at h
    ·rename_i cc
     obtain ⟨c1,c2,cb,cl⟩:=cc
     obtain ⟨c3,c4⟩:=pz cb
     simp only [Option.some.injEq,Prod.mk.injEq] at h
     obtain ⟨rfl,rfl⟩:=h
     have hlen:ps.length=len:=by simpa using cl
     rw [cl,←List.range_eq_range'] at c3
     clear cb cl
     have hall:∀p∈ps,ax s (ρA p.2).cells (ρ p.2).cells.toList∧(ρA p.2).cells.length=te.size:=fun p hp'=>by
      have:=List.all_eq_true.1 c4 (p.1,ρA p.2) (List.mem_map.2 ⟨p,hp',rfl⟩)
      simp only [Bool.and_eq_true,beq_iff_eq] at this
      exact ⟨i8 (hp p hp') this.2,this.1⟩
     have hsz:∀p∈ps,(ρ p.2).cells.size=te.size:=fun p hp'=>by
      have:=(hall p hp').1.length
      rw [(hall p hp').2,Array.length_toList] at this
      exact this.symm
     obtain ⟨cs',h1,h2⟩:=sr c1 (ps.map fun p=>(p.1,ρ p.2)) 0 [] ((Array.range (len * te.size)).map (te.zero.toArray[· % te.zero.toArray.size]!)) (by
       rw [List.map_map]
       rw [List.map_map] at c3
       rw [show ((fun x:Nat × Value=>x.1) ∘ fun p:Nat × Operand=>(p.1,ρ p.2))=fun p=>p.1 from rfl]
       rw [show ((fun x:Nat × AV=>x.1) ∘ fun p:Nat × Operand=>(p.1,ρA p.2))=fun p=>p.1 from rfl] at c3
       rw [c3,List.length_map,hlen,List.range_eq_range']) (fun p hp'=>by
       obtain ⟨p',hp2,rfl⟩:=List.mem_map.1 hp'
       exact hsz p' hp2) (by simp) (by simp [hlen]) (by simp)
     have hrep:ax s ((ps.map fun p=>(p.1,ρA p.2)).map fun p=>p.2.cells).flatten cs'.toList:=by
      rw [h2,List.nil_append]
      clear h1 h2 c2 c3 c4 hlen hsz hp
      induction ps with
      | nil=>exact .nil
      | cons p ps ih =>
       simp only [List.map_cons,List.flatten_cons]
       exact (hall p (by simp)).1.append (ih fun p hp'=>hall p (by simp [hp']))
     have cJ:(Instr.buildSlice t len (ps.map fun p=>(p.1,ρ p.2)).toArray).run P s.w = .ok (.slice (some ⟨s.w.heap.size,0,none⟩) len len) (s.w.alloc (.cells cs' e)):=by
      by_cases h0:len=0
      ·subst h0
       have:ps=[]:=List.eq_nil_of_length_eq_zero hlen
       subst this
       have hcs:cs' = #[]:=Array.ext' (by rw [h2];simp)
       subst hcs
       simp [Instr.buildSlice,run_underlying hu,hte'.run_sizeOf,Instr.fill,newRow,Array.range_zero']
      ·have h0':¬(len * te.size=0):=by
        have:=Nat.mul_pos (Nat.pos_of_ne_zero h0) c1
        omega
       have hlt:¬(16777216<len * te.size):=by omega
       have hz:=hte'.zval_cells
       simp only [Instr.buildSlice,Sem.run_bind,run_underlying hu,Result.andThen_ok,hte'.run_sizeOf,hte'.run_zero,Sem.run_ite,Sem.run_pure,hz]
       rw [if_neg (by simpa using hlt),if_neg h0']
       simp only [Result.andThen_ok,hz,h1]
       simp [newRow]
     have hcl:cs'.size=len * te.size:=by
      rw [←Array.length_toList,←hrep.length,cH (k:=te.size) (fun it hit=>by
       obtain ⟨p',hp2,rfl⟩:=List.mem_map.1 hit
       obtain ⟨p,hp3,rfl⟩:=List.mem_map.1 hp2
       exact (hall p hp3).2)]
      simp [hlen]
     have hn:=hs.new hl (.cells cs' e) (.row e te.size 0 ((ps.map fun p=>(p.1,ρA p.2)).map fun p=>p.2.cells)) (rl s.w)
      ⟨fun it hit=>by
       obtain ⟨p',hp2,rfl⟩:=List.mem_map.1 hit
       obtain ⟨p,hp3,rfl⟩:=List.mem_map.1 hp2
       exact (hall p hp3).2,fun it hit=>by
       obtain ⟨p',hp2,rfl⟩:=List.mem_map.1 hit
       have:=List.all_eq_true.1 c4 p' hp2
       simp only [Bool.and_eq_true] at this
       exact this.2,_,_,[],cL rfl,by simp,hrep⟩
     refine ⟨_,_,_,cJ,hn.1,?_,hn.2⟩
     have hlm:len≤16777216:=Nat.le_trans (Nat.le_mul_of_pos_right len c1) c2
     simp only [Rep,cB,dh]
     rw [aE (aF hl)]
     refine ⟨⟨_,_,rfl⟩,by simp only [List.length_map,hlen];exact cG.refl _ _,fun _ _ => .inr ⟨_,_,upd_same _ _ _,rfl,by omega,by unfold maxLen;omega,?_⟩⟩
     rw [ee (cL rfl),hcl]
    ·cases h
   ·cases h
  ·cases h
 ·cases h
def ou (tt:aY) (kt:Nat):Option KS:=match tt kt with
 | some ti=>match ti.kind with
  | .int k=>some (.one (.int k))
  | .str=>some (.one .str)
  | .struct _=>ti.flat.map .flat
  | _=>none
 | none=>none
def gC (tt:aY) (t:Nat) (l:Nat):oE :=
 match tt t with
 | some ti=>match ti.kind with
  | .map k e=>match ou tt k with
   | some ks=>some (.mp l,some (l,.mp k e ks []))
   | none=>none
  | _=>none
 | none=>none
theorem iM {P:Program} {tt:aY} (hT:bD P tt) {base:World} {s:St} (hs:Sim base s) {t l:Nat} {r:AV} {q:Option (Nat × aN)} {x:Option Value} (hx:x=none∨∃k n,x=some (.int k n)) (hl:s.H[l]?=some .free) (h:gC tt t l=some (r,q)) :
  oh P base s (Instr.makeMap t x) r q:=by
 unfold gC at h
 split at h
 ·rename_i ti htt
  split at h
  ·rename_i k e hk
   have hu:=(hT _ _ htt).map hk
   split at h
   case h_2=>cases h
   rename_i ks hks
   simp only [Option.some.injEq,Prod.mk.injEq] at h
   obtain ⟨rfl,rfl⟩:=h
   have hn:=hs.new hl (.map #[] 0) (.mp k e ks []) (rl s.w) ⟨(fun p hp=>nomatch hp),_,_,cL rfl,rfl,uf⟩
   refine ⟨.map (some s.w.heap.size),_,_,?_,hn.1,?_,hn.2⟩
   ·rcases hx with rfl | ⟨k,n,rfl⟩
    ·simp [Instr.makeMap]
    ·simp [Instr.makeMap,run_underlying hu,asInt,asIntOf]
   ·simp only [Rep,dD,dh]
    rw [aE (aF hl)]
    exact ⟨⟨_,rfl⟩,_,upd_same _ _ _,rfl⟩
  ·cases h
 ·cases h
end Av
end Go.Proofs.YtdekcppfpgeneaaGreatDoor
namespace Go.Proofs.YtdekcppfpgeneaaGreatDoor
open Go Go.RowKit
namespace Av
theorem px (a b:ByteArray):(a.toList == b.toList)=decide (a=b):=by
 rw [ByteArray.toList_eq,ByteArray.toList_eq]
 by_cases h:a=b
 ·subst h;simp
 ·have:¬a.data.toList=b.data.toList:=fun e=>h (by cases a;cases b;congr 1;exact Array.toList_inj.1 e)
  rw [decide_eq_false h]
  simpa using this
def qc (op:BinOp) (k:IntKind) (a b:Int):Option Value:=match op with
 | .add=>some (.int k (k.wrap (a+b)))
 | .sub=>some (.int k (k.wrap (a - b)))
 | .mul=>some (.int k (k.wrap (a * b)))
 | .quo=>if b=0 then none else some (.int k (k.wrap (a.tdiv b)))
 | .rem=>if b=0 then none else some (.int k (a.tmod b))
 | .and=>some (.int k (k.wrap ((BitVec.ofInt k.bits a &&& BitVec.ofInt k.bits b).toNat:Int)))
 | .or=>some (.int k (k.wrap ((BitVec.ofInt k.bits a ||| BitVec.ofInt k.bits b).toNat:Int)))
 | .xor=>some (.int k (k.wrap ((BitVec.ofInt k.bits a ^^^ BitVec.ofInt k.bits b).toNat:Int)))
 | .eql=>some (.bool (decide (a=b)))
 | .neq=>some (.bool (!decide (a=b)))
 | .lss=>some (.bool (decide (a<b)))
 | .leq=>some (.bool (decide (a≤b)))
 | .gtr=>some (.bool (decide (b<a)))
 | .geq=>some (.bool (decide (b≤a)))
 | _=>none
def AE (op:BinOp) (a b:ByteArray):Option Value:=match op with
 | .add=>if a.size+b.size≤9223372036854775807 then some (.string (a++b)) else none
 | .eql=>some (.bool (decide (a=b)))
 | .neq=>some (.bool (!decide (a=b)))
 | .lss=>some (.bool (Op.bytesLess a.toList b.toList))
 | .leq=>some (.bool (Op.bytesLess a.toList b.toList||decide (a=b)))
 | .gtr=>some (.bool !(Op.bytesLess a.toList b.toList||decide (a=b)))
 | .geq=>some (.bool !(Op.bytesLess a.toList b.toList))
 | _=>none
def Aa (tt:aY) (op:BinOp) (t:Nat):Value→Value→Option Value
 | .int k a,.int k' b=>match op with
  | .shl=>if 0≤b then some (.int k (k.wrap (a * 2 ^ Nat.min b.toNat k.bits))) else none
  | .shr=>if 0≤b then some (.int k (a.fdiv (2 ^ Nat.min b.toNat k.bits))) else none
  | op=>if k=k' then qc op k a b else none
 | .string a,.string b=>AE op a b
 | .bool a,.bool b=>match tt t with
  | some ⟨_,_,.bool,_,_⟩=>match op with
   | .eql=>some (.bool (a == b))
   | .neq=>some (.bool (!(a == b)))
   | _=>none
  | _=>none
 | _,_=>none
theorem tm {k:IntKind} {a b:Int} (h:small (.int k a)) (hb:b≠0):small (.int k (a.tmod b)):=by
 simp only [small] at h ⊢
 have h0:k.min≤0∧0≤k.max:=by cases k<;>decide
 have h1:(a.tmod b).natAbs≤a.natAbs:=by rw [Int.natAbs_tmod];exact Nat.mod_le _ _
 rcases Int.le_total 0 a with ha | ha
 ·have h2:=Int.tmod_nonneg b ha
  omega
 ·have h3:(-a).tmod b = -(a.tmod b):=Int.neg_tmod a b
  have h2:=Int.tmod_nonneg b (show 0 ≤ -a by omega)
  omega
theorem tU {k:IntKind} {a:Int} {n:Nat} (h:small (.int k a)):small (.int k (a.fdiv (2 ^ n))):=by
 simp only [small] at h ⊢
 have hp:(1:Int)≤2 ^ n:=by
  have:=Nat.one_le_two_pow (n:=n)
  exact_mod_cast this
 have h0:k.min≤0∧0≤k.max:=by cases k<;>decide
 rw [Int.fdiv_eq_ediv_of_nonneg _ (by omega)]
 rcases Int.le_total 0 a with ha | ha
 ·have h1:0≤a / 2 ^ n:=Int.ediv_nonneg ha (by omega)
  have h2:a / 2 ^ n≤a:=Int.ediv_le_self _ ha
  omega
 ·have h1:a / 2 ^ n≤0:=by
   rcases Int.lt_or_eq_of_le ha with h | h
   ·exact Int.le_of_lt (Int.ediv_neg_of_neg_of_pos h (by omega))
   ·rw [h];simp
  have h2:a≤a / 2 ^ n:=by
   have:=Int.le_ediv_of_mul_le (a:=a) (b:=a) (c:=2 ^ n) (by omega) (by
    have h:=Int.mul_nonneg (show 0 ≤ -a by omega) (show 0≤(2:Int) ^ n - 1 by omega)
    rw [Int.mul_sub,Int.mul_one,Int.neg_mul] at h
    omega)
   exact this
  omega
theorem eY (k:IntKind) (n:Int):small (.int k (k.wrap n)):=wrap_within k n
theorem tO {op:BinOp} {k:IntKind} {a b:Int} {r:Value} (ha:small (.int k a)) (h:qc op k a b=some r):small r:=by
 unfold qc at h
 split at h
 case h_4 | h_5 =>
  split at h
  ·cases h
  ·simp only [Option.some.injEq] at h;subst h
   first | exact eY _ _ | exact tm ha ‹_›
 all_goals first | (simp only [Option.some.injEq] at h;subst h;first | exact eY _ _ | trivial) | cases h
theorem y9 {P:Program} {op:BinOp} {k:IntKind} {a b:Int} {r:Value} {t:Nat} (h:qc op k a b=some r) (w:World):(binOp op t (.int k a) (.int k b)).run P w = .ok r w:=by
 cases op
 case quo | rem =>
  simp only [qc] at h
  split at h
  ·cases h
  ·rename_i hb
   simp only [Option.some.injEq] at h
   subst h
   simp [binOp,Op.intDiv,hb]
 all_goals first | (simp only [qc,Option.some.injEq] at h;subst h;simp only [binOp,ne_eq,not_true_eq_false,if_false];rfl) | (simp only [qc] at h;cases h)
theorem sA {P:Program} (op:BinOp) (t:Nat) (X Y:Operand) (k k':IntKind) (a b:Int) (w:World):(eqGuard op t X Y (.int k a) (.int k' b)).run P w = .ok () w:=by unfold eqGuard;cases op<;>rfl
theorem sy {P:Program} (op:BinOp) (t:Nat) (X Y:Operand) (a b:ByteArray) (w:World):(eqGuard op t X Y (.string a) (.string b)).run P w = .ok () w:=by unfold eqGuard;cases op<;>rfl
theorem qp {P:Program} (op:BinOp) (t:Nat) (X Y:Operand) (a b:Bool) (w:World):(eqGuard op t X Y (.bool a) (.bool b)).run P w = .ok () w:=by unfold eqGuard;cases op<;>rfl
theorem qm {P:Program} {t:Nat} (hu:P.underlying t=some .bool) (d:Nat) (a b:Bool) (w:World):(Op.equalIn (d+1) t (.bool a) (.bool b)).run P w = .ok (a == b) w:=by
 simp [Op.equalIn,run_underlying hu]
theorem nF {P:Program} {t:Nat} (hu:P.underlying t=some .bool) (a b:Bool) (w:World):(Op.equal t (.bool a) (.bool b)).run P w = .ok (a == b) w:=qm hu 9999 a b w
theorem ug {P:Program} {tt:aY} (hT:bD P tt) {op:BinOp} {t:Nat} {x y r:Value} {X Y:Operand} (hx:small x) (hy:small y) (h:Aa tt op t x y=some r) (w:World) :
  (do eqGuard op t X Y x y;binOp op t x y).run P w = .ok r w∧small r:=by
 unfold Aa at h
 split at h
 ·rename_i k a k' b
  simp only [Sem.run_bind,sA,Result.andThen_ok]
  split at h
  ·split at h
   ·rename_i hb
    simp only [Option.some.injEq] at h
    subst h
    refine ⟨?_,eY _ _⟩
    simp only [binOp,Op.shift]
    rw [if_neg (by omega)]
    rfl
   ·cases h
  ·split at h
   ·rename_i hb
    simp only [Option.some.injEq] at h
    subst h
    refine ⟨?_,tU hx⟩
    simp only [binOp,Op.shift]
    rw [if_neg (by omega)]
    rfl
   ·cases h
  ·rename_i op h1 h2
   split at h
   ·rename_i hk
    subst hk
    exact ⟨y9 h w,tO hx h⟩
   ·cases h
 ·rename_i a b
  simp only [Sem.run_bind,sy,Result.andThen_ok]
  unfold AE at h
  split at h
  ·split at h
   ·rename_i hs
    simp only [Option.some.injEq] at h
    subst h
    have:¬(9223372036854775807<(a.size:Int)+(b.size:Int)):=by omega
    refine ⟨?_,?_⟩
    ·simp [binOp,Op.stringOp,this,IntKind.max,IntKind.signed,IntKind.bits]
    ·show (a++b).size≤_
     rw [ByteArray.size_append];exact hs
   ·cases h
  all_goals first | (simp only [Option.some.injEq] at h;subst h;refine ⟨?_,trivial⟩;simp [binOp,Op.stringOp,px]) | cases h
 ·rename_i a b
  simp only [Sem.run_bind,qp,Result.andThen_ok]
  split at h
  ·rename_i htt
   have hu:P.underlying t=some .bool:=by
    obtain ⟨d,h1,h2⟩:=(hT _ _ htt).und
    cases d<;>simp [dH] at h2
    exact h1
   split at h
   ·simp only [Option.some.injEq] at h
    subst h
    refine ⟨?_,trivial⟩
    show ((Op.equal t (.bool a) (.bool b)) >>= fun e=>pure (Value.bool e)).run P w=_
    simp only [Sem.run_bind,nF hu,Result.andThen_ok]
    rfl
   ·simp only [Option.some.injEq] at h
    subst h
    refine ⟨?_,trivial⟩
    show ((Op.equal t (.bool a) (.bool b)) >>= fun e=>pure (Value.bool (!e))).run P w=_
    simp only [Sem.run_bind,nF hu,Result.andThen_ok]
    rfl
   ·cases h
  ·cases h
 ·cases h
def unV (op:UnOp):Value→Option Value
 | .int k n=>match op with
  | .neg=>some (.int k (k.wrap (0 - n)))
  | _=>none
 | .bool b=>match op with
  | .not=>some (.bool !b)
  | _=>none
 | _=>none
theorem vJ {P:Program} {op:UnOp} {x r:Value} (h:unV op x=some r) (w:World):(Op.unary op x).run P w = .ok r w∧small r:=by
 unfold unV at h
 split at h
 ·split at h
  ·simp only [Option.some.injEq] at h
   subst h
   exact ⟨rfl,eY _ _⟩
  ·cases h
 ·split at h
  ·simp only [Option.some.injEq] at h
   subst h
   exact ⟨rfl,trivial⟩
  ·cases h
 ·cases h
def sG (tt:aY) (src dst:Nat) (x:Value):Option Value:=match tt src,tt dst,x with
 | some ⟨_,_,.int _,_,_⟩,some ⟨_,_,.int k,_,_⟩,.int _ n=>some (.int k (k.wrap n))
 | some ⟨_,_,.str,_,_⟩,some ⟨_,_,.str,_,_⟩,.string s=>some (.string s)
 | _,_,_=>none
theorem bC.int {P:Program} {t:Nat} {ti:TI} (h:bC P t ti) {k:IntKind} (hk:ti.kind = .int k):P.underlying t=some (.int k):=by
 obtain ⟨d,h1,h2⟩:=h.und
 rw [hk] at h2
 cases d<;>simp [dH] at h2
 subst h2;exact h1
theorem sF {P:Program} {tt:aY} (hT:bD P tt) {src dst:Nat} {x r:Value} (hx:small x) (h:sG tt src dst x=some r) (w:World):(convert src dst x).run P w = .ok r w∧small r:=by
 unfold sG at h
 split at h
 ·rename_i h1 h2
  simp only [Option.some.injEq] at h
  subst h
  refine ⟨?_,eY _ _⟩
  simp [convert,run_underlying ((hT _ _ h1).int rfl),run_underlying ((hT _ _ h2).int rfl),Conv.intToInt]
 ·rename_i h1 h2
  simp only [Option.some.injEq] at h
  subst h
  refine ⟨?_,hx⟩
  simp [convert,run_underlying ((hT _ _ h1).str rfl),run_underlying ((hT _ _ h2).str rfl)]
 ·cases h
def yF:Value→Value→Option Value
 | .int k a,.int k' b=>if k=k' then some (.int k (if b<a then b else a)) else none
 | _,_=>none
def yG:Value→Value→Option Value
 | .int k a,.int k' b=>if k=k' then some (.int k (if a<b then b else a)) else none
 | _,_=>none
end Av
end Go.Proofs.YtdekcppfpgeneaaGreatDoor
namespace Go.Proofs.YtdekcppfpgeneaaGreatDoor
open Go Go.RowKit
namespace Av
theorem aK.one {w:World} {imm:Nat→Prop} {b:Nat}:∀{cells:List PD} {o:Nat},aK w imm cells b o→(cells.map AV.d).all AV.one=true
 | [],_,_=>rfl
 | p::r,o,h=>by
  simp only [aK] at h
  simp only [List.map_cons,List.all_cons,Bool.and_eq_true]
  exact ⟨h.1.1,aK.one h.2⟩
theorem bi.load {s:St} {b k:Nat}:∀{l:List (List PD)} {o:Nat},bi s.w s.imm l b k o →
  ∃cs:List Value,cs.length=l.length * k∧(∀j v,cs[j]?=some v→s.w.cell? ⟨b,o+j,none⟩=some v)∧ax s (l.map fun it=>it.map AV.d).flatten cs∧∀it∈l.map (fun it=>it.map AV.d),it.length=k∧it.all AV.one=true
 | [],o,_=>⟨[],by simp,fun j v h=>by simp at h,.nil,fun it h=>by simp at h⟩
 | it::r,o,h=>by
  simp only [bi] at h
  obtain ⟨h1,h2,h3⟩:=h
  obtain ⟨c1,k1,k2,k3⟩:=h2.load
  obtain ⟨c2,m1,m2,m3,m4⟩:=bi.load h3
  refine ⟨c1++c2,by simp [k1,m1,h1,Nat.succ_mul];omega,fun j v hj => ?_,?_,fun x hx => ?_⟩
  ·by_cases hlt:j<c1.length
   ·rw [List.getElem?_append_left hlt] at hj
    exact k2 j v hj
   ·rw [List.getElem?_append_right (by omega)] at hj
    have:=m2 _ v hj
    rw [show o+k+(j - c1.length)=o+j by omega] at this
    exact this
  ·simp only [List.map_cons,List.flatten_cons]
   exact k3.append m3
  ·simp only [List.map_cons,List.mem_cons] at hx
   rcases hx with rfl | hx
   ·exact ⟨by simp [h1],h2.one⟩
   ·exact m4 x hx
def eW (H:av) (k:Nat):AV→Option (List (List AV))
 | .d (.sl k' l)=>if k'=k then some (l.map fun it=>it.map AV.d) else none
 | .d (.v (.slice none 0 0))=>some []
 | .ms l ver n=>match H[l]? with
  | some (.row _ k' ver' items)=>if ver=ver'∧n=items.length∧k'=k then some items else none
  | _=>none
 | _=>none
theorem lT {base:World} {s:St} (hs:Sim base s) {k:Nat} {x:AV} {v:Value} {xs:List (List AV)} (hv:Rep s x v) (h:eW s.H k x=some xs) :
  ∃ao c news,v = .slice ao xs.length c∧news.length=xs.length * k∧(∀it∈xs,it.length=k∧it.all AV.one=true)∧ax s xs.flatten news∧(xs=[]∨∃a:Addr,ao=some a∧∀j u,news[j]?=some u→s.w.cell? (a.add j)=some u):=by
 unfold eW at h
 split at h
 ·rename_i k' l
  split at h
  ·rename_i hk
   subst hk
   simp only [Option.some.injEq] at h
   subst h
   simp only [Rep,aQ] at hv
   obtain ⟨ao,cap,rfl,h1,h2,h3⟩:=hv
   rcases h3 with rfl | ⟨b,o,rfl,h4,h5⟩
   ·exact ⟨ao,cap,[],by simp,by simp,by simp,.nil,.inl rfl⟩
   ·obtain ⟨cs,c1,c2,c3,c4⟩:=h5.load
    exact ⟨some ⟨b,o,none⟩,cap,cs,by simp,by simpa using c1,c4,c3,.inr ⟨_,rfl,fun j u hj=>by rw [cT];exact c2 j u hj⟩⟩
  ·cases h
 ·simp only [Option.some.injEq] at h
  subst h
  simp only [Rep,aQ] at hv
  obtain ⟨rfl,_⟩:=hv
  exact ⟨none,0,[],rfl,by simp,by simp,.nil,.inl rfl⟩
 ·rename_i l ver n
  split at h
  ·rename_i ty k' ver' items ho
   split at h
   ·rename_i e
    obtain ⟨e1,e2,e3⟩:=e
    simp only [Option.some.injEq] at h
    subst h
    subst e3
    simp only [Rep,cB,ho] at hv
    obtain ⟨_,_,hv⟩:=hv
    obtain ⟨h0,h9,h⟩:=hs.obj l _ ho
    have hlen:=cH h0
    rcases hv e1 e2 with ⟨m1,rfl,m3⟩ | ⟨b,cap,m1,rfl,m3,m4,m5⟩
    ·have:items=[]:=List.eq_nil_of_length_eq_zero (by omega)
     subst this
     exact ⟨none,0,[],rfl,by simp,by simp,.nil,.inl rfl⟩
    ·rcases h with ⟨h1,h2⟩ | ⟨b',arr,f,r,h1,h2,h3,h4,h5⟩
     ·rw [m1] at h1;cases h1
     ·rw [m1] at h1;cases h1
      refine ⟨_,cap,f,by rw [e2],by rw [←h5.length,hlen],fun it hit=>⟨h0 it hit,h9 it hit⟩,h5,.inr ⟨_,rfl,fun j u hj => ?_⟩⟩
      rw [cT]
      have hlt:=(List.getElem?_eq_some_iff.1 hj).1
      refine lg h3 j u ?_
      rw [h4,List.getElem?_append_left hlt]
      exact hj
   ·cases h
  ·cases h
 ·cases h
def iE:List (List AV)→Option (List Int)
 | []=>some []
 | [.d (.v (.int .u8 n))]::r=>match iE r with
  | some ns=>some (n::ns)
  | none=>none
 | _=>none
def strOf (ns:List Int):ByteArray:=ns.foldl (fun r n=>r.push (UInt8.ofNat n.toNat)) ByteArray.empty
def iQ (tt:aY) (H:av) (a b:Nat) (x:AV):Option AV:=match tt a,tt b with
 | some ta,some tb=>match ta.kind,tb.kind with
  | .slice e,.str=>match tt e with
   | some te=>match te.kind with
    | .int .u8=>match eW H 1 x with
     | some xs=>if xs.length≤9223372036854775807 then match iE xs with
      | some ns=>some (.d (.v (.string (strOf ns))))
      | none=>none
      else none
     | none=>none
    | _=>none
   | none=>none
  | _,_=>none
 | _,_=>none
theorem mO:∀(ns:List Int) (r:ByteArray),(ns.foldl (fun r n=>r.push (UInt8.ofNat n.toNat)) r).size=r.size+ns.length
 | [],r=>by simp
 | n::ns,r=>by
  rw [List.foldl_cons,mO ns]
  simp [ByteArray.size_push];omega
theorem nM {s:St}:∀{xs:List (List AV)} {ns:List Int} {news:List Value},iE xs=some ns→ax s xs.flatten news→news=ns.map (Value.int .u8)∧ns.length=xs.length
 | [],ns,news,h,hr=>by
  simp only [iE,Option.some.injEq] at h
  subst h
  have:=hr.length
  have e:news=[]:=List.length_eq_zero_iff.1 (by simpa using this.symm)
  exact ⟨by rw [e];rfl,rfl⟩
 | it::r,ns,news,h,hr=>by
  unfold iE at h
  split at h
  ·rename_i heq;cases heq
  ·rename_i n r' heq
   cases heq
   split at h
   ·rename_i ns' hns
    simp only [Option.some.injEq] at h
    subst h
    simp only [List.flatten_cons,List.cons_append,List.nil_append,ax] at hr
    obtain ⟨x,t,e,h1,h2⟩:=hr
    simp only [Rep,aQ] at h1
    obtain ⟨h3,h4⟩:=nM hns h2
    subst e
    rw [h1.1,h3]
    exact ⟨by simp,by simp [h4]⟩
   ·cases h
  ·cases h
theorem qL {P:Program} {tt:aY} (hT:bD P tt) {base:World} {s:St} (hs:Sim base s) {a b:Nat} {x r:AV} {v:Value} (hv:Rep s x v) (h:iQ tt s.H a b x=some r) :
  ∃y,(convert a b v).run P s.w = .ok y s.w∧Rep s r y:=by
 unfold iQ at h
 split at h
 case h_2=>cases h
 rename_i ta tb hta htb
 split at h
 case h_2=>cases h
 rename_i e hka hkb
 split at h
 case h_2=>cases h
 rename_i te hte
 split at h
 case h_2=>cases h
 rename_i hke
 split at h
 case h_2=>cases h
 rename_i xs hxs
 split at h
 case isFalse=>cases h
 rename_i hle
 split at h
 case h_2=>cases h
 rename_i ns hns
 simp only [Option.some.injEq] at h
 subst h
 have hs1:=(hT _ _ hta).slice hka
 have hs2:=(hT _ _ htb).str hkb
 have hs3:=(hT _ _ hte).int hke
 obtain ⟨ao,c,news,rfl,hnl,hit,hrep,hadr⟩:=lT hs hv hxs
 obtain ⟨h3,h4⟩:=nM hns hrep
 have hsz:(strOf ns).size=ns.length:=by
  unfold strOf;rw [mO];simp
 have hsm:small (.string (strOf ns)):=by
  simp only [small];omega
 refine ⟨.string (strOf ns),?_,by simp only [Rep,aQ];exact ⟨trivial,hsm⟩⟩
 rw [run_convert_bytes_string s.w a b e ao xs.length c hs1 hs3 hs2]
 rcases hadr with rfl | ⟨ad,rfl,hcell⟩
 ·simp only [List.length_nil] at h4 ⊢
  have:ns=[]:=List.length_eq_zero_iff.1 h4
  subst this
  cases ao<;>simp [Conv.bytesToString,loadCells,loadCellsFrom,strOf,Sem.run_pure]
 ·have hl:=run_loadCells_list (P:=P) s.w ad news hcell
  rw [hnl,Nat.mul_one] at hl
  rw [h3] at hl
  exact run_bytesToString s.w ad xs.length c ns hl
def xM (s:ByteArray):List (List PD):=s.data.toList.map fun b=>[.v (.int .u8 b.toNat)]
def iF (s:ByteArray):List (List AV):=(xM s).map fun it=>it.map AV.d
def sX (tt:aY) (H:av) (t tx k:Nat) (x:AV):Option (List (List AV)) :=
 if t=tx then eW H k x else match x with
 | .d (.v (.string s))=>match tt tx with
  | some ti=>match ti.kind with
   | .str=>if k=1 then some (iF s) else none
   | _=>none
  | none=>none
 | _=>none
def fC (tt:aY) (H:av) (t tx:Nat) (s x:AV) (l:Nat):oE :=
 match tt t with
 | some ti=>match ti.kind with
  | .slice e=>match tt e with
   | some te=>match sX tt H t tx te.size x with
    | some xs=>match s with
     | .ms l0 ver n=>match H[l0]? with
      | some (.row ty k ver' items)=>if ver=ver'∧n=items.length∧k=te.size∧ty=e∧0<te.size∧n+xs.length≤9223372036854775807∧(n+xs.length) * te.bytes≤140737488355328 then
        some (.ms l0 ver (n+xs.length),some (l0,.row ty k ver (items++xs))) else none
      | _=>none
     | .d (.v (.slice none 0 0))=>if 0<te.size∧xs.length≤9223372036854775807∧xs.length * te.bytes≤140737488355328 then
        some (.ms l 0 xs.length,some (l,.row e te.size 0 xs)) else none
     | _=>none
    | none=>none
   | none=>none
  | _=>none
 | none=>none
theorem l5 {P:Program} {w:World} (t ty e:TypeId) {te:TI} (ht:P.underlying t=some (.slice e)) (hte:bC P e te) (base ao:Option Addr) (n cap c:Nat) (h:n≤cap) :
  (Builtin.append_ #[t,t] ty #[.slice base n cap,.slice ao 0 c]).run P w = .ok (.slice base n cap) w:=by
 cases ao with
 | none=>cases base<;>simp [Builtin.append_,run_underlying ht,hte.run_sizeOf,Builtin.lenOf,Builtin.firstCells,h,storeCells]
 | some a=>cases base<;>simp [Builtin.append_,run_underlying ht,hte.run_sizeOf,Builtin.lenOf,Builtin.firstCells,h,storeCells,loadCells,loadCellsFrom]
theorem gK {P:Program} {w:World} (t u ty e:TypeId) {te:TI} (ht:P.underlying t=some (.slice e)) (hu:P.underlying u=some .string) (hte:bC P e te) (base:Option Addr) (n cap:Nat) (s:ByteArray) (h0:s.size=0) (h:n≤cap) :
  (Builtin.append_ #[t,u] ty #[.slice base n cap,.string s]).run P w = .ok (.slice base n cap) w:=by
 cases base<;>simp [Builtin.append_,run_underlying ht,run_underlying hu,hte.run_sizeOf,Builtin.lenOf,Builtin.firstCells,h0,h,storeCells]
structure El (P:Program) (w:World) (t tx ty e:TypeId) (te:TI) (n:Nat) (vx:Value) (news:List Value):Prop where
 none:n=0→∀base m cap,m≤cap→(Builtin.append_ #[t,tx] ty #[.slice base m cap,vx]).run P w = .ok (.slice base m cap) w
 nil:0<n→(n:Int)≤9223372036854775807→n * te.bytes≤281474976710656→(Builtin.append_ #[t,tx] ty #[.slice .none 0 0,vx]).run P w = .ok (.slice (some ⟨w.heap.size,0,.none⟩) n (grownCap w n 0 e)) (w.drew.alloc (.cells (news.toArray++Builtin.zeroCells te.zval.cells (grownCap w n 0 e - n)) e))
 room:0<n→∀g sLen sCap (cur:Array Value),w.heap[g]?=some (.cells cur e (0,0))→sLen+n≤sCap→sLen * te.size+news.length≤cur.size →
  (Builtin.append_ #[t,tx] ty #[.slice (some ⟨g,0,.none⟩) sLen sCap,vx]).run P w = .ok (.slice (some ⟨g,0,.none⟩) (sLen+n) sCap) (w.setRow g (cur.toList.take (sLen * te.size)++news++cur.toList.drop (sLen * te.size+news.length)).toArray)
 grow:0<n→∀(b:Addr) sLen sCap (olds:List Value),olds.length=sLen * te.size→(∀j v,olds[j]?=some v→w.cell? (b.add j)=some v)→sCap<sLen+n→((sLen+n:Nat):Int)≤9223372036854775807→Builtin.nextslicecap (sLen+n) sCap * te.bytes≤281474976710656 →
  (Builtin.append_ #[t,tx] ty #[.slice (some b) sLen sCap,vx]).run P w = .ok (.slice (some ⟨w.heap.size,0,.none⟩) (sLen+n) (grownCap w (sLen+n) sCap e)) (w.drew.alloc (.cells (olds.toArray++news.toArray++Builtin.zeroCells te.zval.cells (grownCap w (sLen+n) sCap e - (sLen+n))) e))
theorem py {s:St} (x:ByteArray):ax s (iF x).flatten (Lib.strCells x):=by
 unfold iF xM Lib.strCells
 generalize x.data.toList=l
 induction l with
 | nil=>exact .nil
 | cons b r ih =>
  simp only [List.map_cons,List.map_nil,List.flatten_cons,List.cons_append,List.nil_append]
  refine .cons ?_ ih
  simp only [Rep,aQ,true_and]
  have:=b.toNat_lt
  simp only [small,IntKind.min,IntKind.max,IntKind.signed,IntKind.bits]
  simp
  omega
theorem gr (x:ByteArray):(iF x).length=x.size:=by
 simp only [iF,xM,List.length_map,Array.length_toList];rfl
theorem BA {P:Program} {tt:aY} (hT:bD P tt) {base:World} {s:St} (hs:Sim base s) {t tx ty e:Nat} {te:TI} (hu:P.underlying t=some (.slice e)) (hte:tt e=some te) {x:AV} {vx:Value} {xs:List (List AV)} (hvx:Rep s x vx) (h:sX tt s.H t tx te.size x=some xs) :
  ∃news,news.length=xs.length * te.size∧(∀it∈xs,it.length=te.size∧it.all AV.one=true)∧ax s xs.flatten news∧El P s.w t tx ty e te xs.length vx news:=by
 have hte':=hT _ _ hte
 obtain ⟨ie,j1,j2,j3,j4⟩:=hte'.info
 unfold sX at h
 split at h
 ·rename_i e'
  subst e'
  obtain ⟨ao,c,news,rfl,hnl,hit,hrep,hadr⟩:=lT hs hvx h
  have hone:∀u∈news,u.oneCell'=true:=m7 (by
   rw [List.all_eq_true]
   intro a ha
   obtain ⟨it,h1,h2⟩:=List.mem_flatten.1 ha
   exact List.all_eq_true.1 (hit it h1).2 a h2) hrep
  refine ⟨news,hnl,hit,hrep,⟨fun h0 base m cap hm => ?_,fun h0 h1 h2 => ?_,fun h0 g sLen sCap cur h1 h2 h3 => ?_,fun h0 b sLen sCap olds h1 h2 h3 h4 h5 => ?_⟩⟩
  ·rw [h0];exact l5 t ty e hu hte' _ _ _ _ _ hm
  all_goals
   have hx0:xs≠[]:=List.length_pos_iff.1 h0
   obtain ⟨adr,rfl,hnews⟩:=hadr.resolve_left hx0
  ·exact run_append_nil (P:=P) s.w t ty e ie te.zval hu j1 j4 adr xs.length c news (by rw [j2];exact hnl) hnews h0 h1 (by rw [j3];exact h2)
  ·have hr:=run_append_room (P:=P) s.w t ty e ie hu j1 g sLen sCap cur h1 adr xs.length c news (by rw [j2];exact hnl) hnews hone h2 (by rw [j2];exact h3)
   rw [j2] at hr
   exact hr
  ·exact run_append_grow (P:=P) s.w t ty e ie te.zval hu j1 j4 b sLen sCap olds (by rw [j2];exact h1) h2 adr xs.length c news (by rw [j2];exact hnl) hnews h3 h4 (by rw [j3];exact h5)
 ·split at h
  case h_2=>cases h
  rename_i x'
  split at h
  case h_2=>cases h
  rename_i ti htx
  split at h
  case h_2=>cases h
  rename_i hk
  split at h
  case isFalse=>cases h
  rename_i hk1
  simp only [Option.some.injEq] at h
  subst h
  simp only [Rep,aQ] at hvx
  obtain ⟨rfl,hsm⟩:=hvx
  have hux:=(hT _ _ htx).str hk
  have hlen:=gr x'
  refine ⟨Lib.strCells x',by rw [Lib.strCells_length,hlen,hk1,Nat.mul_one],fun it hit => ?_,py x',⟨fun h0 base m cap hm => ?_,fun h0 h1 h2 => ?_,fun h0 g sLen sCap cur h1 h2 h3 => ?_,fun h0 b sLen sCap olds h1 h2 h3 h4 h5 => ?_⟩⟩
  ·simp only [iF,xM,List.map_map,List.mem_map] at hit
   obtain ⟨b,_,rfl⟩:=hit
   exact ⟨by rw [hk1];rfl,rfl⟩
  ·exact gK t tx ty e hu hux hte' _ _ _ _ (by omega) hm
  all_goals rw [hlen] at *
  ·have hr:=run_append_nil_string (P:=P) s.w t tx ty e ie te.zval hu hux j1 j4 x' h0 h1 (by rw [j3];exact h2)
   rw [hr]
   congr 4
   apply Array.ext'
   simp [Lib.strCells]
  ·have hr:=Lib.run_append_room_string (P:=P) s.w t tx ty e ie hu hux j1 (by rw [j2];exact hk1) g sLen sCap cur h1 x' h2 (by rw [Lib.strCells_length,hk1] at h3;omega)
   rw [hr,hk1,Lib.strCells_length,Nat.mul_one]
  ·exact Lib.run_append_grow_string (P:=P) s.w t tx ty e ie te.zval hu hux j1 j4 b sLen sCap olds (by rw [j2];exact h1) h2 x' h3 h4 (by rw [j3];exact h5)
theorem oD {P:Program} {tt:aY} (hT:bD P tt) {base:World} {s:St} (hs:Sim base s) {t tx ty l:Nat} {a x r:AV} {va vx:Value} {q:Option (Nat × aN)} (hl:(∃p,a = .d p)→s.H[l]?=some .free) (hva:Rep s a va) (hvx:Rep s x vx) (h:fC tt s.H t tx a x l=some (r,q)) :
  oh P base s (Builtin.append_ #[t,tx] ty #[va,vx]) r q:=by
 unfold fC at h
 split at h
 case h_2=>cases h
 rename_i ti htt
 have hti:=hT _ _ htt
 split at h
 case h_2=>cases h
 rename_i e hk
 have hu:=hti.slice hk
 split at h
 case h_2=>cases h
 rename_i te hte
 have hte':=hT _ _ hte
 obtain ⟨ie,j1,j2,j3,j4⟩:=hte'.info
 have hzc:te.zval.cells.size=te.size:=by rw [hte'.zval_cells];simpa using hte'.len
 split at h
 case h_2=>cases h
 rename_i xs hxs
 obtain ⟨news,hnl,hit,hrep,hsrc⟩:=BA (ty:=ty) hT hs hu hte hvx hxs
 split at h
 ·rename_i l0 ver n
  split at h
  case h_2=>cases h
  rename_i ty0 k ver' items ho
  split at h
  case isFalse=>cases h
  rename_i cc
  obtain ⟨c1,c2,rfl,c4,c5,c6,c7⟩:=cc
  obtain rfl:e=ty0:=c4.symm
  simp only [Option.some.injEq,Prod.mk.injEq] at h
  obtain ⟨rfl,rfl⟩:=h
  subst c1
  subst c2
  simp only [Rep,cB,ho] at hva
  obtain ⟨_,_,hva⟩:=hva
  obtain ⟨h0,h9,hobj⟩:=hs.obj l0 _ ho
  have hlo:=aF ho
  have hmem:(∀it∈items++xs,it.length=te.size)∧(∀it∈items++xs,it.all AV.one=true):=⟨fun it h=>by
    rcases List.mem_append.1 h with h | h
    ·exact h0 it h
    ·exact (hit it h).1,fun it h=>by
    rcases List.mem_append.1 h with h | h
    ·exact h9 it h
    ·exact (hit it h).2⟩
  by_cases hx0:xs=[]
  ·subst hx0
   have hst:∀v,Rep s (.ms l0 ver items.length) v→(Builtin.append_ #[t,tx] ty #[va,vx]).run P s.w = .ok v s.w→oh P base s (Builtin.append_ #[t,tx] ty #[va,vx]) (.ms l0 ver (items.length+0)) (some (l0,.row e te.size ver (items++[]))):=by
    intro v hr cJ
    refine ⟨v,s.w,s.μ,cJ,?_⟩
    have:dh s.H (some (l0,.row e te.size ver (items++[])))=s.H:=by
     simp only [dh,List.append_nil]
     apply List.ext_getElem?
     intro i
     by_cases hi:i=l0
     ·subst hi;rw [aE hlo,ho]
     ·rw [aV hi]
    rw [this]
    exact ⟨hs,hr,.refl _ _⟩
   have hva2:=hva trivial trivial
   have hr:Rep s (.ms l0 ver items.length) va:=by
    simp only [Rep,cB,ho]
    refine ⟨?_,cG.refl _ _,fun _ _=>hva2⟩
    rcases hva2 with ⟨_,h2,h3⟩ | ⟨b,cap,_,h2,_⟩
    ·rw [h3];exact ⟨_,_,h2⟩
    ·exact ⟨_,_,h2⟩
   refine hst va hr ?_
   rcases hva2 with ⟨m1,rfl,m3⟩ | ⟨b,cap,m1,rfl,m3,m4,m5⟩
   ·exact hsrc.none rfl _ _ _ (Nat.le_refl _)
   ·exact hsrc.none rfl _ _ _ m3
  ·have hm:0<xs.length:=List.length_pos_iff.2 hx0
   have hflat:(items++xs).flatten=items.flatten++xs.flatten:=List.flatten_append
   have mk:∀(cap:Nat) (olds:List Value),ax s items.flatten olds→cap<items.length+xs.length →
     (Builtin.append_ #[t,tx] ty #[va,vx]).run P s.w = .ok (.slice (some ⟨s.w.heap.size,0,none⟩) (items.length+xs.length) (grownCap s.w (items.length+xs.length) cap e))
      (s.w.drew.alloc (.cells (olds.toArray++news.toArray++Builtin.zeroCells te.zval.cells (grownCap s.w (items.length+xs.length) cap e - (items.length+xs.length))) e)) →
     oh P base s (Builtin.append_ #[t,tx] ty #[va,vx]) (.ms l0 ver (items.length+xs.length)) (some (l0,.row e te.size ver (items++xs))):=by
    intro cap olds ho' hcap cJ
    have hge:=grownCap_ge s.w (items.length+xs.length) cap e
    have hle:=grownCap_le_maxLen s.w (items.length+xs.length) cap e (by unfold maxLen;omega)
    have hsz:s.w.drew.heap.size=s.w.heap.size:=rfl
    have hn:=hs.upd ho (b:=s.w.heap.size) (o' := .row e te.size ver (items++xs)) (w':=s.w.drew.alloc (.cells (olds.toArray++news.toArray++Builtin.zeroCells te.zval.cells (grownCap s.w (items.length+xs.length) cap e - (items.length+xs.length))) e)) rfl rfl rfl (by show _≤(s.w.heap.push _).size;simp) (fun k _ hk=>by
      show (s.w.heap.push _)[k]?=_
      rw [Array.getElem?_push,if_neg (by omega)]) (.inl (Nat.le_refl _))
     ⟨hmem.1,hmem.2,_,olds++news,(Builtin.zeroCells te.zval.cells (grownCap s.w (items.length+xs.length) cap e - (items.length+xs.length))).toList,cL hsz,by simp,by rw [hflat];exact ho'.append hrep⟩ (by
      unfold aW
      rw [ho]
      refine .inr ⟨_,_,aE hlo,?_,fun _ e2 => ?_⟩
      ·rw [List.length_append];exact .inr ⟨rfl,by omega⟩
      ·rw [List.length_append] at e2;omega)
    refine ⟨_,_,_,cJ,hn.1,?_,hn.2⟩
    simp only [Rep,cB,dh]
    rw [aE hlo]
    refine ⟨⟨_,_,rfl⟩,by rw [List.length_append];exact cG.refl _ _,fun _ _ => .inr ⟨_,_,upd_same _ _ _,rfl,hge,hle,?_⟩⟩
    rw [ee (cL hsz)]
    simp only [Array.size_append,List.size_toArray,size_zeroCells,hzc]
    rw [←ho'.length,cH h0,hnl,←Nat.add_mul,←Nat.add_mul]
    congr 1
    omega
   rcases hva trivial trivial with ⟨m1,rfl,m3⟩ | ⟨b,cap,m1,rfl,m3,m4,m5⟩
   ·have hi:items=[]:=List.eq_nil_of_length_eq_zero (by omega)
    subst hi
    have hr:=hsrc.nil hm (by omega) (by simp only [List.length_nil,Nat.zero_add] at c7;omega)
    refine mk 0 [] .nil (by simpa using hm) ?_
    simpa using hr
   ·rcases hobj with ⟨q1,_⟩ | ⟨b',arr,f,rs,q1,q2,q3,q4,q5⟩
    ·rw [m1] at q1;cases q1
    ·rw [m1] at q1;cases q1
     have hfl:=q5.length
     rw [cH h0] at hfl
     rw [ee q3] at m5
     have hal:arr.size=f.length+rs.length:=by rw [←Array.length_toList,q4,List.length_append]
     by_cases hroom:items.length+xs.length≤cap
     ·have hfit:items.length * te.size+news.length≤arr.size:=by rw [hnl,←m5,←Nat.add_mul];exact Nat.mul_le_mul_right _ hroom
      have hr:=hsrc.room hm b items.length cap arr q3 hroom hfit
      have hpre:arr.toList.take (items.length * te.size)=f:=by rw [q4,hfl];exact List.take_left
      have hn:=hs.upd ho (b:=b) (o' := .row e te.size ver (items++xs)) (w':=s.w.setRow b (arr.toList.take (items.length * te.size)++news++arr.toList.drop (items.length * te.size+news.length)).toArray) rfl rfl rfl (by simp) (fun k hk _=>setRow_other _ _ _ _ hk) (.inr ⟨rfl,m1⟩)
       ⟨hmem.1,hmem.2,_,f++news,arr.toList.drop (items.length * te.size+news.length),setRow_heap _ _ _ _ _ _ q3,by rw [hpre],by rw [hflat];exact q5.append hrep⟩ (by
        unfold aW
        rw [ho]
        refine .inr ⟨_,_,aE hlo,?_,fun _ e2 => ?_⟩
        ·rw [List.length_append];exact .inr ⟨rfl,by omega⟩
        ·rw [List.length_append] at e2;omega)
      refine ⟨_,_,_,hr,hn.1,?_,hn.2⟩
      simp only [Rep,cB,dh]
      rw [aE hlo]
      refine ⟨⟨_,_,rfl⟩,by rw [List.length_append];exact cG.refl _ _,fun _ _ => .inr ⟨_,_,upd_same _ _ _,rfl,hroom,m4,?_⟩⟩
      rw [ee (setRow_heap _ _ _ _ _ _ q3),m5]
      simp only [List.size_toArray,List.length_append,List.length_take,List.length_drop,Array.length_toList]
      omega
     ·have hr:=hsrc.grow hm ⟨b,0,none⟩ items.length cap f hfl.symm (fun j v hj=>by
        have hlt:=(List.getElem?_eq_some_iff.1 hj).1
        rw [cT]
        exact lg q3 j v (by rw [q4,List.getElem?_append_left hlt];exact hj)) (by omega) (by omega) (growslice_fits (by omega) c7)
      exact mk cap f q5 (by omega) hr
 ·split at h
  case isFalse=>cases h
  rename_i cc
  obtain ⟨c5,c6,c7⟩:=cc
  have hl:=hl ⟨_,rfl⟩
  simp only [Option.some.injEq,Prod.mk.injEq] at h
  obtain ⟨rfl,rfl⟩:=h
  simp only [Rep,aQ] at hva
  obtain ⟨rfl,_⟩:=hva
  by_cases hx0:xs=[]
  ·subst hx0
   have hd:=hs.drop hl (o' := .row e te.size 0 []) (.inr (.inl ⟨rfl,_,_,_,rfl⟩))
   refine ⟨.slice none 0 0,s.w,_,hsrc.none rfl _ _ _ (Nat.le_refl _),hd.1,?_,hd.2⟩
   simp only [Rep,cB,dh]
   rw [aE (aF hl)]
   exact ⟨⟨_,_,rfl⟩,cG.refl _ _,fun _ _ => .inl ⟨upd_same _ _ _,by first | rfl | trivial,by first | rfl | trivial⟩⟩
  ·have hm:0<xs.length:=List.length_pos_iff.2 hx0
   have hr:=hsrc.nil hm (by omega) (by omega)
   have hge:=grownCap_ge s.w xs.length 0 e
   have hle:=grownCap_le_maxLen s.w xs.length 0 e (by unfold maxLen;omega)
   have hn:=hs.new hl (.cells (news.toArray++Builtin.zeroCells te.zval.cells (grownCap s.w xs.length 0 e - xs.length)) e) (.row e te.size 0 xs) (w0:=s.w.drew) ⟨rfl,rfl,rfl,rfl⟩
    ⟨fun it h=>(hit it h).1,fun it h=>(hit it h).2,_,news,(Builtin.zeroCells te.zval.cells (grownCap s.w xs.length 0 e - xs.length)).toList,cL rfl,by simp,hrep⟩
   refine ⟨_,_,_,hr,hn.1,?_,hn.2⟩
   simp only [Rep,cB,dh]
   rw [aE (aF hl)]
   refine ⟨⟨_,_,rfl⟩,cG.refl _ _,fun _ _ => .inr ⟨_,_,upd_same _ _ _,rfl,hge,hle,?_⟩⟩
   rw [ee (cL (w0:=s.w.drew) (n:=s.w.heap.size) rfl)]
   simp only [Array.size_append,List.size_toArray,size_zeroCells,hzc,hnl,←Nat.add_mul]
   congr 1
   omega
 ·cases h
end Av
end Go.Proofs.YtdekcppfpgeneaaGreatDoor
namespace Go.Proofs.YtdekcppfpgeneaaGreatDoor
open Go Go.RowKit
namespace Av
theorem zm {a b:Value} (h:eqV a b=true):a=b:=by
 unfold eqV at h
 split at h
 ·simp at h;obtain ⟨rfl,rfl⟩:=h;rfl
 ·simp at h;subst h;rfl
 ·simp at h;subst h;rfl
 ·cases h
theorem zn:∀{a b:List Value},eqL a b=true→a=b
 | [],[],_=>rfl
 | [],_::_,h=>by cases h
 | _::_,[],h=>by cases h
 | a::r,b::t,h=>by
  simp only [eqL,Bool.and_eq_true] at h
  rw [zm h.1,zn h.2]
def keyEq:Value→Value→Bool
 | .agg xs,.agg ys=>eqL xs.toList ys.toList
 | a,b=>eqV a b
theorem rP {a b:Value} (h:keyEq a b=true):a=b:=by
 unfold keyEq at h
 split at h
 ·rename_i xs ys
  have:=zn h
  congr 1
  exact Array.toList_inj.1 this
 ·exact zm h
def fZ (es:List (Value × AV)) (key:Value):Option Nat:=es.findIdx? fun p=>keyEq key p.1
def io (es:List (Value × AV)) (key:Value):Option AV:=(es.find? fun p=>keyEq key p.1).map (·.2)
def kL (es:List (Value × AV)) (key:Value) (v:AV):List (Value × AV):=match fZ es key with
 | some i=>es.modify i fun p=>(p.1,v)
 | none=>es++[(key,v)]
theorem aR.length {s:St}:∀{es:List (Value × AV)} {l:List MapEntry},aR s es l→l.length=es.length
 | [],l,h=>by simp only [aR] at h;subst h;rfl
 | (k,a)::r,l,h=>by
  simp only [aR] at h
  obtain ⟨e,t,rfl,_,_,h⟩:=h
  simp [aR.length h]
theorem o6 {k:IntKind} {v:Value} (h:eH (.int k) v=true):∃n,v = .int k n:=by
 cases v<;>simp [eH] at h
 subst h;exact ⟨_,rfl⟩
theorem o5 {v:Value} (h:eH .str v=true):∃s,v = .string s:=by
 cases v<;>simp [eH] at h
 exact ⟨_,rfl⟩
def C3 (P:Program) (kt:Nat) (ok:Value→Bool):Prop :=
 ∀(key:Value) (l:List MapEntry) (w:World),ok key=true→(∀e∈l,ok e.key=true)→(Instr.findKey kt key l).run P w = .ok ((l.zipIdx.find? fun p=>keyEq key p.1.key).map fun p=>(p.2,p.1.val)) w
theorem nE {d:TypeDesc} {key:Value} (l:List MapEntry) (i:Nat) (h:∀e∈l,Instr.sameNow d key e.key=some (keyEq key e.key)):Instr.findNow d key l i=some (((l.zipIdx i).find? fun p=>keyEq key p.1.key).map fun p=>(p.2,p.1.val)):=by
 induction l generalizing i with
 | nil=>rfl
 | cons e l ih =>
  have h1:=h e (by simp)
  simp only [Instr.findNow,h1,List.zipIdx_cons,List.find?_cons]
  cases hk:keyEq key e.key with
  | true=>simp
  | false=>simp only [hk];exact ih (i+1) fun x hx=>h x (by simp [hx])
theorem ov {P:Program} {kt:Nat} {key:Value} {w:World} (l:List MapEntry) (i:Nat) (h:∀e∈l,(Op.equal kt key e.key).run P w = .ok (keyEq key e.key) w):(Instr.findAsking kt key l i).run P w = .ok (((l.zipIdx i).find? fun p=>keyEq key p.1.key).map fun p=>(p.2,p.1.val)) w:=by
 induction l generalizing i with
 | nil=>rfl
 | cons e l ih =>
  have h1:=h e (by simp)
  simp only [Instr.findAsking,Sem.run_bind,h1,Result.andThen_ok,List.zipIdx_cons,List.find?_cons]
  cases hk:keyEq key e.key with
  | true=>simp
  | false=>simp only [Bool.false_eq_true,if_false,hk];exact ih (i+1) fun x hx=>h x (by simp [hx])
theorem qk {P:Program} {tt:aY} (hT:bD P tt) {kt:Nat} {ks:KS} (hks:ou tt kt=some ks):C3 P kt (bo ks):=by
 intro key l w hk hl
 unfold ou at hks
 split at hks
 case h_2=>cases hks
 rename_i ti htt
 have hti:=hT _ _ htt
 split at hks
 ·rename_i k hkk
  cases hks
  simp only [bo] at hk hl
  have hu:=hti.int hkk
  unfold Instr.findKey
  simp only [Sem.run_bind,run_underlying hu,Result.andThen_ok]
  rw [nE l 0 fun e he => ?_]
  ·rfl
  ·obtain ⟨n1,rfl⟩:=o6 hk
   obtain ⟨n2,h2⟩:=o6 (hl e he)
   rw [h2]
   simp only [Instr.sameNow,keyEq,eqV,if_true,beq_self_eq_true,Bool.true_and,Option.some.injEq]
   by_cases hh:n1=n2<;>simp [hh]
 ·rename_i hkk
  cases hks
  simp only [bo] at hk hl
  have hu:=hti.str hkk
  unfold Instr.findKey
  simp only [Sem.run_bind,run_underlying hu,Result.andThen_ok]
  rw [nE l 0 fun e he => ?_]
  ·rfl
  ·obtain ⟨n1,rfl⟩:=o5 hk
   obtain ⟨n2,h2⟩:=o5 (hl e he)
   rw [h2]
   simp only [Instr.sameNow,keyEq,eqV,Option.some.injEq]
   rw [beq_toListBytes,px]
 ·rename_i fs hkk
  simp only [Option.map_eq_some_iff] at hks
  obtain ⟨ks,hf,rfl⟩:=hks
  obtain ⟨xs,rfl⟩:∃xs,key = .agg xs:=by cases key<;>simp [bo] at hk;exact ⟨_,rfl⟩
  simp only [bo] at hk hl
  obtain ⟨_,hF⟩:=hti.flat ks hf
  obtain ⟨d,hu,hd⟩:=hti.und
  rw [hkk] at hd
  have hfa:=ov (P:=P) (kt:=kt) (key := .agg xs) (w:=w) l 0 fun e he=>by
   have h2:=hl e he
   split at h2
   ·cases ‹KS.flat _=KS.one _›
   ·rename_i _ _ ys h3 h4
    cases h3
    have:=(hF xs.toList ys.toList w hk h2).1
    rw [h4]
    simpa [keyEq] using this
   ·cases h2
  cases d with
  | struct fields =>
   unfold Instr.findKey
   simp only [Sem.run_bind,run_underlying hu,Result.andThen_ok]
   cases l with
   | nil=>rfl
   | cons e l =>
    have:Instr.findNow (.struct fields) (.agg xs) (e::l) 0=none:=by
     have h2:=hl e (by simp)
     simp only [Instr.findNow,Instr.sameNow]
    rw [this]
    exact hfa
  | _=>simp [dH] at hd
 ·cases hks
theorem fz {P:Program} {tt:aY} (hT:bD P tt) {kt:Nat} {ks:KS} {key:Value} (hks:ou tt kt=some ks) (hk:bo ks key=true) (b:Bool) (w:World):(Instr.checkKey b 10000 kt key).run P w = .ok () w:=by
 unfold ou at hks
 split at hks
 case h_2=>cases hks
 rename_i ti htt
 have hti:=hT _ _ htt
 have go:∀(n:Nat) (d:TypeDesc),P.underlying kt=some d→(∀ms,d ≠ .interface ms)→(∀n e,d ≠ .array n e)→(∀f,d ≠ .struct f)→(Instr.checkKey b (n+1) kt key).run P w = .ok () w:=by
  intro n d hu h1 h2 h3
  simp only [Instr.checkKey,Sem.run_bind,run_underlying hu,Result.andThen_ok]
  cases d<;>first | rfl | exact absurd rfl (h1 _) | exact absurd rfl (h2 _ _) | exact absurd rfl (h3 _)
 split at hks
 ·exact go 9999 _ (hti.int ‹_›) (by simp) (by simp) (by simp)
 ·exact go 9999 _ (hti.str ‹_›) (by simp) (by simp) (by simp)
 ·simp only [Option.map_eq_some_iff] at hks
  obtain ⟨ks,hf,rfl⟩:=hks
  obtain ⟨xs,rfl⟩:∃xs,key = .agg xs:=by cases key<;>simp [bo] at hk;exact ⟨_,rfl⟩
  simp only [bo] at hk
  have:=((hti.flat ks hf).2 xs.toList xs.toList w hk hk).2 b
  simpa using this
 ·cases hks
theorem j6 {s:St} {key:Value}:∀{es:List (Value × AV)} {l:List MapEntry} (i:Nat),aR s es l→(∃e n,(l.zipIdx i).find? (fun p=>keyEq key p.1.key)=some (e,n)∧i≤n∧fZ es key=some (n - i)∧∃a,io es key=some a∧Rep s a e.val∧keyEq key e.key=true∧l[n - i]?=some e)∨((l.zipIdx i).find? (fun p=>keyEq key p.1.key)=none∧fZ es key=none∧io es key=none)
 | [],l,i,h=>by
  simp only [aR] at h
  subst h
  exact .inr ⟨rfl,rfl,rfl⟩
 | (k,a)::r,l,i,h=>by
  simp only [aR] at h
  obtain ⟨e,t,rfl,rfl,h2,h3⟩:=h
  simp only [List.zipIdx_cons,List.find?_cons,fZ,io,List.findIdx?_cons]
  cases hk:keyEq key e.key with
  | true=>exact .inl ⟨e,i,rfl,Nat.le_refl _,by simp,a,rfl,h2,hk,by simp⟩
  | false =>
   rcases j6 (key:=key) (i+1) h3 with ⟨e',n,f1,f2,f3,a',f4,f5,f6,f7⟩ | ⟨f1,f2,f3⟩
   ·refine .inl ⟨e',n,f1,by omega,?_,a',f4,f5,f6,?_⟩
    ·unfold fZ at f3
     simp only [hk,Bool.false_eq_true,if_false,f3,Option.map_some,Option.some.injEq]
     omega
    ·rw [show n - i=(n - (i+1))+1 by omega]
     simpa using f7
   ·refine .inr ⟨f1,?_,f3⟩
    unfold fZ at f2
    simp only [hk,Bool.false_eq_true,if_false,f2,Option.map_none]
def oG (ti:TI):Option AV:=if ti.agg then some (.agg (dz ti)) else (dz ti)[0]?
theorem oF {P:Program} {t:Nat} {ti:TI} (h:bC P t ti) {s:St} {r:AV} (hr:oG ti=some r):Rep s r ti.zval:=by
 have hz:=eX h s
 unfold oG at hr
 unfold TI.zval
 split at hr
 ·rename_i ha
  rw [if_pos ha]
  simp only [Option.some.injEq] at hr
  subst hr
  simp only [Rep]
  exact ⟨_,rfl,by simpa using hz⟩
 ·rename_i ha
  rw [if_neg ha]
  obtain ⟨x,h1,h2⟩:=hz.get hr
  cases hzz:ti.zero with
  | nil=>rw [hzz] at h1;simp at h1
  | cons y l=>rw [hzz] at h1;simp at h1;subst h1;exact h2
def g7:List AV→Option (List Value)
 | []=>some []
 | .d (.v x)::r=>(g7 r).map (x :: ·)
 | _=>none
def lw:AV→Option Value
 | .d (.v x)=>some x
 | .agg l=>(g7 l).map fun vs => .agg vs.toArray
 | _=>none
theorem iT {s:St}:∀{l:List AV} {cs:List Value} {vs:List Value},ax s l cs→g7 l=some vs→cs=vs∧∀x∈vs,small x
 | [],cs,vs,h,e=>by
  simp only [ax] at h
  subst h
  simp only [g7,Option.some.injEq] at e
  subst e
  exact ⟨rfl,fun x hx=>by cases hx⟩
 | a::r,cs,vs,h,e=>by
  simp only [ax] at h
  obtain ⟨x,t,rfl,h2,h3⟩:=h
  unfold g7 at e
  split at e
  ·cases ‹_::_=[]›
  ·rename_i x' r' he
   cases he
   simp only [Option.map_eq_some_iff] at e
   obtain ⟨ys,e1,rfl⟩:=e
   simp only [Rep,aQ] at h2
   obtain ⟨k1,k2⟩:=iT h3 e1
   refine ⟨by rw [h2.1,k1],fun z hz => ?_⟩
   rcases List.mem_cons.1 hz with rfl | hz
   ·exact h2.2
   ·exact k2 z hz
  ·cases e
theorem kp {s:St} {a:AV} {v x:Value} (hv:Rep s a v) (h:lw a=some x):v=x:=by
 unfold lw at h
 split at h
 ·simp only [Option.some.injEq] at h
  subst h
  simp only [Rep,aQ] at hv
  exact hv.1
 ·simp only [Option.map_eq_some_iff] at h
  obtain ⟨vs,h1,rfl⟩:=h
  simp only [Rep] at hv
  obtain ⟨c,rfl,h2⟩:=hv
  have:=(iT h2 h1).1
  rw [←this]
 ·cases h
end Av
end Go.Proofs.YtdekcppfpgeneaaGreatDoor
namespace Go.Proofs.YtdekcppfpgeneaaGreatDoor
open Go Go.RowKit
namespace Av
def fB (tt:aY) (H:av) (t:Nat) (m k:AV) (ok:Bool):Option AV :=
 match tt t,lw k with
 | some ti,some key=>match ti.kind with
  | .map kt et=>match ou tt kt,(tt et).bind oG with
   | some ks,some z=>if bo ks key=true then
     match m with
     | .mp l=>match H[l]? with
      | some (.mp _ _ ks' es)=>if ks'=ks then some (if ok then (match io es key with
        | some a => .tup [a,.d (.v (.bool true))]
        | none => .tup [z,.d (.v (.bool false))]) else (io es key).getD z) else none
      | _=>none
     | .d (.v (.map none))=>some (if ok then .tup [z,.d (.v (.bool false))] else z)
     | _=>none
    else none
   | _,_=>none
  | _=>none
 | _,_=>none
theorem dm {P:Program} {w:World} {b:Nat} {ents:Array MapEntry} {clock:Nat} (h:w.heap[b]?=some (.map ents clock)):(getObj b).run P w = .ok (.map ents clock) w:=by
 simp only [getObj,Sem.run,h]
theorem dG {P:Program} {w:World} {b:Nat} {ents:Array MapEntry} {clock:Nat} (h:w.heap[b]?=some (.map ents clock)) (o:Obj):(setObj b o).run P w = .ok () { w with heap:=w.heap.setIfInBounds b o }:=by
 simp only [setObj,Sem.run,h]
theorem mu {s:St} {ks:KS}:∀{es:List (Value × AV)} {l:List MapEntry},(∀p∈es,bo ks p.1=true)→aR s es l→∀e∈l,bo ks e.key=true
 | [],l,_,h,e,he=>by simp only [aR] at h;subst h;cases he
 | (k,a)::r,l,hp,h,e,he=>by
  simp only [aR] at h
  obtain ⟨x,t,rfl,rfl,_,h3⟩:=h
  rcases List.mem_cons.1 he with rfl | he
  ·exact hp (e.key,a) (by simp)
  ·exact mu (fun p hp'=>hp p (by simp [hp'])) h3 e he
theorem mX {s:St} (b:Bool):Rep s (.d (.v (.bool b))) (.bool b):=by simp only [Rep,aQ];exact ⟨trivial,trivial⟩
theorem mW {s:St} {a:AV} {v:Value} (h:Rep s a v) (b:Bool):Rep s (.tup [a,.d (.v (.bool b))]) (.tuple #[v,.bool b]):=by
 simp only [Rep]
 exact ⟨_,rfl,.cons h (.one (mX b))⟩
theorem oC {P:Program} {tt:aY} (hT:bD P tt) {base:World} {s:St} (hs:Sim base s) {t:Nat} {m k r:AV} {vm vk:Value} {ok:Bool} (hm:Rep s m vm) (hk:Rep s k vk) (h:fB tt s.H t m k ok=some r) :
  ∃x,(Instr.lookup t vm vk ok).run P s.w = .ok x s.w∧Rep s r x:=by
 unfold fB at h
 split at h
 case h_2=>cases h
 rename_i ti key htt hkey
 have hti:=hT _ _ htt
 obtain rfl:=kp hk hkey
 split at h
 case h_2=>cases h
 rename_i kt et hkk
 have hu:=hti.map hkk
 split at h
 case h_2=>cases h
 rename_i ks z hks hz
 obtain ⟨te,hte,hz⟩:=Option.bind_eq_some_iff.1 hz
 have hte':=hT _ _ hte
 have hzr:=oF hte' (s:=s) hz
 split at h
 case isFalse=>cases h
 rename_i hsh
 split at h
 ·rename_i l
  split at h
  case h_2=>cases h
  rename_i kt' et' ks' es ho
  split at h
  case isFalse=>cases h
  rename_i e
  subst e
  simp only [Option.some.injEq] at h
  simp only [Rep,dD,ho] at hm
  obtain ⟨_,b,m1,rfl⟩:=hm
  obtain ⟨h0,b',ents,clock,q1,q2,q3,q4,q5⟩:=hs.obj l _ ho
  rw [m1] at q1;cases q1
  have hkeys:=mu h0 q4
  have hf:=qk hT hks _ ents.toList s.w hsh hkeys
  have hck:=fz hT hks hsh ents.isEmpty s.w
  have cJ:∀res:Option (Nat × Value),(Instr.findKey kt vk ents.toList).run P s.w = .ok res s.w→(Instr.lookup t (.map (some b)) vk ok).run P s.w = .ok (if ok then .tuple #[(match res with | some p=>p.2 | none=>te.zval),.bool res.isSome] else (match res with | some p=>p.2 | none=>te.zval)) s.w:=by
   intro res hres
   cases res with
   | none=>cases ok<;>simp [Instr.lookup,run_underlying hu,dm q3,dG q3,hck,hres,hte'.run_zero]
   | some p=>obtain ⟨i,v⟩:=p;cases ok<;>simp [Instr.lookup,run_underlying hu,dm q3,dG q3,hck,hres]
  refine ⟨_,cJ _ hf,?_⟩
  rcases j6 (key:=vk) 0 q4 with ⟨e,n,f1,f2,f3,a,f4,f5,f6,f7⟩ | ⟨f1,f2,f3⟩
  ·rw [f4] at h
   simp only [Option.getD_some] at h
   subst h
   rw [f1]
   simp only [Option.map_some,Option.isSome_some]
   split
   ·exact mW f5 true
   ·exact f5
  ·rw [f3] at h
   simp only [Option.getD_none] at h
   subst h
   rw [f1]
   simp only [Option.map_none,Option.isSome_none]
   split
   ·exact mW hzr false
   ·exact hzr
 ·simp only [Option.some.injEq] at h
  subst h
  simp only [Rep,aQ] at hm
  obtain ⟨rfl,_⟩:=hm
  have hck:=fz hT hks hsh true s.w
  have hf:(Instr.findKey kt vk []).run P s.w = .ok none s.w:=qk hT hks _ [] s.w hsh (fun e he=>nomatch he)
  refine ⟨_,by simp [Instr.lookup,run_underlying hu,hck,hf,hte'.run_zero];rfl,?_⟩
  cases ok
  ·simpa using hzr
  ·simpa using mW hzr false
 ·cases h
def fj (tt:aY) (H:av) (t:Nat) (m k x:AV):Option (Nat × aN) :=
 match tt t,lw k with
 | some ti,some key=>match ti.kind with
  | .map kt et=>match ou tt kt with
   | some ks=>if bo ks key=true then
     match m with
     | .mp l=>match H[l]? with
      | some (.mp kt' et' ks' es)=>if ks'=ks then some (l,.mp kt' et' ks' (kL es key x)) else none
      | _=>none
     | _=>none
    else none
   | none=>none
  | _=>none
 | _,_=>none
theorem aR.modify {s:St} {x:AV} {v key:Value} (hx:Rep s x v):∀{es:List (Value × AV)} {l:List MapEntry} (i:Nat),aR s es l→(∀e,l[i]?=some e→e.key=key)→aR s (es.modify i fun p=>(p.1,x)) (l.modify i fun e=>{ e with key:=key,val:=v })
 | [],l,i,h,_=>by
  simp only [aR] at h
  subst h
  cases i<;>simp [aR]
 | (k,a)::r,l,i,h,he=>by
  simp only [aR] at h
  obtain ⟨e,t,rfl,rfl,h2,h3⟩:=h
  cases i with
  | zero =>
   simp only [List.modify_zero_cons,aR]
   exact ⟨_,_,rfl,(he e (by simp)).symm,hx,h3⟩
  | succ i =>
   simp only [List.modify_succ_cons,aR]
   exact ⟨_,_,rfl,rfl,h2,h3.modify hx i fun e he'=>he e (by simpa using he')⟩
theorem aR.snoc {s:St} {x:AV} {e:MapEntry} (hx:Rep s x e.val):∀{es:List (Value × AV)} {l:List MapEntry},aR s es l→aR s (es++[(e.key,x)]) (l++[e])
 | [],l,h=>by
  simp only [aR] at h
  subst h
  exact ⟨e,[],rfl,rfl,hx,rfl⟩
 | (k,a)::r,l,h=>by
  simp only [aR] at h
  obtain ⟨e',t,rfl,rfl,h2,h3⟩:=h
  exact ⟨e',_,rfl,rfl,h2,h3.snoc hx⟩
theorem nA {ks:KS} {v:Value} (h:bo ks v=true):keyEq v v=true:=by
 have h1:∀(t:TK) (v:Value),eH t v=true→eqV v v=true:=by
  intro t v hv
  cases v<;>cases t<;>simp [eH,eqV] at hv ⊢
 have h2:∀(l:List TK) (vs:List Value),bT l vs=true→eqL vs vs=true:=by
  intro l
  induction l with
  | nil=>intro vs hv;cases vs<;>simp [bT,eqL] at hv ⊢
  | cons t r ih =>
   intro vs hv
   cases vs with
   | nil=>simp [bT] at hv
   | cons a b =>
    simp only [bT,Bool.and_eq_true] at hv
    simp only [eqL,Bool.and_eq_true]
    exact ⟨h1 t a hv.1,ih b hv.2⟩
 cases ks with
 | one t =>
  have:eqV v v=true:=h1 t v h
  unfold keyEq
  cases v with
  | agg xs=>cases t<;>simp [bo,eH] at h
  | _=>exact this
 | flat l =>
  cases v with
  | agg xs=>exact h2 l xs.toList h
  | _=>simp [bo] at h
theorem qj {key:Value}:∀{l:List MapEntry} {i:Nat},(l.zipIdx i).find? (fun p=>keyEq key p.1.key)=none→∀e∈l,¬keyEq key e.key=true
 | [],_,_,e,he=>by cases he
 | a::l,i,h,e,he=>by
  simp only [List.zipIdx_cons,List.find?_cons] at h
  split at h
  ·cases h
  ·rename_i hk
   rcases List.mem_cons.1 he with rfl | he
   ·rw [hk];simp
   ·exact qj h e he
theorem jj {ks:KS} {v:Value} (h:bo ks v=true):Instr.sameBits 10000 v v=true:=by
 have one:∀n v t,eH t v=true→Instr.sameBits n v v=true:=by
  intro n v t h
  cases t<;>cases v<;>simp [eH] at h<;>cases n<;>simp [Instr.sameBits,beq_toListBytes]
 cases ks with
 | one t=>exact one _ _ _ h
 | flat l =>
  cases v with
  | agg xs =>
   simp only [bo] at h
   show Instr.sameBits (9999+1) (.agg xs) (.agg xs)=true
   simp only [Instr.sameBits,beq_self_eq_true,Bool.true_and]
   have:∀(l:List TK) (vs:List Value),bT l vs=true→((vs.zip vs).all fun (x,y)=>Instr.sameBits 9999 x y)=true:=by
    intro l
    induction l with
    | nil=>intro vs h;cases vs<;>first | rfl | cases h
    | cons t r ih =>
     intro vs h
     cases vs with
     | nil=>cases h
     | cons v vs =>
      simp only [bT,Bool.and_eq_true] at h
      simp only [List.zip_cons_cons,List.all_cons,Bool.and_eq_true]
      exact ⟨one _ _ _ h.1,ih vs h.2⟩
   exact this l _ h
  | _=>simp [bo] at h
theorem gA {P:Program} {tt:aY} (hT:bD P tt) {base:World} {s:St} (hs:Sim base s) {t:Nat} {m k x:AV} {vm vk v:Value} {q:Nat × aN} (hm:Rep s m vm) (hk:Rep s k vk) (hx:Rep s x v) (h:fj tt s.H t m k x=some q) :
  ∃w' μ',(Instr.mapUpdate t vm vk v).run P s.w = .ok () w'∧Sim base ⟨μ',s.H.set q.1 q.2,w'⟩∧Evo s.H.length s ⟨μ',s.H.set q.1 q.2,w'⟩:=by
 unfold fj at h
 split at h
 case h_2=>cases h
 rename_i ti key htt hkey
 have hti:=hT _ _ htt
 obtain rfl:=kp hk hkey
 split at h
 case h_2=>cases h
 rename_i kt et hkk
 have hu:=hti.map hkk
 split at h
 case h_2=>cases h
 rename_i ks hks
 split at h
 case isFalse=>cases h
 rename_i hsh
 split at h
 case h_2=>cases h
 rename_i l
 split at h
 case h_2=>cases h
 rename_i kt' et' ks' es ho
 split at h
 case isFalse=>cases h
 rename_i e
 subst e
 simp only [Option.some.injEq] at h
 subst h
 simp only [Rep,dD,ho] at hm
 obtain ⟨_,b,m1,rfl⟩:=hm
 obtain ⟨h0,b',ents,clock,q1,q2,q3,q4,q5⟩:=hs.obj l _ ho
 rw [m1] at q1;cases q1
 have hkeys:=mu h0 q4
 have hf:=qk hT hks _ ents.toList s.w hsh hkeys
 have hck:=fz hT hks hsh false s.w
 have hblt:b<s.w.heap.size:=(Array.getElem?_eq_some_iff.1 q3).1
 have fin:∀ents' clock',(Instr.mapUpdate t (.map (some b)) vk v).run P s.w = .ok () { s.w with heap:=s.w.heap.setIfInBounds b (.map ents' clock') }→aR s (kL es vk x) ents'.toList→qQ ents' clock' →
   ∃w' μ',(Instr.mapUpdate t (.map (some b)) vk v).run P s.w = .ok () w'∧Sim base ⟨μ',s.H.set l (.mp kt' et' ks' (kL es vk x)),w'⟩∧Evo s.H.length s ⟨μ',s.H.set l (.mp kt' et' ks' (kL es vk x)),w'⟩:=by
  intro ents' clock' cJ hrep hstp
  have hst:=hs.upd ho (b:=b) (w':={ s.w with heap:=s.w.heap.setIfInBounds b (.map ents' clock') }) (o' := .mp kt' et' ks' (kL es vk x)) rfl rfl rfl (by simp) (fun c hc _=>by
    show (s.w.heap.setIfInBounds b _)[c]?=_
    rw [Array.getElem?_setIfInBounds,if_neg (Ne.symm hc)]) (.inr ⟨rfl,m1⟩)
   ⟨fun p hp=>by
    unfold kL at hp
    split at hp
    ·rename_i i hi
     obtain ⟨j,hj⟩:=List.mem_iff_getElem?.1 hp
     rw [List.getElem?_modify] at hj
     cases hej:es[j]? with
     | none=>rw [hej] at hj;simp at hj
     | some p0 =>
      rw [hej] at hj
      have hp0:=h0 p0 (List.mem_of_getElem? hej)
      split at hj
      ·simp at hj;subst hj;exact hp0
      ·simp at hj;subst hj;exact hp0
    ·rcases List.mem_append.1 hp with hp | hp
     ·exact h0 p hp
     ·simp at hp;subst hp;exact hsh,ents',clock',by
    show (s.w.heap.setIfInBounds b _)[b]?=_
    rw [Array.getElem?_setIfInBounds,if_pos rfl,if_pos hblt],hrep,hstp⟩ (by
    unfold aW
    rw [ho]
    exact .inr ⟨_,aE (aF ho),(upd_same _ _ _).trans m1.symm⟩)
  exact ⟨_,_,cJ,hst.1,hst.2⟩
 rcases j6 (key:=vk) 0 q4 with ⟨e,n,f1,f2,f3,a,f4,f5,f6,f7⟩ | ⟨f1,f2,f3⟩
 ·rw [f1] at hf
  simp only [Option.map_some] at hf
  have hke:=rP f6
  simp only [Nat.sub_zero] at f3 f7
  have f7':ents[n]?=some e:=by simpa using f7
  have hst:(Instr.keyThatStays e.key vk).run P s.w = .ok vk s.w:=by
   unfold Instr.keyThatStays
   rw [←hke,jj hsh]
   rfl
  refine fin (ents.modify n fun e=>{ e with key:=vk,val:=v }) clock ?_ ?_ (lS q5 n _ (fun _=>rfl) fun e' _ he'=>by rw [f7'] at he';cases he';exact hke)
  ·simp [Instr.mapUpdate,run_underlying hu,dm q3,dG q3,hck,hf,f7',hst]
  ·unfold kL
   rw [f3]
   rw [Array.toList_modify]
   exact q4.modify hx n fun e' he'=>by rw [f7] at he';cases he';exact hke.symm
 ·rw [f1] at hf
  simp only [Option.map_none] at hf
  refine fin (ents.push { key:=vk,val:=v,born:=clock }) (clock+1) ?_ ?_ (pA q5 fun e he hk=>qj f1 e he (by rw [hk];exact nA hsh))
  ·simp [Instr.mapUpdate,run_underlying hu,dm q3,dG q3,hck,hf]
  ·unfold kL
   rw [f2]
   rw [Array.toList_push]
   exact aR.snoc (e:={ key:=vk,val:=v,born:=clock }) hx q4
def tX (es:List (Value × AV)) (key:Value):Nat:=(fZ es key).getD es.length
def nj (es:List (Value × AV)) (key:Value) (z:AV):List (Value × AV):=match fZ es key with
 | some _=>es
 | none=>es++[(key,z)]
def gB (tt:aY) (H:av) (t:Nat) (m k:AV):oE :=
 match tt t,lw k with
 | some ti,some key=>match ti.kind with
  | .map kt et=>match ou tt kt,(tt et).bind oG with
   | some ks,some z=>if bo ks key=true then
     match m with
     | .mp l=>match H[l]? with
      | some (.mp kt' et' ks' es)=>if ks'=ks∧es.length≤9223372036854775807 then some (.tup [(io es key).getD z,.d (.v (.int .i64 (tX es key:Int)))],some (l,.mp kt' et' ks' (nj es key z))) else none
      | _=>none
     | _=>none
    else none
   | _,_=>none
  | _=>none
 | _,_=>none
def eJ (H:av) (m st x:AV):Option (Nat × aN) :=
 match m,st with
 | .mp l,.d (.v (.int .i64 n))=>match H[l]? with
  | some (.mp kt' et' ks' es)=>if 0≤n∧n.toNat<es.length then some (l,.mp kt' et' ks' (es.modify n.toNat fun p=>(p.1,x))) else none
  | _=>none
 | _,_=>none
theorem Sim.mapput {base:World} {s:St} (hs:Sim base s) {l b kt' et':Nat} {ks':KS} {es es':List (Value × AV)} (ho:s.H[l]?=some (.mp kt' et' ks' es)) (m1:s.μ l=some b) (hblt:b<s.w.heap.size) {ents':Array MapEntry} {clock':Nat}
  (hk:∀p∈es',bo ks' p.1=true) (hrep:aR s es' ents'.toList) (hb:qQ ents' clock') :
  Sim base ⟨Av.upd s.μ l (some b),s.H.set l (.mp kt' et' ks' es'),{ s.w with heap:=s.w.heap.setIfInBounds b (.map ents' clock') }⟩∧Evo s.H.length s ⟨Av.upd s.μ l (some b),s.H.set l (.mp kt' et' ks' es'),{ s.w with heap:=s.w.heap.setIfInBounds b (.map ents' clock') }⟩ :=
 hs.upd ho (b:=b) (w':={ s.w with heap:=s.w.heap.setIfInBounds b (.map ents' clock') }) (o' := .mp kt' et' ks' es') rfl rfl rfl (by simp) (fun c hc _=>by
   show (s.w.heap.setIfInBounds b _)[c]?=_
   rw [Array.getElem?_setIfInBounds,if_neg (Ne.symm hc)]) (.inr ⟨rfl,m1⟩)
  ⟨hk,ents',clock',by
   show (s.w.heap.setIfInBounds b _)[b]?=_
   rw [Array.getElem?_setIfInBounds,if_pos rfl,if_pos hblt],hrep,hb⟩ (by
   unfold aW
   rw [ho]
   exact .inr ⟨_,aE (aF ho),(upd_same _ _ _).trans m1.symm⟩)
theorem oR {s:St} {a:AV} {v:Value} {n:Nat} (h:Rep s a v) (hn:n≤9223372036854775807):Rep s (.tup [a,.d (.v (.int .i64 (n:Int)))]) (.tuple #[v,.int .i64 (n:Int)]):=by
 simp only [Rep]
 refine ⟨_,rfl,?_⟩
 simp only [ax]
 refine ⟨_,_,rfl,h,_,_,rfl,?_,rfl⟩
 simp only [Rep,aQ,true_and,small,IntKind.min,IntKind.max,IntKind.signed,IntKind.bits]
 simp
 omega
theorem l9 {P:Program} {tt:aY} (hT:bD P tt) {base:World} {s:St} (hs:Sim base s) {t:Nat} {m k r:AV} {q:Option (Nat × aN)} {vm vk:Value} (hm:Rep s m vm) (hk:Rep s k vk) (h:gB tt s.H t m k=some (r,q)) :
  oh P base s (Instr.mapEntry t vm vk) r q:=by
 unfold gB at h
 split at h
 case h_2=>cases h
 rename_i ti key htt hkey
 have hti:=hT _ _ htt
 obtain rfl:=kp hk hkey
 split at h
 case h_2=>cases h
 rename_i kt et hkk
 have hu:=hti.map hkk
 split at h
 case h_2=>cases h
 rename_i ks z hks hz
 obtain ⟨te,hte,hz⟩:=Option.bind_eq_some_iff.1 hz
 have hte':=hT _ _ hte
 have hzr:=oF hte' (s:=s) hz
 split at h
 case isFalse=>cases h
 rename_i hsh
 split at h
 case h_2=>cases h
 rename_i l
 split at h
 case h_2=>cases h
 rename_i kt' et' ks' es ho
 split at h
 case isFalse=>cases h
 rename_i e
 obtain ⟨e,hlen⟩:=e
 subst e
 simp only [Option.some.injEq,Prod.mk.injEq] at h
 obtain ⟨rfl,rfl⟩:=h
 simp only [Rep,dD,ho] at hm
 obtain ⟨_,b,m1,rfl⟩:=hm
 obtain ⟨h0,b',ents,clock,q1,q2,q3,q4,q5⟩:=hs.obj l _ ho
 rw [m1] at q1;cases q1
 have hkeys:=mu h0 q4
 have hf:=qk hT hks _ ents.toList s.w hsh hkeys
 have hck:=fz hT hks hsh false s.w
 have hblt:b<s.w.heap.size:=(Array.getElem?_eq_some_iff.1 q3).1
 have hle:=q4.length
 rw [Array.length_toList] at hle
 rcases j6 (key:=vk) 0 q4 with ⟨e,n,f1,f2,f3,a,f4,f5,f6,f7⟩ | ⟨f1,f2,f3⟩
 ·rw [f1] at hf
  simp only [Option.map_some] at hf
  have hke:=rP f6
  simp only [Nat.sub_zero] at f3 f7
  have f7':ents[n]?=some e:=by simpa using f7
  have hst:(Instr.keyThatStays e.key vk).run P s.w = .ok vk s.w:=by
   unfold Instr.keyThatStays
   rw [←hke,jj hsh]
   rfl
  have hbn:=q5.at_ n e f7'
  have hmod:ents.modify n (fun e=>{ e with key:=vk })=ents:=by
   apply Array.ext_getElem?
   intro j
   rw [Array.getElem?_modify]
   split
   ·rename_i hj
    subst hj
    rw [f7']
    simp only [Option.map_some]
    rw [hke]
   ·rfl
  have hp:=hs.mapput ho m1 hblt (es':=es) (ents':=ents) (clock':=clock) h0 q4 q5
  have hnl:n<es.length:=by rw [←hle];exact (Array.getElem?_eq_some_iff.1 f7').1
  refine ⟨.tuple #[e.val,.int .i64 (n:Int)],{ s.w with heap:=s.w.heap.setIfInBounds b (.map ents clock) },Av.upd s.μ l (some b),?_,?_,?_,?_⟩
  rotate_left
  ·simp only [dh,nj,f3];exact hp.1
  ·simp only [dh,nj,f3,f4,tX,Option.getD_some]
   exact oR (Rep.evo hp.2 _ _ f5) (by omega)
  ·simp only [dh,nj,f3];exact hp.2
  ·simp [Instr.mapEntry,run_underlying hu,dm q3,dG q3,hck,hf,f7',hst,hmod,goInt,hbn]
 ·rw [f1] at hf
  simp only [Option.map_none] at hf
  have hp:=hs.mapput ho m1 hblt (es':=es++[(vk,z)]) (ents':=ents.push { key:=vk,val:=te.zval,born:=clock }) (clock':=clock+1) (fun p hp=>by
   rcases List.mem_append.1 hp with hp | hp
   ·exact h0 p hp
   ·simp at hp;subst hp;exact hsh) (by rw [Array.toList_push];exact aR.snoc (e:={ key:=vk,val:=te.zval,born:=clock }) hzr q4) (pA q5 fun e he hk=>qj f1 e he (by rw [hk];exact nA hsh))
  have hcl:clock=es.length:=by rw [q5.cl,hle]
  refine ⟨.tuple #[te.zval,.int .i64 (clock:Int)],{ s.w with heap:=s.w.heap.setIfInBounds b (.map (ents.push { key:=vk,val:=te.zval,born:=clock }) (clock+1)) },Av.upd s.μ l (some b),?_,?_,?_,?_⟩
  rotate_left
  ·simp only [dh,nj,f2];exact hp.1
  ·simp only [dh,nj,f2,f3,tX,Option.getD_none]
   rw [←hcl]
   exact oR (Rep.evo hp.2 _ _ hzr) (by omega)
  ·simp only [dh,nj,f2];exact hp.2
  ·simp [Instr.mapEntry,run_underlying hu,dm q3,dG q3,hck,hf,hte'.run_zero,goInt]
theorem aR.lay {s:St} {x:AV} {v:Value} (hx:Rep s x v):∀{es:List (Value × AV)} {l:List MapEntry} (i:Nat),aR s es l→aR s (es.modify i fun p=>(p.1,x)) (l.modify i fun e=>{ e with val:=v })
 | [],l,i,h=>by
  simp only [aR] at h
  subst h
  cases i<;>simp [aR]
 | (k,a)::r,l,i,h=>by
  simp only [aR] at h
  obtain ⟨e,t,rfl,rfl,h2,h3⟩:=h
  cases i with
  | zero =>
   simp only [List.modify_zero_cons,aR]
   exact ⟨_,_,rfl,rfl,hx,h3⟩
  | succ i =>
   simp only [List.modify_succ_cons,aR]
   exact ⟨_,_,rfl,rfl,h2,h3.lay hx i⟩
theorem kj {P:Program} {base:World} {s:St} (hs:Sim base s) {t:Nat} {m st x:AV} {vm vs v:Value} {q:Nat × aN} (hm:Rep s m vm) (hst:Rep s st vs) (hx:Rep s x v) (h:eJ s.H m st x=some q) :
  ∃w' μ',(Instr.entryStore t vm vs v).run P s.w = .ok () w'∧Sim base ⟨μ',s.H.set q.1 q.2,w'⟩∧Evo s.H.length s ⟨μ',s.H.set q.1 q.2,w'⟩:=by
 unfold eJ at h
 split at h
 case h_2=>cases h
 rename_i l n
 split at h
 case h_2=>cases h
 rename_i kt' et' ks' es ho
 split at h
 case isFalse=>cases h
 rename_i c
 obtain ⟨c0,c1⟩:=c
 simp only [Option.some.injEq] at h
 subst h
 simp only [Rep,aQ] at hst
 obtain ⟨rfl,_⟩:=hst
 simp only [Rep,dD,ho] at hm
 obtain ⟨_,b,m1,rfl⟩:=hm
 obtain ⟨h0,b',ents,clock,q1,q2,q3,q4,q5⟩:=hs.obj l _ ho
 rw [m1] at q1;cases q1
 have hblt:b<s.w.heap.size:=(Array.getElem?_eq_some_iff.1 q3).1
 have hle:=q4.length
 rw [Array.length_toList] at hle
 obtain ⟨i,hi⟩:∃i,i=n.toNat:=⟨_,rfl⟩
 rw [←hi] at c1 ⊢
 have hn:n=(i:Int):=by omega
 subst hn
 have hil:i<ents.size:=by omega
 have hfi:ents.findIdx? (fun e=>(e.born:Int) == (i:Int))=some i:=by
  rw [Array.findIdx?_eq_some_iff_getElem]
  refine ⟨hil,?_,fun j hj => ?_⟩
  ·have:=q5.at_ i _ (Array.getElem?_eq_getElem hil)
   simp [this]
  ·have:=q5.at_ j _ (Array.getElem?_eq_getElem (by omega))
   simp [this]
   omega
 have hp:=hs.mapput ho m1 hblt (es':=es.modify i fun p=>(p.1,x)) (ents':=ents.modify i fun e=>{ e with val:=v }) (clock':=clock) (fun p hp=>by
   obtain ⟨j,hj⟩:=List.mem_iff_getElem?.1 hp
   rw [List.getElem?_modify] at hj
   cases hej:es[j]? with
   | none=>rw [hej] at hj;simp at hj
   | some p0 =>
    rw [hej] at hj
    have hp0:=h0 p0 (List.mem_of_getElem? hej)
    split at hj
    ·simp at hj;subst hj;exact hp0
    ·simp at hj;subst hj;exact hp0) (by rw [Array.toList_modify];exact q4.lay hx i) (lS q5 i _ (fun _=>rfl) fun _ _ _=>rfl)
 exact ⟨_,_,by simp [Instr.entryStore,dm q3,dG q3,asInt,asIntOf,hfi],hp.1,hp.2⟩
end Av
end Go.Proofs.YtdekcppfpgeneaaGreatDoor
namespace Go.Proofs.YtdekcppfpgeneaaGreatDoor
open Go Go.RowKit
namespace Av
theorem AN {s:St} {k:IntKind} {n:Int} (h:small (.int k n)):Rep s (.d (.v (.int k n))) (.int k n):=by simp only [Rep,aQ];exact ⟨trivial,h⟩
def lenOf (tt:aY) (H:av) (t:Nat) (x:AV):Option Nat :=
 match tt t with
 | some ti=>match ti.kind,x with
  | .str,.d (.v (.string s))=>some s.size
  | .slice _,.d (.sl _ l)=>some l.length
  | .slice _,.d (.v (.slice none 0 0))=>some 0
  | .slice _,.ms l ver n=>match H[l]? with
   | some (.row _ _ ver' items)=>if ver=ver'∧n=items.length then some n else none
   | _=>none
  | .arr n _,_=>if n≤9223372036854775807 then some n else none
  | .map _ _,.mp l=>match H[l]? with
   | some (.mp _ _ _ es)=>if es.length≤9223372036854775807 then some es.length else none
   | _=>none
  | .map _ _,.d (.v (.map none))=>some 0
  | _,_=>none
 | none=>none
theorem wL {n:Nat} (h:n≤9223372036854775807):small (.int .i64 (n:Int)):=by
 simp only [small,IntKind.min,IntKind.max,IntKind.signed,IntKind.bits]
 simp
 omega
theorem rJ {P:Program} {tt:aY} (hT:bD P tt) {base:World} {s:St} (hs:Sim base s) {t ty n:Nat} {x:AV} {v:Value} (hv:Rep s x v) (h:lenOf tt s.H t x=some n) :
  (Builtin.len_ #[t] ty #[v]).run P s.w = .ok (.int .i64 (n:Int)) s.w∧n≤9223372036854775807:=by
 unfold lenOf at h
 split at h
 case h_2=>cases h
 rename_i ti htt
 have hti:=hT _ _ htt
 split at h
 ·rename_i s' hk
  simp only [Option.some.injEq] at h
  subst h
  simp only [Rep,aQ] at hv
  obtain ⟨rfl,hsm⟩:=hv
  exact ⟨by simp [Builtin.len_,run_underlying (hti.str hk),goInt],hsm⟩
 ·rename_i e k l hk
  simp only [Option.some.injEq] at h
  subst h
  simp only [Rep,aQ] at hv
  obtain ⟨ao,cap,rfl,h1,h2,_⟩:=hv
  exact ⟨by simp [Builtin.len_,run_underlying (hti.slice hk),goInt],by unfold maxLen at h2;omega⟩
 ·rename_i e hk
  simp only [Option.some.injEq] at h
  subst h
  simp only [Rep,aQ] at hv
  obtain ⟨rfl,_⟩:=hv
  exact ⟨by simp [Builtin.len_,run_underlying (hti.slice hk),goInt],by omega⟩
 ·rename_i e l ver n' hk
  split at h
  case h_2=>cases h
  rename_i ty' k ver' items ho
  split at h
  case isFalse=>cases h
  rename_i c
  simp only [Option.some.injEq] at h
  subst h
  simp only [Rep,cB,ho] at hv
  obtain ⟨⟨a,cp,rfl⟩,_,hv⟩:=hv
  refine ⟨by simp [Builtin.len_,run_underlying (hti.slice hk),goInt],?_⟩
  rcases hv c.1 c.2 with ⟨_,_,h3⟩ | ⟨b,cap,_,_,h3,h4,_⟩
  ·omega
  ·unfold maxLen at h4;omega
 ·rename_i n' e hk
  split at h
  case isFalse=>cases h
  simp only [Option.some.injEq] at h
  subst h
  refine ⟨?_,by omega⟩
  cases v<;>simp [Builtin.len_,run_underlying (hti.arr hk),goInt]
 ·rename_i a b l hk
  split at h
  case h_2=>cases h
  rename_i kt et ks es ho
  split at h
  case isFalse=>cases h
  simp only [Option.some.injEq] at h
  subst h
  simp only [Rep,dD,ho] at hv
  obtain ⟨_,b,m1,rfl⟩:=hv
  obtain ⟨h0,b',ents,clock,q1,q2,q3,q4,_⟩:=hs.obj l _ ho
  rw [m1] at q1;cases q1
  have:=q4.length
  rw [Array.length_toList] at this
  exact ⟨by simp [Builtin.len_,run_underlying (hti.map hk),goInt,dm q3,this],by omega⟩
 ·rename_i a b hk
  simp only [Option.some.injEq] at h
  subst h
  simp only [Rep,aQ] at hv
  obtain ⟨rfl,_⟩:=hv
  exact ⟨by simp [Builtin.len_,run_underlying (hti.map hk),goInt],by omega⟩
 ·cases h
def gs (d:Nat):Option AV→Option Nat
 | none=>some d
 | some a=>match fc a with
  | some (_,i)=>if 0≤i then some i.toNat else none
  | none=>none
def iK (tt:aY) (H:av) (t:Nat) (x:AV) (lo hi mx:Option AV):oE :=
 match tt t with
 | some ti=>match ti.kind,x,mx with
  | .str,.d (.v (.string s)),none=>match gs 0 lo,gs s.size hi with
   | some l,some h=>if l≤h∧h≤s.size then some (.d (.v (.string (s.extract l h))),none) else none
   | _,_=>none
  | .slice e,.d (.sl k ls),none=>match tt e,gs 0 lo,gs ls.length hi with
   | some te,some l,some h=>if l≤h∧h≤ls.length∧k=te.size then some (.d (.sl k ((ls.drop l).take (h - l))),none) else none
   | _,_,_=>none
  | .slice e,.ms l ver n,none=>match H[l]?,tt e,gs 0 lo,gs n hi with
   | some (.row ty k ver' items),some _,some lo',some h=>if ver=ver'∧n=items.length∧lo'=0∧h≤n then some (.ms l (ver+1) h,some (l,.row ty k (ver+1) (items.take h))) else none
   | _,_,_,_=>none
  | _,_,_=>none
 | none=>none
theorem pB {P:Program} {s:St} {lo:Option Operand} {ρ:Operand→Value} {ρA:Operand→AV} (hp:∀x,lo=some x→Rep s (ρA x) (ρ x)) {d l:Nat} (h:gs d (lo.map ρA)=some l) :
  (lo=none∧l=d)∨∃x k i,lo=some x∧ρ x = .int k i∧0≤i∧i.toNat=l:=by
 cases lo with
 | none=>simp only [Option.map_none,gs,Option.some.injEq] at h;exact .inl ⟨rfl,h.symm⟩
 | some x =>
  simp only [Option.map_some,gs] at h
  split at h
  ·rename_i k i hi
   split at h
   ·rename_i h0
    simp only [Option.some.injEq] at h
    exact .inr ⟨x,k,i,rfl,eA hi (hp x rfl),h0,h⟩
   ·cases h
  ·cases h
theorem dU {P:Program} {w:World} {k:IntKind} {i:Int} {y:Nat} (code:BoundsCode) (h0:0≤i) (h:i.toNat≤y):(Instr.sliceBound (.int k i) y code).run P w = .ok i.toNat w:=by
 have:i≤(y:Int):=by omega
 simp [Instr.sliceBound,asIntOf,h0,this]
theorem eL {P:Program} {w:World} {s:St} {lo hi:Option Operand} {ρ:Operand→Value} {ρA:Operand→AV} (hlo:∀x,lo=some x→Rep s (ρA x) (ρ x)) (hhi:∀x,hi=some x→Rep s (ρA x) (ρ x)) {len cap l h:Nat} (b:Bool)
  (e1:gs 0 (lo.map ρA)=some l) (e2:gs len (hi.map ρA)=some h) (c1:l≤h) (c2:h≤cap) :
  (Instr.sliceBounds b len cap (lo.map ρ) (hi.map ρ) none).run P w = .ok (l,h,cap) w:=by
 have r1:=pB (P:=P) hlo e1
 have r2:=pB (P:=P) hhi e2
 rcases r1 with ⟨rfl,rfl⟩ | ⟨x,k,i,rfl,x1,x2,x3⟩
 ·rcases r2 with ⟨rfl,rfl⟩ | ⟨y,k2,i2,rfl,y1,y2,y3⟩
  ·simp [Instr.sliceBounds]
  ·simp [Instr.sliceBounds,y1,dU _ y2 (y3 ▸ c2),y3]
 ·rcases r2 with ⟨rfl,rfl⟩ | ⟨y,k2,i2,rfl,y1,y2,y3⟩
  ·simp [Instr.sliceBounds,x1,dU _ x2 (x3 ▸ c1),x3]
  ·simp [Instr.sliceBounds,x1,y1,dU _ y2 (y3 ▸ c2),y3,dU _ x2 (x3 ▸ c1),x3]
theorem qI {P:Program} {tt:aY} (hT:bD P tt) {base:World} {s:St} (hs:Sim base s) {t:Nat} {X:Operand} {lo hi mx:Option Operand} {ρ:Operand→Value} {ρA:Operand→AV} {r:AV} {q:Option (Nat × aN)}
  (hx:Rep s (ρA X) (ρ X)) (hlo:∀x,lo=some x→Rep s (ρA x) (ρ x)) (hhi:∀x,hi=some x→Rep s (ρA x) (ρ x)) (h:iK tt s.H t (ρA X) (lo.map ρA) (hi.map ρA) (mx.map ρA)=some (r,q)) :
  oh P base s (Instr.sliceAt t (ρ X) (lo.map ρ) (hi.map ρ) (mx.map ρ)) r q:=by
 unfold iK at h
 split at h
 case h_2=>cases h
 rename_i ti htt
 have hti:=hT _ _ htt
 split at h
 ·rename_i s' hk hxe hmx
  have:mx=none:=by cases mx<;>simp at hmx;rfl
  subst this
  split at h
  case h_2=>cases h
  rename_i l h' e1 e2
  split at h
  case isFalse=>cases h
  rename_i c
  simp only [Option.some.injEq,Prod.mk.injEq] at h
  obtain ⟨rfl,rfl⟩:=h
  rw [hxe] at hx
  simp only [Rep,aQ] at hx
  obtain ⟨hv,hsm⟩:=hx
  have hb:=eL (P:=P) (w:=s.w) hlo hhi (cap:=s'.size) false e1 e2 c.1 c.2
  refine ⟨.string (s'.extract l h'),s.w,s.μ,?_,hs,?_,.refl _ _⟩
  ·simp [Instr.sliceAt,Instr.slice,run_underlying (hti.str hk),hv,hb]
  ·simp only [Rep,aQ]
   refine ⟨by first | rfl | trivial,?_⟩
   simp only [small] at hsm ⊢
   rw [ByteArray.size_extract]
   omega
 ·rename_i e k ls hk hxe hmx
  have:mx=none:=by cases mx<;>simp at hmx;rfl
  subst this
  split at h
  case h_2=>cases h
  rename_i te l h' hte e1 e2
  split at h
  case isFalse=>cases h
  rename_i c
  obtain ⟨c1,c2,c3⟩:=c
  simp only [Option.some.injEq,Prod.mk.injEq] at h
  obtain ⟨rfl,rfl⟩:=h
  rw [hxe] at hx
  simp only [Rep,aQ] at hx
  obtain ⟨ao,cap,hv,h1,h2,h3⟩:=hx
  have hu:=hti.slice hk
  have hb:=eL (P:=P) (w:=s.w) hlo hhi (cap:=cap) true e1 e2 c1 (by omega)
  refine ⟨.slice (if cap=l then ao else ao.map (·.add (l * te.size))) (h' - l) (cap - l),s.w,s.μ,?_,hs,?_,.refl _ _⟩
  ·simp [Instr.sliceAt,Instr.slice,run_underlying hu,hv,hb,(hT _ _ hte).run_sizeOf]
  ·simp only [Rep,aQ]
   have hlen:((ls.drop l).take (h' - l)).length=h' - l:=by simp;omega
   refine ⟨_,_,by rw [hlen],by omega,by omega,?_⟩
   rcases h3 with rfl | ⟨b,o,rfl,h4,h5⟩
   ·simp
   ·by_cases hcl:cap=l
    ·left
     have:h' - l=0:=by omega
     rw [this];simp
    ·right
     refine ⟨b,o+l * te.size,by rw [if_neg hcl];simp [cT],h4,?_⟩
     have:=(h5.drop l).take (h' - l)
     rw [c3] at this
     rw [c3];exact this
 ·rename_i e l ver n hk hxe hmx
  have:mx=none:=by cases mx<;>simp at hmx;rfl
  subst this
  split at h
  case h_2=>cases h
  rename_i ty k ver' items te lo' h' ho hte e1 e2
  split at h
  case isFalse=>cases h
  rename_i c
  obtain ⟨c1,c2,c3,c4⟩:=c
  simp only [Option.some.injEq,Prod.mk.injEq] at h
  obtain ⟨rfl,rfl⟩:=h
  rw [hxe] at hx
  simp only [Rep,cB,ho] at hx
  obtain ⟨_,_,hx⟩:=hx
  have hu:=hti.slice hk
  have hlo0:=aF ho
  obtain ⟨h0,h9,hobj⟩:=hs.obj l _ ho
  subst c3
  have cJ:∀(a:Option Addr) (cap:Nat),h'≤cap→ρ X = .slice a n cap→(Instr.sliceAt t (ρ X) (lo.map ρ) (hi.map ρ) (Option.map ρ none)).run P s.w = .ok (.slice a h' cap) s.w:=fun a cap hc hv=>by
   have hb:=eL (P:=P) (w:=s.w) hlo hhi (cap:=cap) true e1 e2 (Nat.zero_le _) hc
   cases a with
   | none=>simp [Instr.sliceAt,Instr.slice,run_underlying hu,hv,hb,(hT _ _ hte).run_sizeOf]
   | some a =>
    simp only [Instr.sliceAt,Instr.slice,Sem.run_bind,run_underlying hu,Result.andThen_ok,hv,hb,(hT _ _ hte).run_sizeOf,Option.map_none,Sem.run_pure,Nat.zero_mul,Nat.sub_zero,Option.map_some]
    simp [Addr.add]
  rcases hx c1 c2 with ⟨m1,m2,m3⟩ | ⟨b,cap,m1,m2,m3,m4,m5⟩
  ·have hi0:items.take h'=[]:=by rw [show h'=0 by omega];rfl
   have hh0:h'=0:=by omega
   subst hh0
   have hd:=hs.drop ho (o' := .row ty k (ver+1) []) (.inr (.inr ⟨ty,k,ver',ver+1,items,rfl,rfl,by omega⟩))
   refine ⟨.slice none 0 0,s.w,_,cJ none 0 (Nat.le_refl _) (by rw [m2,m3]),by simpa [dh] using hd.1,?_,by simpa [dh] using hd.2⟩
   simp only [Rep,cB,dh]
   rw [aE hlo0]
   exact ⟨⟨_,_,rfl⟩,by simpa using cG.refl _ _,fun _ _ => .inl ⟨upd_same _ _ _,by first | rfl | trivial,by first | rfl | trivial⟩⟩
  ·rcases hobj with ⟨q1,_⟩ | ⟨b',arr,f,rs,q1,q2,q3,q4,q5⟩
   ·rw [m1] at q1;cases q1
   ·rw [m1] at q1;cases q1
    have hfl:=q5.length
    rw [cH h0] at hfl
    have htk:(items.take h').flatten=items.flatten.take (h' * k):=by
     have:=cH (items:=items.take h') (k:=k) (fun it hit=>h0 it (List.mem_of_mem_take hit))
     have h2:items.flatten=(items.take h').flatten++(items.drop h').flatten:=by rw [←List.flatten_append,List.take_append_drop]
     rw [h2,List.take_left']
     rw [this,List.length_take,Nat.min_eq_left (by omega)]
    have hst:=hs.upd ho (b:=b) (w':=s.w) (o' := .row ty k (ver+1) (items.take h')) rfl rfl rfl (Nat.le_refl _) (fun c _ _=>rfl) (.inr ⟨rfl,m1⟩)
     ⟨fun it hit=>h0 it (List.mem_of_mem_take hit),fun it hit=>h9 it (List.mem_of_mem_take hit),arr,f.take (h' * k),f.drop (h' * k)++rs,q3,by rw [←List.append_assoc,List.take_append_drop];exact q4,by rw [htk];exact q5.take _⟩ (by
      unfold aW
      rw [ho]
      exact .inr ⟨_,_,aE hlo0,.inl (by omega),fun e=>by omega⟩)
    refine ⟨_,s.w,_,cJ _ cap (by omega) m2,hst.1,?_,hst.2⟩
    simp only [Rep,cB,dh]
    rw [aE hlo0]
    exact ⟨⟨_,_,rfl⟩,by rw [List.length_take,Nat.min_eq_left (by omega)];exact cG.refl _ _,fun _ _ => .inr ⟨b,cap,upd_same _ _ _,rfl,by omega,m4,m5⟩⟩
 ·cases h
end Av
end Go.Proofs.YtdekcppfpgeneaaGreatDoor
namespace Go.Proofs.YtdekcppfpgeneaaGreatDoor
open Go Go.RowKit
namespace Av
def iV (tt:aY) (t:Nat):AV→AV→Option Bool
 | a,.d (.v y)=>match tt t with
  | some ti=>match ti.kind,a,y with
   | .ptr _,.d (.v (.pointer none)),.pointer none=>some true
   | .ptr _,.ptr _ _,.pointer none=>some false
   | .ptr _,.ep _ _ _ _ _,.pointer none=>some false
   | .ptr _,.rp _,.pointer none=>some false
   | .func,.d (.v .nilFunc),.nilFunc=>some true
   | .func,.fn _ _ _,.nilFunc=>some false
   | .map _ _,.d (.v (.map none)),.map none=>some true
   | .map _ _,.mp _,.map none=>some false
   | .slice _,.d (.v (.slice none 0 0)),.slice none 0 0=>some true
   | _,_,_=>none
  | none=>none
 | _,_=>none
def j7 (op:BinOp) (b:Bool):Option AV:=match op with
 | .eql=>some (.d (.v (.bool b)))
 | .neq=>some (.d (.v (.bool (!b))))
 | _=>none
def Ab (tt:aY) (op:BinOp) (t:Nat) (X Y:AV):Option AV :=
 match X,Y with
 | .agg a,.agg b=>match tt t,g7 a,g7 b with
  | some ti,some xs,some ys=>match ti.flat with
   | some ks=>if bT ks xs=true∧bT ks ys=true then j7 op (eqL xs ys) else none
   | none=>none
  | _,_,_=>none
 | .d (.v x),.d (.v y)=>match Aa tt op t x y with
  | some r=>some (.d (.v r))
  | none=>(iV tt t (.d (.v x)) (.d (.v y))).bind (j7 op)
 | X,Y=>(iV tt t X Y).bind (j7 op)
theorem bC.ptr {P:Program} {t:Nat} {ti:TI} (h:bC P t ti) {e:Nat} (hk:ti.kind = .ptr e):P.underlying t=some (.pointer e):=by
 obtain ⟨d,h1,h2⟩:=h.und
 rw [hk] at h2
 cases d<;>simp [dH] at h2
 subst h2;exact h1
theorem bC.func {P:Program} {t:Nat} {ti:TI} (h:bC P t ti) (hk:ti.kind = .func):∃a b c,P.underlying t=some (.func a b c):=by
 obtain ⟨d,h1,h2⟩:=h.und
 rw [hk] at h2
 cases d<;>simp [dH] at h2
 exact ⟨_,_,_,h1⟩
structure fu (P:Program) (t:Nat) (x y:Value) (b:Bool):Prop where
 eq:∀w,(Op.equal t x y).run P w = .ok b w
 guard:∀op A B w,(eqGuard op t A B x y).run P w = .ok () w
 eql:binOp .eql t x y=(Op.equal t x y >>= fun e=>pure (Value.bool e))
 neq:binOp .neq t x y=(Op.equal t x y >>= fun e=>pure (Value.bool (!e)))
theorem fu.run {P:Program} {t:Nat} {x y:Value} {b:Bool} (h:fu P t x y b) {op:BinOp} {r:AV} (hr:j7 op b=some r) (A B:Operand) (w:World) {s:St}:∃v,(do eqGuard op t A B x y;binOp op t x y).run P w = .ok v w∧Rep s r v:=by
 simp only [Sem.run_bind,h.guard,Result.andThen_ok]
 unfold j7 at hr
 split at hr
 ·simp only [Option.some.injEq] at hr
  subst hr
  exact ⟨.bool b,by rw [h.eql];simp [h.eq],mX b⟩
 ·simp only [Option.some.injEq] at hr
  subst hr
  exact ⟨.bool (!b),by rw [h.neq];simp [h.eq],mX (!b)⟩
 ·cases hr
theorem zq {P:Program} {t e:Nat} (hu:P.underlying t=some (.pointer e)) (n:Nat) (a:Option Addr) (w:World):(Op.equalIn (n+1) t (.pointer a) (.pointer none)).run P w = .ok a.isNone w:=by
 cases a<;>simp [Op.equalIn,run_underlying hu]
theorem j5 {P:Program} {t e:Nat} (hu:P.underlying t=some (.pointer e)) (a:Option Addr):fu P t (.pointer a) (.pointer none) a.isNone :=
 ⟨zq hu 9999 a,fun op A B w=>by unfold eqGuard;cases op<;>rfl,by cases a<;>rfl,by cases a<;>rfl⟩
theorem zu {P:Program} {t k e:Nat} (hu:P.underlying t=some (.map k e)) (n:Nat) (a:Option Nat) (w:World):(Op.equalIn (n+1) t (.map a) (.map none)).run P w = .ok a.isNone w:=by
 cases a<;>simp [Op.equalIn,run_underlying hu]
theorem sq {P:Program} {t k e:Nat} (hu:P.underlying t=some (.map k e)) (a:Option Nat):fu P t (.map a) (.map none) a.isNone :=
 ⟨zu hu 9999 a,fun op A B w=>by unfold eqGuard;cases op<;>rfl,rfl,rfl⟩
theorem tW {P:Program} {t e:Nat} (hu:P.underlying t=some (.slice e)) (n:Nat) (w:World):(Op.equalIn (n+1) t (.slice none 0 0) (.slice none 0 0)).run P w = .ok true w:=by
 simp [Op.equalIn,run_underlying hu]
theorem tT {P:Program} {t e:Nat} (hu:P.underlying t=some (.slice e)):fu P t (.slice none 0 0) (.slice none 0 0) true :=
 ⟨tW hu 9999,fun op A B w=>by unfold eqGuard;cases op<;>rfl,rfl,rfl⟩
theorem qo {P:Program} {t:Nat} {a b:Array TypeId} {c:Bool} (hu:P.underlying t=some (.func a b c)) (n:Nat) (w:World):(Op.equalIn (n+1) t .nilFunc .nilFunc).run P w = .ok true w:=by
 simp [Op.equalIn,run_underlying hu]
theorem wZ {P:Program} {t:Nat} {a b:Array TypeId} {c:Bool} (hu:P.underlying t=some (.func a b c)) (n:Nat) (f:Fn) (x y:Array Value) (w:World):(Op.equalIn (n+1) t (.func f x y) .nilFunc).run P w = .ok false w:=by
 simp [Op.equalIn,run_underlying hu]
theorem qi {P:Program} {t:Nat} {a b:Array TypeId} {c:Bool} (hu:P.underlying t=some (.func a b c)):fu P t .nilFunc .nilFunc true :=
 ⟨qo hu 9999,fun op A B w=>by unfold eqGuard;cases op<;>rfl,rfl,rfl⟩
theorem wT {P:Program} {t:Nat} {a b:Array TypeId} {c:Bool} (hu:P.underlying t=some (.func a b c)) (f:Fn) (x y:Array Value):fu P t (.func f x y) .nilFunc false :=
 ⟨wZ hu 9999 f x y,fun op A B w=>by unfold eqGuard;cases op<;>rfl,rfl,rfl⟩
theorem rC {P:Program} {tt:aY} (hT:bD P tt) {s:St} {t:Nat} {X Y:AV} {x y:Value} {b:Bool} (hx:Rep s X x) (hy:Rep s Y y) (h:iV tt t X Y=some b):fu P t x y b:=by
 unfold iV at h
 split at h
 case h_2=>cases h
 split at h
 case h_2=>cases h
 rename_i y' ti htt
 have hti:=hT _ _ htt
 simp only [Rep,aQ] at hy
 obtain ⟨rfl,_⟩:=hy
 split at h<;>simp only [Option.some.injEq,reduceCtorEq] at h<;>subst h
 ·simp only [Rep,aQ] at hx;obtain ⟨rfl,_⟩:=hx;exact j5 (hti.ptr ‹_›) none
 ·simp only [Rep] at hx;obtain ⟨⟨a,rfl⟩,_⟩:=hx;exact j5 (hti.ptr ‹_›) (some a)
 ·simp only [Rep] at hx;obtain ⟨⟨a,rfl⟩,_⟩:=hx;exact j5 (hti.ptr ‹_›) (some a)
 ·simp only [Rep] at hx;obtain ⟨b,o,rfl,_⟩:=hx;exact j5 (hti.ptr ‹_›) (some _)
 ·simp only [Rep,aQ] at hx;obtain ⟨rfl,_⟩:=hx;obtain ⟨_,_,_,hu⟩:=hti.func ‹_›;exact qi hu
 ·simp only [Rep] at hx;obtain ⟨a,c,rfl,_⟩:=hx;obtain ⟨_,_,_,hu⟩:=hti.func ‹_›;exact wT hu _ _ _
 ·simp only [Rep,aQ] at hx;obtain ⟨rfl,_⟩:=hx;exact sq (hti.map ‹_›) none
 ·simp only [Rep] at hx;obtain ⟨⟨b,rfl⟩,_⟩:=hx;exact sq (hti.map ‹_›) (some b)
 ·simp only [Rep,aQ] at hx;obtain ⟨rfl,_⟩:=hx;exact tT (hti.slice ‹_›)
theorem wY {P:Program} {t e:Nat} {te:TI} (hu:P.underlying t=some (.pointer e)) (hte:bC P e te) (h0:te.size≠0) (n:Nat) (a:Addr) (w:World):(Op.equalIn (n+1) t (.pointer (some a)) (.pointer (some a))).run P w = .ok true w:=by
 simp [Op.equalIn,run_underlying hu,hte.run_sizeOf,h0,run_sameAddr_same]
def lE (tt:aY) (H:av) (t:Nat) (X Y:AV):Option Bool:=match X with
 | .ptr l c=>match Y with
  | .ptr l' c'=>if l=l'∧c=c' then match tt t,H[l]? with
   | some ti,some (.box _ _)=>match ti.kind with
    | .ptr e=>match tt e with
     | some te=>if 0<te.size then some true else none
     | none=>none
    | _=>none
   | _,_=>none
   else none
  | _=>none
 | _=>none
theorem tB {P:Program} {tt:aY} (hT:bD P tt) {s:St} {t:Nat} {X Y:AV} {x y:Value} {b:Bool} (hx:Rep s X x) (hy:Rep s Y y) (h:lE tt s.H t X Y=some b):fu P t x y b:=by
 unfold lE at h
 split at h
 case h_2=>cases h
 split at h
 case h_2=>cases h
 split at h
 case isFalse=>cases h
 rename_i l c l' c' e
 obtain ⟨rfl,rfl⟩:=e
 split at h
 case h_2=>cases h
 rename_i ti ty cells htt ho
 split at h
 case h_2=>cases h
 rename_i el hk
 split at h
 case h_2=>cases h
 rename_i te hte
 split at h
 case isFalse=>cases h
 rename_i hpos
 simp only [Option.some.injEq] at h
 subst h
 simp only [Rep,cE,ho] at hx hy
 obtain ⟨_,b1,m1,rfl⟩:=hx
 obtain ⟨_,b2,m2,rfl⟩:=hy
 rw [m1] at m2
 cases m2
 have hu:=(hT _ _ htt).ptr hk
 exact ⟨fun w=>wY hu (hT _ _ hte) (by omega) 9999 _ w,fun op A B w=>by unfold eqGuard;cases op<;>rfl,rfl,rfl⟩
theorem uh {P:Program} {tt:aY} (hT:bD P tt) {s:St} {op:BinOp} {t:Nat} {X Y r:AV} {x y:Value} (A B:Operand) (hx:Rep s X x) (hy:Rep s Y y) (h:Ab tt op t X Y=some r) (w:World):∃v,(do eqGuard op t A B x y;binOp op t x y).run P w = .ok v w∧Rep s r v:=by
 unfold Ab at h
 split at h
 ·split at h
  case h_2=>cases h
  rename_i a b ti xs ys htt hxs hys
  split at h
  case h_2=>cases h
  rename_i ks hks
  split at h
  case isFalse=>cases h
  rename_i c
  obtain ⟨hg,hF⟩:=(hT _ _ htt).flat ks hks
  simp only [Rep] at hx hy
  obtain ⟨cx,rfl,hx⟩:=hx
  obtain ⟨cy,rfl,hy⟩:=hy
  obtain rfl:=(iT hx hxs).1
  obtain rfl:=(iT hy hys).1
  have hE:=fun w=>(hF cx.toList cy.toList w c.1 c.2).1
  simp only [Array.toArray_toList] at hE
  exact (fu.mk (P:=P) (t:=t) (x := .agg cx) (y := .agg cy) (b:=eqL cx.toList cy.toList) hE (fun op A B w=>run_eqGuard_agg w op t A B cx cy hg) rfl rfl).run h A B w
 ·split at h
  ·rename_i x' y' r' hr
   simp only [Option.some.injEq] at h
   subst h
   simp only [Rep,aQ] at hx hy
   obtain ⟨rfl,h1⟩:=hx
   obtain ⟨rfl,h2⟩:=hy
   have:=ug hT (X:=A) (Y:=B) h1 h2 hr w
   exact ⟨_,this.1,by simp only [Rep,aQ];exact ⟨trivial,this.2⟩⟩
  ·obtain ⟨b,h1,h2⟩:=Option.bind_eq_some_iff.1 h
   exact (rC hT hx hy h1).run h2 A B w
 ·obtain ⟨b,h1,h2⟩:=Option.bind_eq_some_iff.1 h
  exact (rC hT hx hy h1).run h2 A B w
def jd (f:Value→Value→Option Value):List AV→Option AV
 | [.d (.v a),.d (.v b)]=>(f a b).map fun r => .d (.v r)
 | [.d (.v a),.d (.v b),.d (.v c)]=>((f a b).bind fun r=>f r c).map fun r => .d (.v r)
 | _=>none
def iR (tt:aY) (H:av) (b:Builtin) (ts:Array Nat) (args:List AV) (l:Nat):oE :=
 match b,ts.toList,args with
 | .append,[t,t'],[s,x]=>fC tt H t t' s x l
 | .len,[t],[x]=>(lenOf tt H t x).map fun (n:Nat)=>(.d (.v (.int .i64 (n:Int))),none)
 | .min,_,args=>(jd yF args).map (·,none)
 | .max,_,args=>(jd yG args).map (·,none)
 | _,_,_=>none
def bV (env:List AV):Operand→AV
 | .tmp t=>env.getD t .undef
 | .const (.agg l) => .agg (l.toList.map fun x => .d (.v x))
 | .const v => .d (.v v)
 | .func f => .fn (.func f) [] []
 | .global _ => .undef
def aop (tt:aY) (H:av) (l:Nat) (ρ:Operand→AV) (o:Op):oE :=
 match o with
 | .move x | .assign x=>some (ρ x,none)
 | .pick c a b=>match ρ c with
  | .d (.v (.bool t))=>some (if t=true then ρ a else ρ b,none)
  | _=>none
 | .nilCheck x=>match ρ x with
  | .ptr _ _ | .ep _ _ _ _ _ | .rp _ | .mp _ | .ms _ _ _ | .fn (.func _) _ _=>some (ρ x,none)
  | _=>none
 | .load t a=>(iN tt H t (ρ a)).map (·,none)
 | .store t a x=>(nW tt H t (ρ a) (ρ x)).map (.undef,some ·)
 | .alloc t=>oc tt t l
 | .box t x=>Aq t (ρ x) l
 | .build t ps=>(oa tt t (ps.toList.map fun p=>(p.1,ρ p.2))).map (·,none)
 | .buildSlice t n ps=>dr tt t n (ps.toList.map fun p=>(p.1,ρ p.2)) l
 | .makeSlice t a b=>fm tt t (ρ a) (ρ b) l
 | .makeMap t r=>match r with
  | none=>gC tt t l
  | some x=>match fc (ρ x) with
   | some _=>gC tt t l
   | none=>none
 | .makeFunc f first caps=>some (.fn f (first.toList.map ρ) (caps.toList.map ρ),none)
 | .fieldAddr t x f=>(fp tt t f (ρ x)).map (·,none)
 | .field t x f=>(nZ tt t f (ρ x)).map (·,none)
 | .indexAddr t x ix=>(dq tt H t (ρ x) (ρ ix)).map (·,none)
 | .index t x ix=>(nY tt t (ρ x) (ρ ix)).map (·,none)
 | .extract x i=>(iP (ρ x) i).map (·,none)
 | .slice t x lo hi mx=>iK tt H t (ρ x) (lo.map ρ) (hi.map ρ) (mx.map ρ)
 | .binOp op t x y _=>match lE tt H t (ρ x) (ρ y) with
  | some b=>(j7 op b).map (·,none)
  | none=>(Ab tt op t (ρ x) (ρ y)).map (·,none)
 | .unOp op _ x=>match ρ x with
  | .d (.v v)=>(unV op v).map fun r=>(.d (.v r),none)
  | _=>none
 | .convert a b x=>match ρ x with
  | .d (.v v)=>(sG tt a b v).map fun r=>(.d (.v r),none)
  | y=>(iQ tt H a b y).map fun r=>(r,none)
 | .lookup t m k ok=>(fB tt H t (ρ m) (ρ k) ok).map (·,none)
 | .mapUpdate t m k x | .insert t m k x=>(fj tt H t (ρ m) (ρ k) (ρ x)).map (.undef,some ·)
 | .mapEntry t m k=>gB tt H t (ρ m) (ρ k)
 | .entryStore _ m e x=>(eJ H (ρ m) (ρ e) (ρ x)).map (.undef,some ·)
 | .call c=>match c.callee with
  | .builtin b=>iR tt H b c.argTypes (c.args.toList.map ρ) l
  | _=>none
 | _=>none
def jv (ρ:Operand→AV):Op→Bool
 | .alloc _ | .box _ _ | .buildSlice _ _ _ | .makeSlice _ _ _ | .makeMap _ _=>true
 | .call c=>match c.callee,c.args.toList.map ρ with
  | .builtin .append,.d _::_=>true
  | _,_=>false
 | _=>false
def gR (P:Program) (base:World) (s:St) (x:Sem Next) (r:AV) (q:Option (Nat × aN)):Prop :=
 ∃nx v w' μ',x.run P s.w = .ok nx w'∧(nx = .value v∨(nx = .skip∧v=Go.undef))∧Sim base ⟨μ',dh s.H q,w'⟩∧Rep ⟨μ',dh s.H q,w'⟩ r v∧Evo s.H.length s ⟨μ',dh s.H q,w'⟩
theorem gR.pure' {P:Program} {base:World} {s:St} (hs:Sim base s) {x:Sem Next} {r:AV} (h:∃v,x.run P s.w = .ok (.value v) s.w∧Rep s r v):gR P base s x r none:=by
 obtain ⟨v,h1,h2⟩:=h
 exact ⟨.value v,v,s.w,s.μ,h1,.inl rfl,hs,h2,.refl _ _⟩
theorem gR.val {P:Program} {base:World} {s:St} (hs:Sim base s) {x:Sem Value} {r:AV} (h:∃v,x.run P s.w = .ok v s.w∧Rep s r v):gR P base s (do pure (.value (←x))) r none:=by
 obtain ⟨v,h1,h2⟩:=h
 exact ⟨.value v,v,s.w,s.μ,by simp [h1],.inl rfl,hs,h2,.refl _ _⟩
theorem gR.done {P:Program} {base:World} {s:St} {x:Sem Value} {r:AV} {q:Option (Nat × aN)} (h:oh P base s x r q):gR P base s (do pure (.value (←x))) r q:=by
 obtain ⟨v,w',μ',h1,h2,h3,h4⟩:=h
 exact ⟨.value v,v,w',μ',by simp [h1],.inl rfl,h2,h3,h4⟩
theorem gR.unit {P:Program} {base:World} {s:St} {x:Sem Unit} {q:Nat × aN} (h:∃w' μ',x.run P s.w = .ok () w'∧Sim base ⟨μ',s.H.set q.1 q.2,w'⟩∧Evo s.H.length s ⟨μ',s.H.set q.1 q.2,w'⟩):gR P base s (do x;pure .skip) .undef (some q):=by
 obtain ⟨w',μ',h1,h2,h3⟩:=h
 exact ⟨.skip,Go.undef,w',μ',by simp [h1],.inr ⟨rfl,rfl⟩,h2,by simp only [Rep],h3⟩
theorem fU {s:St} {ρ:Operand→Value} {ρA:Operand→AV}:∀(l:List Operand),(∀x∈l,Rep s (ρA x) (ρ x))→ax s (l.map ρA) (l.map ρ)
 | [],_ => .nil
 | a::r,h => .cons (h a (by simp)) (fU r fun x hx=>h x (by simp [hx]))
theorem wn {P:Program} {s:St} {a b r:Value} (ha:small a) (hb:small b) (h:yF a b=some r) (w:World):(Builtin.min2 a b).run P w = .ok r w∧small r:=by
 unfold yF at h
 split at h
 ·split at h
  ·rename_i k x k' y hk
   subst hk
   simp only [Option.some.injEq] at h
   subst h
   refine ⟨rfl,?_⟩
   split<;>assumption
  ·cases h
 ·cases h
theorem wo {P:Program} {s:St} {a b r:Value} (ha:small a) (hb:small b) (h:yG a b=some r) (w:World):(Builtin.max2 a b).run P w = .ok r w∧small r:=by
 unfold yG at h
 split at h
 ·split at h
  ·rename_i k x k' y hk
   subst hk
   simp only [Option.some.injEq] at h
   subst h
   refine ⟨rfl,?_⟩
   split<;>assumption
  ·cases h
 ·cases h
theorem jn {P:Program} {s:St} {f:Value→Value→Option Value} {g:Value→Value→Sem Value} (hfg:∀a b r,small a→small b→f a b=some r→∀w,(g a b).run P w = .ok r w∧small r) {l:List AV} {vs:List Value} {r:AV} (hl:ax s l vs) (h:jd f l=some r) :
  ∃x y rest v,vs=x::y::rest∧((y::rest).foldlM g x).run P s.w = .ok v s.w∧Rep s r v:=by
 unfold jd at h
 split at h
 ·rename_i a b
  simp only [Option.map_eq_some_iff] at h
  obtain ⟨q,h1,rfl⟩:=h
  simp only [ax,Rep,aQ] at hl
  obtain ⟨x,t,rfl,⟨rfl,h2⟩,y,t',rfl,⟨rfl,h3⟩,rfl⟩:=hl
  have:=hfg _ _ _ h2 h3 h1 s.w
  exact ⟨_,_,_,q,rfl,by simp [this.1],by simp only [Rep,aQ];exact ⟨trivial,this.2⟩⟩
 ·rename_i a b c
  simp only [Option.map_eq_some_iff] at h
  obtain ⟨q,h1,rfl⟩:=h
  obtain ⟨p,h0,h9⟩:=Option.bind_eq_some_iff.1 h1
  simp only [ax,Rep,aQ] at hl
  obtain ⟨x,t,rfl,⟨rfl,h2⟩,y,t',rfl,⟨rfl,h3⟩,z,t'',rfl,⟨rfl,h4⟩,rfl⟩:=hl
  have k1:=hfg _ _ _ h2 h3 h0 s.w
  have k2:=hfg _ _ _ k1.2 h4 h9 s.w
  exact ⟨_,_,_,q,rfl,by simp [k1.1,k2.1],by simp only [Rep,aQ];exact ⟨trivial,k2.2⟩⟩
 ·cases h
theorem vt (ps:Array (Nat × Operand)) (ρ:Operand→Value):(ps.toList.map fun p=>(p.1,ρ p.2)).toArray=ps.map fun p=>(p.1,ρ p.2):=by
 apply Array.toList_inj.1
 simp
theorem jc {P:Program} {tt:aY} (hT:bD P tt) {base:World} {s:St} (hs:Sim base s) {o:Oper} {ρ:Operand→Value} {ρA:Operand→AV} (hρ:∀x∈o.op.operands,Rep s (ρA x) (ρ x)) {l:Nat} (hl:jv ρA o.op=true→s.H[l]?=some .free) {r:AV} {q:Option (Nat × aN)} (h:aop tt s.H l ρA o.op=some (r,q)) :
  gR P base s (execOp ρ o) r q:=by
 obtain ⟨dst,op,ty,pos,after,guard⟩:=o
 simp only at hρ h
 cases op with
 | move x=>simp only [aop,Option.some.injEq,Prod.mk.injEq] at h;obtain ⟨rfl,rfl⟩:=h;exact .pure' hs ⟨_,rfl,hρ x (by simp [Op.operands])⟩
 | assign x=>simp only [aop,Option.some.injEq,Prod.mk.injEq] at h;obtain ⟨rfl,rfl⟩:=h;exact .pure' hs ⟨_,rfl,hρ x (by simp [Op.operands])⟩
 | pick c a b =>
  simp only [aop] at h
  split at h
  case h_2=>cases h
  rename_i t hc
  simp only [Option.some.injEq,Prod.mk.injEq] at h
  obtain ⟨rfl,rfl⟩:=h
  have h1:=hρ c (by simp [Op.operands])
  rw [hc] at h1
  simp only [Rep,aQ] at h1
  refine .pure' hs ⟨if t=true then ρ a else ρ b,by simp [execOp,h1.1,asBool],?_⟩
  cases t
  ·exact hρ b (by simp [Op.operands])
  ·exact hρ a (by simp [Op.operands])
 | nilCheck x =>
  simp only [aop] at h
  have h1:=hρ x (by simp [Op.operands])
  split at h<;>simp only [Option.some.injEq,Prod.mk.injEq,reduceCtorEq] at h<;>obtain ⟨rfl,rfl⟩:=h<;>rename_i hx<;>refine .pure' hs ⟨ρ x,?_,h1⟩<;>rw [hx] at h1<;>simp only [Rep] at h1
  ·obtain ⟨⟨a,ha⟩,_⟩:=h1;simp [execOp,ha]
  ·obtain ⟨⟨a,ha⟩,_⟩:=h1;simp [execOp,ha]
  ·obtain ⟨b,o,ha,_⟩:=h1;simp [execOp,ha]
  ·obtain ⟨⟨a,ha⟩,_⟩:=h1;simp [execOp,ha]
  ·obtain ⟨⟨a,c,ha⟩,_⟩:=h1;simp [execOp,ha]
  ·obtain ⟨a,c,ha,_⟩:=h1;simp [execOp,ha]
 | load t a =>
  simp only [aop,Option.map_eq_some_iff,Prod.mk.injEq] at h
  obtain ⟨r',h1,rfl,rfl⟩:=h
  exact .val hs (lW hT hs (hρ a (by simp [Op.operands])) h1)
 | store t a x =>
  simp only [aop,Option.map_eq_some_iff,Prod.mk.injEq] at h
  obtain ⟨q',h1,rfl,rfl⟩:=h
  exact .unit (qH hT hs (hρ a (by simp [Op.operands])) (hρ x (by simp [Op.operands])) h1)
 | alloc t=>exact .done (qN hT hs (hl rfl) h)
 | box t x=>exact .done (uq hs (hl rfl) (hρ x (by simp [Op.operands])) h)
 | build t ps =>
  simp only [aop,Option.map_eq_some_iff,Prod.mk.injEq] at h
  obtain ⟨r',h1,rfl,rfl⟩:=h
  have:=qM hT (s:=s) (ρ:=ρ) (fun p hp=>hρ p.2 (by show p.2∈(ps.toList.map (·.2)).toArray;rw [List.mem_toArray,List.mem_map];exact ⟨p,hp,rfl⟩)) h1
  refine .val hs ?_
  rwa [vt] at this
 | buildSlice t n ps =>
  have:=kk hT hs (ρ:=ρ) (hl rfl) (fun p hp=>hρ p.2 (by show p.2∈(ps.toList.map (·.2)).toArray;rw [List.mem_toArray,List.mem_map];exact ⟨p,hp,rfl⟩)) h
  rw [vt] at this
  exact .done this
 | makeSlice t a b=>exact .done (lq hT hs (hl rfl) (hρ a (by simp [Op.operands])) (hρ b (by simp [Op.operands])) h)
 | makeMap t x =>
  cases x with
  | none=>exact .done (iM hT hs (.inl rfl) (hl rfl) h)
  | some x =>
   simp only [aop] at h
   split at h
   case h_2=>cases h
   rename_i p hp
   obtain ⟨k,i⟩:=p
   have:=eA hp (hρ x (by simp [Op.operands]))
   exact .done (iM hT hs (.inr ⟨k,i,by simp [this]⟩) (hl rfl) h)
 | makeFunc f first caps =>
  simp only [aop,Option.some.injEq,Prod.mk.injEq] at h
  obtain ⟨rfl,rfl⟩:=h
  refine .val hs ⟨_,rfl,?_⟩
  simp only [Rep]
  refine ⟨_,_,rfl,?_,?_⟩
  ·simpa using fU first.toList fun x hx=>hρ x (by simp [Op.operands];exact .inl (by simpa using hx))
  ·simpa using fU caps.toList fun x hx=>hρ x (by simp [Op.operands];exact .inr (by simpa using hx))
 | fieldAddr t x f =>
  simp only [aop,Option.map_eq_some_iff,Prod.mk.injEq] at h
  obtain ⟨r',h1,rfl,rfl⟩:=h
  exact .val hs (lu hT hs (hρ x (by simp [Op.operands])) h1)
 | field t x f =>
  simp only [aop,Option.map_eq_some_iff,Prod.mk.injEq] at h
  obtain ⟨r',h1,rfl,rfl⟩:=h
  exact .val hs (qK hT (hρ x (by simp [Op.operands])) h1)
 | indexAddr t x ix =>
  simp only [aop,Option.map_eq_some_iff,Prod.mk.injEq] at h
  obtain ⟨r',h1,rfl,rfl⟩:=h
  exact .val hs (lr hT hs (hρ x (by simp [Op.operands])) (hρ ix (by simp [Op.operands])) h1)
 | index t x ix =>
  simp only [aop,Option.map_eq_some_iff,Prod.mk.injEq] at h
  obtain ⟨r',h1,rfl,rfl⟩:=h
  exact .val hs (qJ hT (hρ x (by simp [Op.operands])) (hρ ix (by simp [Op.operands])) h1)
 | extract x i =>
  simp only [aop,Option.map_eq_some_iff,Prod.mk.injEq] at h
  obtain ⟨r',h1,rfl,rfl⟩:=h
  exact .val hs (n9 (hρ x (by simp [Op.operands])) h1)
 | slice t x lo hi mx =>
  refine .done (qI hT hs (hρ x (by simp [Op.operands])) (fun y hy=>hρ y ?_) (fun y hy=>hρ y ?_) h)
  ·subst hy;simp [Op.operands]
  ·subst hy;simp [Op.operands]
 | binOp op t x y yt =>
  simp only [aop] at h
  split at h
  ·rename_i b hb
   simp only [Option.map_eq_some_iff,Prod.mk.injEq] at h
   obtain ⟨r',h1,rfl,rfl⟩:=h
   exact .val hs ((tB hT (hρ x (by simp [Op.operands])) (hρ y (by simp [Op.operands])) hb).run h1 x y s.w)
  simp only [Option.map_eq_some_iff,Prod.mk.injEq] at h
  obtain ⟨r',h1,rfl,rfl⟩:=h
  exact .val hs (uh hT x y (hρ x (by simp [Op.operands])) (hρ y (by simp [Op.operands])) h1 s.w)
 | unOp op t x =>
  simp only [aop] at h
  split at h
  case h_2=>cases h
  rename_i v hv
  simp only [Option.map_eq_some_iff,Prod.mk.injEq] at h
  obtain ⟨r',h1,rfl,rfl⟩:=h
  have hx:=hρ x (by simp [Op.operands])
  rw [hv] at hx
  simp only [Rep,aQ] at hx
  have:=vJ (P:=P) h1 s.w
  exact .val hs ⟨r',by rw [hx.1];exact this.1,by simp only [Rep,aQ];exact ⟨trivial,this.2⟩⟩
 | convert a b x =>
  simp only [aop] at h
  split at h
  case h_2 =>
   simp only [Option.map_eq_some_iff,Prod.mk.injEq] at h
   obtain ⟨r',h1,rfl,rfl⟩:=h
   exact .val hs (qL hT hs (hρ x (by simp [Op.operands])) h1)
  rename_i v hv
  simp only [Option.map_eq_some_iff,Prod.mk.injEq] at h
  obtain ⟨r',h1,rfl,rfl⟩:=h
  have hx:=hρ x (by simp [Op.operands])
  rw [hv] at hx
  simp only [Rep,aQ] at hx
  have:=sF hT hx.2 h1 s.w
  exact .val hs ⟨r',by rw [hx.1];exact this.1,by simp only [Rep,aQ];exact ⟨trivial,this.2⟩⟩
 | lookup t m k ok =>
  simp only [aop,Option.map_eq_some_iff,Prod.mk.injEq] at h
  obtain ⟨r',h1,rfl,rfl⟩:=h
  exact .val hs (oC hT hs (hρ m (by simp [Op.operands])) (hρ k (by simp [Op.operands])) h1)
 | mapUpdate t m k x =>
  simp only [aop,Option.map_eq_some_iff,Prod.mk.injEq] at h
  obtain ⟨r',h1,rfl,rfl⟩:=h
  exact .unit (gA hT hs (hρ m (by simp [Op.operands])) (hρ k (by simp [Op.operands])) (hρ x (by simp [Op.operands])) h1)
 | insert t m k x =>
  simp only [aop,Option.map_eq_some_iff,Prod.mk.injEq] at h
  obtain ⟨r',h1,rfl,rfl⟩:=h
  exact .unit (gA hT hs (hρ m (by simp [Op.operands])) (hρ k (by simp [Op.operands])) (hρ x (by simp [Op.operands])) h1)
 | mapEntry t m k =>
  simp only [aop] at h
  exact .done (l9 hT hs (hρ m (by simp [Op.operands])) (hρ k (by simp [Op.operands])) h)
 | entryStore t m e x =>
  simp only [aop,Option.map_eq_some_iff,Prod.mk.injEq] at h
  obtain ⟨r',h1,rfl,rfl⟩:=h
  exact .unit (kj hs (hρ m (by simp [Op.operands])) (hρ e (by simp [Op.operands])) (hρ x (by simp [Op.operands])) h1)
 | call c =>
  obtain ⟨callee,args,argTypes⟩:=c
  simp only [aop] at h
  cases callee with
  | builtin b =>
   simp only at h
   have hargs:=fU args.toList (ρ:=ρ) (ρA:=ρA) (s:=s) fun x hx=>hρ x (by simp [Op.operands,Call.operands];simpa using hx)
   have hex:execOp ρ { dst:=dst,op := .call { callee := .builtin b,args:=args,argTypes:=argTypes },type:=ty,pos:=pos,after:=after,guard:=guard }=builtin b argTypes ty (args.map fun | .const _=>true | _=>false) (args.map ρ):=rfl
   rw [hex]
   unfold iR at h
   split at h
   ·rename_i t t' a x hts hargs2
    rw [hargs2] at hargs
    simp only [ax] at hargs
    obtain ⟨va,t1,e1,ha,vx,t2,rfl,hx,rfl⟩:=hargs
    have e2:args.map ρ = #[va,vx]:=by apply Array.toList_inj.1;simpa using e1
    have e3:argTypes = #[t,t']:=by apply Array.toList_inj.1;simpa using hts
    rw [e2,e3]
    exact .done (oD hT hs (ty:=ty) (fun hn=>hl (by simp only [jv,hargs2];obtain ⟨p,rfl⟩:=hn;rfl)) ha hx h)
   ·rename_i t x hts hargs2
    simp only [Option.map_eq_some_iff,Prod.mk.injEq] at h
    obtain ⟨n,h1,rfl,rfl⟩:=h
    rw [hargs2] at hargs
    simp only [ax] at hargs
    obtain ⟨va,t1,e1,ha,rfl⟩:=hargs
    have e2:args.map ρ = #[va]:=by apply Array.toList_inj.1;simpa using e1
    have e3:argTypes = #[t]:=by apply Array.toList_inj.1;simpa using hts
    rw [e2,e3]
    have:=rJ hT hs (ty:=ty) ha h1
    exact .val hs ⟨_,this.1,AN (wL this.2)⟩
   ·simp only [Option.map_eq_some_iff,Prod.mk.injEq] at h
    obtain ⟨r',h1,rfl,rfl⟩:=h
    obtain ⟨x,y,rest,v,k1,k2,k3⟩:=jn (fun a b r ha hb hr w=>wn (s:=s) ha hb hr w) hargs h1
    refine .val (x:=Builtin.min_ argTypes ty (args.map ρ)) hs ⟨v,?_,k3⟩
    have:(args.map ρ).toList=x::y::rest:=by simpa using k1
    unfold Builtin.min_
    rw [this]
    exact k2
   ·simp only [Option.map_eq_some_iff,Prod.mk.injEq] at h
    obtain ⟨r',h1,rfl,rfl⟩:=h
    obtain ⟨x,y,rest,v,k1,k2,k3⟩:=jn (fun a b r ha hb hr w=>wo (s:=s) ha hb hr w) hargs h1
    refine .val (x:=Builtin.max_ argTypes ty (args.map ρ)) hs ⟨v,?_,k3⟩
    have:(args.map ρ).toList=x::y::rest:=by simpa using k1
    unfold Builtin.max_
    rw [this]
    exact k2
   ·cases h
  | _=>cases h
 | _=>cases h
end Av
end Go.Proofs.YtdekcppfpgeneaaGreatDoor
namespace Go.Proofs.YtdekcppfpgeneaaGreatDoor
open Go Go.RowKit
namespace Av
variable {n0:Nat}
def mS:Value→Bool
 | .string s=>decide (s.size≤9223372036854775807)
 | .int k n=>decide (k.min≤n)&&decide (n≤k.max)
 | _=>true
theorem gI {v:Value} (h:mS v=true):small v:=by
 unfold mS at h
 unfold small
 split at h
 ·simpa using h
 ·simpa using h
 ·first | (split<;>simp_all) | simp_all
def d9:Operand→Bool
 | .const (.agg l)=>l.toList.all mS
 | .const v=>mS v
 | _=>true
def fG (D:Nat):Deferred:={ target := .collected D,args := #[] }
def dg (n0:Nat) (s:St) (ds:List Deferred):Prop:=∃Ds:List Nat,ds=Ds.map fG∧Ds.Nodup∧∀D∈Ds,n0≤D∧s.imm D∧s.w.heap[D]?=some (.deferred (some []))
theorem dg.nil (n0:Nat) (s:St):dg n0 s []:=⟨[],rfl,.nil,fun _ h=>nomatch h⟩
theorem dg.keeps {n0:Nat} {s s':St} {ds:List Deferred} (h:dg n0 s ds) (e:lY s s'):dg n0 s' ds:=by
 obtain ⟨Ds,h1,h2,h3⟩:=h
 exact ⟨Ds,h1,h2,fun D hD=>⟨(h3 D hD).1,e.imm D (h3 D hD).2.1,(e.heap D (h3 D hD).2.1).trans (h3 D hD).2.2⟩⟩
structure bz (n0:Nat) (s:St) (env:List AV) (a:Act):Prop where
 defers:dg n0 s a.defers
 rep:ax s env a.tmps.toList
theorem bz.eval {s:St} {env:List AV} {a:Act} (h:bz n0 s env a) {x:Operand} (hc:d9 x=true):Rep s (bV env x) (a.eval x):=by
 unfold bV
 split
 ·rename_i t
  by_cases ht:t<env.length
  ·obtain ⟨v,h1,h2⟩:=h.rep.get (i:=t) (a:=env[t]) (by simp [ht])
   have h3:a.tmps[t]?=some v:=by simpa using h1
   show Rep s _ (a.tmps.getD t Go.undef)
   rw [Array.getD_eq_getD_getElem?,h3]
   simpa [List.getD,ht] using h2
  ·simp [List.getD,Nat.le_of_not_lt ht,Rep]
 ·rename_i l
  simp only [d9] at hc
  simp only [Rep]
  refine ⟨l,rfl,?_⟩
  generalize l.toList=ls at hc
  induction ls with
  | nil=>exact .nil
  | cons x r ih =>
   simp only [List.all_cons,Bool.and_eq_true] at hc
   exact .cons (by simp only [Rep,aQ];exact ⟨trivial,gI hc.1⟩) (ih hc.2)
 ·rename_i v hv
  simp only [Rep,aQ]
  refine ⟨rfl,gI ?_⟩
  unfold d9 at hc
  split at hc
  ·exact absurd ‹Operand.const _=Operand.const _› (by intro e;cases e;exact hv _ rfl)
  ·cases ‹Operand.const _=Operand.const _›;exact hc
  ·rename_i h2;exact absurd rfl (h2 _)
 ·simp only [Rep]
  exact ⟨_,_,rfl,.nil,.nil⟩
 ·simp only [Rep]
def ba (env:List AV):Option Tmp→AV→List AV
 | some d,r=>env.set d r
 | none,_=>env
theorem bz.put {s:St} {env:List AV} {a:Act} (h:bz n0 s env a) {dst:Option Tmp} {r:AV} {v:Value} (hr:Rep s r v):bz n0 s (ba env dst r) (a.put dst v):=by
 cases dst with
 | none=>exact h
 | some d=>exact ⟨h.defers,by simpa [ba,Act.put] using ax.set hr d h.rep⟩
theorem bz.evo {s s':St} {env:List AV} {a:Act} (h:bz n0 s env a) (e:Evo s.H.length s s'):bz n0 s' env a:=⟨h.defers.keeps e.keeps,ax.evo e _ _ h.rep⟩
theorem lL {H:av} {o:aN} {l:Nat} (h:l<H.length):(H++[o])[l]?=H[l]?:=List.getElem?_append_left h
theorem Sim.free {base:World} {s:St} (hs:Sim base s):Sim base ⟨s.μ,s.H++[.free],s.w⟩∧Evo s.H.length s ⟨s.μ,s.H++[.free],s.w⟩:=by
 have hg:∀{l:Nat} {o:aN},(s.H++[aN.free])[l]?=some o→s.H[l]?=some o∨o = .free:=by
  intro l o h
  by_cases hl:l<s.H.length
  ·rw [lL hl] at h;exact .inl h
  ·rw [List.getElem?_append_right (by omega)] at h
   right
   cases hq:l - s.H.length with
   | zero=>rw [hq] at h;simp at h;exact h.symm
   | succ n=>rw [hq] at h;simp at h
 have hevo:Evo s.H.length s ⟨s.μ,s.H++[.free],s.w⟩:=by
  refine ⟨⟨Nat.le_refl _,fun c hc=>⟨hc.1,?_⟩,fun _ _=>rfl⟩,fun l hl => ?_⟩
  ·rintro ⟨l,o,h1,h2,h3⟩
   rcases hg h1 with h1 | rfl
   ·exact hc.2 ⟨l,o,h1,h2,h3⟩
   ·cases h2
  ·exact aW.of_eq (lL hl) rfl fun _ _=>rfl
 refine ⟨⟨hs.below,fun l o h => ?_,fun l l' o o' b h1 h2 k1 k2 m1 m2 => ?_⟩,hevo⟩
 ·rcases hg h with h | rfl
  ·exact (hs.obj l o h).evo hevo (fun _=>rfl) (fun _ _ _=>rfl)
  ·trivial
 ·rcases hg h1 with h1 | rfl
  ·rcases hg h2 with h2 | rfl
   ·exact hs.inj l l' o o' b h1 h2 k1 k2 m1 m2
   ·cases k2
  ·cases k1
structure bR (P:Program) (base:World) (f:FuncId) (args:List AV) (H:av) (R:AV→av→Prop):Prop where
 enter:∀(vs:Array Value) (w:World),(callFunc f vs).run P w = .ok (.enter f vs) w
 run:∀(μ:Nat→Option Nat) (w:World) (vs:Array Value),Sim base ⟨μ,H,w⟩→ax ⟨μ,H,w⟩ args vs.toList →
  Calls P f vs w fun e w'=>∃v r H' μ',e = .returned v∧R r H'∧H.length≤H'.length∧Sim base ⟨μ',H',w'⟩∧Rep ⟨μ',H',w'⟩ r v∧Evo H.length ⟨μ,H,w⟩ ⟨μ',H',w'⟩
def cX (env:List AV) (o:Op):Option (FuncId × List AV):=match o with
 | .call c=>match c.callee with
  | .value f=>match bV env f with
   | .fn (.func g) first caps=>some (g,first++c.args.toList.map (bV env)++caps)
   | _=>none
  | _=>none
 | _=>none
def iH (tt:aY) (H:av) (env:List AV) (o:Op):Option (AV × av) :=
 if jv (bV env) o=true then (aop tt (H++[.free]) H.length (bV env) o).map fun p=>(p.1,dh (H++[.free]) p.2)
 else (aop tt H 0 (bV env) o).map fun p=>(p.1,dh H p.2)
def m8 (tt:aY) (env:List AV) (o:Op):Option (List (List PD) × Bool):=match o with
 | .binOp op t x y _=>match tt t,bV env x,bV env y with
  | some ti,.d (.sl _ l),.d (.v (.slice none 0 0))=>match ti.kind,op with
   | .slice _,.eql=>some (l,true)
   | .slice _,.neq=>some (l,false)
   | _,_=>none
  | _,_,_=>none
 | _=>none
theorem sx {P:Program} {t e:Nat} (hu:P.underlying t=some (.slice e)) (n:Nat) (ao:Option Addr) (m c:Nat) (w:World):(Op.equalIn (n+1) t (.slice ao m c) (.slice none 0 0)).run P w = .ok ao.isNone w:=by
 cases ao<;>simp [Op.equalIn,run_underlying hu]
theorem sk {P:Program} {t e:Nat} (hu:P.underlying t=some (.slice e)) (ao:Option Addr) (m c:Nat):fu P t (.slice ao m c) (.slice none 0 0) ao.isNone :=
 ⟨sx hu 9999 ao m c,fun op A B w=>by unfold eqGuard;cases op<;>rfl,rfl,rfl⟩
theorem pW {P:Program} {tt:aY} (hT:bD P tt) {s:St} {env:List AV} {o:Oper} {ρ:Operand→Value} (hρ:∀x∈o.op.operands,Rep s (bV env x) (ρ x)) {l:List (List PD)} {e:Bool} (h:m8 tt env o.op=some (l,e)) :
  ∃b:Bool,(b=true→l=[])∧(execOp ρ o).run P s.w = .ok (.value (.bool (b == e))) s.w:=by
 obtain ⟨dst,op,ty,pos,after,guard⟩:=o
 simp only at hρ h
 cases op with
 | binOp op t x y yt =>
  simp only [m8] at h
  split at h
  case h_2=>cases h
  rename_i ti k l' htt hx hy
  have h1:=hρ x (by simp [Op.operands])
  have h2:=hρ y (by simp [Op.operands])
  rw [hx] at h1
  rw [hy] at h2
  simp only [Rep,aQ] at h1 h2
  obtain ⟨ao,cap,h1,h3,h4,h5⟩:=h1
  have hti:=hT _ _ htt
  have fin:∀(e':Nat),ti.kind = .slice e'→∀r:Bool,j7 op ao.isNone=some (.d (.v (.bool r)))→(ao.isNone=true→l'=[])∧(execOp ρ ⟨dst,.binOp op t x y yt,ty,pos,after,guard⟩).run P s.w = .ok (.value (.bool r)) s.w:=by
   intro e' hk r hr
   refine ⟨fun hn => ?_,?_⟩
   ·rcases h5 with h5 | ⟨b,o,rfl,_⟩
    ·exact h5
    ·cases hn
   ·obtain ⟨v,k1,k2⟩:=(sk (hti.slice hk) ao l'.length cap).run hr x y s.w (s:=s)
    simp only [Rep,aQ] at k2
    obtain ⟨rfl,_⟩:=k2
    show ((do eqGuard op t x y (ρ x) (ρ y);Go.binOp op t (ρ x) (ρ y)) >>= fun v=>pure (Next.value v)).run P s.w=_
    rw [h1,h2.1]
    simp only [Sem.run_bind] at k1 ⊢
    simp [k1]
  split at h
  ·rename_i e' hk
   simp only [Option.some.injEq,Prod.mk.injEq] at h
   obtain ⟨rfl,rfl⟩:=h
   obtain ⟨f1,f2⟩:=fin e' hk ao.isNone rfl
   exact ⟨ao.isNone,f1,by rw [f2];simp⟩
  ·rename_i e' hk
   simp only [Option.some.injEq,Prod.mk.injEq] at h
   obtain ⟨rfl,rfl⟩:=h
   obtain ⟨f1,f2⟩:=fin e' hk (!ao.isNone) rfl
   exact ⟨ao.isNone,f1,by rw [f2];cases ao.isNone<;>rfl⟩
  ·cases h
 | _=>simp only [m8] at h;cases h
def bP (P:Program) (tt:aY) (base:World) (env:List AV) (H:av) (o:Op) (C:AV→av→Prop):Prop :=
 match cX env o with
 | some (f,args)=>∃R,bR P base f args H R∧∀r H',R r H'→H.length≤H'.length→C r H'
 | none=>match iH tt H env o with
  | some (r,H')=>C r H'
  | none=>match m8 tt env o with
   | some (l,e)=>∀b:Bool,(b=true→l=[])→C (.d (.v (.bool (b == e)))) H
   | none=>False
def c9:AV := .d (.v (.tuple #[]))
def cW:Option Bool→Bool→Bool
 | some true,true=>true
 | some false,false=>true
 | _,_=>false
theorem gZ (y:Option Bool) (w:Bool):cW y w=(y == some w):=by
 cases y with
 | none=>rfl
 | some b=>cases b<;>cases w<;>rfl
def bM (ops:Array Oper) (env:List AV) (j:Nat):Option (Option Bool):=match (ops[j]?).bind (·.dst) with
 | some d=>match env.getD d .undef with
  | .d (.v (.bool b))=>some (some b)
  | .d (.v (.tuple _))=>some none
  | _=>none
 | none=>none
def be (ops:Array Oper) (env:List AV) (g:Option (Nat × Bool)) (A B:Prop):Prop:=match g with
 | none=>A
 | some (j,want)=>match bM ops env j with
  | some y=>if cW y want=true then A else B
  | none=>False
def aL (P:Program) (tt:aY) (base:World) (ops:Array Oper):List Oper→List AV→av→(List AV→av→Prop)→Prop
 | [],env,H,K=>K env H
 | o::rest,env,H,K=>be ops env o.guard (bP P tt base env H o.op fun r H'=>aL P tt base ops rest (ba env o.dst r) H' K) (aL P tt base ops rest (ba env o.dst c9) H K)
def jN (ops:Array Oper):Bool:=ops.toList.all fun o=>o.op.operands.toList.all d9
def yA:Op→Bool
 | .defer _=>false
 | _=>true
def ik (ops:Array Oper):Bool:=ops.toList.all fun o=>yA o.op
theorem lG {ops:Array Oper} (h:ik ops=true) {i:Nat} {o:Oper} (ho:ops[i]?=some o):∀c,o.op ≠ .defer c:=fun c e=>by
 have:=List.all_eq_true.1 h o (List.mem_of_getElem? (by simpa using ho))
 rw [e] at this
 cases this
def FR (r:Option Nat):Fence:={ Fence.wide with round:=r }
theorem x7 {P:Program} {r:Option Nat} {n:Nat} {row:String} {args:Array Value} {w:World} {R:Value→World→Prop} (h:Rows P row args w R):RowsIn (FR r) n P row args w R :=
 fun c cs _=>let ⟨v,w',h1,h2⟩:=h c cs;⟨v,w',h1,stepsIn_wide.2 h2⟩
theorem xd {P:Program} {r:Option Nat} {n:Nat} {f:FuncId} {args:Array Value} {w:World} {R:Ending→World→Prop} (h:Calls P f args w R):CallsIn (FR r) n P f args w R:=callsIn_wide (n:=n).2 h
theorem rB {P:Program} {r:Option Nat} {n:Nat} {o:Oper} {a:Act} {w:World} {K:Act→World→Prop} {Q:Exit→Act→World→Prop} (hnd:∀c,o.op ≠ .defer c) (h:o.wp P a w K Q):o.wpIn (FR r) n P a w K Q:=by
 refine ⟨fun _ _=>trivial,?_⟩
 rw [Oper.semAt_eq _ _ _ hnd]
 unfold Oper.wp at h
 generalize (execOp a.eval o).run P w=x at *
 cases x with
 | ok nx w' =>
  cases nx with
  | value v=>exact h
  | skip=>exact h
  | defer d=>exact h
  | enter f args=>exact ⟨fun h=>(by cases h),xd h⟩
  | row row args=>exact ⟨fun h=>(by cases h),x7 h⟩
  | _=>exact h.elim
 | halt hx w' =>
  cases hx<;>exact h
theorem mm {P:Program} {r:Option Nat} {n:Nat} {ops:Array Oper} {Q:Exit→Act→World→Prop} (hnd:ik ops=true) (hQ:¬LetsOut Q):∀(l:List Nat) (a:Act) (w:World),wpOps P ops Q l a w→wpOpsIn (FR r) n P ops Q l a w
 | [],_,_,h=>h
 | i::rest,a,w,h=>by
  unfold wpOps at h
  unfold wpOpsIn
  cases ho:ops[i]? with
  | none=>rw [ho] at h;exact mm hnd hQ rest a w h
  | some o =>
   rw [ho] at h
   simp only at h ⊢
   by_cases hw:Region.wanted o (yielded ops a.tmps)=true
   ·rw [if_pos hw] at h ⊢
    rcases h with h | h
    ·exact Oper.wpIn_mono (fun a' w' h'=>mm hnd hQ rest a' w' h') (rB (lG hnd ho) h)
    ·exact absurd h.2 hQ
   ·rw [if_neg hw] at h ⊢
    exact ⟨fun _ _=>trivial,mm hnd hQ rest _ _ h⟩
theorem kg {P:Program} {md:Region.Mode} {r:Option Nat} {n:Nat} {ops:Array Oper} {Q:Exit→Act→World→Prop} (hnd:ik ops=true) (hQ:¬LetsOut Q):∀(m:Nat) (L:Array Bool) (a:Act) (w:World),wpAny P md ops Q m L a w→wpAnyIn (FR r) n P md ops Q m L a w
 | 0,_,_,_,h=>h
 | m+1,L,a,w,h=>by
  refine ⟨h.1,fun i hi => ?_⟩
  have h2:=h.2 i hi
  unfold wpOp at h2
  unfold wpOpIn
  cases ho:ops[i]? with
  | none=>rw [ho] at h2;exact kg hnd hQ m _ _ _ h2
  | some o =>
   rw [ho] at h2
   simp only at h2 ⊢
   by_cases hw:Region.wanted o (yielded ops a.tmps)=true
   ·rw [if_pos hw] at h2 ⊢
    rcases h2 with h2 | h2
    ·exact Oper.wpIn_mono (fun a' w' h'=>kg hnd hQ m _ _ _ h') (rB (lG hnd ho) h2)
    ·exact absurd h2.2 hQ
   ·rw [if_neg hw] at h2 ⊢
    exact ⟨fun _ _=>trivial,kg hnd hQ m _ _ _ h2⟩
def fV (ops:Array Oper):Bool:=jN ops&&ik ops
theorem mj {ops:Array Oper} (h:fV ops=true):jN ops=true:=(Bool.and_eq_true_iff.1 h).1
theorem pT {ops:Array Oper} (h:fV ops=true):ik ops=true:=(Bool.and_eq_true_iff.1 h).2
theorem vz {H:av} {q:Option (Nat × aN)}:(dh H q).length=H.length:=by
 unfold dh
 split
 ·rfl
 ·simp
theorem sU {P:Program} {tt:aY} (hT:bD P tt) {base:World} {μ:Nat→Option Nat} {H:av} {w:World} (hs:Sim base ⟨μ,H,w⟩) {env:List AV} {a:Act} (he:bz n0 ⟨μ,H,w⟩ env a) {o:Oper} (hc:o.op.operands.toList.all d9=true) {C:AV→av→Prop} (h:bP P tt base env H o.op C)
  {next:Act→World→Prop} {Q:Exit→Act→World→Prop}
  (hk:∀r v H' μ' w',C r H'→H.length≤H'.length→Sim base ⟨μ',H',w'⟩→bz n0 ⟨μ',H',w'⟩ (ba env o.dst r) (a.put o.dst v)→Evo H.length ⟨μ,H,w⟩ ⟨μ',H',w'⟩→next (a.put o.dst v) w'):o.wp P a w next Q:=by
 have hρ:∀x∈o.op.operands,Rep ⟨μ,H,w⟩ (bV env x) (a.eval x):=fun x hx=>he.eval (List.all_eq_true.1 hc x (by simpa using hx))
 unfold bP at h
 split at h
 ·rename_i f args hac
  obtain ⟨R,hR,hC⟩:=h
  unfold cX at hac
  split at hac
  case h_2=>cases hac
  rename_i c hop
  split at hac
  case h_2=>cases hac
  rename_i fo hcal
  split at hac
  case h_2=>cases hac
  rename_i g first caps hfo
  simp only [Option.some.injEq,Prod.mk.injEq] at hac
  obtain ⟨rfl,rfl⟩:=hac
  have hf:=hρ fo (by rw [hop];simp [Op.operands,Call.operands,hcal])
  rw [hfo] at hf
  simp only [Rep] at hf
  obtain ⟨vf,vc,hfv,hf1,hf2⟩:=hf
  have hargs:=fU c.args.toList (ρ:=a.eval) (ρA:=bV env) (s:=⟨μ,H,w⟩) fun x hx=>hρ x (by rw [hop];simp [Op.operands,Call.operands];exact .inr (by simpa using hx))
  have hrep:ax ⟨μ,H,w⟩ (first++c.args.toList.map (bV env)++caps) (vf++c.args.map a.eval++vc).toList:=by
   simpa using (hf1.append hargs).append hf2
  have cJ:(execOp a.eval o).run P w = .ok (.enter g (vf++c.args.map a.eval++vc)) w:=by
   obtain ⟨callee,cargs,cts⟩:=c
   simp only at hcal
   subst hcal
   unfold execOp
   rw [hop]
   simp only [resolve,hfv,Deferred.ofValue,Sem.run_bind,Sem.run_pure,Result.andThen_ok,invoke,hR.enter]
  unfold Oper.wp
  rw [cJ,Oper.upon_enter]
  refine (hR.run μ w _ hs hrep).mono ?_
  rintro e w' ⟨v,r,H',μ',rfl,h1,h2,h3,h4,h5⟩
  exact hk r v H' μ' w' (hC r H' h1 h2) h2 h3 ((he.evo h5).put h4) h5
 ·split at h
  case h_2 =>
   split at h
   case h_2=>exact h.elim
   rename_i l e hn
   obtain ⟨b,k1,k2⟩:=pW hT hρ hn
   have hfin:=hk _ (.bool (b == e)) H μ w (h b k1) (Nat.le_refl _) hs (he.put (by simp only [Rep,aQ];exact ⟨trivial,trivial⟩)) (.refl _ _)
   unfold Oper.wp
   rw [k2]
   exact hfin
  rename_i r H' hst
  unfold iH at hst
  split at hst
  ·rename_i hal
   simp only [Option.map_eq_some_iff,Prod.mk.injEq] at hst
   obtain ⟨⟨r',q⟩,h1,rfl,rfl⟩:=hst
   obtain ⟨hs1,hev1⟩:=hs.free
   have hρ1:∀x∈o.op.operands,Rep ⟨μ,H++[.free],w⟩ (bV env x) (a.eval x):=fun x hx=>Rep.evo hev1 _ _ (hρ x hx)
   obtain ⟨nx,v,w',μ',k1,k2,k3,k4,k5⟩:=jc hT hs1 hρ1 (fun _=>by simp) h1
   have hev2:Evo H.length ⟨μ,H,w⟩ ⟨μ',dh (H++[.free]) q,w'⟩:=hev1.trans (k5.mono (by simp))
   have hfin:=hk r' v _ μ' w' h (by rw [vz];simp) k3 ((he.evo hev2).put k4) hev2
   unfold Oper.wp
   rw [k1]
   rcases k2 with rfl | ⟨rfl,rfl⟩
   ·exact hfin
   ·exact hfin
  ·rename_i hal
   simp only [Option.map_eq_some_iff,Prod.mk.injEq] at hst
   obtain ⟨⟨r',q⟩,h1,rfl,rfl⟩:=hst
   obtain ⟨nx,v,w',μ',k1,k2,k3,k4,k5⟩:=jc hT hs hρ (fun h=>absurd h hal) h1
   have hfin:=hk r' v _ μ' w' h (by rw [vz];exact Nat.le_refl _) k3 ((he.evo k5).put k4) k5
   unfold Oper.wp
   rw [k1]
   rcases k2 with rfl | ⟨rfl,rfl⟩
   ·exact hfin
   ·exact hfin
theorem mC {s:St} {ops:Array Oper} {env:List AV} {a:Act} (he:bz n0 s env a) {j:Nat} {y:Option Bool} (h:bM ops env j=some y):yielded ops a.tmps j=y:=by
 unfold bM at h
 unfold yielded
 cases hd:(ops[j]?).bind (·.dst) with
 | none=>rw [hd] at h;cases h
 | some d =>
  rw [hd] at h
  simp only at h
  split at h
  ·rename_i b' hb
   simp only [Option.some.injEq] at h
   subst h
   by_cases hl:d<env.length
   ·obtain ⟨v,h1,h2⟩:=he.rep.get (i:=d) (a:=env[d]) (by simp [hl])
    have h3:a.tmps[d]?=some v:=by simpa using h1
    rw [show env.getD d .undef=env[d] by simp [List.getD,hl]] at hb
    rw [hb] at h2
    simp only [Rep,aQ] at h2
    simp [h3,h2.1]
   ·simp [List.getD,Nat.le_of_not_lt hl] at hb
  ·rename_i c hb
   simp only [Option.some.injEq] at h
   subst h
   by_cases hl:d<env.length
   ·obtain ⟨v,h1,h2⟩:=he.rep.get (i:=d) (a:=env[d]) (by simp [hl])
    have h3:a.tmps[d]?=some v:=by simpa using h1
    rw [show env.getD d .undef=env[d] by simp [List.getD,hl]] at hb
    rw [hb] at h2
    simp only [Rep,aQ] at h2
    simp [h3,h2.1]
   ·simp [List.getD,Nat.le_of_not_lt hl] at hb
  ·cases h
theorem mB {P:Program} {tt:aY} (hT:bD P tt) {base:World} {ops:Array Oper} (hc:jN ops=true) {K:List AV→av→Prop} {Q:Exit→Act→World→Prop} (s0:St) (N:Nat)
  (hk:∀env H μ w a,K env H→N≤H.length→Sim base ⟨μ,H,w⟩→bz n0 ⟨μ,H,w⟩ env a→Evo N s0 ⟨μ,H,w⟩→Q .normal a w) :
  ∀(l:List Oper) (i:Nat),ops.toList.drop i=l→∀env H μ w a,aL P tt base ops l env H K→N≤H.length→Sim base ⟨μ,H,w⟩→bz n0 ⟨μ,H,w⟩ env a→Evo N s0 ⟨μ,H,w⟩→wpOps P ops Q (List.range' i l.length) a w
 | [],i,_,env,H,μ,w,a,h,hN,hs,he,hev=>hk env H μ w a h hN hs he hev
 | o::rest,i,hd,env,H,μ,w,a,h,hN,hs,he,hev=>by
  have hget:ops[i]?=some o:=by
   have:ops.toList[i]?=some o:=by
    have:=congrArg (·[0]?) hd
    simpa [List.getElem?_drop] using this
   simpa using this
  have hrest:ops.toList.drop (i+1)=rest:=by
   rw [←List.drop_drop,hd];rfl
  have hmem:o∈ops.toList:=List.mem_of_getElem? (by simpa using hget)
  have hco:=List.all_eq_true.1 hc o hmem
  simp only [List.length_cons,List.range'_succ,wpOps,hget]
  simp only [aL,be] at h
  have hA:bP P tt base env H o.op (fun r H'=>aL P tt base ops rest (ba env o.dst r) H' K)→o.wp P a w (wpOps P ops Q (List.range' (i+1) rest.length)) Q:=fun h =>
   sU hT hs he hco h fun r v H' μ' w' h1 h2 h3 h4 h5=>mB hT hc s0 N hk rest (i+1) hrest _ H' μ' w' _ h1 (Nat.le_trans hN h2) h3 h4 (hev.trans (h5.mono hN))
  have hB:aL P tt base ops rest (ba env o.dst c9) H K→wpOps P ops Q (List.range' (i+1) rest.length) (a.put o.dst Go.undef) w:=fun h =>
   mB hT hc s0 N hk rest (i+1) hrest _ H μ w _ h hN hs (he.put (by simp only [c9,Rep,aQ];exact ⟨rfl,trivial⟩)) hev
  cases hg:o.guard with
  | none =>
   rw [hg] at h
   simp only [Region.wanted,hg,if_true]
   exact .inl (hA h)
  | some g =>
   obtain ⟨j,want⟩:=g
   rw [hg] at h
   simp only at h
   cases hy:bM ops env j with
   | none=>rw [hy] at h;exact h.elim
   | some b =>
    rw [hy] at h
    simp only at h
    have:=mC he hy
    simp only [Region.wanted,hg,this]
    rw [gZ] at h
    by_cases hb:(b == some want)=true
    ·rw [if_pos hb] at h
     rw [if_pos hb]
     exact .inl (hA h)
    ·rw [if_neg hb] at h
     rw [if_neg hb]
     exact hB h
end Av
end Go.Proofs.YtdekcppfpgeneaaGreatDoor
namespace Go.Proofs.YtdekcppfpgeneaaGreatDoor
open Go Go.RowKit
namespace Av
mutual
def AV.bel (n:Nat):AV→Prop
 | .ptr l _=>l<n
 | .ms l _ _=>l<n
 | .ep l _ _ _ _=>l<n
 | .mp l=>l<n
 | .fn _ a b=>aS n a∧aS n b
 | .agg l=>aS n l
 | .tup l=>aS n l
 | _=>True
def aS (n:Nat):List AV→Prop
 | []=>True
 | a::r=>a.bel n∧aS n r
end
def lh (n:Nat):List (Value × AV)→Prop
 | []=>True
 | p::r=>p.2.bel n∧lh n r
def aN.bel (n:Nat):aN→Prop
 | .box _ cells=>aS n cells
 | .row _ _ _ items=>aS n items.flatten
 | .mp _ _ _ es=>lh n es
 | _=>True
def ft (n:Nat) (H:av):Prop:=∀o∈H,o.bel n
theorem ft.append {n:Nat} {H G:av} (h:ft n H) (k:ft n G):ft n (H++G):=fun o ho=>by
 rcases List.mem_append.1 ho with h1 | h1
 ·exact h o h1
 ·exact k o h1
mutual
theorem Rep.bel {s:St}:∀(a:AV) (v:Value),Rep s a v→a.bel s.H.length
 | .d p,v,h=>by simp only [AV.bel]
 | .undef,v,h=>by simp only [AV.bel]
 | .ptr l off,v,h=>by simp only [Rep] at h;simp only [AV.bel];exact h.2.lt
 | .ms l ver n,v,h=>by simp only [Rep] at h;simp only [AV.bel];exact h.2.lt
 | .ep l ver n i c,v,h=>by simp only [Rep] at h;simp only [AV.bel];exact h.2.lt
 | .rp cells,v,h=>by simp only [AV.bel]
 | .mp l,v,h=>by simp only [Rep] at h;simp only [AV.bel];exact h.2.lt
 | .fn f a b,v,h=>by
  simp only [Rep] at h;simp only [AV.bel]
  obtain ⟨_,_,_,h2,h3⟩:=h
  exact ⟨ax.bel a _ h2,ax.bel b _ h3⟩
 | .agg l,v,h=>by
  simp only [Rep] at h;simp only [AV.bel]
  obtain ⟨_,_,h2⟩:=h
  exact ax.bel l _ h2
 | .tup l,v,h=>by
  simp only [Rep] at h;simp only [AV.bel]
  obtain ⟨_,_,h2⟩:=h
  exact ax.bel l _ h2
theorem ax.bel {s:St}:∀(l:List AV) (vs:List Value),ax s l vs→aS s.H.length l
 | [],vs,h=>by simp only [aS]
 | a::r,vs,h=>by
  simp only [ax] at h;simp only [aS]
  obtain ⟨x,t,_,h2,h3⟩:=h
  exact ⟨Rep.bel a x h2,ax.bel r t h3⟩
end
theorem aR.bel {s:St}:∀{es:List (Value × AV)} {l:List MapEntry},aR s es l→lh s.H.length es
 | [],l,h=>trivial
 | (k,a)::r,l,h=>by
  simp only [aR] at h
  obtain ⟨e,t,_,_,h2,h3⟩:=h
  exact ⟨Rep.bel a _ h2,h3.bel⟩
theorem Sim.hbel {base:World} {s:St} (hs:Sim base s):ft s.H.length s.H:=by
 intro o ho
 obtain ⟨l,hl⟩:=List.mem_iff_getElem?.1 ho
 have h:=hs.obj l o hl
 cases o with
 | free=>trivial
 | dead=>trivial
 | box ty cells=>obtain ⟨b,arr,_,_,_,h⟩:=h;exact ax.bel _ _ h
 | row ty k ver items =>
  rcases h.2.2 with ⟨_,h⟩ | ⟨b,arr,f,r,_,_,_,_,h⟩
  ·rw [h];simp [aN.bel,aS]
  ·exact ax.bel _ _ h
 | mp kt et ks es=>obtain ⟨_,b,ents,clock,_,_,_,h,_⟩:=h;exact h.bel
def St.cut (s:St) (H:av):St:=⟨s.μ,H,s.w⟩
section
variable {s:St} {H G:av} (hH:s.H=H++G)
include hH
theorem dZ {l:Nat} (hl:l<H.length):(s.cut H).H[l]?=s.H[l]?:=by
 rw [hH];exact (List.getElem?_append_left hl).symm
theorem ka {b:Nat} (h:s.imm b):(s.cut H).imm b:=by
 refine ⟨h.1,fun ⟨l,o,h1,h2,h3⟩=>h.2 ⟨l,o,?_,h2,h3⟩⟩
 rw [←dZ hH (aF h1)];exact h1
end
theorem od {s:St} {H G:av} (hH:s.H=H++G):∀(L:List (List PD)) (b k o:Nat),bi s.w s.imm L b k o→bi s.w (s.cut H).imm L b k o
 | [],_,_,_,_=>by simp only [bi]
 | it::r,b,k,o,h=>by
  simp only [bi] at h ⊢
  have cells:∀(l:List PD) (o:Nat),aK s.w s.imm l b o→aK s.w (s.cut H).imm l b o:=by
   intro l
   induction l with
   | nil=>intro o _;simp only [aK]
   | cons p l ih =>
    intro o h
    simp only [aK] at h ⊢
    obtain ⟨⟨h0,c,h1,h2⟩,h3⟩:=h
    exact ⟨⟨h0,c,h1,aQ.on (fun b=>ka hH) (fun _ _=>rfl) p c h2⟩,ih _ h3⟩
  exact ⟨h.1,cells it o h.2.1,od hH r b k (o+k) h.2.2⟩
mutual
theorem Rep.cut {s:St} {H G:av} (hH:s.H=H++G):∀(a:AV) (v:Value),Rep s a v→a.bel H.length→Rep (s.cut H) a v
 | .d p,v,h,_=>by
  simp only [Rep] at h ⊢
  exact aQ.on (fun b=>ka hH) (fun _ _=>rfl) p v h
 | .undef,v,h,_=>by simp only [Rep]
 | .ptr l off,v,h,hb=>by
  simp only [Rep,cE] at h ⊢;simp only [AV.bel] at hb
  rw [dZ hH hb];exact h
 | .ms l ver n,v,h,hb=>by
  simp only [Rep,cB] at h ⊢;simp only [AV.bel] at hb
  rw [dZ hH hb];exact h
 | .ep l ver n i c,v,h,hb=>by
  simp only [Rep,eT] at h ⊢;simp only [AV.bel] at hb
  rw [dZ hH hb];exact h
 | .rp cells,v,h,_=>by
  simp only [Rep] at h ⊢
  obtain ⟨b,o,h1,h2,h3⟩:=h
  exact ⟨b,o,h1,ka hH h2,aK.on (fun b=>ka hH) (fun _ _=>rfl) cells b o h2 h3⟩
 | .mp l,v,h,hb=>by
  simp only [Rep,dD] at h ⊢;simp only [AV.bel] at hb
  rw [dZ hH hb];exact h
 | .fn f a b,v,h,hb=>by
  simp only [Rep] at h ⊢;simp only [AV.bel] at hb
  obtain ⟨x,y,h1,h2,h3⟩:=h
  exact ⟨x,y,h1,ax.cut hH a _ h2 hb.1,ax.cut hH b _ h3 hb.2⟩
 | .agg l,v,h,hb=>by
  simp only [Rep] at h ⊢;simp only [AV.bel] at hb
  obtain ⟨x,h1,h2⟩:=h
  exact ⟨x,h1,ax.cut hH l _ h2 hb⟩
 | .tup l,v,h,hb=>by
  simp only [Rep] at h ⊢;simp only [AV.bel] at hb
  obtain ⟨x,h1,h2⟩:=h
  exact ⟨x,h1,ax.cut hH l _ h2 hb⟩
theorem ax.cut {s:St} {H G:av} (hH:s.H=H++G):∀(l:List AV) (vs:List Value),ax s l vs→aS H.length l→ax (s.cut H) l vs
 | [],vs,h,_=>by simp only [ax] at h ⊢;exact h
 | a::r,vs,h,hb=>by
  simp only [ax] at h ⊢;simp only [aS] at hb
  obtain ⟨x,t,h1,h2,h3⟩:=h
  exact ⟨x,t,h1,Rep.cut hH a x h2 hb.1,ax.cut hH r t h3 hb.2⟩
end
theorem aR.cut {s:St} {H G:av} (hH:s.H=H++G):∀{es:List (Value × AV)} {l:List MapEntry},aR s es l→lh H.length es→aR (s.cut H) es l
 | [],l,h,_=>h
 | (k,a)::r,l,h,hb=>by
  simp only [aR] at h ⊢
  obtain ⟨e,t,h1,h2,h3,h4⟩:=h
  exact ⟨e,t,h1,h2,Rep.cut hH a _ h3 hb.1,h4.cut hH hb.2⟩
theorem Sim.cut {base:World} {s:St} (hs:Sim base s) {H G:av} (hH:s.H=H++G) (hB:ft H.length H) {N:Nat} (hN:N≤H.length):Sim base (s.cut H)∧Evo N s (s.cut H):=by
 refine ⟨⟨hs.below,fun l o h => ?_,fun l l' o o' b h1 h2 k1 k2 m1 m2 => ?_⟩,⟨⟨Nat.le_refl _,fun b=>ka hH,fun _ _=>rfl⟩,fun l hl=>aW.of_eq (dZ hH (by omega)) rfl fun _ _=>rfl⟩⟩
 ·have hl:=aF h
  have h':s.H[l]?=some o:=by rw [←dZ hH hl];exact h
  have ho:=hs.obj l o h'
  have hb:=hB o (List.mem_of_getElem? h)
  cases o with
  | free=>trivial
  | dead=>trivial
  | box ty cells=>obtain ⟨b,arr,h1,h2,h3,h4⟩:=ho;exact ⟨b,arr,h1,h2,h3,ax.cut hH _ _ h4 hb⟩
  | row ty k ver items =>
   obtain ⟨h0,h9,h⟩:=ho
   refine ⟨h0,h9,?_⟩
   rcases h with h | ⟨b,arr,f,r,h1,h2,h3,h4,h5⟩
   ·exact .inl h
   ·exact .inr ⟨b,arr,f,r,h1,h2,h3,h4,ax.cut hH _ _ h5 hb⟩
  | mp kt et ks es=>obtain ⟨h0,b,ents,clock,h1,h2,h3,h4,h5⟩:=ho;exact ⟨h0,b,ents,clock,h1,h2,h3,h4.cut hH hb,h5⟩
 ·exact hs.inj l l' o o' b (by rw [←dZ hH (aF h1)];exact h1) (by rw [←dZ hH (aF h2)];exact h2) k1 k2 m1 m2
def dL (l:List PD):List AV:=l.map .d
def dI (L:List (List PD)):List (List AV):=L.map dL
def unL:List AV→Option (List PD)
 | []=>some []
 | .d p::r=>(unL r).map (p :: ·)
 | _=>none
def unI:List (List AV)→Option (List (List PD))
 | []=>some []
 | it::r=>(unL it).bind fun p=>(unI r).map (p :: ·)
theorem tg:∀{l:List AV} {p:List PD},unL l=some p→l=dL p
 | [],p,h=>by simp [unL] at h;subst h;rfl
 | a::r,p,h=>by
  unfold unL at h
  split at h
  ·cases ‹_::_=[]›
  ·rename_i q r' e
   cases e
   simp only [Option.map_eq_some_iff] at h
   obtain ⟨ps,h1,rfl⟩:=h
   rw [tg h1];rfl
  ·cases h
theorem pJ:∀{l:List (List AV)} {p:List (List PD)},unI l=some p→l=dI p
 | [],p,h=>by simp [unI] at h;subst h;rfl
 | a::r,p,h=>by
  simp only [unI] at h
  obtain ⟨q,h1,h2⟩:=Option.bind_eq_some_iff.1 h
  simp only [Option.map_eq_some_iff] at h2
  obtain ⟨ps,h2,rfl⟩:=h2
  rw [tg h1,pJ h2];rfl
theorem xv:∀(l:List PD),unL (dL l)=some l
 | []=>rfl
 | p::r=>by
  show (unL (dL r)).map (p :: ·)=_
  rw [xv r];rfl
theorem bh:∀(L:List (List PD)),unI (dI L)=some L
 | []=>rfl
 | p::r=>by
  show (unL (dL p)).bind (fun q=>(unI (dI r)).map (q :: ·))=_
  rw [xv,bh r];rfl
mutual
def cM (H:av) (n:Nat):AV→Option AV
 | .ms l ver m=>if l<n then some (.ms l ver m) else match H[l]? with
  | some (.row _ k ver' items)=>if ver=ver'∧m=items.length then (unI items).map fun L => .d (.sl k L) else none
  | _=>none
 | .d p=>some (.d p)
 | .undef=>some .undef
 | .rp c=>some (.rp c)
 | .ptr l o=>if l<n then some (.ptr l o) else match H[l]? with
  | some (.box _ cells)=>if o=0∧cells.all AV.one=true then (unL cells).map .rp else none
  | _=>none
 | .mp l=>if l<n then some (.mp l) else none
 | .ep _ _ _ _ _=>none
 | .fn f a b=>(jJ H n a).bind fun a'=>(jJ H n b).map fun b' => .fn f a' b'
 | .agg l=>(jJ H n l).map .agg
 | .tup l=>(jJ H n l).map .tup
def jJ (H:av) (n:Nat):List AV→Option (List AV)
 | []=>some []
 | a::r=>(cM H n a).bind fun a'=>(jJ H n r).map fun r'=>a'::r'
end
theorem fT {s:St} {b ty k:Nat} {arr:Array Value} (hb:s.w.heap[b]?=some (.cells arr ty (0,0))):∀(L:List (List PD)) (o:Nat) (front:List Value),(∀j v,front[j]?=some v→arr[o+j]?=some v)→(∀it∈dI L,it.length=k)→(∀it∈dI L,it.all AV.one=true)→ax s (dI L).flatten front→bi s.w s.imm L b k o
 | [],o,front,_,_,_,_=>by simp only [bi]
 | it::r,o,front,hf,hk,h1,hr=>by
  have hit:=hk (dL it) (by simp [dI])
  have hlen:it.length=k:=by simpa [dL] using hit
  simp only [dI,List.map_cons,List.flatten_cons] at hr
  obtain ⟨r1,r2⟩:=hr.split
  rw [hit] at r1 r2
  have cells:∀(l:List PD) (o:Nat) (vs:List Value),(∀j v,vs[j]?=some v→arr[o+j]?=some v)→(dL l).all AV.one=true→ax s (dL l) vs→aK s.w s.imm l b o:=by
   intro l
   induction l with
   | nil=>intro o vs _ _ _;simp only [aK]
   | cons p l ih =>
    intro o vs hv hone hrep
    simp only [dL,List.map_cons,ax] at hrep
    obtain ⟨x,t,rfl,h2,h3⟩:=hrep
    simp only [dL,List.map_cons,List.all_cons,Bool.and_eq_true] at hone
    simp only [aK]
    refine ⟨⟨hone.1,x,?_,by simpa only [Rep] using h2⟩,ih (o+1) t (fun j v hj => ?_) hone.2 h3⟩
    ·have:=hv 0 x rfl
     simp only [World.cell?,hb]
     simpa using this
    ·have:=hv (j+1) v (by simpa using hj)
     rw [show o+1+j=o+(j+1) by omega];exact this
  simp only [bi]
  refine ⟨hlen,cells it o _ (fun j v hj => ?_) (h1 (dL it) (by simp [dI])) r1,fT hb r (o+k) (front.drop k) (fun j v hj => ?_) (fun x hx=>hk x (by simp only [dI,List.map_cons];exact List.mem_cons_of_mem _ hx)) (fun x hx=>h1 x (by simp only [dI,List.map_cons];exact List.mem_cons_of_mem _ hx)) r2⟩
  ·simp only [List.getElem?_take] at hj
   split at hj
   ·exact hf j v hj
   ·cases hj
  ·rw [List.getElem?_drop] at hj
   have:=hf (k+j) v hj
   rw [show o+k+j=o+(k+j) by omega];exact this
mutual
theorem Rep.sealUp {base:World} {s:St} (hs:Sim base s) {H G:av} (hH:s.H=H++G):∀(a a':AV) (v:Value),Rep s a v→cM s.H H.length a=some a'→Rep (s.cut H) a' v
 | .ms l ver m,a',v,h,e=>by
  simp only [cM] at e
  split at e
  ·rename_i hl
   simp only [Option.some.injEq] at e
   subst e
   exact Rep.cut hH _ _ h (by simp only [AV.bel];exact hl)
  ·rename_i hl
   split at e
   case h_2=>cases e
   rename_i ty k ver' items ho
   split at e
   case isFalse=>cases e
   rename_i c
   simp only [Option.map_eq_some_iff] at e
   obtain ⟨L,e1,rfl⟩:=e
   have hi:=pJ e1
   simp only [Rep,cB,ho] at h
   obtain ⟨_,_,h⟩:=h
   simp only [Rep,aQ]
   have hLl:L.length=items.length:=by rw [hi];simp [dI]
   rcases h c.1 c.2 with ⟨m1,rfl,m3⟩ | ⟨b,cap,m1,rfl,m3,m4,m5⟩
   ·have:L=[]:=List.eq_nil_of_length_eq_zero (by omega)
    subst this
    exact ⟨none,0,rfl,Nat.le_refl _,by unfold maxLen;omega,.inl rfl⟩
   ·obtain ⟨h0,h9,hobj⟩:=hs.obj l _ ho
    rcases hobj with ⟨q1,_⟩ | ⟨b',arr,f,rs,q1,q2,q3,q4,q5⟩
    ·rw [m1] at q1;cases q1
    ·rw [m1] at q1;cases q1
     refine ⟨some ⟨b,0,none⟩,cap,by rw [hLl,c.2],by rw [hLl,←c.2];exact m3,m4,.inr ⟨b,0,rfl,⟨(Array.getElem?_eq_some_iff.1 q3).1,?_⟩,?_⟩⟩
     ·rintro ⟨l',o',k1,k2,k3⟩
      have hl':=aF k1
      rw [dZ hH hl'] at k1
      have:=hs.inj l' l _ _ b k1 ho k2 rfl k3 m1
      have:l'<H.length:=hl'
      omega
     ·subst hi
      have:=fT q3 L 0 f (fun j v hj=>by
       have h1:arr.toList[j]?=some v:=by rw [q4,List.getElem?_append_left (List.getElem?_eq_some_iff.1 hj).1];exact hj
       simpa using h1) h0 h9 q5
      exact od hH L b k 0 this
 | .d p,a',v,h,e=>by simp only [cM,Option.some.injEq] at e;subst e;exact Rep.cut hH _ _ h (by simp only [AV.bel])
 | .undef,a',v,h,e=>by simp only [cM,Option.some.injEq] at e;subst e;simp only [Rep]
 | .rp c,a',v,h,e=>by simp only [cM,Option.some.injEq] at e;subst e;exact Rep.cut hH _ _ h (by simp only [AV.bel])
 | .ptr l o,a',v,h,e=>by
  simp only [cM] at e
  split at e
  ·simp only [Option.some.injEq] at e;subst e;exact Rep.cut hH _ _ h (by simp only [AV.bel];assumption)
  ·rename_i hl
   split at e
   case h_2=>cases e
   rename_i ty cells ho
   split at e
   case isFalse=>cases e
   rename_i c
   obtain ⟨rfl,c2⟩:=c
   simp only [Option.map_eq_some_iff] at e
   obtain ⟨L,e1,rfl⟩:=e
   have hi:=tg e1
   subst hi
   simp only [Rep,cE,ho] at h
   obtain ⟨_,b,m1,rfl⟩:=h
   obtain ⟨b',arr,q1,q2,q3,q4⟩:=hs.obj l _ ho
   rw [m1] at q1;cases q1
   simp only [Rep]
   refine ⟨b,0,rfl,⟨(Array.getElem?_eq_some_iff.1 q3).1,?_⟩,?_⟩
   ·rintro ⟨l',o',k1,k2,k3⟩
    have hl':=aF k1
    rw [dZ hH hl'] at k1
    have:=hs.inj l' l _ _ b k1 ho k2 rfl k3 m1
    have:l'<H.length:=hl'
    omega
   ·have:=od hH [L] b L.length 0 (fT q3 [L] 0 arr.toList (fun j v hj=>by simpa using hj) (by simp [dI,dL]) (by simpa [dI] using c2) (by simpa [dI] using q4))
    simp only [bi] at this
    exact this.2.1
 | .mp l,a',v,h,e=>by
  simp only [cM] at e
  split at e
  ·simp only [Option.some.injEq] at e;subst e;exact Rep.cut hH _ _ h (by simp only [AV.bel];assumption)
  ·cases e
 | .ep l ver n i c,a',v,h,e=>by simp only [cM] at e;cases e
 | .fn f a b,a',v,h,e=>by
  simp only [cM] at e
  obtain ⟨x,e1,e2⟩:=Option.bind_eq_some_iff.1 e
  simp only [Option.map_eq_some_iff] at e2
  obtain ⟨y,e2,rfl⟩:=e2
  simp only [Rep] at h ⊢
  obtain ⟨p,q,h1,h2,h3⟩:=h
  exact ⟨p,q,h1,ax.sealUp hs hH a x _ h2 e1,ax.sealUp hs hH b y _ h3 e2⟩
 | .agg l,a',v,h,e=>by
  simp only [cM,Option.map_eq_some_iff] at e
  obtain ⟨y,e2,rfl⟩:=e
  simp only [Rep] at h ⊢
  obtain ⟨p,h1,h2⟩:=h
  exact ⟨p,h1,ax.sealUp hs hH l y _ h2 e2⟩
 | .tup l,a',v,h,e=>by
  simp only [cM,Option.map_eq_some_iff] at e
  obtain ⟨y,e2,rfl⟩:=e
  simp only [Rep] at h ⊢
  obtain ⟨p,h1,h2⟩:=h
  exact ⟨p,h1,ax.sealUp hs hH l y _ h2 e2⟩
theorem ax.sealUp {base:World} {s:St} (hs:Sim base s) {H G:av} (hH:s.H=H++G):∀(l l':List AV) (vs:List Value),ax s l vs→jJ s.H H.length l=some l'→ax (s.cut H) l' vs
 | [],l',vs,h,e=>by simp only [jJ,Option.some.injEq] at e;subst e;simp only [ax] at h ⊢;exact h
 | a::r,l',vs,h,e=>by
  simp only [jJ] at e
  obtain ⟨x,e1,e2⟩:=Option.bind_eq_some_iff.1 e
  simp only [Option.map_eq_some_iff] at e2
  obtain ⟨y,e2,rfl⟩:=e2
  simp only [ax] at h ⊢
  obtain ⟨p,q,h1,h2,h3⟩:=h
  exact ⟨p,q,h1,Rep.sealUp hs hH a x _ h2 e1,ax.sealUp hs hH r y _ h3 e2⟩
end
mutual
def wV:PD→Prop
 | .v x=>small x
 | .sl _ l=>l.length≤9223372036854775807∧wW l
def wW:List (List PD)→Prop
 | []=>True
 | it::r=>wX it∧wW r
def wX:List PD→Prop
 | []=>True
 | p::r=>wV p∧wX r
end
mutual
theorem aQ.fct {w:World} {imm:Nat→Prop}:∀(p:PD) (v:Value),aQ w imm p v→wV p
 | .v x,v,h=>by simp only [aQ] at h;simp only [wV];exact h.2
 | .sl k l,v,h=>by
  simp only [aQ] at h;simp only [wV]
  obtain ⟨ao,cap,_,h2,h3,h4⟩:=h
  refine ⟨by unfold maxLen at h3;omega,?_⟩
  rcases h4 with rfl | ⟨b,o,_,_,h5⟩
  ·simp only [wW]
  ·exact bi.fct l b k o h5
theorem bi.fct {w:World} {imm:Nat→Prop}:∀(l:List (List PD)) (b k o:Nat),bi w imm l b k o→wW l
 | [],_,_,_,_=>by simp only [wW]
 | it::r,b,k,o,h=>by
  simp only [bi] at h;simp only [wW]
  exact ⟨aK.fct it b o h.2.1,bi.fct r b k _ h.2.2⟩
theorem aK.fct {w:World} {imm:Nat→Prop}:∀(l:List PD) (b o:Nat),aK w imm l b o→wX l
 | [],_,_,_=>by simp only [wX]
 | p::r,b,o,h=>by
  simp only [aK] at h;simp only [wX]
  obtain ⟨⟨_,c,_,h2⟩,h3⟩:=h
  exact ⟨aQ.fct p c h2,aK.fct r b _ h3⟩
end
mutual
def kW:AV→Prop
 | .d p=>wV p
 | .agg l=>ox l
 | .tup l=>ox l
 | .rp c=>wX c
 | _=>True
def ox:List AV→Prop
 | []=>True
 | a::r=>kW a∧ox r
end
mutual
theorem Rep.fct {s:St}:∀(a:AV) (v:Value),Rep s a v→kW a
 | .d p,v,h=>by simp only [Rep] at h;simp only [kW];exact aQ.fct p v h
 | .agg l,v,h=>by simp only [Rep] at h;simp only [kW];obtain ⟨c,_,h⟩:=h;exact ax.fct l _ h
 | .tup l,v,h=>by simp only [Rep] at h;simp only [kW];obtain ⟨c,_,h⟩:=h;exact ax.fct l _ h
 | .rp c,v,h=>by simp only [Rep] at h;simp only [kW];obtain ⟨b,o,_,_,h⟩:=h;exact aK.fct c b o h
 | .undef,_,_=>by simp only [kW]
 | .ptr _ _,_,_=>by simp only [kW]
 | .ms _ _ _,_,_=>by simp only [kW]
 | .ep _ _ _ _ _,_,_=>by simp only [kW]
 | .mp _,_,_=>by simp only [kW]
 | .fn _ _ _,_,_=>by simp only [kW]
theorem ax.fct {s:St}:∀(l:List AV) (vs:List Value),ax s l vs→ox l
 | [],_,_=>by simp only [ox]
 | a::r,vs,h=>by
  simp only [ax] at h;simp only [ox]
  obtain ⟨x,t,_,h2,h3⟩:=h
  exact ⟨Rep.fct a x h2,ax.fct r t h3⟩
end
end Av
end Go.Proofs.YtdekcppfpgeneaaGreatDoor
namespace Go.Proofs.YtdekcppfpgeneaaGreatDoor
open Go Go.RowKit
namespace Av
structure Oth (s:St) (D:Nat) (w':World):Prop where
 nc:∀arr ty fr,s.w.heap[D]?≠some (.cells arr ty fr)
 nc':∀arr ty fr,w'.heap[D]?≠some (.cells arr ty fr)
 dead:¬s.live D
 size:s.w.heap.size≤w'.heap.size
 same:∀b,b≠D→b<s.w.heap.size→w'.heap[b]?=s.w.heap[b]?
theorem sN {w:World} {b:Nat} (h:∀arr ty fr,w.heap[b]?≠some (.cells arr ty fr)):eS w b=0:=by
 unfold eS
 cases hb:w.heap[b]? with
 | none=>rfl
 | some x=>cases x<;>first | rfl | exact absurd hb (h _ _ _)
theorem ub {w:World} {b o:Nat} {c:Value} (h:w.cell? ⟨b,o,none⟩=some c):∃arr ty fr,w.heap[b]?=some (.cells arr ty fr):=by
 unfold World.cell? at h
 cases hb:w.heap[b]? with
 | none=>simp [hb] at h
 | some x=>cases x<;>first | exact ⟨_,_,_,rfl⟩ | simp [hb] at h
section
variable {s:St} {D:Nat} {w':World} (h:Oth s D w')
include h
theorem Oth.imm {b:Nat} (hb:s.imm b):St.imm ⟨s.μ,s.H,w'⟩ b:=⟨Nat.lt_of_lt_of_le hb.1 h.size,hb.2⟩
theorem Oth.cell {b o:Nat} {c:Value} (hc:s.w.cell? ⟨b,o,none⟩=some c):w'.cell? ⟨b,o,none⟩=some c:=by
 obtain ⟨arr,ty,fr,hb⟩:=ub hc
 have hne:b≠D:=fun e=>h.nc _ _ _ (e ▸ hb)
 rw [ja (h.same b hne (Array.getElem?_eq_some_iff.1 hb).1)]
 exact hc
end
mutual
theorem Oth.prep {s:St} {D:Nat} {w':World} (h:Oth s D w'):∀(p:PD) (v:Value),aQ s.w s.imm p v→aQ w' (St.imm ⟨s.μ,s.H,w'⟩) p v
 | .v x,v,hp=>hp
 | .sl k l,v,hp=>by
  simp only [aQ] at hp ⊢
  obtain ⟨ao,cap,h1,h2,h3,h4⟩:=hp
  refine ⟨ao,cap,h1,h2,h3,?_⟩
  rcases h4 with h4 | ⟨b,o,h4,h5,h6⟩
  ·exact .inl h4
  ·exact .inr ⟨b,o,h4,h.imm h5,Oth.prows h l b k o h6⟩
theorem Oth.prows {s:St} {D:Nat} {w':World} (h:Oth s D w'):∀(l:List (List PD)) (b k o:Nat),bi s.w s.imm l b k o→bi w' (St.imm ⟨s.μ,s.H,w'⟩) l b k o
 | [],_,_,_,_=>by simp only [bi]
 | it::r,b,k,o,hp=>by
  simp only [bi] at hp ⊢
  exact ⟨hp.1,Oth.pcells h it b o hp.2.1,Oth.prows h r b k (o+k) hp.2.2⟩
theorem Oth.pcells {s:St} {D:Nat} {w':World} (h:Oth s D w'):∀(l:List PD) (b o:Nat),aK s.w s.imm l b o→aK w' (St.imm ⟨s.μ,s.H,w'⟩) l b o
 | [],_,_,_=>by simp only [aK]
 | p::r,b,o,hp=>by
  simp only [aK] at hp ⊢
  obtain ⟨⟨h0,c,h1,h2⟩,h3⟩:=hp
  exact ⟨⟨h0,c,h.cell h1,Oth.prep h p c h2⟩,Oth.pcells h r b (o+1) h3⟩
end
section
variable {s:St} {D:Nat} {w':World} (h:Oth s D w')
include h
theorem Oth.bs (b:Nat) (hb:b<s.w.heap.size):eS w' b=eS s.w b:=by
 by_cases e:b=D
 ·subst e
  rw [sN h.nc,sN h.nc']
 ·unfold eS
  rw [h.same b e hb]
theorem Oth.ref (hm:∀l b,s.μ l=some b→(∃o,s.H[l]?=some o∧o.live=true)→b<s.w.heap.size) (l:Nat):aW s ⟨s.μ,s.H,w'⟩ l:=by
 unfold aW
 split
 ·trivial
 ·trivial
 ·assumption
 ·exact .inr ⟨_,‹_›,rfl⟩
 ·rename_i ho
  exact .inr ⟨_,_,‹_›,cG.refl _ _,fun _ _=>⟨rfl,fun b hb=>h.bs b (hm l b hb ⟨_,ho,rfl⟩)⟩⟩
 ·exact .inr ⟨_,‹_›,rfl⟩
end
mutual
theorem Rep.oth {base:World} {s:St} (hs:Sim base s) {D:Nat} {w':World} (h:Oth s D w'):∀(a:AV) (v:Value),Rep s a v→Rep ⟨s.μ,s.H,w'⟩ a v
 | .d p,v,hr=>by simp only [Rep] at hr ⊢;exact h.prep p v hr
 | .undef,v,hr=>by simp only [Rep]
 | .ptr l off,v,hr=>by
  simp only [Rep] at hr ⊢
  exact ⟨hr.1,hr.2.evo (h.ref (fun l b hb ⟨o,h1,h2⟩=>(hs.block h1 h2 hb).2) l)⟩
 | .ms l ver n,v,hr=>by
  simp only [Rep] at hr ⊢
  exact ⟨hr.1,hr.2.evo (h.ref (fun l b hb ⟨o,h1,h2⟩=>(hs.block h1 h2 hb).2) l)⟩
 | .ep l ver n i c,v,hr=>by
  simp only [Rep] at hr ⊢
  exact ⟨hr.1,hr.2.evo (h.ref (fun l b hb ⟨o,h1,h2⟩=>(hs.block h1 h2 hb).2) l)⟩
 | .rp cells,v,hr=>by
  simp only [Rep] at hr ⊢
  obtain ⟨b,o,h1,h2,h3⟩:=hr
  exact ⟨b,o,h1,h.imm h2,h.pcells cells b o h3⟩
 | .mp l,v,hr=>by
  simp only [Rep] at hr ⊢
  exact ⟨hr.1,hr.2.evo (h.ref (fun l b hb ⟨o,h1,h2⟩=>(hs.block h1 h2 hb).2) l)⟩
 | .fn f first caps,v,hr=>by
  simp only [Rep] at hr ⊢
  obtain ⟨a,c,h1,h2,h3⟩:=hr
  exact ⟨a,c,h1,ax.oth hs h first _ h2,ax.oth hs h caps _ h3⟩
 | .agg cells,v,hr=>by
  simp only [Rep] at hr ⊢
  obtain ⟨c,h1,h2⟩:=hr
  exact ⟨c,h1,ax.oth hs h cells _ h2⟩
 | .tup vs,v,hr=>by
  simp only [Rep] at hr ⊢
  obtain ⟨c,h1,h2⟩:=hr
  exact ⟨c,h1,ax.oth hs h vs _ h2⟩
theorem ax.oth {base:World} {s:St} (hs:Sim base s) {D:Nat} {w':World} (h:Oth s D w'):∀(l:List AV) (vs:List Value),ax s l vs→ax ⟨s.μ,s.H,w'⟩ l vs
 | [],vs,hr=>by simp only [ax] at hr ⊢;exact hr
 | a::r,vs,hr=>by
  simp only [ax] at hr ⊢
  obtain ⟨x,t,h1,h2,h3⟩:=hr
  exact ⟨x,t,h1,Rep.oth hs h a x h2,ax.oth hs h r t h3⟩
end
theorem aR.oth {base:World} {s:St} (hs:Sim base s) {D:Nat} {w':World} (h:Oth s D w'):∀(es:List (Value × AV)) (l:List MapEntry),aR s es l→aR ⟨s.μ,s.H,w'⟩ es l
 | [],_,hr=>hr
 | (k,a)::r,l,hr=>by
  obtain ⟨x,t,h1,h2,h3,h4⟩:=hr
  exact ⟨x,t,h1,h2,Rep.oth hs h a _ h3,aR.oth hs h r t h4⟩
theorem Sim.oth {base:World} {s:St} (hs:Sim base s) {D:Nat} {w':World} (h:Oth s D w') (hD:base.heap.size≤D) (hos:w'.os=s.w.os) (htape:w'.tape=s.w.tape) (hout:w'.output=s.w.output):Sim base ⟨s.μ,s.H,w'⟩:=by
 have hbs:base.heap.size≤s.w.heap.size:=hs.below.size
 refine ⟨⟨hos.trans hs.below.os,htape.trans hs.below.tape,hout.trans hs.below.output,Nat.le_trans hbs h.size,fun c hc => ?_⟩,fun l o ho => ?_,hs.inj⟩
 ·show w'.heap[c]?=_
  rw [h.same c (by omega) (by omega)]
  exact hs.below.block c hc
 ·have hob:=hs.obj l o ho
  have hne:∀{b x},o.live=true→s.μ l=some b→s.w.heap[b]?=some x→w'.heap[b]?=some x:=fun {b x} hl hb hx=>by
   rw [h.same b (fun e=>h.dead ⟨l,o,ho,hl,e ▸ hb⟩) (Array.getElem?_eq_some_iff.1 hx).1];exact hx
  cases o with
  | free=>trivial
  | dead=>trivial
  | box ty cells =>
   obtain ⟨b,arr,h1,h2,h3,h4⟩:=hob
   exact ⟨b,arr,h1,h2,hne rfl h1 h3,ax.oth hs h _ _ h4⟩
  | row ty k ver items =>
   obtain ⟨h0,h9,hob⟩:=hob
   refine ⟨h0,h9,?_⟩
   rcases hob with hob | ⟨b,arr,f,r,h1,h2,h3,h4,h5⟩
   ·exact .inl hob
   ·exact .inr ⟨b,arr,f,r,h1,h2,hne rfl h1 h3,h4,ax.oth hs h _ _ h5⟩
  | mp kt et ks es =>
   obtain ⟨h0,b,ents,clock,h1,h2,h3,h4,h5⟩:=hob
   exact ⟨h0,b,ents,clock,h1,h2,hne rfl h1 h3,aR.oth hs h _ _ h4,h5⟩
theorem Evo.oth {base:World} {N:Nat} {s0 s:St} (he:Evo N s0 s) (hs:Sim base s) {D:Nat} {w':World} (h:Oth s D w') (hD:s0.w.heap.size≤D):Evo N s0 ⟨s.μ,s.H,w'⟩:=by
 refine ⟨⟨Nat.le_trans he.keeps.size h.size,fun b hb=>h.imm (he.keeps.imm b hb),fun b hb => ?_⟩,fun l hl=>(he.refs l hl).trans (h.ref (fun l b hb ⟨o,h1,h2⟩=>(hs.block h1 h2 hb).2) l)⟩
 have h1:=he.keeps.size
 have h2:=hb.1
 rw [show (⟨s.μ,s.H,w'⟩:St).w.heap[b]?=s.w.heap[b]? from h.same b (by omega) (by omega)]
 exact he.keeps.heap b hb
theorem jM {s:St} {D:Nat} {x y:Obj} (hx:s.w.heap[D]?=some x) (hn:∀arr ty fr,x ≠ .cells arr ty fr) (hn':∀arr ty fr,y ≠ .cells arr ty fr) (hd:¬s.live D):Oth s D (s.w.putObj D y) where
 nc:=fun arr ty fr e=>hn arr ty fr (Option.some.inj (hx.symm.trans e))
 nc':=fun arr ty fr e=>by
  rw [World.putObj_heap_same (Array.getElem?_eq_some_iff.1 hx).1] at e
  exact hn' arr ty fr (Option.some.inj e)
 dead:=hd
 size:=by simp
 same:=fun b hb _=>World.putObj_heap_other hb
end Av
end Go.Proofs.YtdekcppfpgeneaaGreatDoor
namespace Go.Proofs.YtdekcppfpgeneaaGreatDoor
open Go Go.RowKit
namespace Av
variable {n0:Nat}
structure Ctx where
 P:Program
 tt:aY
 base:World
 N:Nat
 rd:Option Nat:=none
def flr:Option Nat→St→Nat
 | none,s=>s.w.heap.size
 | some _,_=>0
def km (X:Ctx) (s:St) (Q:Exit→List AV→av→Prop):Exit→Act→World→Prop:=fun x a w =>
 ∃μ env H,Q x env H∧X.N≤H.length∧Sim X.base ⟨μ,H,w⟩∧bz (flr X.rd s) ⟨μ,H,w⟩ env a∧Evo X.N s ⟨μ,H,w⟩
def AW (X:Ctx) (c:Code) (Q:Exit→List AV→av→Prop) (env:List AV) (H:av):Prop :=
 ∀(s0:St) (μ:Nat→Option Nat) (a:Act) (w:World),X.N≤H.length→Sim X.base ⟨μ,H,w⟩→bz (flr X.rd s0) ⟨μ,H,w⟩ env a→Evo X.N s0 ⟨μ,H,w⟩→c.wpIn (FR X.rd) 9 X.P (km X s0 Q) a w
section
variable {X:Ctx} {Q:Exit→List AV→av→Prop} {env:List AV} {H:av}
theorem AW.mono {Q':Exit→List AV→av→Prop} {c:Code} (h:AW X c Q env H) (hq:∀x env H,Q x env H→Q' x env H):AW X c Q' env H :=
 fun s0 μ a w hN hs he hev=>Go.wpIn_mono (h s0 μ a w hN hs he hev) fun x a w ⟨μ,env,H,h1,h2⟩=>⟨μ,env,H,hq _ _ _ h1,h2⟩
def ux (next:List AV→av→Prop) (Q:Exit→List AV→av→Prop):Exit→List AV→av→Prop
 | .normal,env,H=>next env H
 | x,env,H=>Q x env H
theorem ap (h:Q .normal env H):AW X .skip Q env H:=fun s0 μ a w hN hs he hev=>wpIn_skip ⟨μ,env,H,h,hN,hs,he,hev⟩
theorem aq {id:Nat} (h:Q (.exit id) env H):AW X (.exit id) Q env H:=fun s0 μ a w hN hs he hev=>wpIn_exit ⟨μ,env,H,h,hN,hs,he,hev⟩
theorem aw (h:Q .ret env H):AW X .ret Q env H:=fun s0 μ a w hN hs he hev=>wpIn_ret ⟨μ,env,H,h,hN,hs,he,hev⟩
theorem ag {x y:Code} (h:AW X x (ux (fun env H=>AW X y Q env H) Q) env H):AW X (.seq x y) Q env H:=by
 intro s0 μ a w hN hs he hev
 refine wpIn_seq (Go.wpIn_mono (h s0 μ a w hN hs he hev) ?_)
 rintro e a w ⟨μ,env,H,h1,h2,h3,h4,h5⟩
 cases e with
 | normal=>exact h1 s0 μ a w h2 h3 h4 h5
 | exit id=>exact ⟨μ,env,H,h1,h2,h3,h4,h5⟩
 | goto l=>exact ⟨μ,env,H,h1,h2,h3,h4,h5⟩
 | ret=>exact ⟨μ,env,H,h1,h2,h3,h4,h5⟩
 | panic ch=>exact ⟨μ,env,H,h1,h2,h3,h4,h5⟩
 | outgrown=>exact ⟨μ,env,H,h1,h2,h3,h4,h5⟩
theorem am {c:Operand} {x y:Code} {b:Bool} (hc:bV env c = .d (.v (.bool b))) (ho:d9 c=true) (ht:b=true→AW X x Q env H) (hf:b=false→AW X y Q env H):AW X (.cond c x y) Q env H:=by
 intro s0 μ a w hN hs he hev
 have h:=he.eval ho
 rw [hc] at h
 simp only [Rep,aQ] at h
 exact wpIn_cond_split h.1 (fun e=>ht e s0 μ a w hN hs he hev) fun e=>hf e s0 μ a w hN hs he hev
def rU (id:Nat) (Q:Exit→List AV→av→Prop):Exit→List AV→av→Prop
 | .exit id',env,H=>if id'=id then Q .normal env H else Q (.exit id') env H
 | x,env,H=>Q x env H
theorem an {id:Nat} {c:Code} (h:AW X c (rU id Q) env H):AW X (.block id c) Q env H:=by
 intro s0 μ a w hN hs he hev
 refine wpIn_block (Go.wpIn_mono (h s0 μ a w hN hs he hev) ?_)
 rintro e a w ⟨μ,env,H,h1,h2,h3,h4,h5⟩
 cases e with
 | normal=>exact ⟨μ,env,H,h1,h2,h3,h4,h5⟩
 | exit id' =>
  simp only [rU] at h1
  simp only [Exit.inBlock]
  split at h1
  ·rename_i e;rw [if_pos e];exact ⟨μ,env,H,h1,h2,h3,h4,h5⟩
  ·rename_i e;rw [if_neg e];exact ⟨μ,env,H,h1,h2,h3,h4,h5⟩
 | goto l=>exact ⟨μ,env,H,h1,h2,h3,h4,h5⟩
 | ret=>exact ⟨μ,env,H,h1,h2,h3,h4,h5⟩
 | panic ch=>exact ⟨μ,env,H,h1,h2,h3,h4,h5⟩
 | outgrown=>exact ⟨μ,env,H,h1,h2,h3,h4,h5⟩
theorem dQ {id:Nat} {ops:Array Oper} (hT:bD X.P X.tt) (hc:fV ops=true) (h:aL X.P X.tt X.base ops ops.toList env H (fun env H=>Q .normal env H)):AW X (.region id ops false) Q env H:=by
 intro s0 μ a w hN hs he hev
 let Q0:Exit→Act→World→Prop:=fun x a w=>x = .normal∧km X s0 Q x a w
 refine Go.wpIn_mono (Q:=Q0) (wpIn_region ?_) fun x a w h=>h.2
 have:=mB hT (mj hc) (Q:=Q0) s0 X.N (fun env H μ w a h hN hs he hev=>⟨rfl,μ,env,H,h,hN,hs,he,hev⟩) ops.toList 0 rfl env H μ w a h hN hs he hev
 rw [Array.length_toList,←List.range_eq_range'] at this
 exact mm (pT hc) (fun ⟨a,w,h⟩=>by cases h.1) _ _ _ this
def aJ:List AV→List AV→Prop
 | [],[]=>True
 | a::r,b::t=>(b = .undef∨a=b)∧aJ r t
 | _,_=>False
theorem aJ.rep {s:St}:∀{l m:List AV} {vs:List Value},aJ l m→ax s l vs→ax s m vs
 | [],[],vs,_,h=>h
 | [],_::_,_,h,_=>h.elim
 | _::_,[],_,h,_=>h.elim
 | a::r,b::t,vs,h,k=>by
  simp only [ax] at k ⊢
  obtain ⟨x,ts,h1,h2,h3⟩:=k
  refine ⟨x,ts,h1,?_,h.2.rep h3⟩
  rcases h.1 with rfl | rfl
  ·simp only [Rep]
  ·exact h2
def mc (X:Ctx) (env:List AV) (H:av) (env':List AV) (H':av):Prop :=
 aJ env env'∧((H=H')∨(X.N≤H'.length∧aS H'.length env'∧ft H'.length H'∧∃G,H=H'++G))
theorem mc.state {env':List AV} {H':av} (h:mc X env H env' H') {s0:St} {μ:Nat→Option Nat} {a:Act} {w:World} (hN:X.N≤H.length) (hs:Sim X.base ⟨μ,H,w⟩) (he:bz (flr X.rd s0) ⟨μ,H,w⟩ env a) (hev:Evo X.N s0 ⟨μ,H,w⟩) :
  X.N≤H'.length∧Sim X.base ⟨μ,H',w⟩∧bz (flr X.rd s0) ⟨μ,H',w⟩ env' a∧Evo X.N s0 ⟨μ,H',w⟩:=by
 obtain ⟨h1,h2⟩:=h
 have he':bz (flr X.rd s0) ⟨μ,H,w⟩ env' a:=⟨he.defers,h1.rep he.rep⟩
 rcases h2 with rfl | ⟨h2,h3,h4,G,hG⟩
 ·exact ⟨hN,hs,he',hev⟩
 ·have hc:=hs.cut (H:=H') (G:=G) hG h4 h2
  exact ⟨h2,hc.1,⟨he.defers.keeps hc.2.keeps,ax.cut (s:=⟨μ,H,w⟩) (H:=H') (G:=G) hG _ _ he'.rep h3⟩,hev.trans hc.2⟩
theorem ke {c:Code} {env':List AV} {H':av} (hg:mc X env H env' H') (h:AW X c Q env' H'):AW X c Q env H:=by
 intro s0 μ a w hN hs he hev
 obtain ⟨h1,h2,h3,h4⟩:=hg.state hN hs he hev
 exact h s0 μ a w h1 h2 h3 h4
theorem ql {p:Nat→Prop} (h:∃n,p n):∃n,p n∧∀m,p m→n≤m:=by
 obtain ⟨n,hn⟩:=h
 induction n using Nat.strongRecOn with
 | _ n ih =>
  by_cases hm:∃m,m<n∧p m
  ·obtain ⟨m,h1,h2⟩:=hm;exact ih m h1 h2
  ·exact ⟨n,hn,fun m hp=>Nat.le_of_not_lt fun hl=>hm ⟨m,hl,hp⟩⟩
theorem aZ {c:Code} (J:Nat→List AV→av→Prop) {n:Nat} {env0:List AV} {H0:av} (hg:mc X env H env0 H0) (h0:J n env0 H0)
  (round:∀n env H,J n env H→X.N≤H.length→AW X c (ux (fun env' H'=>∃m env'' H'',m<n∧mc X env' H' env'' H''∧J m env'' H'') Q) env H):AW X (.loop c) Q env H:=by
 refine ke hg ?_
 intro s0 μ a w hN hs he hev
 let I:Nat→Act→World→Prop:=fun n a w=>∃μ env H,J n env H∧X.N≤H.length∧Sim X.base ⟨μ,H,w⟩∧bz (flr X.rd s0) ⟨μ,H,w⟩ env a∧Evo X.N s0 ⟨μ,H,w⟩
 have hmu:∀a w,∃k,(∃n,I n a w)→(I k a w∧∀m,I m a w→k≤m):=fun a w=>by
  by_cases h:∃n,I n a w
  ·obtain ⟨k,h1,h2⟩:=ql h
   exact ⟨k,fun _=>⟨h1,h2⟩⟩
  ·exact ⟨0,fun h'=>absurd h' h⟩
 let me:Act→World→Nat:=fun a w=>Classical.choose (hmu a w)
 have hme:∀a w,(∃n,I n a w)→(I (me a w) a w∧∀m,I m a w→me a w≤m):=fun a w=>Classical.choose_spec (hmu a w)
 refine wpIn_loop (fun a w=>∃n,I n a w) me ⟨n,μ,env0,H0,h0,hN,hs,he,hev⟩ ?_
 intro a w hI
 obtain ⟨⟨μ,env,H,h1,h2,h3,h4,h5⟩,hleast⟩:=hme a w hI
 refine Go.wpIn_mono (round _ env H h1 h2 s0 μ a w h2 h3 h4 h5) ?_
 rintro e a' w' ⟨μ',env',H',k1,k2,k3,k4,k5⟩
 cases e with
 | normal =>
  obtain ⟨m,env'',H'',hm,hgo,hJ⟩:=k1
  obtain ⟨g1,g2,g3,g4⟩:=hgo.state k2 k3 k4 k5
  have hIm:I m a' w':=⟨μ',env'',H'',hJ,g1,g2,g3,g4⟩
  exact ⟨⟨m,hIm⟩,Nat.lt_of_le_of_lt ((hme a' w' ⟨m,hIm⟩).2 m hIm) hm⟩
 | exit id=>exact ⟨μ',env',H',k1,k2,k3,k4,k5⟩
 | goto l=>exact ⟨μ',env',H',k1,k2,k3,k4,k5⟩
 | ret=>exact ⟨μ',env',H',k1,k2,k3,k4,k5⟩
 | panic ch=>exact ⟨μ',env',H',k1,k2,k3,k4,k5⟩
 | outgrown=>exact ⟨μ',env',H',k1,k2,k3,k4,k5⟩
end
def er (tt:aY) (H:av) (env:List AV):ResultVar→Option AV
 | .tmp t=>some (env.getD t .undef)
 | .cell a t=>iN tt H t (env.getD a .undef)
def cN (tt:aY) (H:av) (env:List AV):List ResultVar→Option (List AV)
 | []=>some []
 | r::l=>(er tt H env r).bind fun a=>(cN tt H env l).map (a :: ·)
def bk (tt:aY) (H:av) (env:List AV) (rs:List ResultVar):Option AV:=(cN tt H env rs).map fun l=>match l with
 | [a]=>a
 | l => .tup l
theorem bz.slot {s:St} {env:List AV} {a:Act} (h:bz n0 s env a) (t:Nat):Rep s (env.getD t .undef) (a.tmps.getD t Go.undef):=h.eval (x := .tmp t) rfl
theorem rx {tt:aY} {s:St} {t:Nat} {x r:AV} {v:Value} (hv:Rep s x v) (h:iN tt s.H t x=some r):∃a,v = .pointer (some a):=by
 unfold iN at h
 split at h
 ·cases h
 ·split at h
  ·simp only [Rep] at hv;exact hv.1
  ·simp only [Rep] at hv;exact hv.1
  ·simp only [Rep] at hv;obtain ⟨b,o,h,_⟩:=hv;exact ⟨_,h⟩
  ·cases h
def mV (tmps:Array Value):ResultVar→Sem Value
 | .tmp t=>pure (tmps.getD t Go.undef)
 | .cell p t=>do loadVar t (←asAddr (tmps.getD p Go.undef))
theorem lV {P:Program} {tt:aY} (hT:bD P tt) {base:World} {s:St} (hs:Sim base s) {env:List AV} {a:Act} (he:bz n0 s env a):∀(rs:List ResultVar) (l:List AV),cN tt s.H env rs=some l →
  ∃vs,(rs.mapM (mV a.tmps)).run P s.w = .ok vs s.w∧ax s l vs
 | [],l,h=>by simp only [cN,Option.some.injEq] at h;subst h;exact ⟨[],by simp,.nil⟩
 | r::rs,l,h=>by
  simp only [cN] at h
  obtain ⟨x,h1,h2⟩:=Option.bind_eq_some_iff.1 h
  simp only [Option.map_eq_some_iff] at h2
  obtain ⟨l',h2,rfl⟩:=h2
  obtain ⟨vs,k1,k2⟩:=lV hT hs he rs l' h2
  cases r with
  | tmp t =>
   simp only [er,Option.some.injEq] at h1
   subst h1
   exact ⟨a.tmps.getD t Go.undef::vs,by simp [List.mapM_cons,mV,k1],.cons (he.slot t) k2⟩
  | cell p t =>
   simp only [er] at h1
   have hp:=he.slot p
   obtain ⟨ad,had⟩:=rx hp h1
   obtain ⟨y,y1,y2⟩:=lW hT hs hp h1
   rw [had] at y1
   have y1':(loadVar t ad).run P s.w = .ok y s.w:=by simpa [Instr.loadAt,Instr.sureAddr] using y1
   exact ⟨y::vs,by simp [List.mapM_cons,mV,k1,had,asAddr,y1'],.cons y2 k2⟩
theorem oB {P:Program} {tt:aY} (hT:bD P tt) {base:World} {s:St} (hs:Sim base s) {env:List AV} {a:Act} (he:bz n0 s env a) {fn:Func} {r:AV} (h:bk tt s.H env fn.results.toList=some r) :
  ∃v,(results fn a.tmps).run P s.w = .ok v s.w∧Rep s r v:=by
 unfold bk at h
 simp only [Option.map_eq_some_iff] at h
 obtain ⟨l,h1,h2⟩:=h
 obtain ⟨vs,k1,k2⟩:=lV hT hs he _ l h1
 have hm:(fn.results.mapM (mV a.tmps)).run P s.w = .ok vs.toArray s.w:=by
  rw [←Array.toArray_toList (xs:=fn.results),List.mapM_toArray]
  simp only [Sem.run_map,k1,Result.andThen_ok]
 have hr:(results fn a.tmps).run P s.w = .ok (if h:vs.toArray.size=1 then vs.toArray[0] else .tuple vs.toArray) s.w:=by
  have e:results fn a.tmps=(fn.results.mapM (mV a.tmps) >>= fun vs=>pure (if h:vs.size=1 then vs[0] else .tuple vs)):=by
   unfold results
   congr 2
  rw [e,Sem.run_bind,hm]
  rfl
 refine ⟨_,hr,?_⟩
 have hlen:=k2.length
 split at h2
 ·subst h2
  obtain ⟨v,rfl⟩:∃v,vs=[v]:=by
   match vs,hlen with
   | [v],_=>exact ⟨v,rfl⟩
  simp only [ax] at k2
  obtain ⟨x,t,e,k3,rfl⟩:=k2
  cases e
  simpa using k3
 ·rename_i hne
  subst h2
  rw [dif_neg (by
   intro e
   simp only [List.size_toArray] at e
   match l,hlen.trans e with
   | [x],_=>exact hne x rfl)]
  simp only [Rep]
  exact ⟨_,rfl,by simpa using k2⟩
theorem rK {P:Program} {tt:aY} (hT:bD P tt) {base:World} {s0:St} (hs0:Sim base s0) {fn:Func} {N:Nat} {env:List AV} {tmps:Array Value} {μ:Nat→Option Nat} {H:av} {r:AV} {R:AV→av→Prop} (k1:bk tt H env fn.results.toList=some r) (k2:R r H) (hN:N≤H.length) :
  ∀(Ds:List Nat) (w:World),Ds.Nodup→(∀D∈Ds,s0.w.heap.size≤D∧St.imm ⟨μ,H,w⟩ D∧w.heap[D]?=some (.deferred (some [])))→Sim base ⟨μ,H,w⟩→ax ⟨μ,H,w⟩ env tmps.toList→Evo N s0 ⟨μ,H,w⟩ →
   LeavesInM Fence.wide 9 P fn tmps (fun e w'=>∃v r H' μ',e = .returned v∧R r H'∧N≤H'.length∧Sim base ⟨μ',H',w'⟩∧Rep ⟨μ',H',w'⟩ r v∧Evo N s0 ⟨μ',H',w'⟩) (Ds.map fG) .returning w
 | [],w,_,_,hs,he,hev=>by
  obtain ⟨v,m1,m2⟩:=oB hT hs (bz.mk (n0:=0) (a:=⟨tmps,[]⟩) (dg.nil 0 _) he) k1
  exact ⟨v,m1,v,r,H,μ,rfl,k2,hN,hs,m2,hev⟩
 | D::Ds,w,hnd,hD,hs,he,hev=>by
  obtain ⟨d1,d2,d3⟩:=hD D (by simp)
  obtain ⟨n1,n2⟩:=List.nodup_cons.1 hnd
  have hb:=hs0.below.size
  have ho:Oth ⟨μ,H,w⟩ D (w.putObj D (.deferred none)):=jM (s:=⟨μ,H,w⟩) d3 (fun _ _ _ e=>by cases e) (fun _ _ _ e=>by cases e) d2.2
  refine ⟨by simp,.inl ⟨D,_,rfl,run_takeDeferred d3,rK hT hs0 k1 k2 hN Ds _ n2 (fun E hE => ?_) (hs.oth ho (by omega) rfl rfl rfl) (ax.oth hs ho _ _ he) (hev.oth hs ho d1)⟩⟩
  obtain ⟨e1,e2,e3⟩:=hD E (by simp [hE])
  have hne:E≠D:=fun e=>n1 (e ▸ hE)
  exact ⟨e1,ho.imm e2,(World.putObj_heap_other hne).trans e3⟩
def Cy (tt:aY) (rs:List ResultVar) (R:AV→av→Prop):Exit→List AV→av→Prop
 | .normal,env,H | .ret,env,H=>∃r,bk tt H env rs=some r∧R r H
 | _,_,_=>False
theorem b9 {P:Program} {tt:aY} (hT:bD P tt) {base:World} {f:FuncId} {fn:Func} {c:Code} {args:List AV} {H:av} {R:AV→av→Prop} (hcall:∀(vs:Array Value) (w:World),(callFunc f vs).run P w = .ok (.enter f vs) w) (hf:P.funcs[f]?=some fn) (hb:fn.body=some c)
  (h:ft H.length H→aS H.length args→ox args→AW ⟨P,tt,base,H.length,none⟩ c (Cy tt fn.results.toList R) (args++List.replicate (fn.ntmps - args.length) .undef) H):bR P base f args H R:=by
 refine ⟨hcall,fun μ w vs hs ha => ?_⟩
 refine callsIn_wide (n:=9).1 (callsIn_of_wp_marks hf hb trivial ?_)
 have hlen:=ha.length
 have he:bz w.heap.size ⟨μ,H,w⟩ (args++List.replicate (fn.ntmps - args.length) .undef) { tmps:=vs++Array.replicate (fn.ntmps - vs.size) Go.undef,defers:=[] }:=by
  refine ⟨dg.nil _ _,?_⟩
  simp only [Array.toList_append,Array.toList_replicate]
  refine ha.append ?_
  rw [hlen,Array.length_toList]
  generalize fn.ntmps - vs.size=k
  induction k with
  | zero=>exact .nil
  | succ k ih=>exact .cons (by simp only [Rep]) ih
 have hw:=h hs.hbel (ax.bel _ _ ha) (ax.fct _ _ ha) ⟨μ,H,w⟩ μ _ w (Nat.le_refl _) hs he (.refl _ _)
 refine Go.wpIn_mono hw ?_
 rintro e a w' ⟨μ',env,H',h1,h2,h3,h4,h5⟩
 have fin:(∃r,bk tt H' env fn.results.toList=some r∧R r H')→LeavesInM Fence.wide 9 P fn a.tmps (fun e w'=>∃v r H' μ',e = .returned v∧R r H'∧H.length≤H'.length∧Sim base ⟨μ',H',w'⟩∧Rep ⟨μ',H',w'⟩ r v∧Evo H.length ⟨μ,H,w⟩ ⟨μ',H',w'⟩) a.defers .returning w':=by
  rintro ⟨r,k1,k2⟩
  obtain ⟨Ds,e1,e2,e3⟩:=h4.defers
  rw [e1]
  exact rK hT hs k1 k2 h2 Ds w' e2 e3 h3 h4.rep h5
 cases e with
 | normal=>exact fin h1
 | ret=>exact fin h1
 | exit id=>exact h1.elim
 | goto l=>exact h1.elim
 | panic ch=>exact h1.elim
 | outgrown=>exact h1.elim
def Ep (n:Nat) (r:AV) (H:av) (r':AV) (H':av):Prop:=n≤H'.length∧ft H'.length H'∧(∃G,H=H'++G)∧cM H H'.length r=some r'
theorem bR.sealUp {P:Program} {base:World} {f:FuncId} {args:List AV} {H:av} {R:AV→av→Prop} (h:bR P base f args H fun r H'=>∃r' H'',Ep H.length r H' r' H''∧R r' H''):bR P base f args H R :=
 ⟨h.enter,fun μ w vs hs ha=>(h.run μ w vs hs ha).mono fun e w' ⟨v,r,H',μ',h1,⟨r',H'',⟨q1,q2,⟨G,q3⟩,q4⟩,q5⟩,h3,h4,h5,h6⟩ =>
  have hc:=h4.cut (s:=⟨μ',H',w'⟩) (H:=H'') (G:=G) q3 q2 q1
  ⟨v,r',H'',μ',h1,q5,q1,hc.1,Rep.sealUp h4 (s:=⟨μ',H',w'⟩) (H:=H'') (G:=G) q3 _ _ _ h5 q4,h6.trans hc.2⟩⟩
def aI (P:Program) (base:World) (f:FuncId) (args:List AV) (r:AV):Prop:=∀H,bR P base f args H fun r' H'=>r'=r∧H'=H
theorem aC {P:Program} {tt:aY} (hT:bD P tt) {base:World} {f:FuncId} {fn:Func} {c:Code} {args:List AV} {r:AV} (hcall:∀(vs:Array Value) (w:World),(callFunc f vs).run P w = .ok (.enter f vs) w) (hf:P.funcs[f]?=some fn) (hb:fn.body=some c)
  (h:∀H,ft H.length H→aS H.length args→ox args→AW ⟨P,tt,base,H.length,none⟩ c (Cy tt fn.results.toList fun r' H'=>∃G,H'=H++G∧cM H' H.length r'=some r) (args++List.replicate (fn.ntmps - args.length) .undef) H):aI P base f args r:=fun H =>
 .sealUp (b9 hT hcall hf hb fun hB hb hF=>(h H hB hb hF).mono fun x env H' hq=>by
  cases x with
  | normal=>obtain ⟨r0,h1,G,h2,h3⟩:=hq;exact ⟨r0,h1,r,H,⟨Nat.le_refl _,hB,⟨G,h2⟩,h3⟩,rfl,rfl⟩
  | ret=>obtain ⟨r0,h1,G,h2,h3⟩:=hq;exact ⟨r0,h1,r,H,⟨Nat.le_refl _,hB,⟨G,h2⟩,h3⟩,rfl,rfl⟩
  | _=>exact hq)
end Av
end Go.Proofs.YtdekcppfpgeneaaGreatDoor
namespace Go.Proofs.YtdekcppfpgeneaaGreatDoor
open Go Go.RowKit
namespace Av
theorem qe {P:Program} {t:Nat} {i:TypeInfo} (h:P.types[t]?=some i):P.info? t=some i:=by
 have hl:=(Array.getElem?_eq_some_iff.1 h).1
 unfold Tables.info?
 simp [h]
 intro hle
 omega
def tiB (P:Program) (t:Nat) (ti:TI) (i:TypeInfo):Bool :=
 i.size == ti.size&&i.bytes == ti.bytes&&ti.zero.length == ti.size&&(ti.agg||ti.size == 1)&&ti.zero.all (fun z=>mS z&&z.oneCell')
def C5 (P:Program) (t:Nat) (ti:TI):Bool:=match P.underlying t with
 | some d=>decide (dH d=ti.kind)&&(match d with
  | .struct fs=>(fs.toList.mapM (fun f=>(P.info? f.type).map fun i=>(f.offset,i.size))).isSome
  | _=>true)
 | none=>false
theorem aU {P:Program} {t:Nat} {ti:TI} {i:TypeInfo} (h:P.types[t]?=some i) (h1:tiB P t ti i=true) (h2:C5 P t ti=true) (h3:i.zero=some ti.zval) (hf:∀ks,ti.flat=some ks→og P t ks):bC P t ti:=by
 simp only [tiB,Bool.and_eq_true,Bool.or_eq_true,beq_iff_eq,List.all_eq_true] at h1
 obtain ⟨⟨⟨⟨a1,a2⟩,a3⟩,a4⟩,a5⟩:=h1
 unfold C5 at h2
 split at h2
 case h_2=>cases h2
 rename_i d hd
 simp only [Bool.and_eq_true,decide_eq_true_eq] at h2
 refine ⟨⟨i,qe h,a1,a2,h3⟩,⟨d,hd,h2.1⟩,a3,fun z hz=>⟨gI (a5 z hz).1,(a5 z hz).2⟩,a4,fun fs hfs => ?_,hf⟩
 rw [hd] at hfs
 cases hfs
 exact h2.2
end Av
end Go.Proofs.YtdekcppfpgeneaaGreatDoor
namespace Go.Proofs.YtdekcppfpgeneaaGreatDoor
open Go Go.RowKit
namespace Av
def cP (o:Option aN) (l ver m:Nat):AV:=match o with
 | some (.row _ k ver' items)=>if ver=ver'∧m=items.length then match unI items with
  | some L => .d (.sl k L)
  | none => .ms l ver m
  else .ms l ver m
 | _ => .ms l ver m
mutual
def bY (o:Option aN) (l:Nat):AV→AV
 | .ms l' ver m=>if l'=l then cP o l ver m else .ms l' ver m
 | .agg c => .agg (bU o l c)
 | .tup c => .tup (bU o l c)
 | .d p => .d p
 | .undef => .undef
 | .ptr a b => .ptr a b
 | .ep a b c d e => .ep a b c d e
 | .rp c => .rp c
 | .mp a => .mp a
 | .fn f a c => .fn f (bU o l a) (bU o l c)
def bU (o:Option aN) (l:Nat):List AV→List AV
 | []=>[]
 | a::r=>bY o l a::bU o l r
end
theorem Sim.kill {base:World} {s:St} (hs:Sim base s) (l:Nat):Sim base ⟨s.μ,s.H.set l .dead,s.w⟩∧∀N,Evo N s ⟨s.μ,s.H.set l .dead,s.w⟩:=by
 have hg:∀x o,(s.H.set l .dead)[x]?=some o→(x=l∧o = .dead)∨(x≠l∧s.H[x]?=some o):=by
  intro x o h
  by_cases e:x=l
  ·subst e
   have hl:x<s.H.length:=by have:=aF h;simpa using this
   rw [aE hl] at h
   cases h
   exact .inl ⟨rfl,rfl⟩
  ·rw [aV e] at h
   exact .inr ⟨e,h⟩
 have hev:∀N,Evo N s ⟨s.μ,s.H.set l .dead,s.w⟩:=by
  intro N
  refine ⟨⟨Nat.le_refl _,fun b hb=>⟨hb.1,?_⟩,fun b hb=>rfl⟩,fun x hx => ?_⟩
  ·rintro ⟨x,o,h1,h2,h3⟩
   rcases hg x o h1 with ⟨rfl,rfl⟩ | ⟨_,h⟩
   ·cases h2
   ·exact hb.2 ⟨x,o,h,h2,h3⟩
  ·by_cases e:x=l
   ·subst e
    unfold aW
    simp only
    split
    ·trivial
    ·trivial
    ·rename_i h;rw [aE (aF h)]
    ·rename_i h;rw [aE (aF h)];exact .inl rfl
    ·rename_i h;rw [aE (aF h)];exact .inl rfl
    ·rename_i h;rw [aE (aF h)];exact .inl rfl
   ·exact .of_eq (aV e) rfl fun _ _=>rfl
 refine ⟨⟨hs.below,fun x o h => ?_,fun x y o o' b h1 h2 k1 k2 m1 m2 => ?_⟩,hev⟩
 ·rcases hg x o h with ⟨rfl,rfl⟩ | ⟨_,h'⟩
  ·trivial
  ·exact (hs.obj x o h').evo (hev _) (fun _=>rfl) fun _ _ _=>rfl
 ·rcases hg x o h1 with ⟨rfl,rfl⟩ | ⟨_,h1'⟩
  ·cases k1
  rcases hg y o' h2 with ⟨rfl,rfl⟩ | ⟨_,h2'⟩
  ·cases k2
  exact hs.inj x y o o' b h1' h2' k1 k2 m1 m2
theorem Sim.die {base:World} {s:St} (hs:Sim base s) {l b:Nat} {o:aN} (ho:s.H[l]?=some o) (hlv:o.live=true) (hμ:s.μ l=some b) {w':World}
  (hos:w'.os=s.w.os) (htape:w'.tape=s.w.tape) (hout:w'.output=s.w.output) (hsize:s.w.heap.size≤w'.heap.size)
  (hne:∀c,c≠b→c<s.w.heap.size→w'.heap[c]?=s.w.heap[c]?) :
  Sim base ⟨s.μ,s.H.set l .dead,w'⟩∧∀N,Evo N s ⟨s.μ,s.H.set l .dead,w'⟩:=by
 have hl:=aF ho
 have hbk:=hs.block ho hlv hμ
 have hg:∀x o,(s.H.set l .dead)[x]?=some o→(x=l∧o = .dead)∨(x≠l∧s.H[x]?=some o):=by
  intro x o h
  by_cases e:x=l
  ·subst e
   rw [aE hl] at h
   cases h
   exact .inl ⟨rfl,rfl⟩
  ·rw [aV e] at h
   exact .inr ⟨e,h⟩
 have hoth:∀x o' b',s.H[x]?=some o'→o'.live=true→s.μ x=some b'→x≠l→w'.heap[b']?=s.w.heap[b']?:=fun x o' b' h1 h2 h3 h4 =>
  hne b' (fun e=>h4 (hs.inj x l o' o b h1 ho h2 hlv (e ▸ h3) hμ)) (hs.block h1 h2 h3).2
 have himm:∀c,s.imm c→c≠b:=fun c hc e=>hc.2 ⟨l,o,ho,hlv,e ▸ hμ⟩
 have hev:∀N,Evo N s ⟨s.μ,s.H.set l .dead,w'⟩:=by
  intro N
  refine ⟨⟨hsize,fun c hc=>⟨Nat.lt_of_lt_of_le hc.1 hsize,?_⟩,fun c hc=>hne c (himm c hc) hc.1⟩,fun x hx => ?_⟩
  ·rintro ⟨x,o,h1,h2,h3⟩
   rcases hg x o h1 with ⟨rfl,rfl⟩ | ⟨_,h⟩
   ·cases h2
   ·exact hc.2 ⟨x,o,h,h2,h3⟩
  ·by_cases e:x=l
   ·subst e
    unfold aW
    simp only
    split
    ·trivial
    ·trivial
    ·rename_i h;rw [aE (aF h)]
    ·rename_i h;rw [aE (aF h)];exact .inl rfl
    ·rename_i h;rw [aE (aF h)];exact .inl rfl
    ·rename_i h;rw [aE (aF h)];exact .inl rfl
   ·unfold aW
    simp only [aV e]
    split
    ·trivial
    ·trivial
    ·assumption
    ·exact .inr ⟨_,‹_›,(by first | rfl | trivial)⟩
    ·rename_i hd
     refine .inr ⟨_,_,‹_›,cG.refl _ _,fun _ _=>⟨(by first | rfl | trivial),fun b2 hb2 => ?_⟩⟩
     unfold eS
     rw [hoth _ _ _ hd rfl hb2 e]
    ·exact .inr ⟨_,‹_›,(by first | rfl | trivial)⟩
 have hb:=hs.below
 refine ⟨⟨⟨hos.trans hb.os,htape.trans hb.tape,hout.trans hb.output,Nat.le_trans hb.size hsize,fun c hc => ?_⟩,fun x o' h => ?_,fun x y o o' b h1 h2 k1 k2 m1 m2 => ?_⟩,hev⟩
 ·show w'.heap[c]?=_
  have:=hb.size
  rw [hne c (by have:=hbk.1;omega) (by omega)]
  exact hb.block c hc
 ·rcases hg x o' h with ⟨rfl,rfl⟩ | ⟨hx,h'⟩
  ·trivial
  ·exact (hs.obj x o' h').evo (hev _) (fun _=>rfl) fun h2 b' h3=>hoth x o' b' h' h2 h3 hx
 ·rcases hg x o h1 with ⟨rfl,rfl⟩ | ⟨_,h1'⟩
  ·cases k1
  rcases hg y o' h2 with ⟨rfl,rfl⟩ | ⟨_,h2'⟩
  ·cases k2
  exact hs.inj x y o o' b h1' h2' k1 k2 m1 m2
theorem pF {w:World} {imm imm':Nat→Prop} (hi:∀b,imm b→imm' b):∀(L:List (List PD)) (b k o:Nat),bi w imm L b k o→bi w imm' L b k o
 | [],_,_,_,_=>by simp only [bi]
 | it::r,b,k,o,h=>by
  simp only [bi] at h ⊢
  have cells:∀(l:List PD) (o:Nat),aK w imm l b o→aK w imm' l b o:=by
   intro l
   induction l with
   | nil=>intro o _;simp only [aK]
   | cons p l ih =>
    intro o h
    simp only [aK] at h ⊢
    obtain ⟨⟨h0,c,h1,h2⟩,h3⟩:=h
    exact ⟨⟨h0,c,h1,aQ.on hi (fun _ _=>rfl) p c h2⟩,ih _ h3⟩
  exact ⟨h.1,cells it o h.2.1,pF hi r b k (o+k) h.2.2⟩
mutual
theorem Rep.frz {base:World} {s:St} (hs:Sim base s) (l:Nat):∀(a:AV) (v:Value),Rep s a v→Rep ⟨s.μ,s.H.set l .dead,s.w⟩ (bY s.H[l]? l a) v
 | .ms l' ver m,v,h=>by
  have hold:Rep ⟨s.μ,s.H.set l .dead,s.w⟩ (.ms l' ver m) v:=Rep.evo ((hs.kill l).2 _) _ _ h
  simp only [bY]
  by_cases e:l'=l
  case neg=>rw [if_neg e];exact hold
  subst e
  rw [if_pos rfl]
  unfold cP
  split
  case h_2=>exact hold
  rename_i ty k ver' items ho
  split
  case isFalse=>exact hold
  rename_i c
  split
  case h_2=>exact hold
  rename_i L e1
  have hi:=pJ e1
  simp only [Rep,cB,ho] at h
  obtain ⟨_,_,h⟩:=h
  simp only [Rep,aQ]
  have hLl:L.length=items.length:=by rw [hi];simp [dI]
  rcases h c.1 c.2 with ⟨m1,rfl,m3⟩ | ⟨b,cap,m1,rfl,m3,m4,m5⟩
  ·have:L=[]:=List.eq_nil_of_length_eq_zero (by omega)
   subst this
   exact ⟨none,0,rfl,Nat.le_refl _,by unfold maxLen;omega,.inl rfl⟩
  ·obtain ⟨h0,h9,hobj⟩:=hs.obj l' _ ho
   rcases hobj with ⟨q1,_⟩ | ⟨b',arr,f,rs,q1,q2,q3,q4,q5⟩
   ·rw [m1] at q1;cases q1
   ·rw [m1] at q1;cases q1
    refine ⟨some ⟨b,0,none⟩,cap,by rw [hLl,c.2],by rw [hLl,←c.2];exact m3,m4,.inr ⟨b,0,rfl,⟨(Array.getElem?_eq_some_iff.1 q3).1,?_⟩,?_⟩⟩
    ·rintro ⟨x,o',k1,k2,k3⟩
     by_cases e:x=l'
     ·subst e
      simp only [aE (aF ho),Option.some.injEq] at k1
      subst k1
      cases k2
     ·simp only [aV e] at k1
      exact e (hs.inj x l' _ _ b k1 ho k2 rfl k3 m1)
    ·subst hi
     have:=fT q3 L 0 f (fun j v hj=>by
      have h1:arr.toList[j]?=some v:=by rw [q4,List.getElem?_append_left (List.getElem?_eq_some_iff.1 hj).1];exact hj
      simpa using h1) h0 h9 q5
     exact pF ((hs.kill l').2 0).keeps.imm L b k 0 this
 | .d p,v,h=>by simp only [bY];exact Rep.evo ((hs.kill l).2 _) _ _ h
 | .undef,v,h=>by simp only [bY,Rep]
 | .ptr x y,v,h=>by simp only [bY];exact Rep.evo ((hs.kill l).2 _) _ _ h
 | .ep x y z u t,v,h=>by simp only [bY];exact Rep.evo ((hs.kill l).2 _) _ _ h
 | .rp c,v,h=>by simp only [bY];exact Rep.evo ((hs.kill l).2 _) _ _ h
 | .mp x,v,h=>by simp only [bY];exact Rep.evo ((hs.kill l).2 _) _ _ h
 | .fn f a b,v,h=>by
  simp only [bY,Rep] at h ⊢
  obtain ⟨p,q,h1,h2,h3⟩:=h
  exact ⟨p,q,h1,ax.frz hs l a _ h2,ax.frz hs l b _ h3⟩
 | .agg c,v,h=>by
  simp only [bY,Rep] at h ⊢
  obtain ⟨p,h1,h2⟩:=h
  exact ⟨p,h1,ax.frz hs l c _ h2⟩
 | .tup c,v,h=>by
  simp only [bY,Rep] at h ⊢
  obtain ⟨p,h1,h2⟩:=h
  exact ⟨p,h1,ax.frz hs l c _ h2⟩
theorem ax.frz {base:World} {s:St} (hs:Sim base s) (l:Nat):∀(az:List AV) (vs:List Value),ax s az vs→ax ⟨s.μ,s.H.set l .dead,s.w⟩ (bU s.H[l]? l az) vs
 | [],vs,h=>by simp only [bU,ax] at h ⊢;exact h
 | a::r,vs,h=>by
  simp only [bU,ax] at h ⊢
  obtain ⟨x,t,h1,h2,h3⟩:=h
  exact ⟨x,t,h1,Rep.frz hs l a _ h2,ax.frz hs l r _ h3⟩
end
end Av
end Go.Proofs.YtdekcppfpgeneaaGreatDoor
namespace Go.Proofs.YtdekcppfpgeneaaGreatDoor
open Go Go.RowKit
section
variable {P:Program} {ops:Array Oper} {md:Region.Mode}
def db (ops:Array Oper) (i:Nat):Option Tmp:=(ops[i]?).bind (·.dst)
theorem gN {i:Nat} {o:Oper} (h:ops[i]?=some o):db ops i=o.dst:=by simp [db,h]
def br (ops:Array Oper) (a0:Act) (u:Nat→Value):Nat→Act
 | 0=>a0
 | k+1=>(br ops a0 u k).put (db ops k) (u k)
def jV (md:Region.Mode) (ops:Array Oper) (n:Nat):Bool :=
 Region.noSelect ops&&decide (n≤ops.size) &&
 ((List.range n).all fun j=>(match ops[j]? with
  | some oj=>oj.after.all fun e => !Region.binds md e||decide (e.on<j)
  | none=>true)) &&
 ((List.range n).all fun j=>(List.range n).all fun i=>match db ops i,ops[j]? with
  | some d,some oj=>(i == j||oj.dst != some d)&&(!(oj.looksAt ops).contains d||(decide (i<j)&&Region.waitsFor md ops j i))
  | _,_=>true)
structure bX (ops:Array Oper) (a0:Act) (u:Nat→Value) (S:Nat→Prop) (a:Act):Prop where
 defers:a.defers=a0.defers
 size:a.tmps.size=a0.tmps.size
 old:∀t,(∀i,S i→db ops i≠some t)→a.tmps[t]?=a0.tmps[t]?
 new:∀i d,S i→db ops i=some d→a.tmps[d]?=(a0.tmps[d]?).map fun _=>u i
theorem bX.nil {a0:Act} {u:Nat→Value} {S:Nat→Prop} (h:∀i,¬S i):bX ops a0 u S a0 :=
 ⟨rfl,rfl,fun _ _=>rfl,fun i _ hi=>absurd hi (h i)⟩
theorem bX.put {a0 a:Act} {u:Nat→Value} {S T:Nat→Prop} (h:bX ops a0 u S a) (j:Nat) (hd:∀i,S i→∀d,db ops j=some d→db ops i≠some d)
  (hT:∀i,T i↔S i∨i=j):bX ops a0 u T (a.put (db ops j) (u j)):=by
 cases hj:db ops j with
 | none =>
  refine ⟨h.defers,h.size,fun t ht=>h.old t fun i hi=>ht i ((hT i).2 (.inl hi)),fun i d hi hid => ?_⟩
  rcases (hT i).1 hi with hi | rfl
  ·exact h.new i d hi hid
  ·rw [hj] at hid;cases hid
 | some t0 =>
  have hs:(a.put (some t0) (u j)).tmps.size=a0.tmps.size:=by simp [Act.put,h.size]
  refine ⟨h.defers,hs,fun t ht => ?_,fun i d hi hid => ?_⟩
  ·have hne:t0≠t:=fun e=>ht j ((hT j).2 (.inr rfl)) (by rw [hj,e])
   have:=h.old t fun i hi=>ht i ((hT i).2 (.inl hi))
   simp only [Act.put]
   rw [Array.getElem?_setIfInBounds_ne hne]
   exact this
  ·rcases (hT i).1 hi with hi | rfl
   ·have hne:t0≠d:=fun e=>hd i hi t0 hj (by rw [hid,e])
    simp only [Act.put]
    rw [Array.getElem?_setIfInBounds_ne hne]
    exact h.new i d hi hid
   ·rw [hj] at hid
    cases hid
    simp only [Act.put]
    rw [Array.getElem?_setIfInBounds_self]
    by_cases hlt:a.tmps.size≤t0
    ·have h9:a0.tmps.size≤t0:=by have:=h.size;omega
     rw [if_neg (Nat.not_lt.2 hlt),Array.getElem?_eq_none h9];rfl
    ·have h8:=Nat.lt_of_not_le hlt
     have h9 : @LT.lt Nat _ t0 a0.tmps.size:=by have:=h.size;omega
     rw [if_pos h8,Array.getElem?_eq_getElem h9];rfl
theorem bX.congr {a0 a:Act} {u v:Nat→Value} {S:Nat→Prop} (h:bX ops a0 u S a) (e:∀i,S i→u i=v i):bX ops a0 v S a :=
 ⟨h.defers,h.size,h.old,fun i d hi hid=>by rw [h.new i d hi hid,e i hi]⟩
theorem bX.same {a0 a b:Act} {u:Nat→Value} {S T:Nat→Prop} (h:bX ops a0 u S a) (k:bX ops a0 u T b) (t:Tmp) (e:∀i,db ops i=some t→(S i↔T i)) :
  a.tmps[t]?=b.tmps[t]?:=by
 by_cases hx:∃i,S i∧db ops i=some t
 ·obtain ⟨i,hi,hd⟩:=hx
  rw [h.new i t hi hd,k.new i t ((e i hd).1 hi) hd]
 ·rw [h.old t fun i hi hd=>hx ⟨i,hi,hd⟩,k.old t fun i hi hd=>hx ⟨i,(e i hd).2 hi,hd⟩]
theorem bX.eq {a0 a b:Act} {u:Nat→Value} {S T:Nat→Prop} (h:bX ops a0 u S a) (k:bX ops a0 u T b) (e:∀i,S i↔T i):a=b:=by
 have h1:a.tmps=b.tmps:=by
  apply Array.ext_getElem?
  intro t
  exact h.same k t fun i _=>e i
 have h2:a.defers=b.defers:=h.defers.trans k.defers.symm
 cases a;cases b
 simp only at h1 h2
 rw [h1,h2]
structure je (md:Region.Mode) (ops:Array Oper) (n:Nat):Prop where
 sel:Region.noSelect ops=true
 le:n≤ops.size
 edge:∀j oj,j<n→ops[j]?=some oj→∀e∈oj.after,Region.binds md e=true→e.on<j
 apart:∀i j,i<n→j<n→i≠j→∀d,db ops i=some d→db ops j≠some d
 look:∀i j,i<n→j<n→∀d oj,db ops i=some d→ops[j]?=some oj→d∈oj.looksAt ops→i<j∧Region.waitsFor md ops j i=true
theorem rL {n:Nat} (h:jV md ops n=true):je md ops n:=by
 simp only [jV,Bool.and_eq_true,decide_eq_true_eq] at h
 obtain ⟨⟨⟨h1,h2⟩,h3⟩,h4⟩:=h
 refine ⟨h1,h2,fun j oj hj ho e he hb => ?_,fun i j hi hj hne d hd hd2 => ?_,fun i j hi hj d oj hd ho hl => ?_⟩
 ·have:=List.all_eq_true.1 h3 j (List.mem_range.2 hj)
  simp only [ho,Array.all_eq_true_iff_forall_mem] at this
  have:=this e he
  simp only [hb,Bool.not_true,Bool.false_or,decide_eq_true_eq] at this
  exact this
 ·have hlt:j<ops.size:=by omega
  have:=List.all_eq_true.1 (List.all_eq_true.1 h4 j (List.mem_range.2 hj)) i (List.mem_range.2 hi)
  have ho:ops[j]?=some ops[j]:=Array.getElem?_eq_getElem hlt
  rw [gN ho] at hd2
  simp only [hd,ho,Bool.and_eq_true,Bool.or_eq_true,beq_iff_eq,bne_iff_ne] at this
  rcases this.1 with h | h
  ·exact hne h
  ·exact h hd2
 ·have:=List.all_eq_true.1 (List.all_eq_true.1 h4 j (List.mem_range.2 hj)) i (List.mem_range.2 hi)
  simp only [hd,ho,Bool.and_eq_true,Bool.or_eq_true,Bool.not_eq_true',decide_eq_true_eq] at this
  rcases this.2 with h | h
  ·rw [List.contains_eq_mem,decide_eq_false_iff_not] at h
   exact absurd hl h
  ·exact h
theorem ir {n:Nat} (hF:je md ops n) (a0:Act) (u:Nat→Value):∀k,k≤n→bX ops a0 u (· < k) (br ops a0 u k)
 | 0,_=>bX.nil fun i hi=>by omega
 | k+1,hk=>(ir hF a0 u k (by omega)).put k (fun i hi d hd=>fun e=>hF.apart i k (by omega) (by omega) (by omega) d e hd) (fun i=>by omega)
theorem pG {o:Oper} {t t':Array Value} (h:∀d,d∈o.looksAt ops→t[d]?=t'[d]?):Region.wanted o (yielded ops t)=Region.wanted o (yielded ops t'):=by
 unfold Region.wanted
 cases hg:o.guard with
 | none=>rfl
 | some gw =>
  obtain ⟨g,want⟩:=gw
  have hy:yielded ops t g=yielded ops t' g:=by
   unfold yielded
   cases ht:(ops[g]?).bind (·.dst) with
   | none=>rfl
   | some d =>
    have:=h d (by simp [Oper.looksAt,hg,ht])
    simp only [Option.bind_some,this]
  simp only [hy]
theorem tV {o:Oper} (hs:∀cs b,o.op ≠ .select cs b) {a b:Act} (h:∀d,d∈o.looksAt ops→a.tmps[d]?=b.tmps[d]?):execOp a.eval o=execOp b.eval o :=
 execOp_congr o hs fun x hx=>by
  cases x with
  | tmp d =>
   have:=h d (List.mem_append_left _ (List.mem_filterMap.2 ⟨.tmp d,by simpa using hx,rfl⟩))
   simp only [Act.eval,Array.getD_eq_getD_getElem?,this]
  | _=>rfl
def upd (u:Nat→Value) (j:Nat) (v:Value):Nat→Value:=fun i=>if i=j then v else u i
theorem upd_same (u:Nat→Value) (j:Nat) (v:Value):upd u j v j=v:=if_pos rfl
theorem upd_ne (u:Nat→Value) {i j:Nat} (v:Value) (h:i≠j):upd u j v i=u i:=if_neg h
theorem jS (n:Nat) (L:Array Bool):∀m,m≤n→(∀i,i<m→L.getD i true=true)∨∃i,i<m∧L.getD i true=false∧∀k,k<i→L.getD k true=true
 | 0,_ => .inl fun i hi=>by omega
 | m+1,hm=>by
  rcases jS n L m (by omega) with h | ⟨i,hi,h1,h2⟩
  ·cases hL:L.getD m true with
   | true =>
    left
    intro i hi
    rcases Nat.lt_or_ge i m with h' | h'
    ·exact h i h'
    ·rw [show i=m by omega];exact hL
   | false=>exact .inr ⟨m,by omega,hL,h⟩
  ·exact .inr ⟨i,by omega,h1,h2⟩
def unl (L:Array Bool):Nat→Nat
 | 0=>0
 | m+1=>unl L m+if L.getD m true then 0 else 1
theorem pI (L:Array Bool) (j:Nat) (hj:L.getD j true=false):∀n,(j<n→unl L n=unl (L.setIfInBounds j true) n+1)∧(n≤j→unl L n=unl (L.setIfInBounds j true) n)
 | 0=>⟨fun h=>by omega,fun _=>rfl⟩
 | m+1=>by
  obtain ⟨h1,h2⟩:=pI L j hj m
  have hjs:j<L.size:=by
   rcases Nat.lt_or_ge j L.size with h | h
   ·exact h
   ·simp [Array.getElem?_eq_none h] at hj
  refine ⟨fun h => ?_,fun h => ?_⟩
  ·by_cases e:j=m
   ·subst e
    rw [unl,unl,h2 (Nat.le_refl _),hj]
    have:(L.setIfInBounds j true).getD j true=true:=by simp [hjs]
    rw [this];rfl
   ·rw [unl,unl,h1 (by omega),getD_set_ne true e];omega
  ·rw [unl,unl,h2 (by omega),getD_set_ne true (by omega)]
theorem qY (L:Array Bool):∀n,unl L n=0→∀i,i<n→L.getD i true=true
 | 0,_,i,hi=>by omega
 | m+1,h,i,hi=>by
  rw [unl] at h
  rcases Nat.lt_or_ge i m with h' | h'
  ·exact qY L m (by omega) i h'
  ·rw [show i=m by omega]
   cases hL:L.getD m true with
   | true=>rfl
   | false=>rw [hL] at h;simp at h
theorem uv (k:Nat):∀n,n≤k→unl (Array.replicate k false) n=n
 | 0,_=>rfl
 | m+1,h=>by
  rw [unl,uv k m (by omega)]
  simp [show m<k by omega]
def lJ (ops:Array Oper) (n:Nat):Array Bool:=(Array.range ops.size).map fun i=>decide (i<n)
def lz (md:Region.Mode) (ops:Array Oper) (n:Nat):Bool :=
 (n == ops.size||(Region.sinkB md ops n&&Region.chainB md ops n))&&Region.seqB md ops (ops.size - n) n (lJ ops n)
end
end Go.Proofs.YtdekcppfpgeneaaGreatDoor
namespace Go.Proofs.YtdekcppfpgeneaaGreatDoor
open Go Go.RowKit
namespace Av
def AV.ref:AV→Option Nat
 | .ptr l _=>some l
 | .ms l _ _=>some l
 | .ep l _ _ _ _=>some l
 | .mp l=>some l
 | _=>none
section
variable {tt:aY} {H H':av}
theorem xn {t:Nat} {a:AV} (h:∀l,a.ref=some l→H[l]?=H'[l]?):iN tt H t a=iN tt H' t a:=by
 unfold iN
 cases tt t with
 | none=>rfl
 | some ti =>
  cases a with
  | d p=>cases p with
   | v x=>cases x with
    | map q=>cases q<;>rfl
    | slice q n c=>cases q<;>cases n<;>cases c<;>rfl
    | _=>rfl
   | sl k l=>rfl
  | ptr l off=>simp only [AV.ref,Option.some.injEq,forall_eq'] at h;simp only [h]
  | ms l ver n=>simp only [AV.ref,Option.some.injEq,forall_eq'] at h;simp only [h]
  | ep l ver n i c=>simp only [AV.ref,Option.some.injEq,forall_eq'] at h;simp only [h]
  | mp l=>simp only [AV.ref,Option.some.injEq,forall_eq'] at h;simp only [h]
  | _=>rfl
theorem nX {t:Nat} {a ix:AV} (h:∀l,a.ref=some l→H[l]?=H'[l]?):dq tt H t a ix=dq tt H' t a ix:=by
 unfold dq
 cases tt t with
 | none=>rfl
 | some ti =>
 cases fc ix with
 | none=>rfl
 | some ki =>
 obtain ⟨ki,i⟩:=ki
 obtain ⟨sz,byt,kind,zero,flat⟩:=ti
 cases kind<;>try rfl
 all_goals
   cases a with
   | d p=>cases p with
    | v x=>cases x with
     | map q=>cases q<;>rfl
     | slice q n c=>cases q<;>cases n<;>cases c<;>rfl
     | _=>rfl
    | sl k l=>rfl
   | ptr l off=>simp only [AV.ref,Option.some.injEq,forall_eq'] at h;simp only [h]
   | ms l ver n=>simp only [AV.ref,Option.some.injEq,forall_eq'] at h;simp only [h]
   | ep l ver n i c=>simp only [AV.ref,Option.some.injEq,forall_eq'] at h;simp only [h]
   | mp l=>simp only [AV.ref,Option.some.injEq,forall_eq'] at h;simp only [h]
   | _=>rfl
theorem um {t:Nat} {a:AV} {lo hi mx:Option AV} (h:∀l,a.ref=some l→H[l]?=H'[l]?):iK tt H t a lo hi mx=iK tt H' t a lo hi mx:=by
 unfold iK
 cases tt t with
 | none=>rfl
 | some ti =>
 obtain ⟨sz,byt,kind,zero,flat⟩:=ti
 cases mx<;>cases kind<;>try rfl
 all_goals
   cases a with
   | d p=>cases p with
    | v x=>cases x with
     | map q=>cases q<;>rfl
     | slice q n c=>cases q<;>cases n<;>cases c<;>rfl
     | _=>rfl
    | sl k l=>rfl
   | ptr l off=>simp only [AV.ref,Option.some.injEq,forall_eq'] at h;simp only [h]
   | ms l ver n=>simp only [AV.ref,Option.some.injEq,forall_eq'] at h;simp only [h]
   | ep l ver n i c=>simp only [AV.ref,Option.some.injEq,forall_eq'] at h;simp only [h]
   | mp l=>simp only [AV.ref,Option.some.injEq,forall_eq'] at h;simp only [h]
   | _=>rfl
theorem sY {t:Nat} {a k:AV} {ok:Bool} (h:∀l,a.ref=some l→H[l]?=H'[l]?):fB tt H t a k ok=fB tt H' t a k ok:=by
 unfold fB
 cases tt t with
 | none=>rfl
 | some ti =>
 cases lw k with
 | none=>rfl
 | some key =>
 obtain ⟨sz,byt,kind,zero,flat⟩:=ti
 cases kind<;>try rfl
 all_goals
   cases a with
   | d p=>cases p with
    | v x=>cases x with
     | map q=>cases q<;>rfl
     | slice q n c=>cases q<;>cases n<;>cases c<;>rfl
     | _=>rfl
    | sl k l=>rfl
   | ptr l off=>simp only [AV.ref,Option.some.injEq,forall_eq'] at h;simp only [h]
   | ms l ver n=>simp only [AV.ref,Option.some.injEq,forall_eq'] at h;simp only [h]
   | ep l ver n i c=>simp only [AV.ref,Option.some.injEq,forall_eq'] at h;simp only [h]
   | mp l=>simp only [AV.ref,Option.some.injEq,forall_eq'] at h;simp only [h]
   | _=>rfl
theorem wA {t:Nat} {a:AV} (h:∀l,a.ref=some l→H[l]?=H'[l]?):lenOf tt H t a=lenOf tt H' t a:=by
 unfold lenOf
 cases tt t with
 | none=>rfl
 | some ti =>
 obtain ⟨sz,byt,kind,zero,flat⟩:=ti
 cases kind<;>try rfl
 all_goals
   cases a with
   | d p=>cases p with
    | v x=>cases x with
     | map q=>cases q<;>rfl
     | slice q n c=>cases q<;>cases n<;>cases c<;>rfl
     | _=>rfl
    | sl k l=>rfl
   | ptr l off=>simp only [AV.ref,Option.some.injEq,forall_eq'] at h;simp only [h]
   | ms l ver n=>simp only [AV.ref,Option.some.injEq,forall_eq'] at h;simp only [h]
   | ep l ver n i c=>simp only [AV.ref,Option.some.injEq,forall_eq'] at h;simp only [h]
   | mp l=>simp only [AV.ref,Option.some.injEq,forall_eq'] at h;simp only [h]
   | _=>rfl
theorem lU {k:Nat} {a:AV} (h:∀l,a.ref=some l→H[l]?=H'[l]?):eW H k a=eW H' k a:=by
 unfold eW
 cases a with
 | d p=>cases p with
  | v x=>cases x with
   | map q=>cases q<;>rfl
   | slice q n c=>cases q<;>cases n<;>cases c<;>rfl
   | _=>rfl
  | sl k l=>rfl
 | ptr l off=>simp only [AV.ref,Option.some.injEq,forall_eq'] at h;simp only [h]
 | ms l ver n=>simp only [AV.ref,Option.some.injEq,forall_eq'] at h;simp only [h]
 | ep l ver n i c=>simp only [AV.ref,Option.some.injEq,forall_eq'] at h;simp only [h]
 | mp l=>simp only [AV.ref,Option.some.injEq,forall_eq'] at h;simp only [h]
 | _=>rfl
theorem uo {a b:Nat} {x:AV} (h:∀l,x.ref=some l→H[l]?=H'[l]?):iQ tt H a b x=iQ tt H' a b x:=by
 unfold iQ
 simp only [lU h]
theorem Ap {t tx k:Nat} {a:AV} (h:∀l,a.ref=some l→H[l]?=H'[l]?):sX tt H t tx k a=sX tt H' t tx k a:=by
 unfold sX
 rw [lU h]
theorem wa {t:Nat} {x y:AV} (h:∀l,x.ref=some l→H[l]?=H'[l]?):lE tt H t x y=lE tt H' t x y:=by
 unfold lE
 cases x with
 | ptr l off=>simp only [AV.ref,Option.some.injEq,forall_eq'] at h;simp only [h]
 | _=>rfl
theorem sZ {t tx:Nat} {a x:AV} {l:Nat} (h:∀l,a.ref=some l→H[l]?=H'[l]?) (hx:∀l,x.ref=some l→H[l]?=H'[l]?):fC tt H t tx a x l=fC tt H' t tx a x l:=by
 unfold fC
 simp only [Ap hx]
 cases tt t with
 | none=>rfl
 | some ti =>
 obtain ⟨sz,byt,kind,zero,flat⟩:=ti
 cases kind<;>try rfl
 all_goals
   cases a with
   | d p=>cases p with
    | v x=>cases x with
     | map q=>cases q<;>rfl
     | slice q n c=>cases q<;>cases n<;>cases c<;>rfl
     | _=>rfl
    | sl k l=>rfl
   | ptr l off=>simp only [AV.ref,Option.some.injEq,forall_eq'] at h;simp only [h]
   | ms l ver n=>simp only [AV.ref,Option.some.injEq,forall_eq'] at h;simp only [h]
   | ep l ver n i c=>simp only [AV.ref,Option.some.injEq,forall_eq'] at h;simp only [h]
   | mp l=>simp only [AV.ref,Option.some.injEq,forall_eq'] at h;simp only [h]
   | _=>rfl
def fe:Op→Bool
 | .store _ _ _ | .mapUpdate _ _ _ _ | .insert _ _ _ _ | .mapEntry _ _ _ | .entryStore _ _ _ _=>false
 | _=>true
theorem vw {l:Nat} {ρ:Operand→AV} {o:Op} (hh:fe o=true) (h:∀x∈o.operands,∀l,(ρ x).ref=some l→H[l]?=H'[l]?):aop tt H l ρ o=aop tt H' l ρ o:=by
 cases o with
 | load t a=>simp only [aop];rw [xn (h a (by simp [Op.operands]))]
 | store t a x=>cases hh
 | mapUpdate t a x y=>cases hh
 | insert t a x y=>cases hh
 | mapEntry t a x=>cases hh
 | entryStore t a x y=>cases hh
 | indexAddr t a ix=>simp only [aop];rw [nX (h a (by simp [Op.operands]))]
 | binOp op t x y yt=>simp only [aop];rw [wa (h x (by simp [Op.operands]))]
 | slice t x lo hi mx=>simp only [aop];rw [um (h x (by simp [Op.operands]))]
 | lookup t m k ok=>simp only [aop];rw [sY (h m (by simp [Op.operands]))]
 | convert a b x =>
  have hx:=h x (by simp [Op.operands])
  simp only [aop]
  generalize ρ x=y at hx
  split
  ·rfl
  ·rw [uo hx]
 | call c =>
  obtain ⟨callee,args,ts⟩:=c
  cases callee with
  | builtin b =>
   simp only [aop]
   have hm:∀y∈args.toList.map ρ,∀l,y.ref=some l→H[l]?=H'[l]?:=fun y hy=>by
    obtain ⟨x,hx,rfl⟩:=List.mem_map.1 hy
    exact h x (by simp [Op.operands,Call.operands];simpa using hx)
   unfold iR
   generalize args.toList.map ρ=az at hm
   split
   ·exact sZ (hm _ (by simp)) (hm _ (by simp))
   ·rw [wA (hm _ (by simp))]
   ·rfl
   ·rfl
   ·rfl
  | _=>rfl
 | _=>rfl
end
def hfz (o:Op) (r:AV) (ob:aN):AV × Option aN:=match o,r,ob with
 | .buildSlice _ _ _,.ms _ ver m,.row _ k ver' items=>if ver=ver'∧m=items.length then match unI items with
  | some L=>(.d (.sl k L),some .dead)
  | none=>(r,some ob)
  else (r,some ob)
 | _,_,_=>(r,some ob)
def dC (tt:aY) (H:av) (env:List AV) (o:Op):Option (AV × Option aN) :=
 if jv (bV env) o=true then match aop tt (H++[.free]) H.length (bV env) o with
  | some (r,some (l,ob))=>if l=H.length then some (hfz o r ob) else none
  | _=>none
 else match aop tt H 0 (bV env) o with
  | some (r,none)=>some (r,none)
  | _=>none
theorem xo {tt:aY} {t len l:Nat} {ps:List (Nat × AV)} {r:AV} {q:Option (Nat × aN)} (h:dr tt t len ps l=some (r,q)):r = .ms l 0 len:=by
 unfold dr at h
 split at h
 ·split at h
  ·split at h
   ·split at h
    ·simp only [Option.some.injEq,Prod.mk.injEq] at h;exact h.1.symm
    ·cases h
   ·cases h
  ·cases h
 ·cases h
theorem zb {base:World} {s0:St} {N:Nat} {S:av} {n:Nat} {o:Op} {r r2:AV} {ob:aN} {q:Option aN} (hn:n<S.length) (hx:hfz o r ob=(r2,q)) (hms:∀t k ps,o = .buildSlice t k ps→∃m,r = .ms n 0 m) :
  ∃ob2,q=some ob2∧∀μ w v,Sim base ⟨μ,S.set n ob,w⟩→Rep ⟨μ,S.set n ob,w⟩ r v→Evo N s0 ⟨μ,S.set n ob,w⟩→Sim base ⟨μ,S.set n ob2,w⟩∧Rep ⟨μ,S.set n ob2,w⟩ r2 v∧Evo N s0 ⟨μ,S.set n ob2,w⟩:=by
 have same:(r,some ob)=(r2,q)→∃ob2,q=some ob2∧∀μ w v,Sim base ⟨μ,S.set n ob,w⟩→Rep ⟨μ,S.set n ob,w⟩ r v→Evo N s0 ⟨μ,S.set n ob,w⟩→Sim base ⟨μ,S.set n ob2,w⟩∧Rep ⟨μ,S.set n ob2,w⟩ r2 v∧Evo N s0 ⟨μ,S.set n ob2,w⟩:=fun e=>by
  simp only [Prod.mk.injEq] at e
  obtain ⟨rfl,rfl⟩:=e
  exact ⟨ob,rfl,fun _ _ _ a b c=>⟨a,b,c⟩⟩
 unfold hfz at hx
 split at hx
 ·rename_i t1 k1 ps1 l1 ver1 m1 ty1 kk1 ver2 items1
  obtain ⟨m0,e0⟩:=hms _ _ _ rfl
  simp only [AV.ms.injEq] at e0
  obtain ⟨rfl,rfl,rfl⟩:=e0
  split at hx
  ·rename_i hc
   split at hx
   ·rename_i L hu
    simp only [Prod.mk.injEq] at hx
    obtain ⟨rfl,rfl⟩:=hx
    refine ⟨.dead,rfl,fun μ w v h1 h2 h3 => ?_⟩
    have a1:=h1.kill l1
    have a2:=Rep.frz h1 l1 _ _ h2
    have a3:=h3.trans (a1.2 N)
    have ge:(S.set l1 (.row ty1 kk1 ver2 items1))[l1]?=some (.row ty1 kk1 ver2 items1):=aE hn
    simp only [ge,bY,cP,if_true,if_pos hc,hu,List.set_set] at a2
    simp only [List.set_set] at a1 a3
    exact ⟨a1.1,a2,a3⟩
   ·exact same hx
  ·exact same hx
 ·exact same hx
end Av
end Go.Proofs.YtdekcppfpgeneaaGreatDoor
