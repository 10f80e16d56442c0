/- Natural numbers as lists of digits in base 2^16: the reference. No program. -/
import Derived.Test.YtijdglogadnbcaaGreatY03
import Derived.Deep.LoopGhost
set_option linter.unusedVariables false
set_option linter.unusedSimpArgs false
set_option maxRecDepth 100000
set_option maxHeartbeats 40000000
namespace Go.Proofs.YtijdglogadnbcaaGreat.Nh
open Go.Proofs.Tryz
def vl:List Nat→Nat
 | []=>0
 | x::l=>x+65536*vl l
def Lm (l:List Nat):Prop:=∀x∈l,x<65536
def aC (n:Nat):List Nat:=if h:n=0 then []else n%65536::aC (n/65536)
termination_by n
decreasing_by omega
theorem aA:aC 0=[]:=by rw[aC];simp
theorem bM {n:Nat}(h:n≠0):aC n=n%65536::aC (n/65536):=by rw[aC];simp[h]
theorem bD (n:Nat):Lm (aC n):=by
 induction n using Nat.strongRecOn with
 | _ n ih=>
  by_cases h:n=0
  ·subst h;rw[aA];intro x hx;simp at hx
  ·rw[bM h]
   intro x hx
   rcases List.mem_cons.1 hx with e | e
   ·rw[e];exact Nat.mod_lt _ (by omega)
   ·exact ih (n/65536) (by omega) x e
theorem au (n:Nat):vl (aC n)=n:=by
 induction n using Nat.strongRecOn with
 | _ n ih=>
  by_cases h:n=0
  ·subst h;rw[aA];rfl
  ·rw[bM h]
   show n%65536+65536*vl (aC (n/65536))=n
   rw[ih (n/65536) (by omega)]
   omega
def gV (l:List Nat):List Nat:=aC (vl l)
theorem bY (a b:List Nat):vl (a++b)=vl a+65536^a.length*vl b:=by
 induction a with
 | nil=>simp[vl]
 | cons x a ih=>
  simp only[List.cons_append,vl,ih,List.length_cons,Nat.pow_succ]
  rw[Nat.mul_add,Nat.add_assoc,←Nat.mul_assoc,Nat.mul_comm 65536 (65536^a.length)]
theorem dD {l:List Nat}(h:Lm l):vl l<65536^l.length:=by
 induction l with
 | nil=>simp[vl]
 | cons x l ih=>
  have h1:=ih fun y hy=>h y (List.mem_cons_of_mem _ hy)
  have h2:=h x List.mem_cons_self
  simp only[vl,List.length_cons,Nat.pow_succ]
  generalize 65536^l.length=p at*
  omega
theorem lI (l:List Nat):vl (l++[0])=vl l:=by rw[bY];simp[vl]
theorem mJ {x:Nat}{l:List Nat}(hx:x<65536):gV (x::l)=if x=0∧vl l=0 then []else x::gV l:=by
 unfold gV;have e:vl (x::l)=x+65536*vl l:=rfl;rw[e];by_cases h:x=0∧vl l=0
 ·rw[if_pos h,h.1,h.2];exact aA
 rw[if_neg h,bM (by omega)];congr 1
 ·omega
 congr 1;omega
theorem yU {l:List Nat}(hl:Lm l)(h:l=[]∨l.getLast?≠some 0):gV l=l:=by
 induction l with
 | nil=>unfold gV;exact aA
 | cons x l ih=>
  rw[mJ (hl x List.mem_cons_self)]
  have hl2:Lm l:=fun y hy=>hl y (List.mem_cons_of_mem _ hy)
  have h:=h.resolve_left (by simp)
  by_cases he:l=[]
  ·subst he
   rw[if_neg (by intro q;apply h;simp[q.1])]
   unfold gV;rw[show vl []=0 from rfl,aA]
  ·have h2:l.getLast?≠some 0:=by
    intro q;apply h
    rw[List.getLast?_cons_of_ne_nil he];exact q
   have:=ih hl2 (Or.inr h2)
   rw[if_neg,this]
   intro q
   have:gV l=[]:=by unfold gV;rw[q.2];exact aA
   rw[ih hl2 (Or.inr h2)]at this
   exact he this
theorem kH (l:List Nat):gV (l++[0])=gV l:=by unfold gV;rw[lI]
theorem vg (n:Nat):aC n=[]∨(aC n).getLast?≠some 0:=by
 induction n using Nat.strongRecOn with
 | _ n ih=>
  by_cases h:n=0
  ·left;subst h;exact aA
  ·right
   rw[bM h]
   rcases ih (n/65536) (by omega)with e | e
   ·rw[e]
    have:n/65536=0:=by have:=au (n/65536);rw[e]at this;exact this.symm
    simp;omega
   ·by_cases he:aC (n/65536)=[]
    ·rw[he]at e⊢
     have:n/65536=0:=by have:=au (n/65536);rw[he]at this;exact this.symm
     simp;omega
    ·rw[List.getLast?_cons_of_ne_nil he];exact e
theorem bn {n k:Nat}(h:n<65536^k):(aC n).length≤k:=by
 induction k generalizing n with
 | zero=>simp at h;subst h;rw[aA];simp
 | succ k ih=>
  by_cases h0:n=0
  ·subst h0;rw[aA];simp
  ·rw[bM h0,List.length_cons]
   have:n/65536<65536^k:=by
    rw[Nat.pow_succ]at h
    exact Nat.div_lt_of_lt_mul (by rw[Nat.mul_comm];exact h)
   have:=ih this
   omega
theorem aK {a b:Nat}(h:a≤b):(aC a).length≤(aC b).length:=by refine bn (Nat.lt_of_le_of_lt h ?_);have:=dD (bD b);rwa[au]at this
theorem YO {n:Nat}(h:n≠0):65536^((aC n).length-1)≤n:=by refine Nat.le_of_not_lt fun q=>?_;have:=bn q;have h2:(aC n).length≠0:=fun e=>h (by have:=au n;rw[List.length_eq_zero_iff.1 e]at this;exact this.symm);omega
theorem fJ (l:List Nat)(x:Nat):vl (l++[x])=vl l+65536^l.length*x:=by rw[bY];simp[vl]
theorem aF (l:List Nat)(i:Nat):vl (l.take (i+1))=vl (l.take i)+65536^i*l.getD i 0:=by
 by_cases h:i<l.length
 ·rw[List.take_succ_eq_append_getElem h,fJ,List.length_take,Nat.min_eq_left (by omega),List.getD_eq_getElem?_getD,List.getElem?_eq_getElem h];rfl
 rw[List.take_of_length_le (by omega),List.take_of_length_le (by omega),List.getD_eq_getElem?_getD,List.getElem?_eq_none (by omega)];simp
theorem ak {l:List Nat}(h:Lm l)(i:Nat):l.getD i 0<65536:=by
 by_cases hi:i<l.length
 ·rw[List.getD_eq_getElem?_getD,List.getElem?_eq_getElem hi];exact h _ (List.getElem_mem hi)
 rw[List.getD_eq_getElem?_getD,List.getElem?_eq_none (by omega)];simp
theorem fZ {l:List Nat}{x:Nat}(h:Lm l)(hx:x<65536):Lm (l++[x]):=fun y hy=>by
 rcases List.mem_append.1 hy with e | e
 ·exact h y e
 simp at e;omega
theorem iV (p s:Nat):p*(s%65536)+(s/65536)*(p*65536)=p*s:=by
 have e1:p*s=p*(65536*(s/65536))+p*(s%65536):=by rw[←Nat.mul_add,Nat.div_add_mod]
 have e2:(s/65536)*(p*65536)=p*(65536*(s/65536)):=by rw[Nat.mul_comm,Nat.mul_assoc]
 rw[e1,e2,Nat.add_comm]
structure iF (a b:List Nat)(i:Nat)(ds:List Nat)(c:Nat):Prop where
 len:ds.length=i
 lm:Lm ds
 c1:c≤1
 eq:vl ds+c*65536^i=vl (a.take i)+vl (b.take i)
theorem iF.nil (a b:List Nat):iF a b 0 [] 0:=⟨rfl,fun x hx=>by simp at hx,by omega,by simp[vl]⟩
theorem iF.step {a b:List Nat}(ha:Lm a)(hb:Lm b){i c:Nat}{ds:List Nat}(h:iF a b i ds c):
  iF a b (i+1) (ds++[(c+a.getD i 0+b.getD i 0)%65536]) ((c+a.getD i 0+b.getD i 0)/65536):=by have h1:=ak ha i;have h2:=ak hb i;have h3:=h.c1;refine⟨by simp[h.len],fZ h.lm (Nat.mod_lt _ (by omega)),by omega,?_⟩;rw[fJ,h.len,aF,aF,Nat.pow_succ];have e:=iV (65536^i) (c+a.getD i 0+b.getD i 0);have q:=h.eq;rw[Nat.mul_add,Nat.mul_add,Nat.mul_comm (65536^i) c]at e;omega
structure jB (a b:List Nat)(i:Nat)(ds:List Nat)(r:Nat):Prop where
 len:ds.length=i
 lm:Lm ds
 r1:r≤1
 eq:vl (a.take i)+r*65536^i=vl ds+vl (b.take i)
theorem jB.nil (a b:List Nat):jB a b 0 [] 0:=⟨rfl,fun x hx=>by simp at hx,by omega,by simp[vl]⟩
theorem jB.step {a b:List Nat}{i r d r':Nat}{ds:List Nat}(h:jB a b i ds r)(hd:d<65536)(hr:r'≤1)(he:a.getD i 0+r'*65536=d+b.getD i 0+r):
  jB a b (i+1) (ds++[d]) r':=by
 refine⟨by simp[h.len],fZ h.lm hd,hr,?_⟩;rw[fJ,h.len,aF,aF,Nat.pow_succ];have q:=h.eq;have e:=congrArg (65536^i* ·) he;simp only[Nat.mul_add]at e;have e2:r'*(65536^i*65536)=65536^i*(r'*65536):=by rw[Nat.mul_comm r',Nat.mul_assoc,Nat.mul_comm 65536 r']
 rw[e2];rw[Nat.mul_comm r]at q;omega
theorem jB.done {a b:List Nat}{n r:Nat}{ds:List Nat}(h:jB a b n ds r)(ha:a.length≤n)(hb:b.length≤n)(hle:vl b≤vl a):r=0∧vl ds=vl a-vl b:=by
 have q:=h.eq;rw[List.take_of_length_le ha,List.take_of_length_le hb]at q;have hl:=dD h.lm;rw[h.len]at hl;have:r=0:=by
  rcases Nat.eq_zero_or_pos r with e | e
  ·exact e
  have:=Nat.le_mul_of_pos_left (65536^n) e;omega
 subst this;exact⟨rfl,by omega⟩
theorem lH {l:List Nat}{i x:Nat}(h:i<l.length):vl (l.set i x)+65536^i*l.getD i 0=vl l+65536^i*x:=by
 have e:∀m:List Nat,i<m.length→vl m=vl (m.take i)+65536^i*m.getD i 0+65536^(i+1)*vl (m.drop (i+1)):=fun m hm=>by rw[←aF];have:=bY (m.take (i+1)) (m.drop (i+1));rw[List.take_append_drop,List.length_take,Nat.min_eq_left (by omega)]at this;exact this
 rw[e (l.set i x) (by simpa using h),e l h,List.take_set_of_le (Nat.le_refl _),List.drop_set_of_lt (by omega)];rw[show(l.set i x).getD i 0=x from by rw[List.getD_eq_getElem?_getD,List.getElem?_set_self h];rfl];omega
theorem kF {l:List Nat}{i x:Nat}(h:Lm l)(hx:x<65536):Lm (l.set i x):=fun y hy=>by
 rcases List.mem_or_eq_of_mem_set hy with e | e
 ·exact h y e
 omega
structure eG (a b:List Nat)(n i k:Nat)(out:List Nat)(c:Nat):Prop where
 len:out.length=n
 lm:Lm out
 c1:c<65536
 zero:∀j,i+b.length≤j→j<n→out.getD j 0=0
 eq:vl out+c*65536^(i+k)=vl (a.take i)*vl b+65536^i*(a.getD i 0*vl (b.take k))
theorem nG {x y o c:Nat}(hx:x<65536)(hy:y<65536)(ho:o<65536)(hc:c<65536):c+x*y+o<4294967296∧(c+x*y+o)/65536<65536:=by have:x*y≤65535*65535:=Nat.mul_le_mul (by omega) (by omega);omega
theorem eG.step {a b:List Nat}(ha:Lm a)(hb:Lm b){n i k c:Nat}{out:List Nat}(h:eG a b n i k out c)(hk:k<b.length)(hn:i+k<n):
  eG a b n i (k+1) (out.set (i+k) ((c+a.getD i 0*b.getD k 0+out.getD (i+k) 0)%65536)) ((c+a.getD i 0*b.getD k 0+out.getD (i+k) 0)/65536):=by
 have h1:=nG (ak ha i) (ak hb k) (ak h.lm (i+k)) h.c1;refine⟨by simp[h.len],kF h.lm (Nat.mod_lt _ (by omega)),h1.2,fun j hj hjn=>?_,?_⟩
 ·rw[List.getD_eq_getElem?_getD,List.getElem?_set_ne (by omega),←List.getD_eq_getElem?_getD];exact h.zero j hj hjn
 have e1:=lH (l:=out) (i:=i+k) (x:=(c+a.getD i 0*b.getD k 0+out.getD (i+k) 0)%65536) (by rw[h.len];exact hn);have e2:=iV (65536^(i+k)) (c+a.getD i 0*b.getD k 0+out.getD (i+k) 0);have q:=h.eq;rw[aF,Nat.mul_add (a.getD i 0),Nat.mul_add (65536^i),show i+(k+1)=(i+k)+1 from by omega,Nat.pow_succ];have e3:65536^i*(a.getD i 0*(65536^k*b.getD k 0))=65536^(i+k)*(a.getD i 0*b.getD k 0):=by rw[Nat.pow_add];simp only[Nat.mul_assoc,Nat.mul_left_comm,Nat.mul_comm]
 rw[e3];rw[Nat.mul_add,Nat.mul_add,Nat.mul_comm (65536^(i+k)) c]at e2;omega
theorem eG.next {a b:List Nat}{n i c:Nat}{out:List Nat}(h:eG a b n i b.length out c)(hn:i+b.length<n):
  eG a b n (i+1) 0 (out.set (i+b.length) c) 0:=by
 refine⟨by simp[h.len],kF h.lm h.c1,by omega,fun j hj hjn=>?_,?_⟩
 ·rw[List.getD_eq_getElem?_getD,List.getElem?_set_ne (by omega),←List.getD_eq_getElem?_getD];exact h.zero j (by omega) hjn
 have e1:=lH (l:=out) (i:=i+b.length) (x:=c) (by rw[h.len];exact hn);rw[h.zero _ (Nat.le_refl _) hn]at e1;have q:=h.eq;rw[List.take_of_length_le (Nat.le_refl _)]at q;rw[aF,Nat.add_mul];have e3:65536^i*a.getD i 0*vl b=65536^i*(a.getD i 0*vl b):=Nat.mul_assoc ..;rw[e3];simp only[List.take_zero,vl,Nat.mul_zero,Nat.add_zero,Nat.zero_mul]at*;rw[Nat.mul_comm c]at q;omega
theorem eG.nil {a b:List Nat}{n:Nat}:eG a b n 0 0 (List.replicate n 0) 0:=by
 have z:∀m,vl (List.replicate m 0)=0:=fun m=>by induction m with | zero=>rfl | succ m ih=>simp[List.replicate_succ,vl,ih]
 refine⟨by simp,fun x hx=>by rw[List.mem_replicate]at hx;omega,by omega,fun j _ hj=>?_,?_⟩
 ·rw[List.getD_eq_getElem?_getD,List.getElem?_replicate];split<;>rfl
 rw[z];simp[vl]
theorem eG.done {a b:List Nat}{n:Nat}{out:List Nat}(h:eG a b n a.length 0 out 0):vl out=vl a*vl b:=by have q:=h.eq;rw[List.take_of_length_le (Nat.le_refl _)]at q;simpa[vl]using q
theorem EX {a b:List Nat}(h:∀j,a.getD j 0=b.getD j 0):vl a=vl b:=by
 induction a generalizing b with
 | nil=>
  induction b with
  | nil=>rfl
  | cons y b ih=>
   have h0:=h 0
   simp only[List.getD_cons_zero,List.getD_nil]at h0
   have:=ih fun j=>by have:=h (j+1);simpa using this
   simp only[vl]at this⊢
   omega
 | cons x a ih=>
  cases b with
  | nil=>
   have h0:=h 0
   simp only[List.getD_cons_zero,List.getD_nil]at h0
   have:=ih (b:=[]) fun j=>by have:=h (j+1);simpa using this
   simp only[vl]at this⊢
   omega
  | cons y b=>
   have h0:=h 0
   simp only[List.getD_cons_zero]at h0
   have:=ih (b:=b) fun j=>by have:=h (j+1);simpa using this
   simp only[vl,h0,this]
theorem getD_drop (l:List Nat)(k j:Nat):(l.drop k).getD j 0=l.getD (k+j) 0:=by rw[List.getD_eq_getElem?_getD,List.getElem?_drop,←List.getD_eq_getElem?_getD]
theorem AZ (l:List Nat)(k:Nat):vl l=vl (l.take k)+65536^k*(l.getD k 0+65536*vl (l.drop (k+1))):=by
 by_cases h:k<l.length
 ·have e:=bY (l.take k) (l.drop k);rw[List.take_append_drop,List.length_take,Nat.min_eq_left (by omega)]at e;rw[e,List.drop_eq_getElem_cons h,List.getD_eq_getElem?_getD,List.getElem?_eq_getElem h];rfl
 rw[List.take_of_length_le (by omega),List.drop_of_length_le (by omega),List.getD_eq_getElem?_getD,List.getElem?_eq_none (by omega)];simp[vl]
theorem lG {l:List Nat}(h:Lm l)(k:Nat):vl (l.take k)<65536^k:=by refine Nat.lt_of_lt_of_le (dD fun x hx=>h x (List.mem_of_mem_take hx)) (Nat.pow_le_pow_right (by omega) ?_);rw[List.length_take];omega
theorem uy {a b:List Nat}{k:Nat}(ha:Lm a)(hd:∀j,k<j→a.getD j 0=b.getD j 0)(hx:a.getD k 0<b.getD k 0):vl a<vl b:=by
 rw[AZ a k,AZ b k];have e:vl (a.drop (k+1))=vl (b.drop (k+1)):=EX fun j=>by rw[getD_drop,getD_drop];exact hd _ (by omega)
 rw[e];have la:=lG ha k;have:=Nat.mul_le_mul_left (65536^k) (show a.getD k 0+65536*vl (b.drop (k+1))+1≤b.getD k 0+65536*vl (b.drop (k+1)) by omega);rw[Nat.mul_add (65536^k) _ 1]at this;omega
def nh:List Nat→List Nat
 | []=>[]
 | x::l=>x%65536::x/65536::nh l
theorem WE {l:List Nat}(h:Nt.Lm l):Lm (nh l):=by
 induction l with
 | nil=>intro x hx;simp[nh]at hx
 | cons x l ih=>
  intro y hy
  have hx:=h x List.mem_cons_self
  simp only[nh,List.mem_cons]at hy
  rcases hy with e | e | e
  ·omega
  ·omega
  ·exact ih (fun z hz=>h z (List.mem_cons_of_mem _ hz)) y e
theorem WG (l:List Nat):vl (nh l)=Nt.vl l:=by
 induction l with
 | nil=>rfl
 | cons x l ih=>simp only[nh,vl,Nt.vl,ih];omega
theorem xU (a b:List Nat):nh (a++b)=nh a++nh b:=by
 induction a with
 | nil=>rfl
 | cons x a ih=>simp[nh,ih]
theorem xW (l:List Nat):(nh l).length=2*l.length:=by
 induction l with
 | nil=>rfl
 | cons x l ih=>simp only[nh,List.length_cons,ih];omega
def hf:List Nat→List Nat
 | []=>[]
 | x::l=>(x/2+(l.getD 0 0)%2*32768)::hf l
theorem nK (l:List Nat):(hf l).length=l.length:=by induction l with | nil=>rfl | cons x l ih=>simp[hf,ih]
theorem aaw {l:List Nat}(h:Lm l):Lm (hf l):=by
 induction l with
 | nil=>intro x hx;simp[hf]at hx
 | cons x l ih=>
  intro y hy
  have hx:=h x List.mem_cons_self
  rcases List.mem_cons.1 hy with e | e
  ·omega
  ·exact ih (fun z hz=>h z (List.mem_cons_of_mem _ hz)) y e
theorem Uw (l:List Nat){i:Nat}(h:i<l.length):(hf l).getD i 0=l.getD i 0/2+l.getD (i+1) 0%2*32768:=by
 induction l generalizing i with
 | nil=>simp at h
 | cons x l ih=>
  cases i with
  | zero=>cases l<;>simp[hf]
  | succ i=>simpa[hf]using ih (i:=i) (by simpa using h)
theorem Hu (l:List Nat):l.getD 0 0%2=vl l%2:=by
 cases l with
 | nil=>rfl
 | cons x l=>simp only[List.getD_cons_zero,vl];omega
theorem aax (l:List Nat):vl (hf l)=vl l/2:=by
 induction l with
 | nil=>rfl
 | cons x l ih=>
  have:=Hu l
  simp only[hf,vl,ih,this]
  omega
def aU (x:Nat):Nat:=if x=0 then 0 else Nat.log2 x+1
theorem iW {x:Nat}(h:x≠0):aU x=Nat.log2 x+1:=by unfold aU;rw[if_neg h]
theorem Hw {x n:Nat}(h1:2^n≤x)(h2:x<2^(n+1)):aU x=n+1:=by
 have h0:x≠0:=by have:=Nat.two_pow_pos n;omega
 rw[iW h0];have a:Nat.log2 x<n+1:=(Nat.log2_lt h0).2 h2;have b:n≤Nat.log2 x:=(Nat.le_log2 h0).2 h1;omega
theorem pK (x:Nat):x<2^aU x:=by
 by_cases h:x=0
 ·subst h;simp[aU]
 rw[iW h];exact Nat.lt_log2_self
theorem zh {x:Nat}(h:x≠0):2^(aU x-1)≤x:=by rw[iW h];exact Nat.log2_self_le h
theorem yg {x:Nat}(h:x≠0):aU x=aU (x/2)+1:=by
 by_cases e:x/2=0
 ·have:x=1:=by omega
  subst this;decide
 have h1:=zh e;have h2:=pK (x/2);have p:aU (x/2)≠0:=by rw[iW e];omega
 obtain⟨k,hk⟩:∃k,aU (x/2)=k+1:=⟨aU (x/2)-1,by omega⟩;rw[hk]at h1 h2⊢;simp only[Nat.add_sub_cancel]at h1;rw[Nat.pow_succ]at h2;exact Hw (n:=k+1) (by rw[Nat.pow_succ];omega) (by rw[Nat.pow_succ,Nat.pow_succ];omega)
theorem Bv {lo t p b:Nat}(ht:t≠0)(hlo:lo<2^(b*p)):aU (lo+2^(b*p)*t)=b*p+aU t:=by
 have h1:=zh ht;have h2:=pK t;have hp:aU t≠0:=by rw[iW ht];omega
 obtain⟨k,hk⟩:∃k,aU t=k+1:=⟨aU t-1,by omega⟩;rw[hk]at h1 h2⊢;simp only[Nat.add_sub_cancel]at h1;have e:b*p+(k+1)=(b*p+k)+1:=by omega
 rw[e];refine Hw ?_ ?_
 ·have:=Nat.mul_le_mul_left (2^(b*p)) h1;rw[←Nat.pow_add]at this;omega
 have:=Nat.mul_le_mul_left (2^(b*p)) (show t+1≤2^(k+1) from h2);rw[←Nat.pow_add,Nat.mul_add,show b*p+(k+1)=(b*p+k)+1 from by omega]at this;omega
theorem jR {x n:Nat}:aU x≤n↔x<2^n:=by
 constructor
 ·intro h;exact Nat.lt_of_lt_of_le (pK x) (Nat.pow_le_pow_right (by omega) h)
 intro h;by_cases e:x=0
 ·subst e;simp[aU]
 rw[iW e];exact(Nat.log2_lt e).2 h
theorem wX (x y:Nat):Nat.gcd (2*x) (2*y)=2*Nat.gcd x y:=Nat.gcd_mul_left 2 x y
theorem oI {x y:Nat}(hy:y%2=1):Nat.gcd (2*x) y=Nat.gcd x y:=by
 have c:Nat.Coprime 2 y:=by unfold Nat.Coprime;rw[Nat.gcd_rec,show y%2=1 from hy];decide
 exact Nat.Coprime.gcd_mul_left_cancel x c
theorem vG {x y:Nat}(hx:x%2=1):Nat.gcd x (2*y)=Nat.gcd x y:=by rw[Nat.gcd_comm,oI hx,Nat.gcd_comm]
theorem Ux {x y:Nat}(h:y≤x):Nat.gcd (x-y) y=Nat.gcd x y:=by
 rw[Nat.gcd_comm (x-y) y,Nat.gcd_comm x y];conv=>rhs;rw[←Nat.sub_add_cancel h]
 exact(Nat.gcd_add_self_right ..).symm
end Go.Proofs.YtijdglogadnbcaaGreat.Nh
namespace Go.Proofs.YtijdglogadnbcaaGreat
open Go.Proofs.Tryz
open Go.RowKit Nt
theorem Uy {a b:Int}(h:a=b):Ending.returned (.int .i64 a)= .returned (.int .i64 b):=by rw[h]
theorem sV (x:Nat)(h:x<2^64):Lib.bitLen x=Nh.aU x:=by
 induction x using Nat.strongRecOn with
 | _ x ih=>
  by_cases h0:x=0
  ·subst h0;decide
  ·rw[Lib.bitLen_half x h0 h,Nh.yg h0,ih (x/2) (by omega) (by omega),Nat.add_comm]
theorem Hy (k:Nat):4294967296^k=2^(32*k):=by rw[Nat.pow_mul]
theorem iY {x:Nat}(h:x≠0):0<(aC x).length:=by rw[bM h];simp
theorem vH {x:Nat}(h:x≠0):(aC x).getD ((aC x).length-1) 0≠0:=by have:=(vg x).resolve_left (by intro e;have:=iY h;rw[e]at this;simp at this);intro e;apply this;rw[List.getLast?_eq_getElem?];have hl:=iY h;rw[List.getD_eq_getElem?_getD,List.getElem?_eq_getElem (by omega)]at e;rw[List.getElem?_eq_getElem (by omega)];simpa using e
theorem yh {x n:Nat}(hn:(aC x).length=n+1):∃lo,lo<2^(32*n)∧x=lo+2^(32*n)*(aC x).getD n 0:=by refine⟨vl ((aC x).take n),by rw[←Hy];exact iJ (bD x) n,?_⟩;have:=aF (aC x) n;rw[List.take_of_length_le (by omega),au]at this;rw[←Hy];exact this
theorem Om {x n:Nat}(hn:(aC x).length=n+1):Nh.aU x=32*n+Nh.aU ((aC x).getD n 0):=by
 obtain⟨lo,h1,h2⟩:=yh hn;have h0:x≠0:=by intro e;rw[e,aA]at hn;simp at hn
 have ht:=vH h0;rw[hn,Nat.add_sub_cancel]at ht;have:=Nh.Bv ht h1;rw[←h2]at this;exact this
theorem len_any {w:World}{x:Nat}{a:Option Addr}{na ca:Nat}(ha:bW w (aC x) a na ca)(hsz:na≤1099511627776):
  Calls prog 132 #[.slice a na ca] w fun e w'=>e= .returned (.int .i64 (Nh.aU x:Nat))∧w=w':=by
 by_cases h0:na=0
 ·subst h0;have e:x=0:=by have:=au x;rw[List.length_eq_zero_iff.1 ha.len]at this;exact this.symm
  subst e;go_enter func132,ntmps132;go_wp2_with fail;go_ret;exact⟨rfl,rfl⟩
 obtain⟨n,rfl⟩:∃n,na=n+1:=⟨na-1,by omega⟩;have A:=hid ha;have hca:=ha.cap;have hla:=ha.le;obtain⟨b1,o1,rfl,d1⟩:=ha.at_ (by intro e;have:=ha.len;rw[e]at this;simp at this);have p0:=d1 n (by rw[ha.len];omega);have BL:=hid (Om ha.len);clear d1 ha;obtain⟨t,ht⟩:∃t,(aC x).getD n 0=t:=⟨_,rfl⟩;have tb:t<4294967296:=by rw[←ht];exact ak A.out.lm n
 rw[ht]at p0;have HT:=hid ht;clear ht;have e1:((n+1:Nat):Int)-1=(n:Int):=by omega
 have hz:(((n+1:Nat):Int)==0)=false:=by simp;omega
 go_enter func132,ntmps132;go_wp2_with (go_at_call 172;refine(Tryz.bits_Len32 _ _ (by omega) (by omega)).mono ?_;rintro e w' ⟨rfl,rfl⟩);go_ret;refine⟨Uy ?_,rfl⟩;have h3:Nh.aU t≤32:=Nh.jR.2 (by omega);rw[BL.out,HT.out,sV t (by omega)];simp only[wrap64];omega
theorem EY (x:Nat)(hx:x<18446744073709551616)(w:World):Calls prog 118 #[.int .u64 (x:Int)] w (iy w x):=by
 have e1:(x:Int)%4294967296=((x%4294967296:Nat):Int):=by omega
 have e2:(x:Int)/4294967296=((x/4294967296:Nat):Int):=by omega
 have L:Hid (bW (w.alloc (.cells #[.int .u32 ((x:Int)%4294967296),.int .u32 ((x:Int)/4294967296)] 111)) [x%4294967296,x/4294967296] (some ⟨w.heap.size,0,none⟩) 2 2):=by
  have U:UB (w.alloc (.cells #[.int .u32 ((x:Int)%4294967296),.int .u32 ((x:Int)/4294967296)] 111)) w.heap.size [x%4294967296,x/4294967296]:=by rw[e1,e2];exact heap_alloc_new w _
  exact⟨U.at_,rfl,Nat.le_refl _,by omega,fun y hy=>by simp at hy;omega⟩
 have B:Hid (Below w.heap.size w (w.alloc (.cells #[.int .u32 ((x:Int)%4294967296),.int .u32 ((x:Int)/4294967296)] 111))):=(Below.refl _ _).alloc (Nat.le_refl _) _;have V:Hid (vl [x%4294967296,x/4294967296]=x):=by show _=_;simp only[vl];omega
 clear e1 e2;have hx2:(x:Int)<18446744073709551616:=by omega
 go_enter func118,ntmps118;go_wp2_with (go_at_call 141;refine(iw L.out).mono ?_;rintro e w' ⟨rfl,rfl⟩);go_ret;exact iy.fG L.out B.out V.out
theorem Oo {z k:Nat}(h1:4294967296^k*2147483648≤z)(h2:z<4294967296^(k+1)):(aC z).length=k+1∧2147483648≤(aC z).getD k 0:=by
 have l1:=bn h2;have p:0<4294967296^k:=Nat.pos_of_ne_zero (by simp);have l2:¬(aC z).length≤k:=fun hle=>by have:=dD (bD z);rw[au]at this;have h3:4294967296^(aC z).length≤4294967296^k:=Nat.pow_le_pow_right (by omega) hle;have h4:4294967296^k*1≤4294967296^k*2147483648:=Nat.mul_le_mul_left _ (by omega);omega
 have l:(aC z).length=k+1:=by omega
 refine⟨l,?_⟩;have e:=aF (aC z) k;rw[List.take_of_length_le (by omega),au]at e;have lt:=iJ (bD z) k;refine Nat.le_of_not_lt fun hlt=>?_;have:=Nat.mul_le_mul_left (4294967296^k) (show(aC z).getD k 0+1≤2147483648 by omega);rw[Nat.mul_add]at this;omega
theorem shifted {y n t:Nat}(hn:(aC y).length=n+1)(ht:(aC y).getD n 0=t)(h0:t≠0)(hb:t<4294967296):
  (aC (y*2^(32-Nh.aU t))).length=n+1∧2147483648≤(aC (y*2^(32-Nh.aU t))).getD n 0:=by
 obtain⟨lo,h1,h2⟩:=yh hn;rw[ht,←Hy]at h2;rw[←Hy]at h1;have b1:=Nh.zh h0;have b2:=Nh.pK t;have b3:Nh.aU t≤32:=Nh.jR.2 hb;have b4:0<Nh.aU t:=by rw[Nh.iW h0];omega
 have p:=Nat.two_pow_pos (32-Nh.aU t);have e1:2^(Nh.aU t-1)*2^(32-Nh.aU t)=2147483648:=by rw[←Nat.pow_add,show Nh.aU t-1+(32-Nh.aU t)=31 from by omega]
 have e2:2^Nh.aU t*2^(32-Nh.aU t)=4294967296:=by rw[←Nat.pow_add,show Nh.aU t+(32-Nh.aU t)=32 from by omega]
 refine Oo ?_ ?_
 ·rw[h2,Nat.add_mul,Nat.mul_assoc];have:=Nat.mul_le_mul_left (4294967296^n) (Nat.mul_le_mul_right (2^(32-Nh.aU t)) b1);rw[e1]at this;omega
 have e3:4294967296^(n+1)=4294967296^n*2^Nh.aU t*2^(32-Nh.aU t):=by rw[Nat.pow_succ,Nat.mul_assoc,e2]
 rw[e3];refine Nat.mul_lt_mul_of_pos_right ?_ p;rw[h2];have:=Nat.mul_le_mul_left (4294967296^n) (show t+1≤2^Nh.aU t from b2);rw[Nat.mul_add]at this;omega
def zk (w:World)(x y:Nat)(e:Ending)(w':World):Prop:=
 ∃a n c a2 n2 c2,e= .returned (.tuple #[.slice a n c,.slice a2 n2 c2])∧bW w' (aC (x/y)) a n c∧bW w' (aC (x%y)) a2 n2 c2∧Below w.heap.size w w'
theorem Qt.size {a b:World}(h:Qt a b):b.heap.size=a.heap.size:=by obtain⟨q,rfl⟩:=h;rfl
theorem bW.qt {w w':World}{l:List Nat}{a:Option Addr}{n c:Nat}(h:bW w l a n c)(q:Qt w w'):bW w' l a n c:=h.below q.below
theorem vI {a b c:World}(q:Qt a b)(h:Below b.heap.size b c):Below a.heap.size a c:=Below.over q.below (by rw[q.size];exact Nat.le_refl _) h
theorem JE {w:World}{x y:Nat}{a b:Option Addr}{na nb ca cb:Nat}(ha:bW w (aC x) a na ca)(hb:bW w (aC y) b nb cb)(hsz:na≤1099511627776)(hlt:x<y):
  Calls prog 97 #[.slice a na ca,.slice b nb cb] w (zk w x y):=by
 have A:=hid ha;have B:=hid hb;clear ha hb;have CM:Hid (bU x y= -1):=by show _=_;unfold bU;rw[if_pos hlt]
 have Q0:Hid (x/y=0):=Nat.div_eq_of_lt hlt;have Q1:Hid (x%y=x):=Nat.mod_eq_of_lt hlt;clear hlt;go_enter func97,ntmps97;go_wp2_with fail;refine(jW A.out B.out).mono ?_;rintro e w1 ⟨rfl,hq⟩;rw[CM.out];have HQ:=hid hq;clear hq;go_wp2_with fail;refine(clone_any (A.out.qt HQ.out) hsz).mono ?_;rintro e w2 ⟨a2,c2,rfl,L2,B2,_⟩;have L2:=hid L2;have B2:=hid B2;go_wp2_with fail;go_ret2;exact⟨none,0,0,a2,na,c2,rfl,by rw[Q0.out,aA];exact nJ _ _ (by omega),by rw[Q1.out];exact L2.out,vI HQ.out B2.out⟩
theorem EZ {w:World}{x y:Nat}{a b:Option Addr}{na ca cb:Nat}(ha:bW w (aC x) a na ca)(hb:bW w (aC y) b 1 cb)(hsz:na≤1099511627776)(hle:y≤x):
  Calls prog 97 #[.slice a na ca,.slice b 1 cb] w (zk w x y):=by
 have A:=hid ha;have B:=hid hb;have hcb:=hb.cap;have hlb:=hb.le;obtain⟨b1,o1,rfl,d1⟩:=hb.at_ (by intro e;have:=hb.len;rw[e]at this;simp at this);have p1:=d1 0 (by rw[hb.len];omega);rw[Nat.add_zero]at p1;have ye:(aC y).getD 0 0=y:=by have:=au y;obtain⟨z,hz⟩:=List.length_eq_one_iff.1 hb.len;rw[hz]at this⊢;simpa[vl]using this
 have y0:y≠0:=by intro e;have:=hb.len;rw[e,aA]at this;simp at this
 rw[ye]at p1;have yb:y<4294967296:=by rw[←ye];exact ak (bD y) 0
 clear ha hb d1 ye;have CM:Hid (0≤bU x y):=by show _≤_;unfold bU;rw[if_neg (by omega)];split<;>omega
 obtain⟨cm,hcm⟩:∃cm,bU x y=cm:=⟨_,rfl⟩;have cm0:0≤cm:=by rw[←hcm];exact CM.out
 have HCM:=hid hcm;clear hcm;have VX:Hid (vl (aC x)=x):=au x;have y1:0<y:=by omega
 obtain⟨r,hr⟩:∃r,x%y=r:=⟨_,rfl⟩;have rb:r<4294967296:=by rw[←hr];exact Nat.lt_trans (Nat.mod_lt _ y1) yb
 have RM:=hid hr;clear hr;go_enter func97,ntmps97;go_wp2_with fail;refine(jW A.out B.out).mono ?_;rintro e w1 ⟨rfl,hq⟩;rw[HCM.out];have p2:=hq.cell p1;have HQ:=hid hq;clear hq p1;go_wp2_with fail;refine(yZ (A.out.qt HQ.out) hsz y1 yb).mono ?_;rintro e w2 ⟨a2,n2,c2,rfl,L2,B2⟩;rw[VX.out]at L2⊢;rw[RM.out];have L2:=hid L2;have B2:=hid B2;go_wp2_with fail;refine(EY r (by omega) _).mono ?_;rintro e w3 ⟨a3,n3,c3,rfl,L3,B3⟩;have L3:=hid L3;have B3:=hid B3;go_wp2_with fail;go_ret2;exact⟨a2,n2,c2,a3,n3,c3,rfl,L2.out.below B3.out,by rw[RM.out];exact L3.out,vI HQ.out (aB B2.out B3.out)⟩
def DvL (w2:World)(g gq U:Nat)(v:List Nat)(n m:Nat)(i:Value)(wr:World):Prop:=
 ∃(j:Nat) (us qs:List Nat),j≤m∧i= .int .i64 ((j:Int)-1)∧qs.length=m∧tK U v us qs n j∧UB wr g us∧UB wr gq qs∧Below w2.heap.size w2 wr
theorem JF {g n:Nat}{w w':World}(h:But g w w')(hg:n≤g)(hn:n≤w.heap.size):Below n w w':=
 ⟨h.os,h.tape,h.output,h.size,fun k hk=>h.block k (by omega) (by intro e;simp at e;omega)⟩
theorem But.ub {g k:Nat}{w w':World}{l:List Nat}(h:But g w w')(hk:k≠g)(u:UB w k l):UB w' k l:=(h.block k u.lt (by simpa using hk)).trans u
theorem Fa (l:List Nat)(n:Nat)(h:l.length≤n):splice (dU (List.replicate n 0)) 0 (dU l)=dU (l++List.replicate (n-l.length) 0):=by unfold splice dU;simp
theorem YP (l:List Nat)(k m:Nat):l.take k++(l.drop k).take m++l.drop (k+m)=l:=by rw[List.append_assoc,←List.drop_drop,List.take_append_drop,List.take_append_drop]
theorem bW.block_lt {w:World}{l:List Nat}{a:Option Addr}{n c:Nat}(h:bW w l a n c)(h0:0<n):∀ad,a=some ad→ad.block<w.heap.size:=by intro ad e;obtain⟨b,o,e2,d⟩:=h.at_ (by intro q;have:=h.len;rw[q]at this;simp at this;omega);rw[e2]at e;obtain rfl:=Option.some.inj e;exact lt_of_cell (d 0 (by rw[h.len];exact h0))
theorem UB.other {w:World}{g k i:Nat}{l:List Nat}{v:Value}(h:UB w g l)(hne:g≠k):UB (w.setCell ⟨k,i,none⟩ v) g l:=(heap_setCell_other w _ _ _ hne).trans h
theorem Fb {w:World}{x y:Nat}{a b:Option Addr}{na nb ca cb:Nat}(ha:bW w (aC x) a na ca)(hb:bW w (aC y) b (nb+1) cb)(hsz:na≤1099511627775)(hle:y≤x)(h2:1≤nb):
  Calls prog 97 #[.slice a na ca,.slice b (nb+1) cb] w (zk w x y):=by
 have A:=hid ha;have B:=hid hb;have hcb:=hb.cap;have hlb:=hb.le;have hca:=ha.cap;have hla:=ha.le;have hlen:nb+1≤na:=by rw[←ha.len,←hb.len];exact aK hle
 obtain⟨b1,o1,rfl,d1⟩:=hb.at_ (by intro e;have:=hb.len;rw[e]at this;simp at this);have p1:=d1 nb (by rw[hb.len];omega);have y0:y≠0:=by intro e;have:=hb.len;rw[e,aA]at this;simp at this
 obtain⟨t,ht⟩:∃t,(aC y).getD nb 0=t:=⟨_,rfl⟩;have tb:t<4294967296:=by rw[←ht];exact ak (bD y) nb
 have t0:t≠0:=by have:=vH y0;rw[hb.len,Nat.add_sub_cancel,ht]at this;exact this
 rw[ht]at p1;obtain⟨s,hs⟩:∃s,32-Nh.aU t=s:=⟨_,rfl⟩;have sh0:=shifted hb.len ht t0 tb;rw[hs]at sh0;have bl1:Nh.aU t≤32:=Nh.jR.2 tb;have bl2:0<Nh.aU t:=by rw[Nh.iW t0];omega
 have s31:s≤31:=by omega
 have SE:Hid ((32:Int)-((Lib.bitLen ((t:Int).toNat):Nat):Int)=(s:Int)):=by show _=_;rw[Int.toNat_natCast,sV t (by omega)];omega
 obtain⟨V,hV⟩:∃V,y*2^s=V:=⟨_,rfl⟩;rw[hV]at sh0;have SH:=hid sh0;have VV:Hid (vl (aC y)*2^s=V):=by show _=_;rw[au];exact hV
 have VX:Hid (vl (aC x)*2^s=x*2^s):=by show _=_;rw[au]
 have HV:=hid hV;clear ha hb d1 ht hs bl1 bl2 t0 hV y0 sh0;have CM:Hid (0≤bU x y):=by show _≤_;unfold bU;rw[if_neg (by omega)];split<;>omega
 obtain⟨cm,hcm⟩:∃cm,bU x y=cm:=⟨_,rfl⟩;have cm0:0≤cm:=by rw[←hcm];exact CM.out
 have HCM:=hid hcm;clear hcm;have D9:=hid hle;clear hle;have n1:(((nb+1:Nat):Int)==1)=false:=by simp;omega
 have n1':((nb:Int)+1==1)=false:=by simp;omega
 obtain⟨i0,hi0,hz0,hz1,hz2⟩:=info_parts jr;go_enter func97,ntmps97;go_wp2_with fail;refine(jW A.out B.out).mono ?_;rintro e w1 ⟨rfl,hq⟩;rw[HCM.out];have p2:=hq.cell p1;have HQ:=hid hq;clear hq p1;go_wp2_with fail;have LZ:=Tryz.bits_LeadingZeros32 (t:Int) w1 (by omega) (by omega);rw[SE.out]at LZ;refine LZ.mono ?_;clear LZ;rintro e w' ⟨rfl,rfl⟩;go_wp2_with fail;refine(Hr (B.out.qt HQ.out) (by omega) (by omega) (by omega)).mono ?_;rintro e w2 ⟨av,nv,cv,rfl,LV,B2⟩;rw[VV.out]at LV;obtain rfl:nv=nb+1:=by rw[←LV.len];exact SH.out.1
 have hcv:=LV.cap;have hlv:=LV.le;have B2:=hid (vI HQ.out B2);have LV:=hid LV;clear p2;go_wp2_with (at_make;refine wpList_make_full _ rfl _ _ 23 rfl 0 111 i0 (.int .u32 0) 1 underlying23 hi0 hz0 hz1 .i64 .i64 _ _ (na+1) rfl rfl (by omega) (by omega) (by rw[hz2];omega) (by unfold maxLen;omega) (Nat.zero_le _) ?_;intro w3 hown1 hg1;have U3:=hid (jX hown1);have B3:=hid (below_grown hg1);clear hown1 hg1);have A3:=hid ((A.out.below B2.out).below B3.out);refine(Hr A3.out (by omega) (by omega) (by omega)).mono ?_;rintro e w4 ⟨a4,n4,c4,rfl,L4,B4⟩;rw[VX.out]at L4;have hc4:=L4.cap;have hl4:=L4.le;have U4:=hid (U3.out.later B4 (by have:=U3.out.lt;omega));have B4:=hid (aB B3.out B4);have L4:=hid L4;have n4b:n4≤na+1:=by rw[←L4.out.len];refine bn ?_;have h1:=dD (bD x);rw[au,A.out.len]at h1;rw[Nat.pow_succ];have h2:2^s<4294967296:=Nat.lt_of_le_of_lt (Nat.pow_le_pow_right (by omega) s31) (by decide);exact Nat.mul_lt_mul'' h1 h2
 clear U3;go_wp2_with (first
  | ((with_reducible show wpList _ _ _ (⟨some 52,_,_,_,_,_⟩::_) _ _);refine wpList_copy_splice (o:=⟨some 52,_,_,_,_,_⟩) rfl (.tmp 48) (.tmp 51) 23 23 rfl 111 underlying23 EJ (some ⟨w2.heap.size,0,none⟩) a4 (na+1) (na+1) n4 c4 rfl rfl w2.heap.size 0 (dU (List.replicate (na+1) 0)) 111 U4.out (dU (aC (x*2^s))) (by rw[bG,L4.out.len];exact(Nat.min_eq_left n4b).symm) (fun h0=>⟨rfl,L4.out.src (Below.refl _ _) h0⟩) (by rw[bG,bG,List.length_replicate,L4.out.len];omega) (qx _) w2.heap.size w2 B4.out (Nat.le_refl _) ?_;intro w5 HG5 hb5;have B5:=hid hb5;clear hb5)
  | (at_make;refine wpList_make_full _ rfl _ _ 23 rfl 0 111 i0 (.int .u32 0) 1 underlying23 hi0 hz0 hz1 .i64 .i64 _ _ (na-nb) rfl rfl (by omega) (by omega) (by rw[hz2];omega) (by unfold maxLen;omega) (Nat.zero_le _) ?_;intro w6 hown6 Jp;have U6:=hid (jX hown6);have B6:=hid (below_grown Jp);clear hown6 Jp))
 have U5:Hid (UB w5 w2.heap.size (aC (x*2^s)++List.replicate (na+1-n4) 0)):=by show UB _ _ _;have:=HG5.out;rw[Fa _ _ (by rw[L4.out.len];exact n4b),L4.out.len]at this;exact this
 have U5':=hid (U5.out.later B6.out U5.out.lt);have B6:=hid (aB B5.out B6.out);have gq:w2.heap.size<w5.heap.size:=U5.out.lt;have N4:=hid L4.out.len;clear U4 HG5 B5 L4 B4 A3 B3 U5;have ST:Hid (tK (x*2^s) (aC V) (aC (x*2^s)++List.replicate (na+1-n4) 0) (List.replicate (na-nb) 0) (nb+1) (na-nb)):=by have h1:=dD (bD x);rw[au,A.out.len]at h1;have:=tK.start (y:=y) (us:=aC (x*2^s)++List.replicate (na+1-n4) 0) (v:=aC V) (n:=nb+1) h1 s31 (rQ (bD _) (qm _)) (by rw[List.length_append,List.length_replicate,N4.out];omega) (by rw[bY,qo,au,Nat.mul_zero,Nat.add_zero]) (bD V) SH.out.1 (by omega) hlen SH.out.2;rwa[show na+1-(nb+1)=na-nb from by omega]at this
 go_loopw [12] (fun i wr=>DvL w2 w2.heap.size w5.heap.size (x*2^s) (aC V) (nb+1) (na-nb) i wr) (fun i _=>(intOf i+1).toNat)
 case atStart=>exact⟨na-nb,_,_,Nat.le_refl _,by congr 1,by rw[List.length_replicate],ST.out,U5'.out,U6.out,B6.out⟩
 obtain⟨j,us,qs,hj,rfl,hql,hD,hU,hQ2,hB⟩:=hrel;have D:=hid hD;have U:=hid hU;have QU:=hid hQ2;have BR:=hid hB;have QL:=hid hql;clear hD hU hQ2 hB hql;by_cases h0:j=0
 ·subst h0;have DN:=hid D.out.done;have pv:Hid (0<2^s):=Nat.two_pow_pos s;have LU:Hid (bW wr us (some ⟨w2.heap.size,0,none⟩) (na+1) (na+1)):=⟨U.out.at_,by rw[D.out.len,QL.out];omega,Nat.le_refl _,by omega,D.out.lu⟩;have VU:Hid (vl (aC (vl us))/2^s=x%y):=by show _=_;rw[au,DN.out.2,au,←HV.out,Nat.mul_mod_mul_right,Nat.mul_div_cancel _ pv.out]
  have VQ:Hid (vl qs=x/y):=by show _=_;rw[DN.out.1,au,←HV.out,Nat.mul_div_mul_right _ _ pv.out]
  have LT:=hid LU.out.trim;have tl:(gV us).length≤1099511627776:=by have:=vC D.out.lu;have:=LU.out.len;omega
  go_wp2_with fail;refine(iw LU.out).mono ?_;rintro e w' ⟨rfl,rfl⟩;go_wp2_with fail;refine(Uu LT.out tl (by omega)).mono ?_;rintro e w7 ⟨a7,n7,c7,b7,rfl,L7,B7⟩;rw[VU.out]at L7;have LQ:Hid (bW w7 qs (some ⟨w5.heap.size,0,none⟩) (na-nb) (na-nb)):=⟨(QU.out.later B7 QU.out.lt).at_,QL.out,Nat.le_refl _,by omega,D.out.lq⟩;have L7:=hid L7;have B7:=hid B7;go_wp2_with fail;refine(iw LQ.out).mono ?_;rintro e w' ⟨rfl,rfl⟩;go_wp2_with fail;go_ret2;exact⟨_,_,_,a7,n7,c7,rfl,by rw[←VQ.out];exact LQ.out.trim,L7.out,aB B2.out (aB BR.out B7.out)⟩
 obtain⟨k,rfl⟩:∃k,j=k+1:=⟨j-1,by omega⟩;have e1:((k+1:Nat):Int)-1=(k:Int):=by omega
 rw[e1];clear e1;have hcap:¬(na+1=k):=by omega
 have hk1:(k:Int)+((nb:Int)+1)+1≤(na:Int)+1:=by omega
 have hk2:(0:Int)≤(k:Int):=by omega
 have DD:=hid (D.out.digit (bD V) SH.out.1 (by omega) SH.out.2 (by rw[QL.out];omega));have DB:Hid (x9 wr w2.heap.size (us.take k) ((us.drop k).take (nb+1+1)) (us.drop (k+(nb+1)+1))):=by show UB _ _ _;rw[Nat.add_assoc k,YP];exact U.out
 have PL:Hid ((us.take k).length=k):=by show _=_;rw[List.length_take,D.out.len,QL.out];omega
 have LV2:=hid (LV.out.below BR.out);have BLV:=hid (LV.out.block_lt (by omega));go_wp2_with fail;rw[show k+(nb+1)+1-k=nb+1+1 from by omega];refine(JD DD.out.1 DB.out PL.out LV2.out.at_ (fun ad e=>by have:=BLV.out ad e;omega) (by omega) (by omega) hlv hcv (by omega)).mono ?_;rintro e w6 ⟨rfl,YQ,rem,hrl,hrm,Nk,hrd⟩;have BT:=hid YQ;have QU2:=hid (YQ.ub (by omega) QU.out);have p3:=QU2.out.cell (i:=k) (by rw[QL.out];omega);have f3:=QU2.out.free k;have RD:=hid hrd;have ST2:=hid (D.out.step (bD V) SH.out.1 (by omega) SH.out.2 (by rw[QL.out];omega) hrm hrl Nk);clear YQ hrl hrm Nk hrd;obtain⟨d,hd⟩:∃d,vl ((us.drop k).take (nb+1+1))/vl (aC V)=d:=⟨_,rfl⟩;rw[hd]at ST2;rw[hd];go_wp2_with fail;go_roundw
 case rel=>
  refine⟨k,_,_,by omega,rfl,?_,ST2.out,UB.other (by have:=RD.out;unfold x9 at this;rwa[Nat.add_assoc]at this⊢) (by omega),QU2.out.set k d,?_⟩
  ·rw[List.length_set];exact QL.out
  exact(BR.out.trans (JF BT.out (Nat.le_refl _) (BR.out.size))).setCell (by show w2.heap.size≤w5.heap.size;omega) _
 simp[intOf]
theorem oP {w:World}{x y:Nat}{a b:Option Addr}{na nb ca cb:Nat}(ha:bW w (aC x) a na ca)(hb:bW w (aC y) b nb cb)(hsz:na≤1099511627775)(h0:y≠0):
  Calls prog 97 #[.slice a na ca,.slice b nb cb] w (zk w x y):=by
 by_cases hlt:x<y
 ·exact JE ha hb (by omega) hlt
 have hp:=iY h0;rw[hb.len]at hp;by_cases h1:nb=1
 ·subst h1;exact EZ ha hb (by omega) (by omega)
 obtain⟨m,rfl⟩:∃m,nb=m+1:=⟨nb-1,by omega⟩;exact Fb ha hb hsz (by omega) (by omega)
def GcL (w:World)(x y:Nat)(k:Nat)(v0 v1:Value)(wr:World):Prop:=
 ∃(p q:Nat) (a:Option Addr) (n c:Nat) (b:Option Addr) (m d:Nat),v0= .slice a n c∧v1= .slice b m d∧q≤k∧bW wr (aC p) a n c∧bW wr (aC q) b m d∧Nat.gcd p q=Nat.gcd x y∧n≤1099511627775∧m≤1099511627775∧Below w.heap.size w wr
theorem zo {w:World}{x y:Nat}{a b:Option Addr}{na nb ca cb:Nat}(ha:bW w (aC x) a na ca)(hb:bW w (aC y) b nb cb)(hsz:na≤1099511627775)(oh:nb≤1099511627775):
  Calls prog 98 #[.slice a na ca,.slice b nb cb] w (iy w (Nat.gcd x y)):=by
 have S:Hid (GcL w x y y (.slice a na ca) (.slice b nb cb) w):=⟨x,y,a,na,ca,b,nb,cb,rfl,rfl,Nat.le_refl _,ha,hb,rfl,hsz,oh,Below.refl _ _⟩;clear ha hb hsz oh;go_enter func98,ntmps98;go_wp2_with fail;go_loopg [0,1] y (fun k v0 v1 wr=>GcL w x y k v0 v1 wr)
 case atStart=>exact S.out
 obtain⟨p,q,a,n,c,b,m,d,rfl,rfl,hk,hp,hq,hg,h1,h2,hB⟩:=hrel;have P:=hid hp;have Q:=hid hq;have G:=hid hg;have BR:=hid hB;clear hp hq hg hB;by_cases h0:m=0
 ·have q0:q=0:=by have e0:aC q=[]:=List.length_eq_zero_iff.1 (by rw[Q.out.len];exact h0);have:=au q;rw[e0]at this;exact this.symm
  have GP:Hid (p=Nat.gcd x y):=by show _=_;rw[←G.out,q0,Nat.gcd_zero_right]
  subst h0;clear q0;go_wp2_with fail;refine(clone_any P.out (by omega)).mono ?_;rintro e w2 ⟨a2,c2,rfl,L2,B2,_⟩;have L2:=hid L2;have B2:=hid B2;go_wp2_with fail;go_ret;exact⟨a2,n,c2,rfl,by rw[←GP.out];exact L2.out,aB BR.out B2.out⟩
 have q0:q≠0:=by intro e;have:=Q.out.len;rw[e,aA]at this;simp at this;omega
 have m0:(0:Int)<(m:Int):=by omega
 have lt:p%q<q:=Nat.mod_lt _ (by omega);have G2:Hid (Nat.gcd q (p%q)=Nat.gcd x y):=by show _=_;rw[←G.out,Nat.gcd_comm p q,Nat.gcd_rec q p,Nat.gcd_comm]
 go_wp2_with fail;refine(oP P.out Q.out h1 q0).mono ?_;rintro e w2 ⟨a2,n2,c2,a3,n3,c3,rfl,L2,L3,B2⟩;have L3:=hid L3;have B2:=hid B2;clear L2;have n3b:n3≤1099511627775:=by rw[←L3.out.len];have:=aK (Nat.le_of_lt lt);rw[Q.out.len]at this;omega
 go_wp2_with fail;go_roundg (p%q)
 case rel=>exact⟨q,p%q,b,m,d,a3,n3,c3,rfl,rfl,Nat.le_refl _,Q.out.below B2.out,L3.out,G2.out,h2,n3b,aB BR.out B2.out⟩
 omega
end Go.Proofs.YtijdglogadnbcaaGreat
