/- Looking for values in all ranges: what a step does, and that the steps end. No program. -/
import Derived.Test.YtijdglogadnbcaaGreatY11
set_option linter.unusedVariables false
set_option linter.unusedSimpArgs false
set_option maxRecDepth 100000
set_option maxHeartbeats 40000000
namespace Go.Proofs.YtijdglogadnbcaaGreat.Bl
open Go.Proofs.Tryz
open Go.RowKit Nt
theorem V.ext' {a b:V}(h1:a.m=b.m)(h2:a.s=b.s):a=b:=by cases a;cases b;simp only at h1 h2;rw[h1,h2]
theorem Pb.zI {P:Pb}{b:Nat}:P.lo b=true↔∃l,P.low b=some l∧(P.now b).lt l:=by
 unfold Pb.lo
 cases h:P.low b with
 | none=>simp
 | some l=>simp[qH]
theorem Pb.zJ {P:Pb}{b:Nat}:P.hi b=true↔∃l,P.high b=some l∧l.lt (P.now b):=by
 unfold Pb.hi
 cases h:P.high b with
 | none=>simp
 | some l=>simp[nN]
theorem Pb.OG {P:Pb}{b:Nat}:yu P.low P.high b (P.now b)↔P.lo b=false∧P.hi b=false:=by
 have h1:=P.zI (b:=b);have h2:=P.zJ (b:=b);constructor
 ·intro h;constructor
  ·cases e:P.lo b with
   | false=>rfl
   | true=>
    obtain⟨l,a,c⟩:=h1.1 e
    exact absurd (V.lt_of_lt_of_le c (h.1 l a)) (V.lt_irrefl _)
  cases e:P.hi b with
  | false=>rfl
  | true=>
   obtain⟨l,a,c⟩:=h2.1 e
   exact absurd (V.lt_of_lt_of_le c (h.2 l a)) (V.lt_irrefl _)
 rintro⟨a,b'⟩;refine⟨fun l hl=>?_,fun l hl=>?_⟩
 ·exact V.not_lt.1 fun c=>by rw[h1.2 ⟨l,hl,c⟩]at a;exact absurd a (by simp)
 exact V.not_lt.1 fun c=>by rw[h2.2 ⟨l,hl,c⟩]at b';exact absurd b' (by simp)
def Pb.ab3 (P:Pb)(i:Nat):Option (Nat×Bool)→Prop
 | none=>∀k,k<i→P.lo (P.basic k)=false∧P.hi (P.basic k)=false
 | some (r,up)=>r<i∧(if up then P.lo (P.basic r)=true else P.hi (P.basic r)=true)∧∀k,k<i→P.basic k<P.basic r→P.lo (P.basic k)=false∧P.hi (P.basic k)=false
theorem Pb.fK (P:Pb):∀i,P.ab3 i (P.jv i)
 | 0=>fun k hk=>by omega
 | i+1=>by
  have ih:=P.fK i;unfold Pb.jv;generalize P.jv i=res at ih⊢
  cases res with
  | none=>
   simp only[Pb.past,Bool.false_eq_true,if_false]
   split
   ·rename_i h;exact⟨by omega,by rw[if_pos rfl];exact h,fun k hk hlt=>by
     rcases Nat.lt_succ_iff_lt_or_eq.1 hk with q | q
     ·exact ih k q
     ·subst q;omega⟩
   ·rename_i h
    split
    ·rename_i h';exact⟨by omega,by rw[if_neg (by simp)];exact h',fun k hk hlt=>by
      rcases Nat.lt_succ_iff_lt_or_eq.1 hk with q | q
      ·exact ih k q
      ·subst q;omega⟩
    ·rename_i h'
     intro k hk
     rcases Nat.lt_succ_iff_lt_or_eq.1 hk with q | q
     ·exact ih k q
     ·subst q;simp only[Bool.not_eq_true]at h h';exact⟨h,h'⟩
  | some x=>
   obtain⟨r,up⟩:=x
   obtain⟨h1,h2,h3⟩:=ih
   by_cases hp:P.basic r<P.basic i
   ·rw[if_pos (show P.past i (some (r,up))=true from decide_eq_true hp)]
    exact⟨by omega,h2,fun k hk hlt=>by
     rcases Nat.lt_succ_iff_lt_or_eq.1 hk with q | q
     ·exact h3 k q hlt
     ·subst q;omega⟩
   ·rw[if_neg (show ¬P.past i (some (r,up))=true from fun e=>hp (of_decide_eq_true e))]
    by_cases h:P.lo (P.basic i)=true
    ·rw[if_pos h]
     exact⟨by omega,by rw[if_pos rfl];exact h,fun k hk hlt=>by
      rcases Nat.lt_succ_iff_lt_or_eq.1 hk with q | q
      ·exact h3 k q (by omega)
      ·subst q;omega⟩
    ·rw[if_neg h]
     by_cases h':P.hi (P.basic i)=true
     ·rw[if_pos h']
      exact⟨by omega,by rw[if_neg (by simp)];exact h',fun k hk hlt=>by
       rcases Nat.lt_succ_iff_lt_or_eq.1 hk with q | q
       ·exact h3 k q (by omega)
       ·subst q;omega⟩
     ·rw[if_neg h']
      refine⟨by omega,h2,fun k hk hlt=>?_⟩
      rcases Nat.lt_succ_iff_lt_or_eq.1 hk with q | q
      ·exact h3 k q hlt
      ·subst q;simp only[Bool.not_eq_true]at h h';exact⟨h,h'⟩
def Pb.ab4 (P:Pb)(r:Nat)(up:Bool)(i:Nat):Option Nat→Prop
 | none=>∀k,k<i→P.helps r k up=false
 | some c=>c<i∧P.helps r c up=true∧∀k,k<i→P.helps r k up=true→P.free c≤P.free k
theorem Pb.dS (P:Pb)(r:Nat)(up:Bool):∀i,P.ab4 r up i (P.kK r up i)
 | 0=>fun k hk=>by omega
 | i+1=>by
  have ih:=P.dS r up i;unfold Pb.kK;generalize P.kK r up i=res at ih⊢;by_cases h:P.helps r i up=true
  ·cases res with
   | none=>
    simp only[h,Pb.better,Bool.and_self,if_true]
    exact⟨by omega,h,fun k hk hh=>by
     rcases Nat.lt_succ_iff_lt_or_eq.1 hk with q | q
     ·have:=ih k q;rw[hh]at this;exact absurd this (by simp)
     ·subst q;exact Nat.le_refl _⟩
   | some c=>
    obtain⟨h1,h2,h3⟩:=ih
    simp only[h,Pb.better,Bool.true_and]
    split
    ·rename_i hp
     have hp:=of_decide_eq_true hp
     exact⟨by omega,h,fun k hk hh=>by
      rcases Nat.lt_succ_iff_lt_or_eq.1 hk with q | q
      ·exact Nat.le_of_lt (Nat.lt_of_lt_of_le hp (h3 k q hh))
      ·subst q;exact Nat.le_refl _⟩
    ·rename_i hp
     have hp:¬P.free i<P.free c:=fun e=>hp (decide_eq_true e)
     exact⟨by omega,h2,fun k hk hh=>by
      rcases Nat.lt_succ_iff_lt_or_eq.1 hk with q | q
      ·exact h3 k q hh
      ·subst q;omega⟩
  have h:P.helps r i up=false:=by simpa using h
  rw[h,Bool.false_and,if_neg (by simp)]
  cases res with
  | none=>
   intro k hk
   rcases Nat.lt_succ_iff_lt_or_eq.1 hk with q | q
   ·exact ih k q
   ·subst q;exact h
  | some c=>
   obtain⟨h1,h2,h3⟩:=ih
   exact⟨by omega,h2,fun k hk hh=>by
    rcases Nat.lt_succ_iff_lt_or_eq.1 hk with q | q
    ·exact h3 k q hh
    ·subst q;rw[h]at hh;exact absurd hh (by simp)⟩
theorem Pb.JM {P:Pb}{v:Nat}:P.rises v=true↔rise P.high v (P.now v):=by
 unfold Pb.rises rise
 cases h:P.high v with
 | none=>simp
 | some u=>simp[qH]
theorem Pb.JO {P:Pb}{v:Nat}:P.falls v=true↔fall P.low v (P.now v):=by
 unfold Pb.falls fall
 cases h:P.low v with
 | none=>simp
 | some u=>simp[nN]
theorem Pb.UK {P:Pb}{r k:Nat}{up:Bool}:0<P.dir r k up↔0<(if up then 1 else-1:Rat)*P.T r k:=by
 unfold Pb.dir
 cases up with
 | true=>simp only[if_true];rw[dZ];grind
 | false=>
  simp only[Bool.false_eq_true,if_false]
  have:= @iT (P.T r k)
  constructor
  ·intro h;have:=this.1 (by omega);grind
  ·intro h;have:=this.2 (by grind);omega
theorem Pb.UL {P:Pb}{r k:Nat}{up:Bool}:P.dir r k up<0↔(if up then 1 else-1:Rat)*P.T r k<0:=by
 unfold Pb.dir
 cases up with
 | true=>simp only[if_true];rw[iT];grind
 | false=>
  simp only[Bool.false_eq_true,if_false]
  have:= @dZ (P.T r k)
  constructor
  ·intro h;have:=this.1 (by omega);grind
  ·intro h;have:=this.2 (by grind);omega
theorem Pb.fM {P:Pb}{r k:Nat}{up:Bool}:P.helps r k up=true↔
  (0<(if up then 1 else-1:Rat)*P.T r k∧rise P.high (P.free k) (P.now (P.free k)))∨((if up then 1 else-1:Rat)*P.T r k<0∧fall P.low (P.free k) (P.now (P.free k))):=by unfold Pb.helps;rw[Bool.or_eq_true,Bool.and_eq_true,Bool.and_eq_true,decide_eq_true_iff,decide_eq_true_iff,Pb.JM,Pb.JO,Pb.UK,Pb.UL]
theorem Pb.vW {P:Pb}{r k:Nat}{up:Bool}(h:P.helps r k up=true):P.T r k≠0:=by intro e;rw[Pb.fM,e]at h;rcases h with⟨h,_⟩ | ⟨h,_⟩<;>grind
theorem Pb.nO {P:Pb}(h:P.Pl){c:Nat}(hc:c<P.n)(b:V):∀i,i≤P.m→∀k,k<i→P.oz c b i (P.basic k)=(P.now (P.basic k)).add (V.mul (P.T k c) b)
 | 0,_,k,hk=>by omega
 | i+1,hi,k,hk=>by
  simp only[Pb.oz];rcases Nat.lt_succ_iff_lt_or_eq.1 hk with q | q
  ·have ih:=Pb.nO h hc b i (by omega) k q;split
   ·exact ih
   simp only;rw[if_neg (fun e=>by have:=h.FC k i (by omega) (by omega) e;omega)];exact ih
  subst q;have hb:=Pb.vU h hc b k (by omega) k (Nat.le_refl _) (by omega);split
  ·rename_i e;rw[hb,e];unfold V.add V.mul;simp only;refine V.ext' ?_ ?_<;>simp only<;>grind
  simp only;rw[if_pos trivial,hb]
theorem Pb.qJ {P:Pb}(h:P.Pl){c:Nat}(hc:c<P.n)(b:V){k:Nat}(hk:k<P.n):∀i,i≤P.m→P.oz c b i (P.free k)=if k=c then(P.now (P.free k)).add b else P.now (P.free k)
 | 0,_=>by
  simp only[Pb.oz];by_cases e:k=c
  ·subst e;simp
  rw[if_neg e,if_neg fun q=>e (h.FH k c hk hc q)]
 | i+1,hi=>by
  have ih:=Pb.qJ h hc b hk i (by omega);simp only[Pb.oz];split
  ·exact ih
  simp only;rw[if_neg (fun e=>h.tX i k (by omega) hk e.symm)];exact ih
theorem Pb.qK {P:Pb}(h:P.Pl)(c:Nat)(b:V):(P.mv c b).Pl:=⟨h.blt,h.flt,h.FC,h.FH,h.tX,h.cover⟩
theorem Pb.WW {P:Pb}(h:P.Pl){c:Nat}(hc:c<P.n)(b:V)(g:V→Rat)(ga:∀x y,g (x.add y)=g x+g y)(gm:∀q x,g (V.mul q x)=q*g x)(ht:P.TW fun j=>g (P.now j)):P.TW fun j=>g ((P.mv c b).now j):=by
 intro i hi;show g (P.oz c b P.m (P.basic i))=sm P.n fun k=>P.T i k*g (P.oz c b P.m (P.free k));rw[Pb.nO h hc b P.m (Nat.le_refl _) i hi,ga,gm];have e:sm P.n (fun k=>P.T i k*g (P.oz c b P.m (P.free k)))=sm P.n fun k=>P.T i k*g (P.now (P.free k))+(if k=c then P.T i c*g b else 0):=by
  refine dw fun k hk=>?_;rw[Pb.qJ h hc b hk P.m (Nat.le_refl _)];by_cases q:k=c
  ·subst q;rw[if_pos rfl,if_pos rfl,ga];grind
  rw[if_neg q,if_neg q];grind
 rw[e,rU,lK (r:=c) (f:=fun k=>if k=c then P.T i c*g b else 0) hc fun j _ hj=>by simp[hj]];have:=ht i hi;simp only at this;rw[this];simp
theorem Pb.OH {P:Pb}(h:P.Pl){c:Nat}(hc:c<P.n)(b:V)(ht:P.TV P.now):P.TV (P.mv c b).now:=
 ⟨Pb.WW h hc b (fun x=>x.m) (fun _ _=>rfl) (fun _ _=>rfl) ht.1,Pb.WW h hc b (fun x=>x.s) (fun _ _=>rfl) (fun _ _=>rfl) ht.2⟩
structure Pb.Ok (P:Pb):Prop where
 pl:P.Pl
 tv:P.TV P.now
 inb:∀k,k<P.n→yu P.low P.high (P.free k) (P.now (P.free k))
 ord:∀v l h,P.low v=some l→P.high v=some h→l.le h
def Pb.fO (P:Pb)(r:Nat)(up:Bool):Option V:=if up then P.low (P.basic r)else P.high (P.basic r)
def Pb.fst (P:Pb)(r c:Nat)(b:V):Pb:=(P.mv c (V.mul (1/P.T r c) (b.sub (P.now (P.basic r))))).pivot r c
structure uf (P:Pb)(r:Nat)(up:Bool)(c:Nat)(b:V):Prop where
 ok:P.Ok
 br:P.brk=some (r,up)
 hl:P.hlp r up=some c
 en:P.fO r up=some b
theorem uf.rm {P:Pb}{r:Nat}{up:Bool}{c:Nat}{b:V}(h:uf P r up c b):r<P.m:=by have:=P.fK P.m;have e:=h.br;unfold Pb.brk at e;rw[e]at this;exact this.1
theorem uf.cn {P:Pb}{r:Nat}{up:Bool}{c:Nat}{b:V}(h:uf P r up c b):c<P.n:=by have:=P.dS r up P.n;have e:=h.hl;unfold Pb.hlp at e;rw[e]at this;exact this.1
theorem uf.he {P:Pb}{r:Nat}{up:Bool}{c:Nat}{b:V}(h:uf P r up c b):P.helps r c up=true:=by have:=P.dS r up P.n;have e:=h.hl;unfold Pb.hlp at e;rw[e]at this;exact this.2.1
theorem uf.nz {P:Pb}{r:Nat}{up:Bool}{c:Nat}{b:V}(h:uf P r up c b):P.T r c≠0:=Pb.vW h.he
theorem uf.Fz {P:Pb}{r:Nat}{up:Bool}{c:Nat}{b:V}(h:uf P r up c b):if up then P.low (P.basic r)=some b∧(P.now (P.basic r)).lt b else P.high (P.basic r)=some b∧b.lt (P.now (P.basic r)):=by
 have:=P.fK P.m;have e:=h.br;unfold Pb.brk at e;rw[e]at this;have t:=this.2.1;have e:=h.en;unfold Pb.fO at e
 cases up with
 | true=>
  simp only[if_true]at t e⊢
  obtain⟨l,hl,hlt⟩:=Pb.zI.1 t
  rw[hl]at e;cases e;exact⟨hl,hlt⟩
 | false=>
  simp only[Bool.false_eq_true,if_false]at t e⊢
  obtain⟨l,hl,hlt⟩:=Pb.zJ.1 t
  rw[hl]at e;cases e;exact⟨hl,hlt⟩
theorem uf.first {P:Pb}{r:Nat}{up:Bool}{c:Nat}{b:V}(h:uf P r up c b){k:Nat}(hk:k<P.m)(hlt:P.basic k<P.basic r):yu P.low P.high (P.basic k) (P.now (P.basic k)):=by have:=P.fK P.m;have e:=h.br;unfold Pb.brk at e;rw[e]at this;exact Pb.OG.2 (this.2.2 k hk hlt)
theorem uf.least {P:Pb}{r:Nat}{up:Bool}{c:Nat}{b:V}(h:uf P r up c b){k:Nat}(hk:k<P.n)(hh:P.helps r k up=true):P.free c≤P.free k:=by have:=P.dS r up P.n;have e:=h.hl;unfold Pb.hlp at e;rw[e]at this;exact this.2.2 k hk hh
theorem uf.zK {P:Pb}{r:Nat}{up:Bool}{c:Nat}{b:V}(h:uf P r up c b):(P.fst r c b).now (P.basic r)=b:=by
 show P.oz c _ P.m (P.basic r)=b;rw[Pb.nO h.ok.pl h.cn _ P.m (Nat.le_refl _) r h.rm];have z:P.T r c*(1/P.T r c)=1:=by have:=h.nz;grind
 unfold V.add V.mul V.sub;refine V.ext' ?_ ?_<;>simp only<;>rw[←Rat.mul_assoc,z]<;>grind
theorem uf.vX {P:Pb}{r:Nat}{up:Bool}{c:Nat}{b:V}(h:uf P r up c b){k:Nat}(hk:k<P.n)(hne:k≠c):(P.fst r c b).now (P.free k)=P.now (P.free k):=by show P.oz c _ P.m (P.free k)=_;rw[Pb.qJ h.ok.pl h.cn _ hk P.m (Nat.le_refl _),if_neg hne]
theorem uf.next {P:Pb}{r:Nat}{up:Bool}{c:Nat}{b:V}(h:uf P r up c b):(P.fst r c b).Ok:=by
 have mp:=Pb.qK h.ok.pl c (V.mul (1/P.T r c) (b.sub (P.now (P.basic r))));refine⟨mp.pivot h.rm h.cn,(Pb.vS mp h.rm h.cn h.nz _).1 (Pb.OH h.ok.pl h.cn _ h.ok.tv),fun k hk=>?_,h.ok.ord⟩;show yu P.low P.high (if k=c then P.basic r else P.free k) ((P.fst r c b).now (if k=c then P.basic r else P.free k));by_cases e:k=c
 ·rw[if_pos e,h.zK];have v:=h.Fz
  cases up with
  | true=>
   simp only[if_true]at v
   exact⟨fun l hl=>by rw[v.1]at hl;cases hl;exact V.le_refl _,fun u hu=>h.ok.ord _ _ _ v.1 hu⟩
  | false=>
   simp only[Bool.false_eq_true,if_false]at v
   exact⟨fun l hl=>h.ok.ord _ _ _ hl v.1,fun u hu=>by rw[v.1]at hu;cases hu;exact V.le_refl _⟩
 rw[if_neg e,h.vX hk e];exact h.ok.inb k hk
theorem uf.tv {P:Pb}{r:Nat}{up:Bool}{c:Nat}{b:V}(h:uf P r up c b)(y:Nat→V):P.TV y↔(P.fst r c b).TV y:=
 Pb.vS (Pb.qK h.ok.pl c _) h.rm h.cn h.nz y
def Pb.mZ (P:Pb)(r j:Nat):Rat:=sm P.n fun k=>if P.free k=j then P.T r k else 0
theorem lM (N:Nat)(T:Nat→Rat)(f:Nat→Nat)(y:Nat→Rat):∀n,(∀k,k<n→f k<N)→sm N (fun j=>sm n (fun k=>if f k=j then T k else 0)*y j)=sm n fun k=>T k*y (f k)
 | 0,_=>jY fun j _=>by simp only[sm];grind
 | n+1,h=>by
  have ih:=lM N T f y n fun k hk=>h k (by omega);have e:sm N (fun j=>sm (n+1) (fun k=>if f k=j then T k else 0)*y j)=sm N fun j=>sm n (fun k=>if f k=j then T k else 0)*y j+(if f n=j then T n else 0)*y j:=dw fun j _=>by simp only[sm];grind
  rw[e,rU,ih,lK (r:=f n) (f:=fun j=>(if f n=j then T n else 0)*y j) (h n (by omega)) fun j _ hj=>by rw[if_neg fun q=>hj q.symm];grind];simp only[sm,if_true]
theorem Pb.jZ {P:Pb}(h:P.Pl)(r:Nat){k:Nat}(hk:k<P.n):P.mZ r (P.free k)=P.T r k:=by unfold Pb.mZ;rw[lK (r:=k) (f:=fun i=>if P.free i=P.free k then P.T r i else 0) hk fun j hj hne=>by rw[if_neg fun q=>hne (h.FH j k hj hk q)]];simp
theorem Pb.yw {P:Pb}(r j:Nat)(h:P.mZ r j≠0):P.nb j:=by refine Classical.byContradiction fun hn=>h ?_;exact jY fun k hk=>by rw[if_neg fun q=>hn ⟨k,hk,q⟩]
structure FRn (S:Nat→Pb)(r:Nat→Nat)(up:Nat→Bool)(c:Nat→Nat)(b:Nat→V)(L:Nat):Prop where
 st:∀t,t<L→uf (S t) (r t) (up t) (c t) (b t)
 nx:∀t,t<L→S (t+1)=(S t).fst (r t) (c t) (b t)
 ok:(S 0).Ok
theorem FRn.same {S:Nat→Pb}{r:Nat→Nat}{up:Nat→Bool}{c:Nat→Nat}{b:Nat→V}{L:Nat}(h:FRn S r up c b L):∀t,t≤L→(S t).n=(S 0).n∧(S t).m=(S 0).m∧(S t).low=(S 0).low∧(S t).high=(S 0).high∧(S t).Ok∧∀y,(S t).TV y↔(S 0).TV y
 | 0,_=>⟨rfl,rfl,rfl,rfl,h.ok,fun _=>Iff.rfl⟩
 | t+1,ht=>by obtain⟨a,b',d,e,f,g⟩:=h.same t (by omega);have st:=h.st t (by omega);rw[h.nx t (by omega)];exact⟨a,b',d,e,st.next,fun y=>(st.tv y).symm.trans (g y)⟩
theorem FRn.mend {S:Nat→Pb}{r:Nat→Nat}{up:Nat→Bool}{c:Nat→Nat}{b:Nat→V}{L:Nat}(h:FRn S r up c b L):
  Oy (fun t j=>(S t).nb j) (fun t=>(S t).free (c t)) (fun t=>(S t).basic (r t)) (fun t j=>(S t).mZ (r t) j) (fun t=>(S t).now) up (S 0).low (S 0).high ((S 0).n+(S 0).m) L where
 ex:=by refine⟨fun t ht=>⟨c t,(h.st t ht).cn,rfl⟩,fun t ht=>(h.st t ht).ok.pl.BZ (h.st t ht).rm,fun t ht j=>?_⟩;have st:=h.st t ht;rw[h.nx t ht];exact(Pb.qK st.ok.pl (c t) _).Cb st.rm st.cn j
 lt t ht:=by have st:=h.st t ht;obtain⟨a,b',_⟩:=h.same t (by omega);rw[←a,←b'];exact⟨st.ok.pl.flt _ st.cn,st.ok.pl.blt _ st.rm⟩
 aaB t ht j hj:=Pb.yw _ _ hj
 row t u ht hu:=by
  have st:=h.st t ht;obtain⟨a,b',_,_,_,tv⟩:=h.same t (by omega);obtain⟨_,_,_,_,ok,tv'⟩:=h.same u hu;have y:=(tv _).2 ((tv' _).1 ok.tv);have fl:∀k,k<(S t).n→(S t).free k<(S 0).n+(S 0).m:=fun k hk=>by rw[←a,←b'];exact st.ok.pl.flt k hk
  unfold vs;refine V.ext' ?_ ?_
  ·simp only[Pb.mZ];rw[lM _ (fun k=>(S t).T (r t) k) _ (fun j=>((S u).now j).m) _ fl];exact y.1 (r t) st.rm
  simp only[Pb.mZ];rw[lM _ (fun k=>(S t).T (r t) k) _ (fun j=>((S u).now j).s) _ fl];exact y.2 (r t) st.rm
 inb t ht j hj:=by obtain⟨_,_,lo,hi,ok,_⟩:=h.same t ht;obtain⟨k,hk,rfl⟩:=hj;rw[←lo,←hi];exact ok.inb k hk
 keep t ht j hj hne:=by have st:=h.st t ht;obtain⟨k,hk,rfl⟩:=hj;rw[h.nx t ht];exact st.vX hk fun e=>hne (by rw[e])
 Fz t ht:=by
  have st:=h.st t ht;obtain⟨_,_,lo,hi,_,_⟩:=h.same t (by omega);have v:=st.Fz;have o:=st.zK;rw[←h.nx t ht]at o;rw[←lo,←hi]
  cases e:up t with
  | true=>rw[e]at v;simp only[if_true]at v⊢;exact⟨b t,v.1,v.2,o⟩
  | false=>rw[e]at v;simp only[Bool.false_eq_true,if_false]at v⊢;exact⟨b t,v.1,v.2,o⟩
 first t ht j hj hn:=by
  have st:=h.st t ht;obtain⟨_,_,lo,hi,_,_⟩:=h.same t (by omega);rw[←lo,←hi];rcases st.ok.pl.cover j (Nat.lt_trans hj (st.ok.pl.blt _ st.rm))with⟨k,hk,rfl⟩ | e
  ·exact st.first hk hj
  exact absurd e hn
 good t ht:=by have st:=h.st t ht;obtain⟨_,_,lo,hi,_,_⟩:=h.same t (by omega);rw[←lo,←hi,Pb.jZ st.ok.pl _ st.cn];exact Pb.fM.1 st.he
 least t ht j hj hn:=by have st:=h.st t ht;obtain⟨_,_,lo,hi,_,_⟩:=h.same t (by omega);obtain⟨k,hk,rfl⟩:=hn;rw[←lo,←hi,Pb.jZ st.ok.pl _ hk];exact⟨fun q=>absurd (st.least hk (Pb.fM.2 (Or.inl q))) (by omega),fun q=>absurd (st.least hk (Pb.fM.2 (Or.inr q))) (by omega)⟩
theorem Pb.Ic {P:Pb}{y:Nat→V}(h:P.TV y){r:Nat}(hr:r<P.m):y (P.basic r)=vs P.n (fun k=>P.T r k) (fun k=>y (P.free k)):=
 V.ext' (h.1 r hr) (h.2 r hr)
theorem Pb.stuck {P:Pb}(h:P.Ok){r:Nat}{up:Bool}(hb:P.brk=some (r,up))(hh:P.hlp r up=none)(y:Nat→V)(ty:P.TV y)(hy:∀v,v<P.n+P.m→yu P.low P.high v (y v)):False:=by
 have bp:=P.fK P.m;unfold Pb.brk at hb;rw[hb]at bp;have hp:=P.dS r up P.n;unfold Pb.hlp at hh;rw[hh]at hp;obtain⟨hr,hv,_⟩:=bp;have each:∀k,k<P.n→(V.mul ((if up then 1 else-1:Rat)*P.T r k) ((y (P.free k)).sub (P.now (P.free k)))).npos:=by
  intro k hk;have nh:=hp k hk;have nh:¬P.helps r k up=true:=by rw[nh];simp
  rw[Pb.fM]at nh;have yk:=hy (P.free k) (h.pl.flt k hk);by_cases p:0<(if up then 1 else-1:Rat)*P.T r k
  ·obtain⟨u,hu,hle⟩:=vM fun q=>nh (Or.inl ⟨p,q⟩);exact V.mV (Rat.le_of_lt p) (V.le_iff.1 (V.le_trans (yk.2 u hu) hle))
  by_cases p2:(if up then 1 else-1:Rat)*P.T r k<0
  ·obtain⟨u,hu,hle⟩:=vO fun q=>nh (Or.inr ⟨p2,q⟩);exact V.kJ (Rat.le_of_lt p2) (V.le_iff.1 (V.le_trans hle (yk.1 u hu)))
  have:(if up then 1 else-1:Rat)*P.T r k=0:=by grind
  rw[this];unfold V.mul V.npos;simp only;right;constructor<;>grind
 have s:=zy each;rw[←Fv,←qE,←qE,←Pb.Ic ty hr,←Pb.Ic h.tv hr]at s
 cases up with
 | true=>
  simp only[if_true]at hv s
  obtain⟨l,hl,hlt⟩:=Pb.zI.1 hv
  have:=V.lt_of_lt_of_le hlt ((hy _ (h.pl.blt r hr)).1 l hl)
  rw[V.lt_iff]at this
  unfold V.neg V.npos V.mul V.sub at*;simp only at*;grind
 | false=>
  simp only[Bool.false_eq_true,if_false]at hv s
  obtain⟨l,hl,hlt⟩:=Pb.zJ.1 hv
  have:=V.lt_of_le_of_lt ((hy _ (h.pl.blt r hr)).2 l hl) hlt
  rw[V.lt_iff]at this
  unfold V.neg V.npos V.mul V.sub at*;simp only at*;grind
theorem Pb.whole {P:Pb}(h:P.Ok)(hb:P.brk=none):∀v,v<P.n+P.m→yu P.low P.high v (P.now v):=by
 intro v hv;have bp:=P.fK P.m;unfold Pb.brk at hb;rw[hb]at bp;rcases h.pl.cover v hv with⟨i,hi,rfl⟩ | ⟨k,hk,rfl⟩
 ·exact Pb.OG.2 (bp i hi)
 exact h.inb k hk
def Pb.fd (P:Pb):Option (Nat×Bool×Nat×V):=
 match P.brk with
 | none=>none
 | some (r,up)=>match P.hlp r up,P.fO r up with
  | some c,some b=>some (r,up,c,b)
  | _,_=>none
def Pb.fnx (P:Pb):Pb:=match P.fd with | some (r,_,c,b)=>P.fst r c b | none=>P
def Pb.jQ (P:Pb):Nat→Pb
 | 0=>P
 | t+1=>(P.jQ t).fnx
def Pb.dd (P:Pb):Nat×Bool×Nat×V:=P.fd.getD (0,false,0,⟨0,0⟩)
theorem Pb.WX {P:Pb}(h:P.Ok){r:Nat}{up:Bool}{c:Nat}{b:V}(e:P.fd=some (r,up,c,b)):uf P r up c b:=by
 unfold Pb.fd at e
 cases hb:P.brk with
 | none=>rw[hb]at e;simp at e
 | some x=>
  obtain⟨r',up'⟩:=x
  rw[hb]at e
  simp only at e
  cases hc:P.hlp r' up' with
  | none=>rw[hc]at e;simp at e
  | some c'=>
   cases hg:P.fO r' up' with
   | none=>rw[hc,hg]at e;simp at e
   | some b'=>
    rw[hc,hg]at e
    simp only[Option.some.injEq,Prod.mk.injEq]at e
    obtain⟨rfl,rfl,rfl,rfl⟩:=e
    exact⟨h,hb,hc,hg⟩
theorem Pb.UM {P:Pb}(e:P.fd=none):P.brk=none∨∃r up,P.brk=some (r,up)∧P.hlp r up=none:=by
 unfold Pb.fd at e
 cases hb:P.brk with
 | none=>exact Or.inl rfl
 | some x=>
  obtain⟨r',up'⟩:=x
  rw[hb]at e
  simp only at e
  right
  refine⟨r',up',rfl,?_⟩
  cases hc:P.hlp r' up' with
  | none=>rfl
  | some c'=>
   exfalso
   have bp:=P.fK P.m
   unfold Pb.brk at hb;rw[hb]at bp
   have t:=bp.2.1
   cases hg:P.fO r' up' with
   | some b'=>rw[hc,hg]at e;simp at e
   | none=>
    unfold Pb.fO at hg
    cases up' with
    | true=>
     simp only[if_true]at hg t
     obtain⟨l,hl,_⟩:=Pb.zI.1 t
     rw[hg]at hl;simp at hl
    | false=>
     simp only[Bool.false_eq_true,if_false]at hg t
     obtain⟨l,hl,_⟩:=Pb.zJ.1 t
     rw[hg]at hl;simp at hl
theorem Pb.CP {P:Pb}(h:P.Ok):∀L,(∀t,t<L→(P.jQ t).fd≠none)→FRn P.jQ (fun t=>(P.jQ t).dd.1) (fun t=>(P.jQ t).dd.2.1) (fun t=>(P.jQ t).dd.2.2.1) (fun t=>(P.jQ t).dd.2.2.2) L
 | 0,_=>⟨fun t ht=>by omega,fun t ht=>by omega,h⟩
 | L+1,hn=>by
  have ih:=Pb.CP h L fun t ht=>hn t (by omega);have ok:=(ih.same L (Nat.le_refl _)).2.2.2.2.1;have hL:=hn L (by omega);obtain⟨d,hd⟩:∃d,(P.jQ L).fd=some d:=by
   cases e:(P.jQ L).fd with
   | none=>exact absurd e hL
   | some d=>exact⟨d,rfl⟩
  obtain⟨r,up,c,b⟩:=d;have st:=Pb.WX ok hd;have e:(P.jQ L).dd=(r,up,c,b):=by unfold Pb.dd;rw[hd];rfl
  refine⟨fun t ht=>?_,fun t ht=>?_,h⟩
  ·rcases Nat.lt_succ_iff_lt_or_eq.1 ht with q | q
   ·exact ih.st t q
   subst q;rw[e];exact st
  rcases Nat.lt_succ_iff_lt_or_eq.1 ht with q | q
  ·exact ih.nx t q
  subst q;show(P.jQ t).fnx=_;rw[e];unfold Pb.fnx;rw[hd]
theorem Pb.OI {P:Pb}(h:P.Ok):∃L,L<3^(P.n+P.m)∧(∀t,t<L→(P.jQ t).fd≠none)∧(P.jQ L).fd=none:=by
 have a:∀L,(∀t,t<L→(P.jQ t).fd≠none)∨∃K,K<L∧(∀t,t<K→(P.jQ t).fd≠none)∧(P.jQ K).fd=none:=by
  intro L;induction L with
  | zero=>exact Or.inl fun t ht=>by omega
  | succ L ih=>
   rcases ih with ih | ⟨K,k1,k2,k3⟩
   ·by_cases e:(P.jQ L).fd=none
    ·exact Or.inr ⟨L,by omega,ih,e⟩
    ·exact Or.inl fun t ht=>by
      rcases Nat.lt_succ_iff_lt_or_eq.1 ht with q | q
      ·exact ih t q
      ·subst q;exact e
   ·exact Or.inr ⟨K,by omega,k2,k3⟩
 rcases a (3^(P.n+P.m))with q | ⟨K,k1,k2,k3⟩
 ·exact absurd (Pb.CP h _ q).mend.ends (Nat.lt_irrefl _)
 exact⟨K,k1,k2,k3⟩
end Go.Proofs.YtijdglogadnbcaaGreat.Bl
namespace Go.Proofs.YtijdglogadnbcaaGreat
open Go.Proofs.Tryz
open Go.RowKit Nt Bl
def JQ:Option (Nat×Bool)→Int
 | none=> -1
 | some (r,_)=>(r:Int)
def upB:Option (Nat×Bool)→Bool
 | none=>false
 | some (_,up)=>up
def BkL (w:World)(P:Pb)(v2 v3 v11:Value)(wr:World):Prop:=
 ∃k:Nat,k≤P.m∧v11= .int .i64 (k:Int)∧v2= .int .i64 (JQ (P.jv k))∧v3= .bool (upB (P.jv k))∧Below w.heap.size w wr
theorem UN {n0:Nat}{w:World}{L:Lay}{P:Pb}(h:eY n0 w L P)(hp:P.Pl)(hs:uz P 1048576):
  Calls prog 156 #[.pointer (some ⟨L.p,0,none⟩)] w fun e w'=>e= .returned (.tuple #[.int .i64 (JQ P.brk),.bool (upB P.brk)])∧Below w.heap.size w w':=by
 have nm:=h.nm;have cp:=h.cp;obtain⟨N,hN⟩:∃N,P.n+P.m=N:=⟨_,rfl⟩;obtain⟨m,hm⟩:∃m,P.m=m:=⟨_,rfl⟩;obtain⟨n,hn⟩:∃n,P.n=n:=⟨_,rfl⟩;rw[hm]at nm cp;rw[hn]at nm cp;have Nb:N≤128:=by omega
 have HN:=hid hN;have HM:=hid hm;have ug:=hid h;have PL:=hid hp;have SZ:=hid hs;have HD:=hid (fun(W:World) (h:eY n0 W L P)=>(show W.cell? ⟨L.p,0,none⟩=some (.int .i64 (n:Int))∧W.cell? ⟨L.p,1,none⟩=some (.slice (some ⟨L.low,0,none⟩) N N)∧W.cell? ⟨L.p,2,none⟩=some (.slice (some ⟨L.high,0,none⟩) N N)∧
   W.cell? ⟨L.p,3,none⟩=some (.slice (some ⟨L.now,0,none⟩) N N)∧W.cell? ⟨L.p,4,none⟩=some (.slice (some ⟨L.mY,0,none⟩) m L.qI)∧W.cell? ⟨L.p,5,none⟩=some (.slice L.JL n L.rY)∧W.cell? ⟨L.p,6,none⟩=some (.slice (some ⟨L.tab,0,none⟩) m L.tZ) from by
  have:=h.head;rw[hN,hm,hn]at this;exact this))
 obtain⟨q0,q1,q2,q3,q4,q5,q6⟩:=HD.out w ug.out;clear h hp hs hN hm hn;go_enter func156,ntmps156;go_wp2_with fail;go_loopw [2,3,11] (fun v2 v3 v11 wr=>BkL w P v2 v3 v11 wr) (fun _ _ v _=>m-(intOf v).toNat)
 case atStart=>exact⟨0,Nat.zero_le _,rfl,rfl,rfl,Below.refl _ _⟩
 obtain⟨k,hk,rfl,rfl,rfl,hB⟩:=hrel;rw[HM.out]at hk;have BR:=hid hB;have AT:=hid (ug.out.below hB);clear hB q0 q1 q2 q3 q4 q5 q6;obtain⟨q0,q1,q2,q3,q4,q5,q6⟩:=HD.out wr AT.out;by_cases hlt:k<m
 ·have hlt2:k<P.m:=by rw[HM.out];exact hlt
  have p:=AT.out.ba.at_ k hlt2;obtain⟨b,hb⟩:∃b,P.basic k=b:=⟨_,rfl⟩;have bN:b<N:=by rw[←hb,←HN.out];exact PL.out.blt k hlt2
  have b00:(0:Int)≤(b:Int):=by omega
  have b01:(b:Int)<(N:Int):=by omega
  rw[hb]at p;have NX:Hid (P.jv (k+1)=if P.past k (P.jv k)then P.jv k else if P.lo b then some (k,true)else if P.hi b then some (k,false)else P.jv k):=by show _=_;rw[←hb];rfl
  have BI:=P.fK k;have PS:Hid (P.past k (P.jv k)=match P.jv k with | some (r,_)=>decide (P.basic r<b) | none=>false):=by show _=_;rw[←hb];unfold Pb.past;cases P.jv k<;>rfl
  have HB:=hid hb;generalize aaC:P.jv k=prev at NX BI PS;clear hb aaC;obtain⟨ps,hps⟩:∃ps,P.past k prev=ps:=⟨_,rfl⟩;rw[hps]at NX PS;clear hps;go_upto_region 5 with fail
  go_cut [28] (fun v W=>v= .bool ps∧W=wr)
  case first=>
   cases prev with
   | none=>
    have E:Hid (ps=false):=PS.out
    simp only[JQ,upB]
    go_wp2_with fail
    go_meet
    case rel=>exact⟨by rw[E.out],rfl⟩
   | some x=>
    obtain⟨r,up⟩:=x
    have rm:r<m:=by have:=BI.1;omega
    have pr:=AT.out.ba.at_ r (by rw[HM.out];exact rm)
    obtain⟨c,hc⟩:∃c,P.basic r=c:=⟨_,rfl⟩
    have E:Hid (ps=decide (c<b)):=by rw[←hc];exact PS.out
    rw[hc]at pr
    have r0:(0:Int)≤(r:Int):=by omega
    have r1:(r:Int)<(m:Int):=by omega
    clear hc BI
    simp only[JQ,upB]
    go_wp2_with fail
    go_meet
    case rel=>exact⟨by rw[E.out],rfl⟩
  obtain⟨rfl,rfl⟩:=hcut
  cases ps with
  | true=>
   have N2:Hid (P.jv (k+1)=prev):=by show _=_;rw[NX.out,if_pos rfl]
   go_wp2_with fail
   go_roundw
   case rel=>exact⟨k+1,by rw[HM.out];omega,by go_num,by rw[N2.out],by rw[N2.out],BR.out⟩
   case measure=>simp[intOf];omega
  | false=>
   have N2:Hid (P.jv (k+1)=if P.lo b then some (k,true)else if P.hi b then some (k,false)else prev):=by show _=_;rw[NX.out,if_neg (by simp)]
   clear NX PS BI
   obtain⟨W1,rfl⟩:∃W1:World,W1=wc:=⟨_,rfl⟩
   go_upto_region 6 with fail
   go_cut [29] (fun v W=>v= .bool (P.lo b)∧Below W1.heap.size W1 W)
   case first=>
    obtain⟨q0,q1,q2,q3,q4,q5,q6⟩:=HD.out W1 AT.out
    have bh:=AT.out.lo.at_ b (by rw[HN.out];exact bN)
    cases hh:P.low b with
    | none=>
     have E:Hid (P.lo b=false):=by show _=_;unfold Pb.lo;rw[hh]
     rw[hh]at bh
     have b0:=bh.1
     clear bh hh
     go_quiet (fail)
     go_wp2_with fail
     go_meet
     case rel=>exact⟨by rw[E.out],Qt.below ⟨nq,rfl⟩⟩
    | some u=>
     obtain⟨z,hz⟩:∃z,jd (P.now b) u=z:=⟨_,rfl⟩
     have E:Hid (P.lo b=decide (z<0)):=by show _=_;unfold Pb.lo;rw[hh];rw[←hz]
     rw[hh]at bh
     obtain⟨b0,M',S',r3,r4,b1,b2,b3,b4,b5,b6⟩:=bh.jE
     obtain⟨M,S,r1,r2,c0,c1,c2,c3,c4,c5⟩:=(AT.out.no.at_ b (by rw[HN.out];exact bN)).reads
     have s1:=SZ.out.now b (by rw[HN.out];exact bN)
     have s2:=SZ.out.low b u (by rw[HN.out];exact bN) hh
     have C:=mX (w:=W1.drew) (r1.below (Below.refl _ _).drew) (r2.below (Below.refl _ _).drew) (r3.below (Below.refl _ _).drew) (r4.below (Below.refl _ _).drew) (Sz.mono s1.1 (by omega)) (Sz.mono s1.2 (by omega)) (Sz.mono s2.1 (by omega)) (Sz.mono s2.2 (by omega))
     rw[hz]at C
     have C:=hid C
     have KP:=hid (fun(W:World) (hB:Below W1.heap.size W1 W)=>(show W.cell? ⟨L.p,1,none⟩=some (.slice (some ⟨L.low,0,none⟩) N N)∧W.cell? ⟨L.p,3,none⟩=some (.slice (some ⟨L.now,0,none⟩) N N)∧W.cell? ⟨L.low,b*7,none⟩=some (.bool true)∧W.cell? ⟨L.low,b*7+1,none⟩=some (.bool M'.s)∧W.cell? ⟨L.low,b*7+2,none⟩=some (.slice M'.a M'.n M'.c)∧W.cell? ⟨L.low,b*7+3,none⟩=some (.slice M'.b M'.m M'.d)∧W.cell? ⟨L.low,b*7+4,none⟩=some (.bool S'.s)∧W.cell? ⟨L.low,b*7+5,none⟩=some (.slice S'.a S'.n S'.c)∧W.cell? ⟨L.low,b*7+6,none⟩=some (.slice S'.b S'.m S'.d)∧W.cell? ⟨L.now,b*6,none⟩=some (.bool M.s)∧W.cell? ⟨L.now,b*6+1,none⟩=some (.slice M.a M.n M.c)∧W.cell? ⟨L.now,b*6+2,none⟩=some (.slice M.b M.m M.d)∧W.cell? ⟨L.now,b*6+3,none⟩=some (.bool S.s)∧W.cell? ⟨L.now,b*6+4,none⟩=some (.slice S.a S.n S.c)∧W.cell? ⟨L.now,b*6+5,none⟩=some (.slice S.b S.m S.d) from⟨aj hB q1,aj hB q3,aj hB b0,aj hB b1,aj hB b2,aj hB b3,aj hB b4,aj hB b5,aj hB b6,aj hB c0,aj hB c1,aj hB c2,aj hB c3,aj hB c4,aj hB c5⟩))
     clear bh hh r1 r2 r3 r4 s1 s2 hz
     go_region_held3 (fun W=>W.cell? ⟨L.p,1,none⟩=some (.slice (some ⟨L.low,0,none⟩) N N)∧W.cell? ⟨L.p,3,none⟩=some (.slice (some ⟨L.now,0,none⟩) N N)∧W.cell? ⟨L.low,b*7,none⟩=some (.bool true)∧W.cell? ⟨L.low,b*7+1,none⟩=some (.bool M'.s)∧W.cell? ⟨L.low,b*7+2,none⟩=some (.slice M'.a M'.n M'.c)∧W.cell? ⟨L.low,b*7+3,none⟩=some (.slice M'.b M'.m M'.d)∧W.cell? ⟨L.low,b*7+4,none⟩=some (.bool S'.s)∧W.cell? ⟨L.low,b*7+5,none⟩=some (.slice S'.a S'.n S'.c)∧W.cell? ⟨L.low,b*7+6,none⟩=some (.slice S'.b S'.m S'.d)∧W.cell? ⟨L.now,b*6,none⟩=some (.bool M.s)∧W.cell? ⟨L.now,b*6+1,none⟩=some (.slice M.a M.n M.c)∧W.cell? ⟨L.now,b*6+2,none⟩=some (.slice M.b M.m M.d)∧W.cell? ⟨L.now,b*6+3,none⟩=some (.bool S.s)∧W.cell? ⟨L.now,b*6+4,none⟩=some (.slice S.a S.n S.c)∧W.cell? ⟨L.now,b*6+5,none⟩=some (.slice S.b S.m S.d))
      (first
       | with_reducible exact⟨q1,q3,b0,b1,b2,b3,b4,b5,b6,c0,c1,c2,c3,c4,c5⟩
       | with_reducible exact KS
       | go_keep)
      ((go_at_call 183;((with_reducible refine C.out.mono ?_));go_loud (rintro e w2 ⟨rfl,B2⟩;have KS:=KP.out w2 (aJ B2);have B2:=hid (aJ B2))))
     go_wp2_with fail
     go_meet
     case rel=>exact⟨by rw[E.out],B2.out⟩
   case rest=>
    obtain⟨rfl,UQ⟩:=hcut
    clear q0 q1 q2 q3 q4 q5 q6
    have AT2:=AT.out.below UQ
    have Yf:=hid (aB BR.out UQ)
    cases hlo:P.lo b with
    | true=>
     have N3:Hid (P.jv (k+1)=some (k,true)):=by show _=_;rw[N2.out,hlo];rfl
     clear UQ AT2
     go_wp2_with fail
     go_roundw
     case rel=>exact⟨k+1,by rw[HM.out];omega,by go_num,by rw[N3.out];rfl,by rw[N3.out];rfl,Yf.out⟩
     case measure=>simp[intOf];omega
    | false=>
     have N3:Hid (P.jv (k+1)=if P.hi b then some (k,false)else prev):=by show _=_;rw[N2.out,hlo];rfl
     have AT:=hid AT2
     clear UQ AT2 hlo
     obtain⟨W2,rfl⟩:∃W2:World,W2=wc:=⟨_,rfl⟩
     go_upto_region 8 with fail
     go_cut [58] (fun v W=>v= .bool (P.hi b)∧Below W2.heap.size W2 W)
     case first=>
      obtain⟨q0,q1,q2,q3,q4,q5,q6⟩:=HD.out W2 AT.out
      have bh:=AT.out.hi.at_ b (by rw[HN.out];exact bN)
      cases hh:P.high b with
      | none=>
       have E:Hid (P.hi b=false):=by show _=_;unfold Pb.hi;rw[hh]
       rw[hh]at bh
       have b0:=bh.1
       clear bh hh
       go_quiet (fail)
       go_wp2_with fail
       go_meet
       case rel=>exact⟨by rw[E.out],Qt.below ⟨nq,rfl⟩⟩
      | some u=>
       obtain⟨z,hz⟩:∃z,jd (P.now b) u=z:=⟨_,rfl⟩
       have E:Hid (P.hi b=decide (0<z)):=by show _=_;unfold Pb.hi;rw[hh];rw[←hz]
       rw[hh]at bh
       obtain⟨b0,M',S',r3,r4,b1,b2,b3,b4,b5,b6⟩:=bh.jE
       obtain⟨M,S,r1,r2,c0,c1,c2,c3,c4,c5⟩:=(AT.out.no.at_ b (by rw[HN.out];exact bN)).reads
       have s1:=SZ.out.now b (by rw[HN.out];exact bN)
       have s2:=SZ.out.high b u (by rw[HN.out];exact bN) hh
       have C:=mX (w:=W2.drew) (r1.below (Below.refl _ _).drew) (r2.below (Below.refl _ _).drew) (r3.below (Below.refl _ _).drew) (r4.below (Below.refl _ _).drew) (Sz.mono s1.1 (by omega)) (Sz.mono s1.2 (by omega)) (Sz.mono s2.1 (by omega)) (Sz.mono s2.2 (by omega))
       rw[hz]at C
       have C:=hid C
       have KP:=hid (fun(W:World) (hB:Below W2.heap.size W2 W)=>(show W.cell? ⟨L.p,2,none⟩=some (.slice (some ⟨L.high,0,none⟩) N N)∧W.cell? ⟨L.p,3,none⟩=some (.slice (some ⟨L.now,0,none⟩) N N)∧W.cell? ⟨L.high,b*7,none⟩=some (.bool true)∧W.cell? ⟨L.high,b*7+1,none⟩=some (.bool M'.s)∧W.cell? ⟨L.high,b*7+2,none⟩=some (.slice M'.a M'.n M'.c)∧W.cell? ⟨L.high,b*7+3,none⟩=some (.slice M'.b M'.m M'.d)∧W.cell? ⟨L.high,b*7+4,none⟩=some (.bool S'.s)∧W.cell? ⟨L.high,b*7+5,none⟩=some (.slice S'.a S'.n S'.c)∧W.cell? ⟨L.high,b*7+6,none⟩=some (.slice S'.b S'.m S'.d)∧W.cell? ⟨L.now,b*6,none⟩=some (.bool M.s)∧W.cell? ⟨L.now,b*6+1,none⟩=some (.slice M.a M.n M.c)∧W.cell? ⟨L.now,b*6+2,none⟩=some (.slice M.b M.m M.d)∧W.cell? ⟨L.now,b*6+3,none⟩=some (.bool S.s)∧W.cell? ⟨L.now,b*6+4,none⟩=some (.slice S.a S.n S.c)∧W.cell? ⟨L.now,b*6+5,none⟩=some (.slice S.b S.m S.d) from⟨aj hB q2,aj hB q3,aj hB b0,aj hB b1,aj hB b2,aj hB b3,aj hB b4,aj hB b5,aj hB b6,aj hB c0,aj hB c1,aj hB c2,aj hB c3,aj hB c4,aj hB c5⟩))
       clear bh hh r1 r2 r3 r4 s1 s2 hz
       go_region_held3 (fun W=>W.cell? ⟨L.p,2,none⟩=some (.slice (some ⟨L.high,0,none⟩) N N)∧W.cell? ⟨L.p,3,none⟩=some (.slice (some ⟨L.now,0,none⟩) N N)∧W.cell? ⟨L.high,b*7,none⟩=some (.bool true)∧W.cell? ⟨L.high,b*7+1,none⟩=some (.bool M'.s)∧W.cell? ⟨L.high,b*7+2,none⟩=some (.slice M'.a M'.n M'.c)∧W.cell? ⟨L.high,b*7+3,none⟩=some (.slice M'.b M'.m M'.d)∧W.cell? ⟨L.high,b*7+4,none⟩=some (.bool S'.s)∧W.cell? ⟨L.high,b*7+5,none⟩=some (.slice S'.a S'.n S'.c)∧W.cell? ⟨L.high,b*7+6,none⟩=some (.slice S'.b S'.m S'.d)∧W.cell? ⟨L.now,b*6,none⟩=some (.bool M.s)∧W.cell? ⟨L.now,b*6+1,none⟩=some (.slice M.a M.n M.c)∧W.cell? ⟨L.now,b*6+2,none⟩=some (.slice M.b M.m M.d)∧W.cell? ⟨L.now,b*6+3,none⟩=some (.bool S.s)∧W.cell? ⟨L.now,b*6+4,none⟩=some (.slice S.a S.n S.c)∧W.cell? ⟨L.now,b*6+5,none⟩=some (.slice S.b S.m S.d))
        (first
         | with_reducible exact⟨q2,q3,b0,b1,b2,b3,b4,b5,b6,c0,c1,c2,c3,c4,c5⟩
         | with_reducible exact KS
         | go_keep)
        ((go_at_call 183;((with_reducible refine C.out.mono ?_));go_loud (rintro e w2 ⟨rfl,B2⟩;have KS:=KP.out w2 (aJ B2);have B2:=hid (aJ B2))))
       go_wp2_with fail
       go_meet
       case rel=>exact⟨by rw[E.out],B2.out⟩
     case rest=>
      obtain⟨rfl,YX⟩:=hcut
      have BR3:=hid (aB Yf.out YX)
      cases hhi:P.hi b with
      | true=>
       have N4:Hid (P.jv (k+1)=some (k,false)):=by show _=_;rw[N3.out,hhi];rfl
       clear YX
       go_wp2_with fail
       go_roundw
       case rel=>exact⟨k+1,by rw[HM.out];omega,by go_num,by rw[N4.out];rfl,by rw[N4.out];rfl,BR3.out⟩
       case measure=>simp[intOf];omega
      | false=>
       have N4:Hid (P.jv (k+1)=prev):=by show _=_;rw[N3.out,hhi];rfl
       clear YX
       go_wp2_with fail
       go_roundw
       case rel=>exact⟨k+1,by rw[HM.out];omega,by go_num,by rw[N4.out],by rw[N4.out],BR3.out⟩
       case measure=>simp[intOf];omega
 obtain rfl:m=k:=by omega
 have E:Hid (P.brk=P.jv m):=by show _=_;unfold Pb.brk;rw[HM.out]
 go_wp2_with fail;go_ret2;exact⟨by rw[E.out];rfl,BR.out⟩
end Go.Proofs.YtijdglogadnbcaaGreat
