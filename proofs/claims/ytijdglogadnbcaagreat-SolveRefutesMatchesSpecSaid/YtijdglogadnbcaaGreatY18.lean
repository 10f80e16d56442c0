/- Rows, their solutions, the end of a sum over these; the problem that rows begin with. No program. -/
import Derived.Test.YtijdglogadnbcaaGreatY17
set_option linter.unusedVariables false
set_option linter.unusedSimpArgs false
set_option maxRecDepth 100000
set_option maxHeartbeats 40000000
namespace Go.Proofs.YtijdglogadnbcaaGreat.Bl
open Go.RowKit Nt
structure Ln where
 co:Nat→Rat
 rel:Int
 bd:Rat
def val (n:Nat)(c x:Nat→Rat):Rat:=sm n fun j=>c j*x j
def Ln.ok (r:Ln)(n:Nat)(x:Nat→Rat):Prop:=if r.rel=1 then val n r.co x≤r.bd else if r.rel=2 then val n r.co x<r.bd else val n r.co x=r.bd
def qj (l:List Ln)(n:Nat)(x:Nat→Rat):Prop:=∀r,r∈l→r.ok n x
def jf (S:(Nat→Rat)→Prop)(f:(Nat→Rat)→Rat):Option (Rat×Bool)→Prop
 | none=>∀M,∃x,S x∧M≤f x
 | some (a,reached)=>(∀x,S x→f x≤a)∧(if reached=true then ∃x,S x∧f x=a else ∀x,S x→f x<a)∧∀d,0<d→∃x,S x∧a-d<f x
theorem jf.unique {S:(Nat→Rat)→Prop}{f:(Nat→Rat)→Rat}{u v:Option (Rat×Bool)}(h:jf S f u)(k:jf S f v):u=v:=by
 have ne:∀{a:Rat} {r:Bool},jf S f none→jf S f (some (a,r))→False:=fun{a r} h k=>by obtain⟨x,hx,hm⟩:=h (a+1);have:=k.1 x hx;grind
 cases u with
 | none=>
  cases v with
  | none=>rfl
  | some y=>exact(ne h k).elim
 | some y=>
  obtain⟨a,r⟩:=y
  cases v with
  | none=>exact(ne k h).elim
  | some y=>
   obtain⟨b,s⟩:=y
   obtain⟨h1,h2,h3⟩:=h
   obtain⟨k1,k2,k3⟩:=k
   have e:a=b:=by
    have l1:¬a<b:=fun q=>by
     obtain⟨x,hx,hm⟩:=k3 (b-a) (by grind)
     have:=h1 x hx
     grind
    have l2:¬b<a:=fun q=>by
     obtain⟨x,hx,hm⟩:=h3 (a-b) (by grind)
     have:=k1 x hx
     grind
    grind
   subst e
   cases r<;>cases s
   ·rfl
   ·simp only[Bool.false_eq_true,if_false,if_true]at h2 k2
    obtain⟨x,hx,e⟩:=k2
    have:=h2 x hx
    exfalso;grind
   ·simp only[Bool.false_eq_true,if_false,if_true]at h2 k2
    obtain⟨x,hx,e⟩:=h2
    have:=k2 x hx
    exfalso;grind
   ·rfl
def Ln.hi (r:Ln):V:=⟨r.bd,if r.rel=2 then-1 else 0⟩
def Ln.lo (r:Ln):Option V:=if r.rel=1∨r.rel=2 then none else some ⟨r.bd,0⟩
def cO (l:List Ln)(n:Nat)(go:Nat→Rat):Pb where
 n:=n
 m:=l.length+1
 low v:=if v<n then none else(l[v-n]?).bind Ln.lo
 high v:=if v<n then none else(l[v-n]?).map Ln.hi
 now _:=⟨0,0⟩
 basic i:=n+i
 free k:=k
 T i k:=match l[i]? with | some r=>r.co k | none=>go k
theorem cO.Xc {l:List Ln}{n:Nat}{go:Nat→Rat}{i:Nat}(hi:i<l.length)(k:Nat):(cO l n go).T i k=(l[i]).co k:=by show(match l[i]? with | some r=>r.co k | none=>go k)=_;rw[List.getElem?_eq_getElem hi]
theorem cO.aaK {l:List Ln}{n:Nat}{go:Nat→Rat}(k:Nat):(cO l n go).T l.length k=go k:=by show(match l[l.length]? with | some r=>r.co k | none=>go k)=_;rw[List.getElem?_eq_none (Nat.le_refl _)]
theorem cO.pl (l:List Ln)(n:Nat)(go:Nat→Rat):(cO l n go).Pl:=by
 have b:∀i,(cO l n go).basic i=n+i:=fun _=>rfl;have f:∀k,(cO l n go).free k=k:=fun _=>rfl;have en:(cO l n go).n=n:=rfl;have em:(cO l n go).m=l.length+1:=rfl;refine⟨fun i hi=>?_,fun k hk=>?_,fun i j hi hj e=>?_,fun i j hi hj e=>?_,fun i k hi hk=>?_,fun v hv=>?_⟩
 ·rw[b,en,em];omega
 ·rw[f,en,em];omega
 ·rw[b,b]at e;omega
 ·rw[f,f]at e;exact e
 ·rw[b,f];omega
 by_cases h:v<n
 ·exact Or.inr ⟨v,h,rfl⟩
 exact Or.inl ⟨v-n,by omega,by rw[b];omega⟩
theorem cO.mid (l:List Ln)(n:Nat)(go:Nat→Rat):Mid (cO l n go) l.length (cO l n go):=by
 refine⟨Xb.refl _,⟨cO.pl l n go,⟨?_,?_⟩,fun k hk=>?_,fun v x y hx hy=>?_⟩,fun k hk=>Or.inr (Or.inr rfl),Nat.lt_succ_self _,?_,?_,?_⟩
 ·intro i hi;symm;exact jY fun k hk=>by show _*(0:Rat)=0;grind
 ·intro i hi;symm;exact jY fun k hk=>by show _*(0:Rat)=0;grind
 ·have hk:k<n:=hk;refine⟨fun u hu=>?_,fun u hu=>?_⟩
  ·have hu:(if k<n then none else(l[k-n]?).bind Ln.lo)=some u:=hu;rw[if_pos hk]at hu;simp at hu
  have hu:(if k<n then none else(l[k-n]?).map Ln.hi)=some u:=hu;rw[if_pos hk]at hu;simp at hu
 ·have hx:(if v<n then none else(l[v-n]?).bind Ln.lo)=some x:=hx;have hy:(if v<n then none else(l[v-n]?).map Ln.hi)=some y:=hy;split at hx
  ·simp at hx
  rename_i q;rw[if_neg q]at hy
  cases e:l[v-n]? with
  | none=>rw[e]at hx;simp at hx
  | some r=>
   rw[e]at hx hy
   simp only[Option.bind_some,Option.map_some,Option.some.injEq,Ln.lo]at hx hy
   split at hx
   ·simp at hx
   ·rename_i q2
    cases hx
    subst hy
    unfold Ln.hi V.le
    rw[if_neg (fun e=>q2 (Or.inr e))]
    simp only
    exact Or.inr ⟨trivial,Rat.le_refl⟩
 ·show n+l.length=n+(l.length+1)-1;omega
 ·show(if n+(l.length+1)-1<n then none else(l[n+(l.length+1)-1-n]?).bind Ln.lo)=none;rw[if_neg (by omega),List.getElem?_eq_none (by omega)];rfl
 show(if n+(l.length+1)-1<n then none else(l[n+(l.length+1)-1-n]?).map Ln.hi)=none;rw[if_neg (by omega),List.getElem?_eq_none (by omega)];rfl
def vec (l:List Ln)(n:Nat)(go x:Nat→Rat)(v:Nat):Rat:=if v<n then x v else sm n fun k=>(cO l n go).T (v-n) k*x k
theorem P5 (l:List Ln)(n:Nat)(go x:Nat→Rat):(cO l n go).TW (vec l n go x):=by intro i hi;show vec l n go x (n+i)=sm n fun k=>(cO l n go).T i k*vec l n go x k;unfold vec;rw[if_neg (by omega),show n+i-n=i from by omega];exact dw fun k hk=>by rw[if_pos hk]
theorem Zc {l:List Ln}{n:Nat}{go x:Nat→Rat}{v:Nat}(h:v<n):vec l n go x v=x v:=if_pos h
theorem IL {l:List Ln}{n:Nat}{go x:Nat→Rat}{i:Nat}(h:i<l.length):vec l n go x (n+i)=val n (l[i]).co x:=by unfold vec val;rw[if_neg (by omega),show n+i-n=i from by omega];exact dw fun k hk=>by rw[cO.Xc h]
theorem F6 {l:List Ln}{n:Nat}{go x:Nat→Rat}:vec l n go x (n+(l.length+1)-1)=val n go x:=by unfold vec val;rw[if_neg (by omega),show n+(l.length+1)-1-n=l.length from by omega];exact dw fun k hk=>by rw[cO.aaK]
theorem TW.oU {l:List Ln}{n:Nat}{go y:Nat→Rat}(h:(cO l n go).TW y){v:Nat}(hv:v<n+(l.length+1)):y v=vec l n go y v:=by
 unfold vec;split
 ·rfl
 obtain⟨i,rfl⟩:∃i,v=n+i:=⟨v-n,by omega⟩;rw[show n+i-n=i from by omega];exact h i (by show i<l.length+1;omega)
theorem P6 {l:List Ln}{n:Nat}{go x:Nat→Rat}(h:qj l n x):(cO l n go).TV (fun v=>⟨vec l n go x v,0⟩)∧∀v,v<(cO l n go).n+(cO l n go).m→yu (cO l n go).low (cO l n go).high v ⟨vec l n go x v,0⟩:=by
 refine⟨⟨P5 l n go x,?_⟩,fun v hv=>?_⟩
 ·intro i hi;symm;exact jY fun k hk=>by show _*(0:Rat)=0;grind
 have hv:v<n+(l.length+1):=hv;by_cases c:v<n
 ·exact⟨fun u hu=>by(have hu:(if v<n then none else(l[v-n]?).bind Ln.lo)=some u:=hu;rw[if_pos c]at hu;simp at hu),fun u hu=>by(have hu:(if v<n then none else(l[v-n]?).map Ln.hi)=some u:=hu;rw[if_pos c]at hu;simp at hu)⟩
 obtain⟨i,rfl⟩:∃i,v=n+i:=⟨v-n,by omega⟩;have ei:n+i-n=i:=by omega
 by_cases c2:i<l.length
 ·have ok:=h _ (List.getElem_mem c2);rw[IL c2];unfold Ln.ok at ok;refine⟨fun u hu=>?_,fun u hu=>?_⟩
  ·have hu:(if n+i<n then none else(l[n+i-n]?).bind Ln.lo)=some u:=hu;rw[if_neg c,ei,List.getElem?_eq_getElem c2]at hu;simp only[Option.bind_some,Ln.lo]at hu;split at hu
   ·simp at hu
   rename_i q
   cases hu
   rw[if_neg (fun e=>q (Or.inl e)),if_neg (fun e=>q (Or.inr e))]at ok;rw[ok];exact V.le_refl _
  have hu:(if n+i<n then none else(l[n+i-n]?).map Ln.hi)=some u:=hu;rw[if_neg c,ei,List.getElem?_eq_getElem c2]at hu;simp only[Option.map_some,Option.some.injEq]at hu;subst hu;unfold Ln.hi V.le;simp only;by_cases r1:l[i].rel=1
  ·rw[if_pos r1]at ok;rw[if_neg (show ¬l[i].rel=2 by omega)];grind
  rw[if_neg r1]at ok;by_cases r2:l[i].rel=2
  ·rw[if_pos r2]at ok;exact Or.inl ok
  rw[if_neg r2]at ok;rw[if_neg r2,ok];exact Or.inr ⟨rfl,Rat.le_refl⟩
 refine⟨fun u hu=>?_,fun u hu=>?_⟩
 ·have hu:(if n+i<n then none else(l[n+i-n]?).bind Ln.lo)=some u:=hu;rw[if_neg c,ei,List.getElem?_eq_none (by omega)]at hu;simp at hu
 have hu:(if n+i<n then none else(l[n+i-n]?).map Ln.hi)=some u:=hu;rw[if_neg c,ei,List.getElem?_eq_none (by omega)]at hu;simp at hu
theorem zN {a b:Rat}(s:Rat)(h:a<b):∃e,0<e∧∀t,0<t→t≤e→a+t*s<b:=by
 by_cases hs:s≤0
 ·refine⟨1,by grind,fun t h0 _=>?_⟩;have:=Rat.mul_nonneg (Rat.le_of_lt h0) (show 0≤ -s by grind);grind
 have ii:(s+1)*(1/(s+1))=1:=by grind
 have ip:0<1/(s+1):=by refine Classical.byContradiction fun q=>?_;have:=Rat.mul_nonneg (show 0≤s+1 by grind) (show 0≤ -(1/(s+1)) by grind);grind
 have ep:=Rat.mul_pos (show 0<b-a by grind) ip;refine⟨(b-a)*(1/(s+1)),ep,fun t h0 ht=>?_⟩;have m:=Rat.mul_nonneg (show 0≤(b-a)*(1/(s+1))-t by grind) (show 0≤s by grind);have e:(b-a)*(1/(s+1))*(s+1)=b-a:=by
  have:(b-a)*(1/(s+1))*(s+1)=(b-a)*((s+1)*(1/(s+1))):=by grind
  rw[this,ii];grind
 grind
theorem IQ {φ:Nat→Rat→Prop}:∀{m:Nat},(∀i,i<m→∃e,0<e∧∀t,0<t→t≤e→φ i t)→∃e,0<e∧∀t,0<t→t≤e→∀i,i<m→φ i t
 | 0,_=>⟨1,by grind,fun t _ _ i hi=>by omega⟩
 | m+1,h=>by
  obtain⟨e1,p1,h1⟩:=IQ (m:=m) fun i hi=>h i (by omega);obtain⟨e2,p2,h2⟩:=h m (by omega);have both:∀t,0<t→t≤e1→t≤e2→∀i,i<m+1→φ i t:=fun t t0 t1 t2 i hi=>by
   rcases Nat.lt_succ_iff_lt_or_eq.1 hi with q | q
   ·exact h1 t t0 t1 i q
   rw[q];exact h2 t t0 t2
  by_cases c:e1≤e2
  ·exact⟨e1,p1,fun t t0 t1=>both t t0 t1 (by grind)⟩
  exact⟨e2,p2,fun t t0 t1=>both t t0 (by grind) t1⟩
theorem zO (n:Nat)(c:Nat→Rat)(y:Nat→V)(t:Rat):val n c (fun j=>(y j).m+t*(y j).s)=val n c (fun j=>(y j).m)+t*val n c fun j=>(y j).s:=by unfold val;rw[←rV,←rU];exact dw fun j _=>by grind
theorem F9 {l:List Ln}{n:Nat}{go:Nat→Rat}{y:Nat→V}(ty:(cO l n go).TV y)(hy:∀v,v<(cO l n go).n+(cO l n go).m→yu (cO l n go).low (cO l n go).high v (y v)):
  ∃e,0<e∧∀t,0<t→t≤e→qj l n (fun j=>(y j).m+t*(y j).s):=by
 have row:∀i,(hi:i<l.length)→(y (n+i)).m=val n (l[i]).co (fun j=>(y j).m)∧(y (n+i)).s=val n (l[i]).co fun j=>(y j).s:=fun i hi=>by have a:=TW.oU ty.1 (v:=n+i) (by omega);have b:=TW.oU ty.2 (v:=n+i) (by omega);rw[IL hi]at a b;exact⟨a,b⟩
 obtain⟨e,ep,he⟩:=IQ (m:=l.length) (φ:=fun i t=>∀hi:i<l.length,(l[i]).ok n fun j=>(y j).m+t*(y j).s) fun i hi=>by
  obtain⟨r1,r2⟩:=row i hi;have inr:=hy (n+i) (by show n+i<n+(l.length+1);omega);have h1:(cO l n go).low (n+i)=(l[i]).lo:=by show(if n+i<n then none else(l[n+i-n]?).bind Ln.lo)=_;rw[if_neg (by omega),show n+i-n=i from by omega,List.getElem?_eq_getElem hi];rfl
  have h2:(cO l n go).high (n+i)=some (l[i]).hi:=by show(if n+i<n then none else(l[n+i-n]?).map Ln.hi)=_;rw[if_neg (by omega),show n+i-n=i from by omega,List.getElem?_eq_getElem hi];rfl
  have up:=inr.2 _ h2;have dn:=inr.1;rw[h1]at dn;unfold Ln.hi V.le at up;simp only at up;unfold Ln.ok;simp only[zO,←r1,←r2];by_cases k1:l[i].rel=1
  ·rw[if_neg (show ¬l[i].rel=2 by omega)]at up;simp only[k1,if_true];rcases up with q | q
   ·obtain⟨e,e0,he⟩:=zN (y (n+i)).s q;exact⟨e,e0,fun t t0 t1 _=>Rat.le_of_lt (he t t0 t1)⟩
   refine⟨1,by grind,fun t t0 _ _=>?_⟩;have:=Rat.mul_nonneg (Rat.le_of_lt t0) (show 0≤ -(y (n+i)).s by grind);grind
  by_cases k2:l[i].rel=2
  ·rw[if_pos k2]at up;simp only[k2,if_true,show ¬(2:Int)=1 from by omega,if_false];rcases up with q | q
   ·obtain⟨e,e0,he⟩:=zN (y (n+i)).s q;exact⟨e,e0,fun t t0 t1 _=>he t t0 t1⟩
   refine⟨1,by grind,fun t t0 _ _=>?_⟩;have:=Rat.mul_pos t0 (show 0< -(y (n+i)).s by grind);grind
  rw[if_neg k2]at up;have dn:=dn ⟨l[i].bd,0⟩ (by unfold Ln.lo;rw[if_neg (fun h=>h.elim k1 k2)]);unfold V.le at dn;simp only at dn;simp only[k1,k2,if_false];refine⟨1,by grind,fun t t0 _ _=>?_⟩;have e1:(y (n+i)).m=l[i].bd:=by grind
  have e2:(y (n+i)).s=0:=by grind
  rw[e1,e2];grind
 refine⟨e,ep,fun t t0 t1 r hr=>?_⟩;obtain⟨i,hi,rfl⟩:=List.getElem_of_mem hr;exact he t t0 t1 i hi hi
theorem P8 {l:List Ln}{n:Nat}{go:Nat→Rat}{Q:Pb}{g:Nat}(h:Mid (cO l n go) g Q)(ha:∀v,v<(cO l n go).n+(cO l n go).m→yu (cO l n go).low (cO l n go).high v (Q.now v)):∃x,qj l n x:=by obtain⟨e,ep,he⟩:=F9 (go:=go) (y:=Q.now) ⟨(h.kin.tw _).1 h.ok.tv.1,(h.kin.tw _).1 h.ok.tv.2⟩ ha;exact⟨_,he e ep Rat.le_refl⟩
theorem Vb {l:List Ln}{n:Nat}{go:Nat→Rat}(h:∀y,(cO l n go).TV y→(∀v,v<(cO l n go).n+(cO l n go).m→yu (cO l n go).low (cO l n go).high v (y v))→False):¬ ∃x,qj l n x:=by rintro⟨x,hx⟩;obtain⟨a,b⟩:=P6 (go:=go) hx;exact h _ a b
theorem Qa {l:List Ln}{n:Nat}{go:Nat→Rat}{Q:Pb}{g:Nat}(h:Top (cO l n go) g Q)(hh:Q.hlp g true=none):
  jf (qj l n) (val n go) (some ((Q.now (n+(l.length+1)-1)).m,decide ((Q.now (n+(l.length+1)-1)).s=0))):=by
 have ty:(cO l n go).TV Q.now:=⟨(h.kin.tw _).1 h.ok.tv.1,(h.kin.tw _).1 h.ok.tv.2⟩;obtain⟨e,ep,he⟩:=F9 (go:=go) (y:=Q.now) ty fun v hv=>by rw[←h.kin.low,←h.kin.high];exact h.all v (by rw[h.kin.n,h.kin.m];exact hv)
 have gm:∀t,val n go (fun j=>(Q.now j).m+t*(Q.now j).s)=(Q.now (n+(l.length+1)-1)).m+t*(Q.now (n+(l.length+1)-1)).s:=fun t=>by rw[zO];have a:=TW.oU ty.1 (v:=n+(l.length+1)-1) (by omega);have b:=TW.oU ty.2 (v:=n+(l.length+1)-1) (by omega);rw[F6]at a b;rw[a,b]
 have top:∀x,qj l n x→(⟨val n go x,0⟩:V).le (Q.now (n+(l.length+1)-1)):=fun x hx=>by obtain⟨a,b⟩:=P6 (go:=go) hx;have:=h.best hh _ a b;have q:(cO l n go).n+(cO l n go).m-1=n+(l.length+1)-1:=rfl;rw[q]at this;simp only[F6]at this;exact this
 generalize Q.now (n+(l.length+1)-1)=v at*;have le:∀x,qj l n x→val n go x≤v.m:=fun x hx=>by have:=top x hx;unfold V.le at this;simp only at this;grind
 have sn:v.s≤0:=by refine Classical.byContradiction fun q=>?_;have a:=le _ (he e ep Rat.le_refl);rw[gm]at a;have:=Rat.mul_pos ep (show 0<v.s by grind);grind
 refine⟨le,?_,fun d hd=>?_⟩
 ·by_cases z:v.s=0
  ·rw[if_pos (by simpa using z)];exact⟨_,he e ep Rat.le_refl,by rw[gm,z];grind⟩
  rw[if_neg (by simpa using z)];intro x hx;have:=top x hx;unfold V.le at this;simp only at this;grind
 obtain⟨e',ep',he'⟩:=zN (a:= -v.m) (b:= -v.m+d) (-v.s) (by grind);by_cases c:e≤e'
 ·refine⟨_,he e ep Rat.le_refl,?_⟩;rw[gm];have:=he' e ep c;grind
 refine⟨_,he e' ep' (by grind),?_⟩;rw[gm];have:=he' e' ep' Rat.le_refl;grind
theorem Df {l:List Ln}{n:Nat}{go:Nat→Rat}{Q:Pb}{g c:Nat}(h:Top (cO l n go) g Q)(hh:Q.hlp g true=some c)(hz:Q.rz g c=none):jf (qj l n) (val n go) none:=by
 intro M;obtain⟨q,q0,hq⟩:∃q:Rat,0≤q∧M+1≤(Q.now (n+(l.length+1)-1)).m+q:=by
  by_cases k:M+1≤(Q.now (n+(l.length+1)-1)).m
  ·exact⟨0,by grind,by grind⟩
  exact⟨M+1-(Q.now (n+(l.length+1)-1)).m,by grind,by grind⟩
 obtain⟨y,ty,hy,hg⟩:=h.endless hh hz q q0;have en:(cO l n go).n+(cO l n go).m-1=n+(l.length+1)-1:=rfl;rw[en]at hg;obtain⟨e,ep,he⟩:=F9 (go:=go) ty hy;have gm:∀t,val n go (fun j=>(y j).m+t*(y j).s)=(y (n+(l.length+1)-1)).m+t*(y (n+(l.length+1)-1)).s:=fun t=>by rw[zO];have a:=TW.oU ty.1 (v:=n+(l.length+1)-1) (by omega);have b:=TW.oU ty.2 (v:=n+(l.length+1)-1) (by omega);rw[F6]at a b;rw[a,b]
 have e1:(y (n+(l.length+1)-1)).m=(Q.now (n+(l.length+1)-1)).m+q:=by rw[hg];rfl
 obtain⟨e',ep',he'⟩:=zN (a:= -(y (n+(l.length+1)-1)).m) (b:= -(y (n+(l.length+1)-1)).m+1) (-(y (n+(l.length+1)-1)).s) (by grind);by_cases c:e≤e'
 ·refine⟨_,he e ep Rat.le_refl,?_⟩;rw[gm];have:=he' e ep c;grind
 refine⟨_,he e' ep' (by grind),?_⟩;rw[gm];have:=he' e' ep' Rat.le_refl;grind
def Ln.Small (co:Nat→Rat)(bd:Rat)(n R:Nat):Prop:=∃(D:Nat) (a:Nat→Int) (b:Int),1≤D∧D≤R∧(∀j,j<n→(D:Rat)*co j=(a j:Rat))∧(D:Rat)*bd=(b:Rat)∧nrm n a+b.natAbs≤R∧nrm n a+D≤R
theorem Dh (v:Nat):∀n,nrm n (fun j=>if j=v then 1 else 0)=if v<n then 1 else 0
 | 0=>rfl
 | n+1=>by
  show nrm n _+Int.natAbs (if n=v then 1 else 0)=_;rw[Dh v n];by_cases h:v<n
  ·rw[if_pos h,if_pos (show v<n+1 by omega),if_neg (show ¬n=v by omega)];rfl
  rw[if_neg h];by_cases e:n=v
  ·rw[if_pos e,if_pos (show v<n+1 by omega)];rfl
  rw[if_neg e,if_neg (show ¬v<n+1 by omega)];rfl
theorem cO.fm {l:List Ln}{n R:Nat}{go:Nat→Rat}(hl:∀i,(hi:i<l.length)→Ln.Small (l[i]).co (l[i]).bd n R)(hg:Ln.Small go 0 n R):∃D a,Fm (cO l n go) R D a:=by
 have each:∀i,i<l.length+1→Ln.Small ((cO l n go).T i) (match l[i]? with | some r=>r.bd | none=>0) n R:=fun i hi=>by
  by_cases c:i<l.length
  ·rw[List.getElem?_eq_getElem c,show(cO l n go).T i=(l[i]).co from funext fun k=>cO.Xc c k];exact hl i c
  have e:i=l.length:=by omega
  subst e;rw[List.getElem?_eq_none (Nat.le_refl _),show(cO l n go).T l.length=go from funext fun k=>cO.aaK k];exact hg
 have r1:1≤R:=by obtain⟨D,a,b,h1,h2,_⟩:=hg;omega
 obtain⟨f,hf⟩:=Classical.axiomOfChoice (r:=fun(i:Nat) (y:Nat×(Nat→Int)×Int)=>i<l.length+1→1≤y.1∧y.1≤R∧(∀j,j<n→(y.1:Rat)*(cO l n go).T i j=(y.2.1 j:Rat))∧(y.1:Rat)*(match l[i]? with | some r=>r.bd | none=>0)=(y.2.2:Rat)∧nrm n y.2.1+y.2.2.natAbs≤R∧nrm n y.2.1+y.1≤R) fun i=>by
  by_cases hi:i<l.length+1
  ·obtain⟨D,a,b,h⟩:=each i hi;exact⟨(D,a,b),fun _=>h⟩
  exact⟨(0,fun _=>0,0),fun h=>absurd h hi⟩
 clear each;refine⟨fun v=>if v<n then 1 else(f (v-n)).1,fun v=>if v<n then fun j=>if j=v then 1 else 0 else(f (v-n)).2.1,?_⟩;have big:∀v,v<(cO l n go).n+(cO l n go).m→¬v<n→v-n<l.length+1:=fun v hv hn=>by have hv:v<n+(l.length+1):=hv;omega
 refine⟨r1,fun v hv=>?_,fun v hv=>?_,⟨fun j=>j,fun j hj=>Nat.lt_add_right _ hj,fun y ty v hv=>?_,fun x=>⟨vec l n go x,P5 l n go x,fun j hj=>Zc hj⟩⟩,fun v e hv he=>?_⟩
 ·show 1≤(if v<n then 1 else(f (v-n)).1)∧(if v<n then 1 else(f (v-n)).1)≤R;by_cases c:v<n
  ·rw[if_pos c];exact⟨Nat.le_refl _,r1⟩
  rw[if_neg c];obtain⟨h1,h2,_⟩:=hf (v-n) (big v hv c);exact⟨h1,h2⟩
 ·show nrm n (if v<n then fun j=>if j=v then 1 else 0 else(f (v-n)).2.1)≤R;by_cases c:v<n
  ·rw[if_pos c,Dh,if_pos c];exact r1
  rw[if_neg c];obtain⟨h1,h2,h3,h4,h5,h6⟩:=hf (v-n) (big v hv c);omega
 ·show(((if v<n then 1 else(f (v-n)).1:Nat)):Rat)*y v=sm n fun j=>(((if v<n then fun j=>if j=v then 1 else 0 else(f (v-n)).2.1) j:Int):Rat)*y j;by_cases c:v<n
  ·rw[if_pos c,if_pos c,lK (r:=v) (f:=fun j=>(((if j=v then 1 else 0:Int)):Rat)*y j) c fun j hj hne=>by rw[if_neg hne];simp];simp
  rw[if_neg c,if_neg c];obtain⟨h1,h2,h3,h4,h5,h6⟩:=hf (v-n) (big v hv c);have hv:v<n+(l.length+1):=hv;have yv:=TW.oU ty hv;unfold vec at yv;rw[if_neg c]at yv;rw[yv,←rV];exact dw fun j hj=>by rw[←Rat.mul_assoc,h3 j hj]
 by_cases c:v<n
 ·exfalso;rcases he with he | he
  ·have he:(if v<n then none else(l[v-n]?).bind Ln.lo)=some e:=he;rw[if_pos c]at he;simp at he
  have he:(if v<n then none else(l[v-n]?).map Ln.hi)=some e:=he;rw[if_pos c]at he;simp at he
 show ∃bm bs:Int,(((if v<n then 1 else(f (v-n)).1:Nat)):Rat)*e.m=(bm:Rat)∧(((if v<n then 1 else(f (v-n)).1:Nat)):Rat)*e.s=(bs:Rat)∧nrm n (if v<n then fun j=>if j=v then 1 else 0 else(f (v-n)).2.1)+bm.natAbs≤R∧nrm n (if v<n then fun j=>if j=v then 1 else 0 else(f (v-n)).2.1)+bs.natAbs≤R;rw[if_neg c,if_neg c];obtain⟨h1,h2,h3,h4,h5,h6⟩:=hf (v-n) (big v hv c);obtain⟨r,hr,em,es⟩:∃r,l[v-n]? =some r∧e.m=r.bd∧(e.s=0∨e.s= -1):=by
  rcases he with he | he
  ·have he:(if v<n then none else(l[v-n]?).bind Ln.lo)=some e:=he;rw[if_neg c]at he
   cases q:l[v-n]? with
   | none=>rw[q]at he;simp at he
   | some r=>
    rw[q]at he
    simp only[Option.bind_some,Ln.lo]at he
    split at he
    ·simp at he
    ·cases he;exact⟨r,rfl,rfl,Or.inl rfl⟩
  have he:(if v<n then none else(l[v-n]?).map Ln.hi)=some e:=he;rw[if_neg c]at he
  cases q:l[v-n]? with
  | none=>rw[q]at he;simp at he
  | some r=>
   rw[q]at he
   simp only[Option.map_some,Option.some.injEq]at he
   subst he
   refine⟨r,rfl,rfl,?_⟩
   unfold Ln.hi
   simp only
   split
   ·exact Or.inr rfl
   ·exact Or.inl rfl
 rw[hr]at h4;have h4:((f (v-n)).1:Rat)*r.bd=((f (v-n)).2.2:Rat):=h4;rw[←em]at h4;rcases es with es | es
 ·exact⟨(f (v-n)).2.2,0,h4,by rw[es];simp,h5,by show nrm n _+0≤R;omega⟩
 refine⟨(f (v-n)).2.2,-((f (v-n)).1:Int),h4,?_,h5,?_⟩
 ·rw[es,Rat.intCast_neg];show _= -((f (v-n)).1:Rat);grind
 rw[Int.natAbs_neg,Int.natAbs_natCast];exact h6
end Go.Proofs.YtijdglogadnbcaaGreat.Bl
