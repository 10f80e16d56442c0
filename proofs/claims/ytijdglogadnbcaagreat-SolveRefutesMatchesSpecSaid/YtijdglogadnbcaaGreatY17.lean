/- Raising the goal: the steps end. No program. -/
import Derived.Test.YtijdglogadnbcaaGreatY16
set_option linter.unusedVariables false
set_option linter.unusedSimpArgs false
set_option maxRecDepth 100000
set_option maxHeartbeats 40000000
namespace Go.Proofs.YtijdglogadnbcaaGreat.Bl
open Go.Proofs.Tryz
open Go.RowKit Nt
theorem Pb.wC {P:Pb}(h:P.Pl){c:Nat}(hc:c<P.n)(b:V){k:Nat}(hk:k<P.m):(P.mv c b).now (P.basic k)=(P.now (P.basic k)).add (V.mul (P.T k c) b):=
 Pb.nO h hc b P.m (Nat.le_refl _) k hk
theorem Pb.zM {P:Pb}(h:P.Pl){c:Nat}(hc:c<P.n)(b:V){k:Nat}(hk:k<P.n):(P.mv c b).now (P.free k)=if k=c then(P.now (P.free k)).add b else P.now (P.free k):=
 Pb.qJ h hc b hk P.m (Nat.le_refl _)
theorem Pb.su {P:Pb}{c:Nat}:∀i,P.oz c ⟨0,0⟩ i=P.now
 | 0=>by
  unfold Pb.oz;funext j;split
  ·unfold V.add;refine V.ext' ?_ ?_<;>simp only<;>grind
  rfl
 | i+1=>by
  have ih:=Pb.su (P:=P) (c:=c) i;unfold Pb.oz;rw[ih];split
  ·rfl
  funext j;split
  ·unfold V.add V.mul;refine V.ext' ?_ ?_<;>simp only<;>grind
  rfl
def Pb.Lim (P:Pb)(g c:Nat)(rs:Bool)(d:V):Prop:=d.pos∧(∀u,P.own c rs=some u→d.le u)∧∀k u,k<P.m→P.stop g c rs k=some u→d.le u
theorem Top.Iu {P0 P:Pb}{g c:Nat}{rs:Bool}{d:V}(h:Top P0 g P)(hc:c<P.n)(hd:P.Lim g c rs d):∀v,v<P.n+P.m→yu P.low P.high v ((P.mv c (V.mul (sg rs) d)).now v):=by
 intro v hv;rcases h.ok.pl.cover v hv with⟨i,hi,rfl⟩ | ⟨k,hk,rfl⟩
 ·rw[Pb.wC h.ok.pl hc _ hi];have a:=h.all _ hv;by_cases z:P.T i c=0
  ·have:(P.now (P.basic i)).add (V.mul (P.T i c) (V.mul (sg rs) d))=P.now (P.basic i):=by rw[z];unfold V.add V.mul;refine V.ext' ?_ ?_<;>simp only<;>grind
   rw[this];exact a
  by_cases ig:i=g
  ·subst ig;rw[h.bg];exact⟨fun l hl=>by rw[h.gl]at hl;simp at hl,fun l hl=>by rw[h.gh]at hl;simp at hl⟩
  obtain⟨up,hup⟩:∃up,(decide (0<aV (P.T i c))==rs)=up:=⟨_,rfl⟩;have st:=qM (P:=P) (g:=g) (rs:=rs) (up:=up) z ig hup;have w:=way z rs;rw[hup]at w;have ap:=jH z;have e:V.mul (P.T i c) (V.mul (sg rs) d)=V.mul (sg up) (V.mul (dR (P.T i c)) d):=by
   unfold V.mul;refine V.ext' ?_ ?_<;>simp only
   ·rw[←Rat.mul_assoc,w];grind
   rw[←Rat.mul_assoc,w];grind
  rw[e];refine Ir a.1 a.2 ?_ fun u hu=>?_
  ·have:=hd.1;unfold V.pos V.le V.mul at*;simp only at*;rcases this with q | q
   ·left;have:=Rat.mul_pos ap q;grind
   right;refine⟨by rw[←q.1];grind,?_⟩;exact Rat.mul_nonneg (Rat.le_of_lt ap) q.2
  rw[hu]at st;have l:=hd.2.2 i _ hi st;have ii:dR (P.T i c)*(1/dR (P.T i c))=1:=by grind
  have:=V.mV (Rat.le_of_lt ap) (V.le_iff.1 l);rw[V.le_iff];generalize dR (P.T i c)=t at*;generalize 1/t=s at*;have e2:(V.mul t d).sub (bJ u (P.now (P.basic i)) up)=V.mul t (d.sub (V.mul s (bJ u (P.now (P.basic i)) up))):=by
   generalize bJ u (P.now (P.basic i)) up=y;unfold V.mul V.sub;refine V.ext' ?_ ?_<;>simp only
   ·have k:t*(d.m-s*y.m)=t*d.m-(t*s)*y.m:=by grind
    rw[k,ii];grind
   have k:t*(d.s-s*y.s)=t*d.s-(t*s)*y.s:=by grind
   rw[k,ii];grind
  rw[e2];exact this
 rw[Pb.zM h.ok.pl hc _ hk];have a:=h.all _ hv;by_cases e:k=c
 ·subst e;rw[if_pos rfl];refine Ir a.1 a.2 hd.1 fun u hu=>hd.2.1 _ ?_;unfold Pb.own;rw[hu];rfl
 rw[if_neg e];exact a
theorem Top.goal {P0 P:Pb}{g c:Nat}(h:Top P0 g P)(hc:c<P.n)(b:V):(P.mv c b).now (P.n+P.m-1)=(P.now (P.n+P.m-1)).add (V.mul (P.T g c) b):=by rw[←h.bg];exact Pb.wC h.ok.pl hc b h.gm
structure Hp (P:Pb)(g c:Nat):Prop where
 cn:c<P.n
 he:P.helps g c true=true
 le:∀k,k<P.n→P.helps g k true=true→P.free c≤P.free k
theorem Iw {P:Pb}{g c:Nat}(h:P.hlp g true=some c):Hp P g c:=by have:=P.dS g true P.n;unfold Pb.hlp at h;rw[h]at this;exact⟨this.1,this.2.1,this.2.2⟩
theorem Hp.nz {P:Pb}{g c:Nat}(h:Hp P g c):P.T g c≠0:=Pb.vW h.he
theorem Hp.good {P:Pb}{g c:Nat}(h:Hp P g c):(0<P.T g c∧P.rising g c=true∧rise P.high (P.free c) (P.now (P.free c)))∨(P.T g c<0∧P.rising g c=false∧fall P.low (P.free c) (P.now (P.free c))):=by
 have k:=Pb.fM.1 h.he;simp only[if_true]at k;unfold Pb.rising;rcases k with⟨a,b⟩ | ⟨a,b⟩
 ·exact Or.inl ⟨by grind,by rw[decide_eq_true_iff,dZ];grind,b⟩
 exact Or.inr ⟨by grind,by rw[decide_eq_false_iff_not,dZ];grind,b⟩
theorem Hp.up {P:Pb}{g c:Nat}(h:Hp P g c):P.T g c*sg (P.rising g c)=dR (P.T g c):=by
 have w:=way h.nz (P.rising g c);have:(decide (0<aV (P.T g c))==P.rising g c)=true:=by unfold Pb.rising;simp
 rw[w,this];simp[sg]
theorem Hp.own {P:Pb}{g c:Nat}(h:Hp P g c){u:V}(hu:P.own c (P.rising g c)=some u):(⟨0,0⟩:V).lt u:=by
 unfold Pb.own at hu;rcases h.good with⟨_,e,r⟩ | ⟨_,e,r⟩
 ·rw[e]at hu;simp only[if_true,Option.map_eq_some_iff]at hu;obtain⟨x,hx,rfl⟩:=hu;have:=r x hx;unfold V.lt at*;unfold bJ V.sub;simp only[if_true];grind
 rw[e]at hu;simp only[Bool.false_eq_true,if_false,Option.map_eq_some_iff]at hu;obtain⟨x,hx,rfl⟩:=hu;have:=r x hx;unfold V.lt at*;unfold bJ V.sub;simp only[Bool.false_eq_true,if_false];grind
theorem Top.PU {P0 P:Pb}{g c i:Nat}{rs:Bool}{u:V}(h:Top P0 g P)(hi:i<P.m)(hs:P.stop g c rs i=some u):u.pos:=by
 by_cases z:P.T i c=0∨i=g
 ·rw[nS z]at hs;simp at hs
 obtain⟨up,hup⟩:∃up,(decide (0<aV (P.T i c))==rs)=up:=⟨_,rfl⟩;have z1:P.T i c≠0:=fun e=>z (Or.inl e);rw[qM z1 (fun e=>z (Or.inr e)) hup]at hs;simp only[Option.map_eq_some_iff]at hs;obtain⟨e,he,rfl⟩:=hs;have a:=h.all _ (h.ok.pl.blt i hi);have ap:=jH z1;have ip:0<1/dR (P.T i c):=by
  have:dR (P.T i c)*(1/dR (P.T i c))=1:=by grind
  refine Classical.byContradiction fun q=>?_;have:=Rat.mul_nonneg (Rat.le_of_lt ap) (show 0≤ -(1/dR (P.T i c)) by grind);grind
 have dp:(bJ e (P.now (P.basic i)) up).pos:=by
  cases up with
  | true=>
   simp only[if_true]at he
   have:=a.2 e he
   unfold V.pos V.le at*;unfold bJ V.sub;simp only[if_true];grind
  | false=>
   simp only[Bool.false_eq_true,if_false]at he
   have:=a.1 e he
   unfold V.pos V.le at*;unfold bJ V.sub;simp only[Bool.false_eq_true,if_false];grind
 generalize bJ e (P.now (P.basic i)) up=y at*;unfold V.pos V.le V.mul at*;simp only at*;rcases dp with q | q
 ·left;have:=Rat.mul_pos ip q;grind
 right;refine⟨by rw[←q.1];grind,?_⟩;exact Rat.mul_nonneg (Rat.le_of_lt ip) q.2
theorem Top.lim {P0 P:Pb}{g c:Nat}{l:V}{b:Option Nat}(h:Top P0 g P)(hp:Hp P g c)(hx:P.lW g c (P.rising g c) P.m=some (l,b)):
  P.Lim g c (P.rising g c) l∧match b with
   | none=>P.own c (P.rising g c)=some l∧(⟨0,0⟩:V).lt l
   | some r=>r<P.m∧P.stop g c (P.rising g c) r=some l∧∀k,k<P.m→P.stop g c (P.rising g c) k=some l→P.basic r≤P.basic k:=by
 have q:=P.rZ g c (P.rising g c) P.m;rw[hx]at q;obtain⟨a1,a2,a3⟩:=q
 cases b with
 | none=>exact⟨⟨V.le_of_lt (hp.own a3),a1,a2⟩,a3,hp.own a3⟩
 | some r=>exact⟨⟨h.PU a3.1 a3.2.1,a1,a2⟩,a3⟩
theorem Top.at_end {P0 P:Pb}{g c r:Nat}{rs:Bool}{l:V}(h:Top P0 g P)(hc:c<P.n)(hr:r<P.m)(hs:P.stop g c rs r=some l):
  P.T r c≠0∧r≠g∧∃e up,(decide (0<aV (P.T r c))==rs)=up∧(if up then P.high (P.basic r)else P.low (P.basic r))=some e∧(P.mv c (V.mul (sg rs) l)).now (P.basic r)=e:=by
 by_cases z:P.T r c=0∨r=g
 ·rw[nS z]at hs;simp at hs
 have z1:P.T r c≠0:=fun e=>z (Or.inl e);refine⟨z1,fun e=>z (Or.inr e),?_⟩;obtain⟨up,hup⟩:∃up,(decide (0<aV (P.T r c))==rs)=up:=⟨_,rfl⟩;rw[qM z1 (fun e=>z (Or.inr e)) hup]at hs;simp only[Option.map_eq_some_iff]at hs;obtain⟨e,he,rfl⟩:=hs;refine⟨e,up,hup,he,?_⟩;rw[Pb.wC h.ok.pl hc _ hr];have w:=way z1 rs;rw[hup]at w;have ap:=jH z1;have ii:dR (P.T r c)*(1/dR (P.T r c))=1:=by grind
 rw[PO];have s2:=aaI up;generalize dR (P.T r c)=t at*;generalize 1/t=s at*;generalize sg up=p at*;generalize sg rs=o at*;generalize P.T r c=u at*;have k:u*(o*(s*(p*1)))=1:=by
  have:u*(o*(s*(p*1)))=(u*o)*(s*p):=by grind
  rw[this,w];have:t*p*(s*p)=(t*s)*(p*p):=by grind
  rw[this,ii,s2];grind
 unfold V.add V.mul V.sub;refine V.ext' ?_ ?_<;>simp only
 ·have:u*(o*(s*(p*(e.m-(P.now (P.basic r)).m))))=(u*(o*(s*(p*1))))*(e.m-(P.now (P.basic r)).m):=by grind
  rw[this,k];grind
 have:u*(o*(s*(p*(e.s-(P.now (P.basic r)).s))))=(u*(o*(s*(p*1))))*(e.s-(P.now (P.basic r)).s):=by grind
 rw[this,k];grind
theorem Top.step {P0 P P':Pb}{g c:Nat}(h:Top P0 g P)(hp:Hp P g c)(hz:P.rz g c=some P'):
  Top P0 g P'∧((P.now (P.n+P.m-1)).lt (P'.now (P.n+P.m-1))∨
   (P'.now=P.now∧∃r,r<P.m∧P.stop g c (P.rising g c) r=some ⟨0,0⟩∧P'=P.pivot r c∧∀k,k<P.m→P.stop g c (P.rising g c) k=some ⟨0,0⟩→P.basic r≤P.basic k)):=by
 rw[Io,Option.map_eq_some_iff]at hz;obtain⟨⟨l,b⟩,hx,rfl⟩:=hz;obtain⟨lim,hb⟩:=h.lim hp hx;simp only[aaJ];have inn:=h.Iu hp.cn lim;have gl:=h.goal hp.cn (V.mul (sg (P.rising g c)) l);have tv:=Pb.OH h.ok.pl hp.cn (V.mul (sg (P.rising g c)) l) h.ok.tv;have up:=hp.up;have ap:=jH hp.nz;have rel:(⟨0,0⟩:V).lt l→(P.now (P.n+P.m-1)).lt ((P.mv c (V.mul (sg (P.rising g c)) l)).now (P.n+P.m-1)):=fun q=>by
  rw[gl];have e:V.mul (P.T g c) (V.mul (sg (P.rising g c)) l)=V.mul (dR (P.T g c)) l:=by unfold V.mul;refine V.ext' ?_ ?_<;>simp only<;>rw[←Rat.mul_assoc,up]
  rw[e];unfold V.lt at q;simp only at q;unfold V.lt V.add V.mul;simp only;rcases q with q | q
  ·left;have:=Rat.mul_pos ap q;grind
  right;have:=Rat.mul_pos ap q.2;refine⟨by rw[←q.1];grind,by grind⟩
 cases b with
 | none=>
  obtain⟨ow,pos⟩:=hb
  refine⟨⟨⟨h.kin.n,h.kin.m,h.kin.low,h.kin.high,h.kin.tw⟩,⟨Pb.qK h.ok.pl _ _,tv,fun k hk=>inn _ (h.ok.pl.flt k hk),h.ok.ord⟩,inn,fun k hk=>?_,h.gm,h.bg,h.gl,h.gh⟩,Or.inl (rel pos)⟩
  show P.low (P.free k)=some ((P.mv c _).now (P.free k))∨P.high (P.free k)=some ((P.mv c _).now (P.free k))∨(P.mv c _).now (P.free k)=⟨0,0⟩
  rw[Pb.zM h.ok.pl hp.cn _ hk]
  by_cases e:k=c
  ·subst e
   rw[if_pos rfl]
   unfold Pb.own at ow
   cases rs:P.rising g k with
   | true=>
    rw[rs]at ow
    simp only[if_true,Option.map_eq_some_iff]at ow
    obtain⟨x,hx2,rfl⟩:=ow
    right;left
    rw[hx2]
    congr 1
    unfold bJ V.add V.mul V.sub sg;simp only[if_true];refine V.ext' ?_ ?_<;>simp only<;>grind
   | false=>
    rw[rs]at ow
    simp only[Bool.false_eq_true,if_false,Option.map_eq_some_iff]at ow
    obtain⟨x,hx2,rfl⟩:=ow
    left
    rw[hx2]
    congr 1
    unfold bJ V.add V.mul V.sub sg;simp only[Bool.false_eq_true,if_false];refine V.ext' ?_ ?_<;>simp only<;>grind
  ·rw[if_neg e];exact h.en k hk
 | some r=>
  obtain⟨rm,st,least⟩:=hb
  obtain⟨nz,rg,e,u,hu,he,hn⟩:=h.at_end hp.cn rm st
  have mp:=Pb.qK h.ok.pl c (V.mul (sg (P.rising g c)) l)
  refine⟨⟨⟨h.kin.n,h.kin.m,h.kin.low,h.kin.high,fun y=>(Pb.qF mp rm hp.cn nz y).symm.trans (h.kin.tw y)⟩,⟨mp.pivot rm hp.cn,(Pb.vS mp rm hp.cn nz _).1 tv,fun k hk=>?_,h.ok.ord⟩,inn,fun k hk=>?_,h.gm,?_,h.gl,h.gh⟩,?_⟩
  ·exact inn _ ((mp.pivot rm hp.cn).flt k hk)
  ·show P.low (if k=c then P.basic r else P.free k)=some ((P.mv c _).now (if k=c then P.basic r else P.free k))∨P.high (if k=c then P.basic r else P.free k)=some ((P.mv c _).now (if k=c then P.basic r else P.free k))∨(P.mv c _).now (if k=c then P.basic r else P.free k)=⟨0,0⟩
   by_cases q:k=c
   ·rw[if_pos q,hn]
    cases u with
    | true=>right;left;simpa using he
    | false=>left;simpa using he
   ·rw[if_neg q,Pb.zM h.ok.pl hp.cn _ hk,if_neg q];exact h.en k hk
  ·show(if g=r then P.free c else P.basic g)=_
   rw[if_neg (fun q=>rg q.symm)];exact h.bg
  ·by_cases q:(⟨0,0⟩:V).lt l
   ·exact Or.inl (rel q)
   ·right
    have l0:l=⟨0,0⟩:=V.le_antisymm (V.not_lt.1 q) lim.1
    subst l0
    have z:V.mul (sg (P.rising g c)) ⟨0,0⟩=⟨0,0⟩:=by unfold V.mul;refine V.ext' ?_ ?_<;>simp only<;>grind
    have e0:P.mv c ⟨0,0⟩=P:=by
     show {P with now:=P.oz c ⟨0,0⟩ P.m}=P
     rw[Pb.su]
    refine⟨?_,r,rm,st,?_,least⟩
    ·rw[z]
     show(P.mv c ⟨0,0⟩).now=_
     rw[e0]
    ·rw[z]
     show(P.mv c ⟨0,0⟩).pivot r c=_
     rw[e0]
def Pb.gn (P:Pb)(g:Nat):Option Pb:=match P.hlp g true with | none=>none | some c=>P.rz g c
def Pb.gx (P:Pb)(g:Nat):Pb:=(P.gn g).getD P
def Pb.aI (P:Pb)(g:Nat):Nat→Pb
 | 0=>P
 | t+1=>(P.aI g t).gx g
theorem Pb.yC (P:Pb)(g:Nat):∀t,P.aI g (t+1)=(P.gx g).aI g t
 | 0=>rfl
 | t+1=>by show(P.aI g (t+1)).gx g=_;rw[Pb.yC P g t];rfl
theorem Pb.Iy {P P':Pb}{g:Nat}(h:P.gn g=some P'):∃c,P.hlp g true=some c∧P.rz g c=some P':=by
 unfold Pb.gn at h
 cases e:P.hlp g true with
 | none=>rw[e]at h;simp at h
 | some c=>rw[e]at h;exact⟨c,rfl,h⟩
theorem Pb.Iz {P P':Pb}{g:Nat}(h:P.gn g=some P'):P.gx g=P':=by unfold Pb.gx;rw[h];rfl
structure IB (P0:Pb)(g:Nat)(P:Pb)(L:Nat):Prop where
 top:Top P0 g P
 go:∀t,t<L→(P.aI g t).gn g≠none
theorem IB.next {P0 P:Pb}{g L t:Nat}(h:IB P0 g P L)(ht:t<L):∃c,(P.aI g t).hlp g true=some c∧(P.aI g t).rz g c=some (P.aI g (t+1)):=by
 cases e:(P.aI g t).gn g with
 | none=>exact absurd e (h.go t ht)
 | some P'=>
  obtain⟨c,h1,h2⟩:=Pb.Iy e
  refine⟨c,h1,?_⟩
  show _=some ((P.aI g t).gx g)
  rw[Pb.Iz e];exact h2
theorem IB.xk {P0 P:Pb}{g L:Nat}(h:IB P0 g P L):∀t,t≤L→Top P0 g (P.aI g t)
 | 0,_=>h.top
 | t+1,ht=>by obtain⟨c,h1,h2⟩:=h.next (t:=t) (by omega);exact((h.xk t (by omega)).step (Iw h1) h2).1
def Pb.gv (P:Pb)(t:Nat)(g:Nat)(N:Nat):V:=(P.aI g t).now (N-1)
theorem IB.nm {P0 P:Pb}{g L t:Nat}(h:IB P0 g P L)(ht:t≤L):(P.aI g t).n=P0.n∧(P.aI g t).m=P0.m:=⟨(h.xk t ht).kin.n,(h.xk t ht).kin.m⟩
theorem IB.step {P0 P:Pb}{g L t:Nat}(h:IB P0 g P L)(ht:t<L):(P.gv t g (P0.n+P0.m)).lt (P.gv (t+1) g (P0.n+P0.m))∨
  ((P.aI g (t+1)).now=(P.aI g t).now∧∃c r,Hp (P.aI g t) g c∧r<P0.m∧(P.aI g t).stop g c ((P.aI g t).rising g c) r=some ⟨0,0⟩∧P.aI g (t+1)=(P.aI g t).pivot r c∧
   ∀k,k<P0.m→(P.aI g t).stop g c ((P.aI g t).rising g c) k=some ⟨0,0⟩→(P.aI g t).basic r≤(P.aI g t).basic k):=by
 obtain⟨c,h1,h2⟩:=h.next ht;have tp:=h.xk t (by omega);have nm:=h.nm (t:=t) (by omega);have s:=(tp.step (Iw h1) h2).2;rw[nm.1,nm.2]at s;rcases s with s | ⟨e,r,rm,st,pv,le⟩
 ·exact Or.inl s
 exact Or.inr ⟨e,c,r,Iw h1,rm,st,pv,le⟩
theorem IB.mono {P0 P:Pb}{g L:Nat}(h:IB P0 g P L):∀d s,s+d≤L→(P.gv s g (P0.n+P0.m)).le (P.gv (s+d) g (P0.n+P0.m))
 | 0,s,_=>V.le_refl _
 | d+1,s,hs=>by
  refine V.le_trans (h.mono d s (by omega)) ?_;rcases h.step (t:=s+d) (by omega)with k | k
  ·exact V.le_of_lt k
  show V.le _ ((P.aI g (s+d+1)).now _);rw[k.1];exact V.le_refl _
def Pb.F5 (P:Pb)(c:Nat)(rs:Bool)(j:Nat):Rat:=(if j=P.free c then sg rs else 0)+sm P.m fun i=>if P.basic i=j then P.T i c*sg rs else 0
theorem Pb.nT {P:Pb}(h:P.Pl){c k:Nat}(hk:k<P.n)(hc:c<P.n)(rs:Bool):P.F5 c rs (P.free k)=if k=c then sg rs else 0:=by
 unfold Pb.F5;rw[jY fun i hi=>by rw[if_neg fun e=>h.tX i k hi hk e]];by_cases e:k=c
 ·subst e;simp;grind
 rw[if_neg e,if_neg fun q=>e (h.FH k c hk hc q)];grind
theorem Pb.oQ {P:Pb}(h:P.Pl){c i:Nat}(hi:i<P.m)(hc:c<P.n)(rs:Bool):P.F5 c rs (P.basic i)=P.T i c*sg rs:=by unfold Pb.F5;rw[if_neg fun e=>h.tX i c hi hc e,lK (r:=i) (f:=fun k=>if P.basic k=P.basic i then P.T k c*sg rs else 0) hi fun k hk hne=>by rw[if_neg fun e=>hne (h.FC k i hk hi e)]];simp;grind
theorem Pb.Va {P:Pb}(h:P.Pl){c:Nat}(hc:c<P.n)(rs:Bool):P.TW (P.F5 c rs):=by intro i hi;rw[Pb.oQ h hi hc,lK (r:=c) (f:=fun k=>P.T i k*P.F5 c rs (P.free k)) hc fun k hk hne=>by rw[Pb.nT h hk hc,if_neg hne];grind];rw[Pb.nT h hc hc,if_pos rfl]
theorem IB.still {P0 P:Pb}{g L s K:Nat}(h:IB P0 g P L)(hs:s+K≤L)(hv:P.gv (s+K) g (P0.n+P0.m)=P.gv s g (P0.n+P0.m)):K<3^(P0.n+P0.m):=by
 have each:∀t,t<K→(P.aI g (s+t+1)).now=(P.aI g (s+t)).now∧∃c r,Hp (P.aI g (s+t)) g c∧r<P0.m∧(P.aI g (s+t)).stop g c ((P.aI g (s+t)).rising g c) r=some ⟨0,0⟩∧P.aI g (s+t+1)=(P.aI g (s+t)).pivot r c∧
   ∀k,k<P0.m→(P.aI g (s+t)).stop g c ((P.aI g (s+t)).rising g c) k=some ⟨0,0⟩→(P.aI g (s+t)).basic r≤(P.aI g (s+t)).basic k:=by
  intro t ht
  rcases h.step (t:=s+t) (by omega)with k | k
  ·exfalso
   have a:=h.mono t s (by omega)
   have b:=h.mono (K-t-1) (s+t+1) (by omega)
   rw[show s+t+1+(K-t-1)=s+K from by omega,hv]at b
   exact V.lt_irrefl _ (V.lt_of_lt_of_le k (V.le_trans b a))
  ·exact k
 have now:∀t,t≤K→(P.aI g (s+t)).now=(P.aI g s).now:=by
  intro t;induction t with
  | zero=>intro _;rfl
  | succ t ih=>intro ht;rw[←ih (by omega)];exact(each t (by omega)).1
 obtain⟨c,hc⟩:∃c:Nat→Nat,∀t,t<K→∃r,Hp (P.aI g (s+t)) g (c t)∧r<P0.m∧(P.aI g (s+t)).stop g (c t) ((P.aI g (s+t)).rising g (c t)) r=some ⟨0,0⟩∧P.aI g (s+t+1)=(P.aI g (s+t)).pivot r (c t)∧
   ∀k,k<P0.m→(P.aI g (s+t)).stop g (c t) ((P.aI g (s+t)).rising g (c t)) k=some ⟨0,0⟩→(P.aI g (s+t)).basic r≤(P.aI g (s+t)).basic k:=
  ⟨fun t=>if ht:t<K then(each t ht).2.choose else 0,fun t ht=>by simp only[dif_pos ht];exact(each t ht).2.choose_spec⟩
 obtain⟨r,hr⟩:∃r:Nat→Nat,∀t,t<K→Hp (P.aI g (s+t)) g (c t)∧r t<P0.m∧(P.aI g (s+t)).stop g (c t) ((P.aI g (s+t)).rising g (c t)) (r t)=some ⟨0,0⟩∧P.aI g (s+t+1)=(P.aI g (s+t)).pivot (r t) (c t)∧
   ∀k,k<P0.m→(P.aI g (s+t)).stop g (c t) ((P.aI g (s+t)).rising g (c t)) k=some ⟨0,0⟩→(P.aI g (s+t)).basic (r t)≤(P.aI g (s+t)).basic k:=
  ⟨fun t=>if ht:t<K then(hc t ht).choose else 0,fun t ht=>by simp only[dif_pos ht];exact(hc t ht).choose_spec⟩
 have tp:∀t,t≤K→Top P0 g (P.aI g (s+t)):=fun t ht=>h.xk (s+t) (by omega);have nm:∀t,t≤K→(P.aI g (s+t)).n=P0.n∧(P.aI g (s+t)).m=P0.m:=fun t ht=>h.nm (t:=s+t) (by omega);have ae:∀t,t<K→(P.aI g (s+t)).T (r t) (c t)≠0∧r t≠g∧∃e up,(decide (0<aV ((P.aI g (s+t)).T (r t) (c t)))==(P.aI g (s+t)).rising g (c t))=up∧(if up then P0.high ((P.aI g (s+t)).basic (r t))else P0.low ((P.aI g (s+t)).basic (r t)))=some e∧(P.aI g s).now ((P.aI g (s+t)).basic (r t))=e:=by
  intro t ht;obtain⟨a1,a2,a3,_⟩:=hr t ht;have tq:=tp t (by omega);obtain⟨z,rg,e,up,hu,he,hn⟩:=tq.at_end a1.cn (by rw[(nm t (by omega)).2];exact a2) a3;refine⟨z,rg,e,up,hu,by rw[←tq.kin.low,←tq.kin.high];exact he,?_⟩;have z2:V.mul (sg ((P.aI g (s+t)).rising g (c t))) ⟨0,0⟩=⟨0,0⟩:=by unfold V.mul;refine V.ext' ?_ ?_<;>simp only<;>grind
  rw[z2]at hn;have e0:((P.aI g (s+t)).mv (c t) ⟨0,0⟩).now=(P.aI g (s+t)).now:=Pb.su _;rw[e0,now t (by omega)]at hn;exact hn
 refine Still.ends (nb:=fun t j=>(P.aI g (s+t)).nb j) (inn:=fun t=>(P.aI g (s+t)).free (c t)) (out:=fun t=>(P.aI g (s+t)).basic (r t))
  (c:=fun t j=>(P.aI g (s+t)).mZ g j) (d:=fun t j=>(P.aI g (s+t)).F5 (c t) ((P.aI g (s+t)).rising g (c t)) j)
  (rise:=fun j=>rise P0.high j ((P.aI g s).now j)) (fall:=fun j=>fall P0.low j ((P.aI g s).now j)) (g:=P0.n+P0.m-1) ?_
 refine⟨⟨fun t ht=>⟨c t,(hr t ht).1.cn,rfl⟩,fun t ht=>(tp t (by omega)).ok.pl.BZ (by rw[(nm t (by omega)).2];exact(hr t ht).2.1),fun t ht j=>?_⟩,fun t ht=>?_,fun t ht j hj=>Pb.yw _ _ hj,fun t ht j hj hn=>?_,fun t u ht hu=>?_,fun t ht=>?_,fun t ht j hj hn=>?_,fun t ht=>?_,fun t ht j hj hn=>?_⟩
 ·have a:=hr t ht;show(P.aI g (s+(t+1))).nb j↔_;rw[show s+(t+1)=s+t+1 from rfl,a.2.2.2.1];exact(tp t (by omega)).ok.pl.Cb (by rw[(nm t (by omega)).2];exact a.2.1) a.1.cn j
 ·have a:=hr t ht;have q:=nm t (by omega);rw[←q.1,←q.2];exact⟨(tp t (by omega)).ok.pl.flt _ a.1.cn,(tp t (by omega)).ok.pl.blt _ (by rw[q.2];exact a.2.1)⟩
 ·obtain⟨k,hk,rfl⟩:=hn;have a:=hr t ht;rw[Pb.nT (tp t (by omega)).ok.pl hk a.1.cn]at hj;by_cases e:k=c t
  ·subst e;rfl
  rw[if_neg e]at hj;exact absurd rfl hj
 ·have a:=hr u hu;have q:=nm t (by omega);have tq:=tp t (by omega);have tu:=tp u (by omega);have w:=(tq.kin.tw _).2 ((tu.kin.tw _).1 (Pb.Va tu.ok.pl a.1.cn ((P.aI g (s+u)).rising g (c u))));have e:=w g tq.gm;rw[tq.bg,q.1,q.2]at e;rw[e];simp only[Pb.mZ];rw[←q.1,←q.2,lM _ (fun k=>(P.aI g (s+t)).T g k) _ _ _ fun k hk=>tq.ok.pl.flt k hk]
 ·have a:=hr t ht;have tq:=tp t (by omega);rw[Pb.jZ tq.ok.pl _ a.1.cn,Pb.nT tq.ok.pl a.1.cn a.1.cn,if_pos rfl];rw[←now t (by omega),←tq.kin.low,←tq.kin.high];rcases a.1.good with⟨b1,b2,b3⟩ | ⟨b1,b2,b3⟩
  ·exact Or.inl ⟨b1,b3,by rw[b2];simp[sg];grind⟩
  exact Or.inr ⟨b1,b3,by rw[b2];simp[sg];grind⟩
 ·obtain⟨k,hk,rfl⟩:=hn;have a:=hr t ht;have tq:=tp t (by omega);rw[Pb.jZ tq.ok.pl _ hk,←now t (by omega),←tq.kin.low,←tq.kin.high];have l:=a.1.le k hk;have one:∀x:Rat,(if true=true then(1:Rat)else-1)*x=x:=fun x=>by simp
  exact⟨fun q=>absurd (l (Pb.fM.2 (Or.inl (by rw[one];exact q)))) (by omega),fun q=>absurd (l (Pb.fM.2 (Or.inr (by rw[one];exact q)))) (by omega)⟩
 ·have a:=hr t ht;have tq:=tp t (by omega);obtain⟨z,rg,e,up,hu,he,hn⟩:=ae t ht;rw[Pb.oQ tq.ok.pl (by rw[(nm t (by omega)).2];exact a.2.1) a.1.cn,way z,hu];have ap:=jH z
  cases up with
  | true=>
   left
   refine⟨by simp[sg];exact ap,fun k=>?_⟩
   have:=k e (by simpa using he)
   rw[hn]at this;exact V.lt_irrefl _ this
  | false=>
   right
   refine⟨by simp[sg];grind,fun k=>?_⟩
   have:=k e (by simpa using he)
   rw[hn]at this;exact V.lt_irrefl _ this
 have a:=hr t ht;have tq:=tp t (by omega);have q:=nm t (by omega);have jN:j<(P.aI g (s+t)).n+(P.aI g (s+t)).m:=Nat.lt_trans hj (tq.ok.pl.blt _ (by rw[q.2];exact a.2.1));rcases tq.ok.pl.cover j jN with⟨i,hi,rfl⟩ | e
 ·rw[Pb.oQ tq.ok.pl hi a.1.cn];by_cases z:(P.aI g (s+t)).T i (c t)=0
  ·rw[z];constructor<;>intro k<;>exfalso<;>grind
  obtain⟨up,hup⟩:∃up,(decide (0<aV ((P.aI g (s+t)).T i (c t)))==(P.aI g (s+t)).rising g (c t))=up:=⟨_,rfl⟩;rw[way z,hup];have ap:=jH z;by_cases ig:i=g
  ·subst ig;have gl:=tq.gl;have gh:=tq.gh;rw[tq.kin.low]at gl;rw[tq.kin.high]at gh;rw[tq.bg];exact⟨fun _ u hu=>by rw[gh]at hu;simp at hu,fun _ u hu=>by rw[gl]at hu;simp at hu⟩
  have st:=qM (P:=P.aI g (s+t)) (g:=g) (rs:=(P.aI g (s+t)).rising g (c t)) (up:=up) z ig hup;have inr:=tq.all _ jN;have le:=a.2.2.2.2 i (by rw[←q.2];exact hi);have bad:∀u,(if up then(P.aI g (s+t)).high ((P.aI g (s+t)).basic i)else(P.aI g (s+t)).low ((P.aI g (s+t)).basic i))=some u→(P.aI g (s+t)).now ((P.aI g (s+t)).basic i)≠u:=fun u hu e=>by
   rw[hu]at st;have zz:V.mul (1/dR ((P.aI g (s+t)).T i (c t))) (bJ u ((P.aI g (s+t)).now ((P.aI g (s+t)).basic i)) up)=⟨0,0⟩:=by
    rw[e];unfold bJ V.mul V.sub
    cases up<;>simp only[if_true,Bool.false_eq_true,if_false]<;>refine V.ext' ?_ ?_<;>simp only<;>grind
   simp only[Option.map_some]at st;rw[zz]at st;have:=le st;omega
  rw[←now t (by omega),←tq.kin.low,←tq.kin.high]
  cases up with
  | true=>
   refine⟨fun _ u hu=>?_,fun k=>by exfalso;simp[sg]at k;grind⟩
   have l:=inr.2 u hu
   have ne:=bad u (by simpa using hu)
   exact V.not_le.1 fun k=>ne (V.le_antisymm l k)
  | false=>
   refine⟨fun k=>by exfalso;simp[sg]at k;grind,fun _ u hu=>?_⟩
   have l:=inr.1 u hu
   have ne:=bad u (by simpa using hu)
   exact V.not_le.1 fun k=>ne (V.le_antisymm k l)
 exact absurd e hn
noncomputable def Pb.st (P:Pb) (v:Nat):Nat:=open Classical in if P.nb v then(if P.low v=some (P.now v)then 1 else if P.high v=some (P.now v)then 2 else 3)else 0
theorem Pb.PW (P:Pb)(v:Nat):P.st v<4:=by unfold Pb.st;split<;>(try split)<;>(try split)<;>omega
theorem Top.same {P0 P Q:Pb}{g:Nat}(h:Top P0 g P)(k:Top P0 g Q)(he:∀v,v<P0.n+P0.m→P.st v=Q.st v):∀v,v<P0.n+P0.m→P.now v=Q.now v:=by
 have nbs:∀v,v<P0.n+P0.m→(P.nb v↔Q.nb v):=fun v hv=>by
  have e:=he v hv;unfold Pb.st at e;constructor
  ·intro a;rw[if_pos a]at e;refine Classical.byContradiction fun b=>?_;rw[if_neg b]at e;split at e
   ·omega
   split at e<;>omega
  intro b;rw[if_pos b]at e;refine Classical.byContradiction fun a=>?_;rw[if_neg a]at e;split at e
  ·omega
  split at e<;>omega
 have fr:∀j,j<P.n→P.now (P.free j)=Q.now (P.free j):=fun j hj=>by
  have hv:P.free j<P0.n+P0.m:=by rw[←h.kin.n,←h.kin.m];exact h.ok.pl.flt j hj
  have a:P.nb (P.free j):=⟨j,hj,rfl⟩;have b:=(nbs _ hv).1 a;have e:=he _ hv;unfold Pb.st at e;rw[if_pos a,if_pos b]at e;have ea:=h.en j hj;obtain⟨j',hj',ej⟩:=b;have eb:=k.en j' hj';rw[ej]at eb;rw[h.kin.low,h.kin.high]at e ea;rw[k.kin.low,k.kin.high]at e eb;generalize P.now (P.free j)=x at*;generalize Q.now (P.free j)=y at*;generalize P0.low (P.free j)=lo at*;generalize P0.high (P.free j)=hi at*;by_cases a1:lo=some x
  ·rw[if_pos a1]at e;by_cases b1:lo=some y
   ·rw[a1]at b1;cases b1;rfl
   rw[if_neg b1]at e;split at e<;>omega
  rw[if_neg a1]at e;by_cases b1:lo=some y
  ·rw[if_pos b1]at e;split at e<;>omega
  rw[if_neg b1]at e;by_cases a2:hi=some x
  ·rw[if_pos a2]at e;by_cases b2:hi=some y
   ·rw[a2]at b2;cases b2;rfl
   rw[if_neg b2]at e;omega
  rw[if_neg a2]at e;by_cases b2:hi=some y
  ·rw[if_pos b2]at e;omega
  rcases ea with q | q | q
  ·exact absurd q a1
  ·exact absurd q a2
  rcases eb with q2 | q2 | q2
  ·exact absurd q2 b1
  ·exact absurd q2 b2
  rw[q,q2]
 have tq:P.TV Q.now:=⟨(h.kin.tw _).2 ((k.kin.tw _).1 k.ok.tv.1),(h.kin.tw _).2 ((k.kin.tw _).1 k.ok.tv.2)⟩;intro v hv;rw[←h.kin.n,←h.kin.m]at hv;rcases h.ok.pl.cover v hv with⟨i,hi,rfl⟩ | ⟨j,hj,rfl⟩
 ·refine V.ext' ?_ ?_
  ·have a:=h.ok.tv.1 i hi;have b:=tq.1 i hi;simp only at a b;rw[a,b];exact dw fun j hj=>by rw[fr j hj]
  have a:=h.ok.tv.2 i hi;have b:=tq.2 i hi;simp only at a b;rw[a,b];exact dw fun j hj=>by rw[fr j hj]
 exact fr j hj
theorem PY {P0 P:Pb}{g:Nat}(h:Top P0 g P):∃L,(∀t,t<L→(P.aI g t).gn g≠none)∧(P.aI g L).gn g=none:=by
 obtain⟨W,hW⟩:∃W,W=3^(P0.n+P0.m):=⟨_,rfl⟩;have a:∀L,(∀t,t<L→(P.aI g t).gn g≠none)∨∃K,K<L∧(∀t,t<K→(P.aI g t).gn g≠none)∧(P.aI g K).gn g=none:=by
  intro L;induction L with
  | zero=>exact Or.inl fun t ht=>by omega
  | succ L ih=>
   rcases ih with ih | ⟨K,k1,k2,k3⟩
   ·by_cases e:(P.aI g L).gn g=none
    ·exact Or.inr ⟨L,by omega,ih,e⟩
    ·exact Or.inl fun t ht=>by
      rcases Nat.lt_succ_iff_lt_or_eq.1 ht with q | q
      ·exact ih t q
      ·subst q;exact e
   ·exact Or.inr ⟨K,by omega,k2,k3⟩
 rcases a ((4^(P0.n+P0.m)+1)*W)with q | ⟨K,_,k2,k3⟩
 ·exfalso;have R:IB P0 g P ((4^(P0.n+P0.m)+1)*W):=⟨h,q⟩;have at_:∀i,i≤4^(P0.n+P0.m)+1→i*W≤(4^(P0.n+P0.m)+1)*W:=fun i hi=>Nat.mul_le_mul_right _ hi;have up:∀i,i<4^(P0.n+P0.m)+1→(P.gv (i*W) g (P0.n+P0.m)).lt (P.gv ((i+1)*W) g (P0.n+P0.m)):=fun i hi=>by have l:=at_ (i+1) (by omega);rw[Nat.add_mul,Nat.one_mul]at l⊢;have m:=R.mono W (i*W) l;refine V.not_le.1 fun k=>?_;have:=R.still (s:=i*W) (K:=W) l (V.le_antisymm k m);omega
  have ups:∀d i,i+d+1≤4^(P0.n+P0.m)+1→(P.gv (i*W) g (P0.n+P0.m)).lt (P.gv ((i+d+1)*W) g (P0.n+P0.m)):=by
   intro d;induction d with
   | zero=>intro i hi;exact up i (by omega)
   | succ d ih=>intro i hi;exact V.lt_trans (ih i (by omega)) (up (i+d+1) (by omega))
  obtain⟨i,j,hij,hj,e⟩:=FX (4^(P0.n+P0.m)) (4^(P0.n+P0.m)+1) (fun i=>cd 4 (P0.n+P0.m) (P.aI g (i*W)).st) (fun i hi=>CY fun v _=>Pb.PW _ _) (by omega);have sm':=FV (fun v _=>Pb.PW _ _) (fun v _=>Pb.PW _ _) e;have same:=(R.xk (i*W) (at_ i (by omega))).same (R.xk (j*W) (at_ j (by omega))) sm';have u:=ups (j-i-1) i (by omega);rw[show i+(j-i-1)+1=j from by omega]at u;have gm:=h.gm;rw[h.kin.m]at gm;have:=same (P0.n+P0.m-1) (by omega);unfold Pb.gv at u;rw[this]at u;exact V.lt_irrefl _ u
 exact⟨K,k2,k3⟩
end Go.Proofs.YtijdglogadnbcaaGreat.Bl
namespace Go.Proofs.YtijdglogadnbcaaGreat
open Go.Proofs.Tryz
open Go.RowKit Nt Bl
def dI (f:Nat→Nat)(v:Nat):Nat→Option Nat
 | 0=>none
 | i+1=>match dI f v i with | some r=>some r | none=>if f i=v then some i else none
theorem nU (P:Pb)(v:Nat):∀i,P.rowOf v i=dI P.basic v i
 | 0=>rfl
 | i+1=>by unfold Pb.rowOf dI;rw[nU P v i];rfl
theorem wE {f:Nat→Nat}{v k n:Nat}(h:dI f v k=none)(e:f k=v)(hn:k<n):dI f v n=some k:=by
 obtain⟨d,rfl⟩:∃d,n=k+1+d:=⟨n-k-1,by omega⟩;clear hn;induction d with
 | zero=>show dI f v (k+1)=_;unfold dI;rw[h];simp[e]
 | succ d ih=>show dI f v (k+1+d+1)=_;unfold dI;rw[ih]
theorem wF {f:Nat→Nat}{v k:Nat}(h:dI f v k=none)(e:f k≠v):dI f v (k+1)=none:=by unfold dI;rw[h];simp[e]
theorem wG {f:Nat→Nat}{v:Nat}:∀{n r:Nat},dI f v n=some r→r<n∧f r=v
 | 0,r,h=>by simp[dI]at h
 | n+1,r,h=>by
  unfold dI at h
  cases e:dI f v n with
  | some q=>
   rw[e]at h
   simp only[Option.some.injEq]at h
   subst h
   have:=wG e
   exact⟨by omega,this.2⟩
  | none=>
   rw[e]at h
   simp only at h
   split at h
   ·rename_i q
    simp only[Option.some.injEq]at h
    subst h
    exact⟨by omega,q⟩
   ·simp at h
def IxL (f:Nat→Nat)(v m:Nat)(x:Value):Prop:=∃k:Nat,k≤m∧x= .int .i64 (k:Int)∧dI f v k=none
theorem yD {w:World}{g m c v:Nat}{f:Nat→Nat}(h:tY w g m f)(hm:m≤c)(hc:c≤9223372036854775807):
  Calls prog 148 #[.slice (some ⟨g,0,none⟩) m c,.int .i64 (v:Int)] w fun e w'=>e= .returned (.int .i64 (je (dI f v m)))∧w=w':=by
 have H:=hid h;clear h;go_enter func148,ntmps148;go_wp2_with fail;go_loop [8] (fun x=>IxL f v m x) (fun x=>m-(intOf x).toNat)
 case atStart=>exact⟨0,Nat.zero_le _,rfl,rfl⟩
 obtain⟨k,hk,rfl,hf⟩:=hrel;have F:=hid hf;clear hf;by_cases hlt:k<m
 ·have p:=H.out.at_ k hlt;obtain⟨y,hy⟩:∃y,f k=y:=⟨_,rfl⟩;rw[hy]at p;by_cases e:y=v
  ·have E:Hid (dI f v m=some k):=wE F.out (by rw[hy];exact e) hlt;have yb:((v:Int)==(y:Int))=true:=by simp;omega
   clear hy e;go_wp2_with fail;go_ret;exact⟨by rw[E.out];rfl,rfl⟩
  have E:=hid (wF F.out (by rw[hy];exact e));have yb:((v:Int)==(y:Int))=false:=by simp;omega
  clear hy e;go_wp2_with fail;go_round
  case rel=>exact⟨k+1,by omega,by go_num,E.out⟩
  simp[intOf];omega
 obtain rfl:m=k:=by omega
 go_wp2_with fail;go_ret;exact⟨by rw[F.out];rfl,rfl⟩
end Go.Proofs.YtijdglogadnbcaaGreat
namespace Go.Proofs.YtijdglogadnbcaaGreat.Bl
open Go.Proofs.Tryz
open Go.RowKit Nt
theorem Top.row_of {P0 P:Pb}{g:Nat}(h:Top P0 g P):P.rowOf (P.n+P.m-1) P.m=some g:=by
 rw[nU,←h.bg];have no:∀k,k≤g→dI P.basic (P.basic g) k=none:=by
  intro k;induction k with
  | zero=>intro _;rfl
  | succ k ih=>intro hk;exact wF (ih (by omega)) fun e=>by have:=h.ok.pl.FC k g (by have:=h.gm;omega) h.gm e;omega
 exact wE (no g (Nat.le_refl _)) rfl h.gm
theorem IC {K g:Nat}:∀(L:Nat) (P:Pb),(∀t,t<L→(P.aI g t).gn g≠none)→(P.aI g L).gn g=none→
  (∀t,t≤L→uz (P.aI g t) K∧(P.aI g t).rowOf ((P.aI g t).n+(P.aI g t).m-1) (P.aI g t).m=some g)→
  ∃is,Ci K L P (P.aI g L) is∧(is=true→(P.aI g L).hlp g true=none)∧(is=false→∃c,(P.aI g L).hlp g true=some c∧(P.aI g L).rz g c=none)
 | 0,P,_,he,hs=>by
  obtain⟨s,r⟩:=hs 0 (Nat.le_refl _);change P.gn g=none at he;change uz P K at s;change P.rowOf (P.n+P.m-1) P.m=some g at r;unfold Pb.gn at he
  cases hh:P.hlp g true with
  | none=>exact⟨true,⟨s,rfl,Or.inr ⟨rfl,g,r,hh⟩⟩,fun _=>hh,fun e=>by simp at e⟩
  | some c=>
   rw[hh]at he
   exact⟨false,⟨s,rfl,Or.inl ⟨rfl,Or.inr ⟨g,c,r,hh,he⟩⟩⟩,fun e=>by simp at e,fun _=>⟨c,hh,he⟩⟩
 | L+1,P,hg,he,hs=>by
  obtain⟨s,r⟩:=hs 0 (by omega)
  cases e:P.gn g with
  | none=>exact absurd e (hg 0 (by omega))
  | some P'=>
   obtain⟨c,h1,h2⟩:=Pb.Iy e
   have gx:=Pb.Iz e
   have sh:∀t,P.aI g (t+1)=P'.aI g t:=fun t=>by rw[Pb.yC,gx]
   obtain⟨is,k1,k2,k3⟩:=IC (K:=K) (g:=g) L P' (fun t ht=>by rw[←sh];exact hg (t+1) (by omega)) (by rw[←sh];exact he) (fun t ht=>by rw[←sh];exact hs (t+1) (by omega))
   rw[sh]
   exact⟨is,⟨s,g,c,P',r,h1,h2,k1⟩,k2,k3⟩
theorem Top.best {P0 P:Pb}{g:Nat}(h:Top P0 g P)(hh:P.hlp g true=none)(y:Nat→V)(ty:P0.TV y)(hy:∀v,v<P0.n+P0.m→yu P0.low P0.high v (y v)):(y (P0.n+P0.m-1)).le (P.now (P0.n+P0.m-1)):=by
 have hp:=P.dS g true P.n;unfold Pb.hlp at hh;rw[hh]at hp;have tq:P.TV y:=⟨(h.kin.tw _).2 ty.1,(h.kin.tw _).2 ty.2⟩;have each:∀k,k<P.n→(V.mul (P.T g k) ((y (P.free k)).sub (P.now (P.free k)))).npos:=by
  intro k hk;have nh:=hp k hk;have nh:¬P.helps g k true=true:=by rw[nh];simp
  rw[Pb.fM]at nh;simp only[if_true]at nh;have yk:=hy (P.free k) (by rw[←h.kin.n,←h.kin.m];exact h.ok.pl.flt k hk);rw[←h.kin.low,←h.kin.high]at yk;by_cases p:0<P.T g k
  ·obtain⟨u,hu,hle⟩:=vM fun q=>nh (Or.inl ⟨by grind,q⟩);exact V.mV (Rat.le_of_lt p) (V.le_iff.1 (V.le_trans (yk.2 u hu) hle))
  by_cases p2:P.T g k<0
  ·obtain⟨u,hu,hle⟩:=vO fun q=>nh (Or.inr ⟨by grind,q⟩);exact V.kJ (Rat.le_of_lt p2) (V.le_iff.1 (V.le_trans hle (yk.1 u hu)))
  have:P.T g k=0:=by grind
  rw[this];unfold V.mul V.npos;simp only;right;constructor<;>grind
 have s:=zy each;rw[←Fv,←Pb.Ic tq h.gm,←Pb.Ic h.ok.tv h.gm,h.bg,h.kin.n,h.kin.m]at s;exact V.le_iff.2 s
theorem Top.endless {P0 P:Pb}{g c:Nat}(h:Top P0 g P)(hh:P.hlp g true=some c)(hz:P.rz g c=none)(q:Rat)(q0:0≤q):
  ∃y,P0.TV y∧(∀v,v<P0.n+P0.m→yu P0.low P0.high v (y v))∧y (P0.n+P0.m-1)=(P.now (P0.n+P0.m-1)).add ⟨q,0⟩:=by
 have hp:=Iw hh;rw[Io,Option.map_eq_none_iff]at hz;have ri:=P.rZ g c (P.rising g c) P.m;rw[hz]at ri;have ap:=jH hp.nz;have ii:dR (P.T g c)*(1/dR (P.T g c))=1:=by grind
 have ip:0≤1/dR (P.T g c):=by refine Classical.byContradiction fun k=>?_;have:=Rat.mul_nonneg (Rat.le_of_lt ap) (show 0≤ -(1/dR (P.T g c)) by grind);grind
 have lim:P.Lim g c (P.rising g c) ⟨1/dR (P.T g c)*q,0⟩:=by refine⟨?_,fun u hu=>by rw[ri.1]at hu;simp at hu,fun k u hk hu=>by rw[ri.2 k hk]at hu;simp at hu⟩;have:=Rat.mul_nonneg ip q0;unfold V.pos V.le;simp only;grind
 have up:=hp.up;refine⟨(P.mv c (V.mul (sg (P.rising g c)) ⟨1/dR (P.T g c)*q,0⟩)).now,?_,fun v hv=>?_,?_⟩
 ·have tv:=Pb.OH h.ok.pl hp.cn (V.mul (sg (P.rising g c)) ⟨1/dR (P.T g c)*q,0⟩) h.ok.tv;exact⟨(h.kin.tw _).1 tv.1,(h.kin.tw _).1 tv.2⟩
 ·rw[←h.kin.low,←h.kin.high];exact h.Iu hp.cn lim v (by rw[h.kin.n,h.kin.m];exact hv)
 have gl:=h.goal hp.cn (V.mul (sg (P.rising g c)) ⟨1/dR (P.T g c)*q,0⟩);rw[h.kin.n,h.kin.m]at gl;rw[gl];congr 1;unfold V.mul;refine V.ext' ?_ ?_<;>simp only
 ·rw[←Rat.mul_assoc,up,←Rat.mul_assoc,ii];grind
 grind
structure Mid (P0:Pb)(g:Nat)(P:Pb):Prop where
 kin:Xb P0 P
 ok:P.Ok
 en:P.Ends
 gm:g<P.m
 bg:P.basic g=P.n+P.m-1
 gl:P.low (P.n+P.m-1)=none
 gh:P.high (P.n+P.m-1)=none
theorem Mid.top {P0 P:Pb}{g:Nat}(h:Mid P0 g P)(ha:∀v,v<P.n+P.m→yu P.low P.high v (P.now v)):Top P0 g P:=⟨h.kin,h.ok,ha,h.en,h.gm,h.bg,h.gl,h.gh⟩
theorem Fr.sz {x:Rat}{B K:Nat}(h:Fr x B)(hK:B<4294967296^K):Sz x K:=
 ⟨bn (Nat.lt_of_le_of_lt h.bound.1 hK),bn (Nat.lt_of_le_of_lt h.bound.2 hK)⟩
theorem Fm.PZ {P:Pb}{R:Nat}{D:Nat→Nat}{a:Nat→Nat→Int}(h:Fm P R D a){v:Nat}{e:V}(hv:v<P.n+P.m)(he:P.low v=some e∨P.high v=some e):Fr e.m (R*(2*R)^P.n*R)∧Fr e.s (R*(2*R)^P.n*R):=by
 obtain⟨bm,bs,h1,h2,h3,h4⟩:=h.ends v e hv he;have d:=h.d1 v hv;have r1:=h.r1;have big:R≤R*(2*R)^P.n*R:=Nat.le_mul_of_pos_left _ (Nat.mul_pos r1 (Nat.pow_pos (by omega)));have d0:(D v:Int)≠0:=by omega
 exact⟨⟨bm,D v,d0,by rw[←h1];show e.m*(D v:Rat)=_;grind,by omega,by rw[Int.natAbs_natCast];omega⟩,⟨bs,D v,d0,by rw[←h2];show e.s*(D v:Rat)=_;grind,by omega,by rw[Int.natAbs_natCast];omega⟩⟩
theorem Mid.sz {P0 P:Pb}{g R K:Nat}{D:Nat→Nat}{a:Nat→Nat→Int}(h:Mid P0 g P)(F:Fm P0 R D a)(hK:R*(2*R)^P0.n*R<4294967296^K):uz P K:=by
 refine⟨fun v hv=>?_,fun v e hv he=>?_,fun v e hv he=>?_,fun i k hi hk=>?_⟩
 ·have:=F.now h.kin h.ok.pl h.ok.tv h.en (v:=v) (by rw[←h.kin.n,←h.kin.m];exact hv);exact⟨this.1.sz hK,this.2.sz hK⟩
 ·rw[h.kin.n,h.kin.m]at hv;rw[h.kin.low]at he;have:=F.PZ hv (Or.inl he);exact⟨this.1.sz hK,this.2.sz hK⟩
 ·rw[h.kin.n,h.kin.m]at hv;rw[h.kin.high]at he;have:=F.PZ hv (Or.inr he);exact⟨this.1.sz hK,this.2.sz hK⟩
 exact(F.tab h.kin h.ok.pl (by rw[←h.kin.m];exact hi) (by rw[←h.kin.n];exact hk)).sz hK
theorem Top.mid {P0 P:Pb}{g:Nat}(h:Top P0 g P):Mid P0 g P:=⟨h.kin,h.ok,h.en,h.gm,h.bg,h.gl,h.gh⟩
theorem JV {P0 P:Pb}{g R K:Nat}{D:Nat→Nat}{a:Nat→Nat→Int}(h:Top P0 g P)(F:Fm P0 R D a)(hK:R*(2*R)^P0.n*R<4294967296^K):
  ∃L Q is,Ci K L P Q is∧Top P0 g Q∧(is=true→Q.hlp g true=none)∧(is=false→∃c,Q.hlp g true=some c∧Q.rz g c=none):=by obtain⟨L,hL,hE⟩:=PY h;have R':IB P0 g P L:=⟨h,hL⟩;obtain⟨is,k1,k2,k3⟩:=IC (K:=K) L P hL hE fun t ht=>⟨(R'.xk t ht).mid.sz F hK,(R'.xk t ht).row_of⟩;exact⟨L,_,is,k1,R'.xk L (Nat.le_refl _),k2,k3⟩
def KZ (K:Nat):Nat→Pb→Pb→Option (Nat×Bool)→Prop
 | 0,P,Q,x=>uz P K∧Q=P∧P.brk=x∧∀r up,x=some (r,up)→P.hlp r up=none
 | k+1,P,Q,x=>uz P K∧∃r up c b,P.brk=some (r,up)∧P.hlp r up=some c∧P.fO r up=some b∧
   uz (P.mv c (V.mul (1/P.T r c) (b.sub (P.now (P.basic r))))) K∧KZ K k (P.fst r c b) Q x
theorem Mid.next {P0 P:Pb}{g r:Nat}{up:Bool}{c:Nat}{b:V}(h:Mid P0 g P)(s:uf P r up c b):Mid P0 g (P.fst r c b):=by
 have rg:g≠r:=fun e=>by
  have v:=s.Fz;rw[←e,h.bg,h.gl,h.gh]at v
  cases up<;>simp at v
 refine⟨⟨h.kin.n,h.kin.m,h.kin.low,h.kin.high,fun y=>(Pb.qF (Pb.qK h.ok.pl c _) s.rm s.cn s.nz y).symm.trans (h.kin.tw y)⟩,s.next,fun k hk=>?_,h.gm,by show(if g=r then P.free c else P.basic g)=_;rw[if_neg rg];exact h.bg,h.gl,h.gh⟩;show P.low (if k=c then P.basic r else P.free k)=some ((P.fst r c b).now (if k=c then P.basic r else P.free k))∨P.high (if k=c then P.basic r else P.free k)=some ((P.fst r c b).now (if k=c then P.basic r else P.free k))∨(P.fst r c b).now (if k=c then P.basic r else P.free k)=⟨0,0⟩;by_cases e:k=c
 ·rw[if_pos e,s.zK];have:=s.en;unfold Pb.fO at this
  cases up with
  | true=>left;simpa using this
  | false=>right;left;simpa using this
 rw[if_neg e,s.vX hk e];exact h.en k hk
theorem IK {P0:Pb}{g R K:Nat}{D:Nat→Nat}{a:Nat→Nat→Int}(F:Fm P0 R D a)(hK:R*(2*R)^P0.n*R<4294967296^K):∀(L:Nat) (P:Pb),Mid P0 g P→(∀t,t<L→(P.jQ t).fd≠none)→(P.jQ L).fd=none→
  ∃Q x,KZ K L P Q x∧Mid P0 g Q∧Q.brk=x∧∀r up,x=some (r,up)→Q.hlp r up=none
 | 0,P,h,_,he=>by
  have hn:=Pb.UM he;have hn:∀r up,P.brk=some (r,up)→P.hlp r up=none:=fun r up e=>by
   rcases hn with q | ⟨r',up',q1,q2⟩
   ·have q:P.brk=none:=q;rw[q]at e;simp at e
   have q1:P.brk=some (r',up'):=q1;rw[q1]at e;cases e;exact q2
  exact⟨P,P.brk,⟨h.sz F hK,rfl,rfl,hn⟩,h,rfl,hn⟩
 | L+1,P,h,hg,he=>by
  cases e:P.fd with
  | none=>exact absurd e (hg 0 (by omega))
  | some d=>
   obtain⟨r,up,c,b⟩:=d
   have s:=Pb.WX h.ok e
   have nx:P.fnx=P.fst r c b:=by unfold Pb.fnx;rw[e]
   have sh:∀t,P.jQ (t+1)=(P.fst r c b).jQ t:=by
    intro t
    induction t with
    | zero=>exact nx
    | succ t ih=>show(P.jQ (t+1)).fnx=_;rw[ih];rfl
   have h':=h.next s
   have z:=h.sz F hK
   have z':=h'.sz F hK
   obtain⟨Q,x,k1,k2,k3,k4⟩:=IK F hK L (P.fst r c b) h' (fun t ht=>by rw[←sh];exact hg (t+1) (by omega)) (by rw[←sh];exact he)
   exact⟨Q,x,⟨z,r,up,c,b,s.br,s.hl,s.en,⟨z'.now,z.low,z.high,z.tab⟩,k1⟩,k2,k3,k4⟩
theorem JW {P0 P:Pb}{g R K:Nat}{D:Nat→Nat}{a:Nat→Nat→Int}(h:Mid P0 g P)(F:Fm P0 R D a)(hK:R*(2*R)^P0.n*R<4294967296^K):
  ∃L Q x,KZ K L P Q x∧Mid P0 g Q∧(x=none→∀v,v<P0.n+P0.m→yu P0.low P0.high v (Q.now v))∧
   (∀r up,x=some (r,up)→Q.brk=some (r,up)∧Q.hlp r up=none∧∀y,P0.TV y→(∀v,v<P0.n+P0.m→yu P0.low P0.high v (y v))→False):=by
 obtain⟨L,_,hL,hE⟩:=Pb.OI h.ok;obtain⟨Q,x,k1,k2,k3,k4⟩:=IK F hK L P h hL hE;refine⟨L,Q,x,k1,k2,fun e v hv=>?_,fun r up e=>⟨k3.trans e,k4 r up e,fun y ty hy=>?_⟩⟩
 ·rw[←k2.kin.low,←k2.kin.high];exact Pb.whole k2.ok (k3.trans e) v (by rw[k2.kin.n,k2.kin.m];exact hv)
 exact Pb.stuck k2.ok (k3.trans e) (k4 r up e) y ⟨(k2.kin.tw _).2 ty.1,(k2.kin.tw _).2 ty.2⟩ fun v hv=>by rw[k2.kin.low,k2.kin.high];exact hy v (by rw[←k2.kin.n,←k2.kin.m];exact hv)
end Go.Proofs.YtijdglogadnbcaaGreat.Bl
