/- Bland's rule ends: how often variables can be exchanged. No program. -/
set_option linter.unusedVariables false
set_option linter.unusedSimpArgs false
set_option maxRecDepth 100000
set_option maxHeartbeats 40000000
namespace Go.Proofs.YtijdglogadnbcaaGreat.Bl
theorem vK (E:Nat→Prop)(s m:Nat):(∀t,s≤t→t<s+m→¬E t)∨∃t1,s≤t1∧t1<s+m∧E t1∧∀t,s≤t→t<t1→¬E t:=by
 induction m with
 | zero=>left;intro t h1 h2;omega
 | succ m ih=>
  rcases ih with h | ⟨t1,h1,h2,h3,h4⟩
  ·by_cases e:E (s+m)
   ·right;exact⟨s+m,by omega,by omega,e,fun t a b=>h t a b⟩
   ·left
    intro t h1 h2
    by_cases q:t=s+m
    ·subst q;exact e
    ·exact h t h1 (by omega)
  ·right;exact⟨t1,h1,by omega,h3,h4⟩
structure Ex (nb:Nat→Nat→Prop)(inn out:Nat→Nat)(L:Nat):Prop where
 hin:∀t,t<L→nb t (inn t)
 hout:∀t,t<L→¬nb t (out t)
 next:∀t,t<L→∀j,nb (t+1) j↔(nb t j∧j≠inn t)∨j=out t
theorem Ex.stay {nb:Nat→Nat→Prop}{inn out:Nat→Nat}{L:Nat}(h:Ex nb inn out L){r s t:Nat}(hst:s≤t)(ht:t≤L)(hn:∀k,s≤k→k<t→inn k≠r∧out k≠r):nb t r↔nb s r:=by
 obtain⟨d,rfl⟩:∃d,t=s+d:=⟨t-s,by omega⟩;clear hst;induction d with
 | zero=>exact Iff.rfl
 | succ d ih=>
  have i1:=ih (by omega) fun k a b=>hn k a (by omega)
  have i2:=h.next (s+d) (by omega) r
  have i3:=hn (s+d) (by omega) (by omega)
  rw[←i1,show s+(d+1)=s+d+1 from by omega,i2]
  constructor
  ·rintro(⟨a,_⟩ | a)
   ·exact a
   ·exact absurd a.symm i3.2
  ·intro a
   exact Or.inl ⟨a,fun e=>i3.1 e.symm⟩
def zu (inn out:Nat→Nat)(L:Nat):Prop:=
 ∀r t1 t2,t1<t2→t2<L→out t1=r→inn t2=r→(∀t,t1≤t→t≤t2→inn t≤r∧out t≤r)→(∀t,t1<t→t<t2→inn t≠r∧out t≠r)→False
theorem window {nb:Nat→Nat→Prop}{inn out:Nat→Nat}{L:Nat}(h:Ex nb inn out L)(k:zu inn out L)(r:Nat):
  ∀s m,s+m≤L→(∀t,s≤t→t<s+m→inn t<r∧out t<r)→m+1≤3^r:=by
 induction r with
 | zero=>
  intro s m hm hb
  rcases Nat.eq_zero_or_pos m with e | e
  ·subst e;simp
  ·have:=(hb s (Nat.le_refl _) (by omega)).1;omega
 | succ r ih=>
  have quiet:∀s m,s+m≤L→(∀t,s≤t→t<s+m→inn t<r+1∧out t<r+1)→(∀t,s≤t→t<s+m→¬(inn t=r∨out t=r))→m+1≤3^r:=by
   intro s m hm hb hq
   refine ih s m hm fun t a b=>?_
   have h1:=hb t a b
   have h2:=hq t a b
   omega
  have low:∀s m,s+m≤L→(∀t,s≤t→t<s+m→inn t<r+1∧out t<r+1)→¬nb s r→m+1≤2*3^r:=by
   intro s m hm hb hn
   have p:1≤3^r:=Nat.pos_of_ne_zero (by simp)
   rcases vK (fun t=>inn t=r∨out t=r) s m with q | ⟨t1,h1,h2,h3,h4⟩
   ·have:=quiet s m hm hb q;omega
   ·have n1:¬nb t1 r:=by rw[h.stay h1 (by omega) fun k a b=>⟨fun e=>h4 k a b (Or.inl e),fun e=>h4 k a b (Or.inr e)⟩];exact hn
    have o1:out t1=r:=by
     rcases h3 with e | e
     ·exact absurd (e▸h.hin t1 (by omega)) n1
     ·exact e
    have n2:nb (t1+1) r:=(h.next t1 (by omega) r).2 (Or.inr o1.symm)
    have c1:=quiet s (t1-s) (by omega) (fun t a b=>hb t a (by omega)) (fun t a b=>h4 t a (by omega))
    have c2:s+m-t1-1+1≤3^r:=by
     refine quiet (t1+1) (s+m-t1-1) (by omega) (fun t a b=>hb t (by omega) (by omega)) fun t a b hE=>?_
     rcases vK (fun t=>inn t=r∨out t=r) (t1+1) (s+m-t1-1)with q | ⟨t2,g1,g2,g3,g4⟩
     ·exact q t a b hE
     ·have n3:nb t2 r:=by rw[h.stay g1 (by omega) fun k a b=>⟨fun e=>g4 k a b (Or.inl e),fun e=>g4 k a b (Or.inr e)⟩];exact n2
      have i2:inn t2=r:=by
       rcases g3 with e | e
       ·exact e
       ·exact absurd (e▸n3) (h.hout t2 (by omega))
      refine k r t1 t2 (by omega) (by omega) o1 i2 (fun t a b=>?_) fun t a b=>?_
      ·have:=hb t (by omega) (by omega);omega
      ·have:=g4 t (by omega) b
       exact⟨fun e=>this (Or.inl e),fun e=>this (Or.inr e)⟩
    omega
  intro s m hm hb
  rw[Nat.pow_succ]
  have p:1≤3^r:=Nat.pos_of_ne_zero (by simp)
  by_cases hn:nb s r
  ·rcases vK (fun t=>inn t=r∨out t=r) s m with q | ⟨t1,h1,h2,h3,h4⟩
   ·have:=quiet s m hm hb q;omega
   ·have n1:nb t1 r:=by rw[h.stay h1 (by omega) fun k a b=>⟨fun e=>h4 k a b (Or.inl e),fun e=>h4 k a b (Or.inr e)⟩];exact hn
    have i1:inn t1=r:=by
     rcases h3 with e | e
     ·exact e
     ·exact absurd (e▸n1) (h.hout t1 (by omega))
    have n2:¬nb (t1+1) r:=by
     rw[h.next t1 (by omega) r]
     rintro(⟨_,e⟩ | e)
     ·exact e i1.symm
     ·exact h.hout t1 (by omega) (e▸n1)
    have c1:=quiet s (t1-s) (by omega) (fun t a b=>hb t a (by omega)) (fun t a b=>h4 t a (by omega))
    have c2:=low (t1+1) (s+m-t1-1) (by omega) (fun t a b=>hb t (by omega) (by omega)) n2
    omega
  ·have:=low s m hm hb hn;omega
theorem BO {nb:Nat→Nat→Prop}{inn out:Nat→Nat}{L N:Nat}(h:Ex nb inn out L)(k:zu inn out L)(hb:∀t,t<L→inn t<N∧out t<N):L<3^N:=
 window h k N 0 L (by omega) fun t _ b=>hb t (by omega)
def sm:Nat→(Nat→Rat)→Rat
 | 0,_=>0
 | n+1,f=>sm n f+f n
theorem aaz {n:Nat}{f:Nat→Rat}(h:∀j,j<n→f j≤0):sm n f≤0:=by
 induction n with
 | zero=>exact Rat.le_refl
 | succ n ih=>
  have h1:=ih fun j hj=>h j (by omega)
  have h2:=h n (by omega)
  show sm n f+f n≤0
  grind
theorem aaA {n r:Nat}{f:Nat→Rat}(h:∀j,j<n→f j≤0)(hr:r<n)(h2:f r<0):sm n f<0:=by
 induction n with
 | zero=>omega
 | succ n ih=>
  show sm n f+f n<0
  by_cases e:r=n
  ·subst e
   have:=aaz (n:=r) fun j hj=>h j (by omega)
   grind
  ·have:=ih (fun j hj=>h j (by omega)) (by omega)
   have:=h n (by omega)
   grind
theorem dw {n:Nat}{f g:Nat→Rat}(h:∀j,j<n→f j=g j):sm n f=sm n g:=by
 induction n with
 | zero=>rfl
 | succ n ih=>show sm n f+f n=sm n g+g n;rw[ih fun j hj=>h j (by omega),h n (by omega)]
theorem rU (n:Nat)(f g:Nat→Rat):sm n (fun j=>f j+g j)=sm n f+sm n g:=by
 induction n with
 | zero=>show(0:Rat)=0+0;grind
 | succ n ih=>show sm n _+_=(sm n f+f n)+(sm n g+g n);rw[ih];grind
theorem rV (n:Nat)(a:Rat)(f:Nat→Rat):sm n (fun j=>a*f j)=a*sm n f:=by
 induction n with
 | zero=>show(0:Rat)=a*0;grind
 | succ n ih=>show sm n _+_=a*(sm n f+f n);rw[ih];grind
theorem jY {n:Nat}{f:Nat→Rat}(h:∀j,j<n→f j=0):sm n f=0:=by
 induction n with
 | zero=>rfl
 | succ n ih=>show sm n f+f n=0;rw[ih fun j hj=>h j (by omega),h n (by omega)];grind
theorem lK {n r:Nat}{f:Nat→Rat}(hr:r<n)(h:∀j,j<n→j≠r→f j=0):sm n f=f r:=by
 induction n with
 | zero=>omega
 | succ n ih=>
  show sm n f+f n=f r
  by_cases e:r=n
  ·subst e;rw[jY fun j hj=>h j (by omega) (by omega)];grind
  ·rw[ih (by omega) fun j hj hne=>h j (by omega) hne,h n (by omega) (by omega)];grind
structure Still (nb:Nat→Nat→Prop)(inn out:Nat→Nat)(c d:Nat→Nat→Rat)(rise fall:Nat→Prop)(N g L:Nat):Prop where
 ex:Ex nb inn out L
 lt:∀t,t<L→inn t<N∧out t<N
 csup:∀t,t<L→∀j,c t j≠0→nb t j
 UC:∀t,t<L→∀j,d t j≠0→nb t j→j=inn t
 goal:∀t u,t<L→u<L→d u g=sm N (fun j=>c t j*d u j)
 good:∀t,t<L→(0<c t (inn t)∧rise (inn t)∧0<d t (inn t))∨(c t (inn t)<0∧fall (inn t)∧d t (inn t)<0)
 least:∀t,t<L→∀j,j<inn t→nb t j→¬(0<c t j∧rise j)∧¬(c t j<0∧fall j)
 block:∀t,t<L→(0<d t (out t)∧¬rise (out t))∨(d t (out t)<0∧¬fall (out t))
 first:∀t,t<L→∀j,j<out t→¬nb t j→(0<d t j→rise j)∧(d t j<0→fall j)
theorem iK {a b:Rat}(h:(a<0∧0<b)∨(0<a∧b<0)):a*b<0:=by
 rcases h with⟨h1,h2⟩ | ⟨h1,h2⟩
 ·have:=Rat.mul_pos (show 0< -a by grind) h2;grind
 have:=Rat.mul_pos h1 (show 0< -b by grind);grind
theorem Fp {a b:Rat}(h:(0<a∧0<b)∨(a<0∧b<0)):0<a*b:=by
 rcases h with⟨h1,h2⟩ | ⟨h1,h2⟩
 ·exact Rat.mul_pos h1 h2
 have:=Rat.mul_pos (show 0< -a by grind) (show 0< -b by grind);grind
theorem wY {a b:Rat}(h1:0<a→b≤0)(h2:a<0→0≤b):a*b≤0:=by
 by_cases e1:0<a
 ·by_cases e:b=0
  ·subst e;grind
  have:=iK (a:=a) (b:=b) (Or.inr ⟨e1,by have:=h1 e1;grind⟩);grind
 by_cases e2:a<0
 ·by_cases e:b=0
  ·subst e;grind
  have:=iK (a:=a) (b:=b) (Or.inl ⟨e2,by have:=h2 e2;grind⟩);grind
 have:a=0:=by grind
 subst this;grind
theorem Still.Fq {nb:Nat→Nat→Prop}{inn out:Nat→Nat}{c d:Nat→Nat→Rat}{rise fall:Nat→Prop}{N g L:Nat}(h:Still nb inn out c d rise fall N g L):zu inn out L:=by
 intro r t1 t2 hlt hL ho hi hb hq;have L1:t1<L:=by omega
 have up:0<d t1 g:=by
  rw[h.goal t1 t1 L1 L1,lK (r:=inn t1) (h.lt t1 L1).1]
  ·exact Fp ((h.good t1 L1).imp (fun q=>⟨q.1,q.2.2⟩) fun q=>⟨q.1,q.2.2⟩)
  intro j _ hj;by_cases e:c t1 j=0
  ·rw[e];grind
  have:=h.UC t1 L1 j;by_cases e2:d t1 j=0
  ·rw[e2];grind
  exact absurd (this e2 (h.csup t1 L1 j e)) hj
 have hne:inn t1≠r:=fun e=>h.ex.hout t1 L1 (by rw[ho,←e];exact h.ex.hin t1 L1);have gr:=h.good t2 hL;have bl:=h.block t1 L1;rw[hi]at gr;rw[ho]at bl;have down:d t1 g<0:=by
  rw[h.goal t2 t1 hL L1];refine aaA (r:=r) (fun j hj=>?_) (by rw[←ho];exact(h.lt t1 L1).2) ?_
  ·rcases Nat.lt_trichotomy j r with q | q | q
   ·by_cases ec:c t2 j=0
    ·rw[ec];grind
    have nj:=h.csup t2 hL j ec;have ls:=h.least t2 hL j (by omega) nj;have key:(0<d t1 j→rise j)∧(d t1 j<0→fall j):=by
     by_cases nb1:nb t1 j
     ·refine⟨fun p=>?_,fun p=>?_⟩
      ·have e:=h.UC t1 L1 j (by grind) nb1;subst e;rcases h.good t1 L1 with⟨_,a,_⟩ | ⟨_,_,a⟩
       ·exact a
       grind
      have e:=h.UC t1 L1 j (by grind) nb1;subst e;rcases h.good t1 L1 with⟨_,_,a⟩ | ⟨_,a,_⟩
      ·grind
      exact a
     exact h.first t1 L1 j (by omega) nb1
    refine wY (fun p=>?_) fun p=>?_
    ·have:=ls.1;by_cases z:0<d t1 j
     ·exact absurd ⟨p,key.1 z⟩ this
     grind
    have:=ls.2;by_cases z:d t1 j<0
    ·exact absurd ⟨p,key.2 z⟩ this
    grind
   ·subst q;have:c t2 j*d t1 j<0:=iK (by
     rcases gr with⟨a1,a2,_⟩ | ⟨a1,a2,_⟩<;>rcases bl with⟨b1,b2⟩ | ⟨b1,b2⟩
     ·exact absurd a2 b2
     ·exact Or.inr ⟨a1,b1⟩
     ·exact Or.inl ⟨a1,b1⟩
     exact absurd a2 b2)
    grind
   by_cases ec:c t2 j=0
   ·rw[ec];grind
   have nj:=h.csup t2 hL j ec;have nj1:nb t1 j:=by refine(h.ex.stay (r:=j) (Nat.le_of_lt hlt) (by omega) fun k a b=>?_).1 nj;have:=hb k a (by omega);omega
   by_cases e2:d t1 j=0
   ·rw[e2];grind
   have e:=h.UC t1 L1 j e2 nj1;have:=(hb t1 (Nat.le_refl _) (by omega)).1;omega
  exact iK (by
   rcases gr with⟨a1,a2,_⟩ | ⟨a1,a2,_⟩<;>rcases bl with⟨b1,b2⟩ | ⟨b1,b2⟩
   ·exact absurd a2 b2
   ·exact Or.inr ⟨a1,b1⟩
   ·exact Or.inl ⟨a1,b1⟩
   exact absurd a2 b2)
 grind
theorem Still.ends {nb:Nat→Nat→Prop}{inn out:Nat→Nat}{c d:Nat→Nat→Rat}{rise fall:Nat→Prop}{N g L:Nat}(h:Still nb inn out c d rise fall N g L):L<3^N:=
 BO h.ex h.Fq h.lt
structure V where
 m:Rat
 s:Rat
deriving DecidableEq
def V.add (a b:V):V:=⟨a.m+b.m,a.s+b.s⟩
def V.sub (a b:V):V:=⟨a.m-b.m,a.s-b.s⟩
def V.mul (q:Rat)(a:V):V:=⟨q*a.m,q*a.s⟩
def V.lt (a b:V):Prop:=a.m<b.m∨a.m=b.m∧a.s<b.s
def V.le (a b:V):Prop:=a.m<b.m∨a.m=b.m∧a.s≤b.s
instance (a b:V):Decidable (V.lt a b):=inferInstanceAs (Decidable (_∨_))
instance (a b:V):Decidable (V.le a b):=inferInstanceAs (Decidable (_∨_))
theorem V.not_lt {a b:V}:¬a.lt b↔b.le a:=by unfold V.lt V.le;grind
theorem V.not_le {a b:V}:¬a.le b↔b.lt a:=by unfold V.lt V.le;grind
theorem V.le_trans {a b c:V}(h:a.le b)(k:b.le c):a.le c:=by unfold V.le at*;grind
theorem V.lt_of_lt_of_le {a b c:V}(h:a.lt b)(k:b.le c):a.lt c:=by unfold V.lt V.le at*;grind
theorem V.lt_of_le_of_lt {a b c:V}(h:a.le b)(k:b.lt c):a.lt c:=by unfold V.lt V.le at*;grind
theorem V.lt_trans {a b c:V}(h:a.lt b)(k:b.lt c):a.lt c:=by unfold V.lt at*;grind
theorem V.le_of_lt {a b:V}(h:a.lt b):a.le b:=by unfold V.lt V.le at*;grind
theorem V.le_refl (a:V):a.le a:=by unfold V.le;grind
theorem V.le_antisymm {a b:V}(h:a.le b)(k:b.le a):a=b:=by
 cases a;cases b;unfold V.le at*;simp only[V.mk.injEq];simp only at*;grind
theorem V.lt_irrefl (a:V):¬a.lt a:=by unfold V.lt;grind
def V.neg (a:V):Prop:=a.m<0∨a.m=0∧a.s<0
def V.npos (a:V):Prop:=a.m<0∨a.m=0∧a.s≤0
theorem V.BU {a:V}(h:a.neg):a.npos:=by unfold V.neg at h;unfold V.npos;grind
theorem V.Ov {a b:V}(h:a.npos)(k:b.npos):(a.add b).npos:=by unfold V.npos V.add at*;simp only;grind
theorem V.neg_add {a b:V}(h:a.neg)(k:b.npos):(a.add b).neg:=by unfold V.neg V.npos V.add at*;simp only;grind
theorem V.Ox {a b:V}(h:a.npos)(k:b.neg):(a.add b).neg:=by unfold V.neg V.npos V.add at*;simp only;grind
theorem V.lt_iff {a b:V}:a.lt b↔(a.sub b).neg:=by unfold V.lt V.neg V.sub;simp only;grind
theorem V.le_iff {a b:V}:a.le b↔(a.sub b).npos:=by unfold V.le V.npos V.sub;simp only;grind
theorem V.mul_neg {q:Rat}{a:V}(hq:0<q)(h:a.neg):(V.mul q a).neg:=by
 unfold V.neg V.mul at*;simp only;rcases h with h | ⟨h1,h2⟩
 ·exact Or.inl (iK (Or.inr ⟨hq,h⟩))
 exact Or.inr ⟨by rw[h1];grind,iK (Or.inr ⟨hq,h2⟩)⟩
theorem V.mV {q:Rat}{a:V}(hq:0≤q)(h:a.npos):(V.mul q a).npos:=by
 by_cases e:q=0
 ·subst e;unfold V.npos V.mul;simp only;right;constructor<;>grind
 by_cases n:a.neg
 ·exact V.BU (V.mul_neg (by grind) n)
 unfold V.npos V.neg V.mul at*;simp only;have h1:a.m=0:=by grind
 have h2:a.s=0:=by grind
 rw[h1,h2];right;constructor<;>grind
theorem V.zx {q:Rat}{a b:V}(hq:q<0)(h:(b.sub a).neg):(V.mul q (a.sub b)).neg:=by have:=V.mul_neg (q:= -q) (by grind) h;unfold V.neg V.mul V.sub at*;simp only at*;grind
theorem V.kJ {q:Rat}{a b:V}(hq:q≤0)(h:(b.sub a).npos):(V.mul q (a.sub b)).npos:=by have:=V.mV (q:= -q) (by grind) h;unfold V.npos V.mul V.sub at*;simp only at*;grind
def vs (n:Nat)(a:Nat→Rat)(x:Nat→V):V:=⟨sm n fun j=>a j*(x j).m,sm n fun j=>a j*(x j).s⟩
theorem qC (n:Nat)(a:Nat→Rat)(x:Nat→V):vs (n+1) a x=(vs n a x).add (V.mul (a n) (x n)):=rfl
theorem Fv (n:Nat)(a:Nat→Rat)(x y:Nat→V):(vs n a x).sub (vs n a y)=vs n a fun j=>(x j).sub (y j):=by
 induction n with
 | zero=>simp only[vs,sm,V.sub];congr 1<;>grind
 | succ n ih=>
  rw[qC,qC,qC,←ih]
  unfold V.sub V.add V.mul;simp only;congr 1<;>grind
theorem qE (n:Nat)(q:Rat)(a:Nat→Rat)(x:Nat→V):V.mul q (vs n a x)=vs n (fun j=>q*a j) x:=by unfold V.mul vs;simp only[←rV];congr 1<;>exact dw fun j _=>by grind
theorem zy {n:Nat}{a:Nat→Rat}{x:Nat→V}(h:∀j,j<n→(V.mul (a j) (x j)).npos):(vs n a x).npos:=by
 induction n with
 | zero=>exact Or.inr ⟨rfl,Rat.le_refl⟩
 | succ n ih=>rw[qC];exact V.Ov (ih fun j hj=>h j (by omega)) (h n (by omega))
theorem YT {n r:Nat}{a:Nat→Rat}{x:Nat→V}(h:∀j,j<n→(V.mul (a j) (x j)).npos)(hr:r<n)(h2:(V.mul (a r) (x r)).neg):(vs n a x).neg:=by
 induction n with
 | zero=>omega
 | succ n ih=>
  rw[qC]
  by_cases e:r=n
  ·subst e;exact V.Ox (zy fun j hj=>h j (by omega)) h2
  ·exact V.neg_add (ih (fun j hj=>h j (by omega)) (by omega)) (h n (by omega))
def yu (low high:Nat→Option V)(j:Nat)(x:V):Prop:=(∀l,low j=some l→l.le x)∧∀h,high j=some h→x.le h
def rise (high:Nat→Option V)(j:Nat)(x:V):Prop:=∀h,high j=some h→x.lt h
def fall (low:Nat→Option V)(j:Nat)(x:V):Prop:=∀l,low j=some l→l.lt x
structure Oy (nb:Nat→Nat→Prop)(inn out:Nat→Nat)(a:Nat→Nat→Rat)(x:Nat→Nat→V)(up:Nat→Bool)(low high:Nat→Option V)(N L:Nat):Prop where
 ex:Ex nb inn out L
 lt:∀t,t<L→inn t<N∧out t<N
 aaB:∀t,t<L→∀j,a t j≠0→nb t j
 row:∀t u,t<L→u≤L→x u (out t)=vs N (a t) (x u)
 inb:∀t,t≤L→∀j,nb t j→yu low high j (x t j)
 keep:∀t,t<L→∀j,nb t j→j≠inn t→x (t+1) j=x t j
 Fz:∀t,t<L→if up t then ∃l,low (out t)=some l∧(x t (out t)).lt l∧x (t+1) (out t)=l else ∃h,high (out t)=some h∧h.lt (x t (out t))∧x (t+1) (out t)=h
 first:∀t,t<L→∀j,j<out t→¬nb t j→yu low high j (x t j)
 good:∀t,t<L→(0<(if up t then 1 else-1:Rat)*a t (inn t)∧rise high (inn t) (x t (inn t)))∨((if up t then 1 else-1:Rat)*a t (inn t)<0∧fall low (inn t) (x t (inn t)))
 least:∀t,t<L→∀j,j<inn t→nb t j→¬(0<(if up t then 1 else-1:Rat)*a t j∧rise high j (x t j))∧¬((if up t then 1 else-1:Rat)*a t j<0∧fall low j (x t j))
theorem vM {high:Nat→Option V}{j:Nat}{x:V}(h:¬rise high j x):∃u,high j=some u∧u.le x:=by unfold rise at h;simp only[Classical.not_forall]at h;obtain⟨u,hu,hl⟩:=h;exact⟨u,hu,V.not_lt.1 hl⟩
theorem vO {low:Nat→Option V}{j:Nat}{x:V}(h:¬fall low j x):∃u,low j=some u∧x.le u:=by unfold fall at h;simp only[Classical.not_forall]at h;obtain⟨u,hu,hl⟩:=h;exact⟨u,hu,V.not_lt.1 hl⟩
theorem Oy.Fq {nb:Nat→Nat→Prop}{inn out:Nat→Nat}{a:Nat→Nat→Rat}{x:Nat→Nat→V}{up:Nat→Bool}{low high:Nat→Option V}{N L:Nat}(h:Oy nb inn out a x up low high N L):zu inn out L:=by
 intro r t1 t2 hlt hL ho hi hb hq;have L1:t1<L:=by omega
 have same:∀j,nb (t1+1) j→(∀k,t1<k→k<t2→inn k≠j)→∀d,t1+1+d≤t2→nb (t1+1+d) j∧x (t1+1+d) j=x (t1+1) j:=by
  intro j hj hk d;induction d with
  | zero=>intro _;exact⟨hj,rfl⟩
  | succ d ih=>
   intro hd
   obtain⟨i1,i2⟩:=ih (by omega)
   have ne:=hk (t1+1+d) (by omega) (by omega)
   show nb (t1+1+d+1) j∧x (t1+1+d+1) j=x (t1+1) j
   refine⟨(h.ex.next (t1+1+d) (by omega) j).2 (Or.inl ⟨i1,fun e=>ne e.symm⟩),?_⟩
   rw[←i2]
   exact h.keep (t1+1+d) (by omega) j i1 fun e=>ne e.symm
 have nr:nb (t1+1) r:=(h.ex.next t1 L1 r).2 (Or.inr ho.symm);have xr:x t2 r=x (t1+1) r:=by have:=(same r nr (fun k a b=>(hq k a b).1) (t2-(t1+1)) (by omega)).2;rwa[show t1+1+(t2-(t1+1))=t2 from by omega]at this
 have gr:=h.good t2 hL;have ls:=h.least t2 hL;rw[hi]at gr ls;have ir:out t2<r:=by have:=(hb t2 (by omega) (Nat.le_refl _)).2;have:out t2≠r:=fun e=>h.ex.hout t2 hL (by rw[e,←hi];exact h.ex.hin t2 hL);omega
 have within:∀j,j<r→yu low high j (x t1 j):=fun j hj=>by
  by_cases e:nb t1 j
  ·exact h.inb t1 (by omega) j e
  exact h.first t1 L1 j (by omega) e
 have hneg:((vs N (fun j=>(if up t2 then 1 else-1:Rat)*a t2 j) (x t1)).sub (vs N (fun j=>(if up t2 then 1 else-1:Rat)*a t2 j) (x t2))).neg:=by
  rw[Fv];have vr:(V.mul ((if up t2 then 1 else-1:Rat)*a t2 r) ((x t1 r).sub (x t2 r))).neg:=by
   have v1:=h.Fz t1 L1;rw[ho]at v1;by_cases u1:up t1=true
   ·rw[if_pos u1]at v1;obtain⟨l,e1,e2,e3⟩:=v1;rw[e3]at xr;rcases gr with⟨g1,g2⟩ | ⟨g1,g2⟩
    ·exact V.mul_neg g1 (V.lt_iff.1 (by rw[xr];exact e2))
    have:=g2 l e1;rw[xr]at this;exact absurd this (V.lt_irrefl l)
   rw[if_neg u1]at v1;obtain⟨l,e1,e2,e3⟩:=v1;rw[e3]at xr;rcases gr with⟨g1,g2⟩ | ⟨g1,g2⟩
   ·have:=g2 l e1;rw[xr]at this;exact absurd this (V.lt_irrefl l)
   exact V.zx g1 (V.lt_iff.1 (by rw[xr];exact e2))
  refine YT (r:=r) (fun j hj=>?_) (by rw[←ho];exact(h.lt t1 L1).2) vr;by_cases ec:a t2 j=0
  ·rw[ec];unfold V.mul V.npos;simp only;right;constructor<;>grind
  have nj:=h.aaB t2 hL j ec;rcases Nat.lt_trichotomy j r with q | q | q
  ·have ls:=ls j q nj;have wi:=within j q;by_cases p:0<(if up t2 then 1 else-1:Rat)*a t2 j
   ·obtain⟨u,hu,hle⟩:=vM fun k=>ls.1 ⟨p,k⟩;exact V.mV (Rat.le_of_lt p) (V.le_iff.1 (V.le_trans (wi.2 u hu) hle))
   by_cases p2:(if up t2 then 1 else-1:Rat)*a t2 j<0
   ·obtain⟨u,hu,hle⟩:=vO fun k=>ls.2 ⟨p2,k⟩;exact V.kJ (Rat.le_of_lt p2) (V.le_iff.1 (V.le_trans hle (wi.1 u hu)))
   have:(if up t2 then 1 else-1:Rat)*a t2 j=0:=by grind
   rw[this];unfold V.mul V.npos;simp only;right;constructor<;>grind
  ·subst q;exact V.BU vr
  have nj1:nb (t1+1) j:=by refine(h.ex.stay (r:=j) (show t1+1≤t2 by omega) (by omega) fun k a b=>?_).1 nj;have:=hb k (by omega) (by omega);omega
  have nj0:nb t1 j:=by
   rcases(h.ex.next t1 L1 j).1 nj1 with e | e
   ·exact e.1
   omega
  have e1:=h.keep t1 L1 j nj0 (by have:=(hb t1 (Nat.le_refl _) (by omega)).1;omega);have e2:x t2 j=x (t1+1) j:=by have:=(same j nj1 (fun k a b=>by have:=(hb k (by omega) (by omega)).1;omega) (t2-(t1+1)) (by omega)).2;rwa[show t1+1+(t2-(t1+1))=t2 from by omega]at this
  rw[e2,e1];unfold V.mul V.sub V.npos;simp only;right;constructor<;>grind
 rw[←qE,←qE,←h.row t2 t1 hL (by omega),←h.row t2 t2 hL (by omega)]at hneg;have v2:=h.Fz t2 hL;by_cases u2:up t2=true
 ·rw[if_pos u2]at v2 hneg;obtain⟨l,e1,e2,e3⟩:=v2;have:=V.lt_of_lt_of_le e2 ((within (out t2) ir).1 l e1);rw[V.lt_iff]at this;unfold V.neg V.mul V.sub at*;simp only at*;grind
 rw[if_neg u2]at v2 hneg;obtain⟨l,e1,e2,e3⟩:=v2;have:=V.lt_of_le_of_lt ((within (out t2) ir).2 l e1) e2;rw[V.lt_iff]at this;unfold V.neg V.mul V.sub at*;simp only at*;grind
theorem Oy.ends {nb:Nat→Nat→Prop}{inn out:Nat→Nat}{a:Nat→Nat→Rat}{x:Nat→Nat→V}{up:Nat→Bool}{low high:Nat→Option V}{N L:Nat}(h:Oy nb inn out a x up low high N L):L<3^N:=
 BO h.ex h.Fq h.lt
end Go.Proofs.YtijdglogadnbcaaGreat.Bl
