/- Sums of coefficients, by unknown. No program. -/
import Derived.Test.YtijdglogadnbcaaGreatY46
set_option linter.unusedVariables false
set_option linter.unusedSimpArgs false
set_option maxRecDepth 100000
set_option maxHeartbeats 40000000
namespace Go.Proofs.YtijdglogadnbcaaGreat
open Go.Proofs.Tryz
open Go.RowKit Nt Bl
def Once (l:List (Nat×Rat)):Prop:=∀i j,i<l.length→j<l.length→(cq l i).1=(cq l j).1→i=j
theorem yQ {l:List (Nat×Rat)}(h:(l.map (·.1)).Nodup):Once l:=fun i j hi hj e=>by
 have hi':i<(l.map (·.1)).length:=by simpa using hi
 have hj':j<(l.map (·.1)).length:=by simpa using hj
 refine(List.getElem_inj (h₀:=hi') (h₁:=hj') h).1 ?_;simp only[List.getElem_map];unfold cq at e;rw[List.getD_eq_getElem?_getD,List.getD_eq_getElem?_getD,List.getElem?_eq_getElem hi,List.getElem?_eq_getElem hj]at e;exact e
theorem pX {l:List (Nat×Rat)}{k:Nat}:∀{j:Nat},(∀i,i<j→(cq l i).1≠k)→qW l k j=0
 | 0,_=>rfl
 | j+1,h=>by unfold qW;rw[pX fun i hi=>h i (by omega),if_neg (h j (by omega))];grind
theorem pY {l:List (Nat×Rat)}(ho:Once l){i:Nat}(hi:i<l.length):∀{j:Nat},i<j→j≤l.length→qW l (cq l i).1 j=(cq l i).2
 | 0,h,_=>absurd h (Nat.not_lt_zero _)
 | j+1,h,hj=>by
  unfold qW;by_cases e:i=j
  ·subst e;rw[pX fun a ha q=>by have:=ho a i (by omega) hi q;omega,if_pos rfl];grind
  rw[pY ho hi (by omega) (by omega),if_neg fun q=>e (ho i j hi (by omega) q.symm)];grind
theorem xM {l:List (Nat×Rat)}(ho:Once l)(k:Nat){j:Nat}(hj:j≤l.length):qW l k j=0∨∃i,i<j∧(cq l i).1=k∧qW l k j=(cq l i).2:=by
 by_cases h:∃i,i<j∧(cq l i).1=k
 ·obtain⟨i,hi,rfl⟩:=h;exact Or.inr ⟨i,hi,rfl,pY ho (by omega) hi hj⟩
 exact Or.inl (pX fun i hi e=>h ⟨i,hi,e⟩)
theorem Eu {l:List (Nat×Rat)}(ho:Once l){K:Nat}(hK:1≤K)(hs:∀i,i<l.length→Sz (cq l i).2 K)(k:Nat){j:Nat}(hj:j≤l.length):Sz (qW l k j) K:=by
 rcases xM ho k hj with e | ⟨i,hi,_,e⟩
 ·rw[e];exact Sz.mono Sz.zero hK
 rw[e];exact hs i (by omega)
theorem GU {l:List (Nat×Rat)}(ho:Once l)(k:Nat):∀j,j≤l.length→jq l j k=qW l k j
 | 0,_=>rfl
 | j+1,hj=>by
  unfold jq qW;by_cases e:k=(cq l j).1
  ·subst e;rw[if_pos rfl,if_pos rfl,pX fun a ha q=>by have:=ho a j (by omega) (by omega) q;omega];grind
  rw[if_neg e,if_neg fun q=>e q.symm,GU ho k j (by omega)];grind
theorem oM {l:List (Nat×Rat)}{i:Nat}(h:i<l.length):cq l i∈l:=by unfold cq;rw[List.getD_eq_getElem?_getD,List.getElem?_eq_getElem h];exact List.getElem_mem h
theorem Yo {l:List (Nat×Rat)}{p:Nat×Rat}(h:p∈l):∃i,i<l.length∧cq l i=p:=by obtain⟨i,hi,e⟩:=List.getElem_of_mem h;exact⟨i,hi,by unfold cq;rw[List.getD_eq_getElem?_getD,List.getElem?_eq_getElem hi];exact e⟩
theorem mD (s:St)(l:List (Nat×Rat))(m:Rat)(k:Nat):∀j,k∈(qV s l m j).v→k∈s.v∨∃i,i<j∧(cq l i).1=k
 | 0,h=>Or.inl h
 | j+1,h=>by
  have h:k∈(AO (qV s l m j) (cq l j) m).v:=h;unfold AO at h;simp only at h;have ih:=mD s l m k j;split at h
  ·rw[List.mem_append,List.mem_singleton]at h;rcases h with h | h
   ·rcases ih h with a | ⟨i,a,b⟩
    ·exact Or.inl a
    exact Or.inr ⟨i,by omega,b⟩
   exact Or.inr ⟨j,by omega,h.symm⟩
  rcases ih h with a | ⟨i,a,b⟩
  ·exact Or.inl a
  exact Or.inr ⟨i,by omega,b⟩
theorem AX:∀{n:Nat} {l:List Nat},l.Nodup→(∀k,k∈l→k<n)→l.length≤n
 | 0,l,_,h=>by
  cases l with
  | nil=>exact Nat.le_refl _
  | cons a l=>exact absurd (h a List.mem_cons_self) (Nat.not_lt_zero _)
 | n+1,l,nd,h=>by
  have ih:=AX (n:=n) (nd.erase n) fun k hk=>by obtain⟨a,b⟩:=nd.mem_erase_iff.1 hk;have:=h k b;omega
  rw[List.length_erase]at ih;split at ih<;>omega
structure qg (n:Nat)(f:Nat→Rat)(co:List (Nat×Rat)):Prop where
 once:(co.map (·.1)).Nodup
 lt:∀p,p∈co→p.1<n
 nz:∀p,p∈co→p.2≠0
 val:∀k,k<n→qW co k co.length=f k
theorem qg.nil (n:Nat):qg n (fun _=>0) []:=⟨List.nodup_nil,fun p h=>by simp at h,fun p h=>by simp at h,fun _ _=>rfl⟩
theorem qg.at_ {n:Nat}{f:Nat→Rat}{co:List (Nat×Rat)}(h:qg n f co){i:Nat}(hi:i<co.length):(cq co i).2=f (cq co i).1:=by rw[←h.val _ (h.lt _ (oM hi))];exact(pY (yQ h.once) hi hi (Nat.le_refl _)).symm
theorem qg.empty {n:Nat}{f:Nat→Rat}{co:List (Nat×Rat)}(h:qg n f co):co.length=0↔∀k,k<n→f k=0:=by
 constructor
 ·intro e k hk;rw[←h.val k hk,e];rfl
 intro q;refine Classical.byContradiction fun c=>?_;have hi:0<co.length:=by omega
 have:=h.at_ hi;rw[q _ (h.lt _ (oM hi))]at this;exact h.nz _ (oM hi) this
theorem qg.next {n:Nat}{f g:Nat→Rat}{co row new:List (Nat×Rat)}{q:Rat}{C:Nat→Cl}{m:Nat→Rat}(h:qg n f co)(hr:Once row)(hrl:∀i,i<row.length→(cq row i).1<n)(hg:∀k,k<n→g k=qW row k row.length)
  (h0:(C 0).l=co)(h1:(C 1).l=row)(m0:m 0=1)(m1:m 1=q)(n1:∀p,p∈new→p.2≠0∧(stk C m 2).s p.1=some p.2)(n2:∀k x,(stk C m 2).s k=some x→x≠0→(k,x)∈new)(n3:(new.map (·.1)).Nodup):qg n (fun k=>f k+q*g k) new:=by
 have sv:∀k,((stk C m 2).s k).getD 0=qW co k co.length+qW row k row.length*q:=fun k=>by
  have a:=pR (stk C m 1) (C 1).l (m 1) k (C 1).l.length;have b:=pR (stk C m 0) (C 0).l (m 0) k (C 0).l.length;rw[h1,m1]at a;rw[h0,m0]at b;have b:((stk C m 1).s k).getD 0=((stk C m 0).s k).getD 0+qW co k co.length*1:=by show((qV (stk C m 0) (C 0).l (m 0) (C 0).l.length).s k).getD 0=_;rw[h0,m0];exact b
  have a:((stk C m 2).s k).getD 0=((stk C m 1).s k).getD 0+qW row k row.length*q:=by show((qV (stk C m 1) (C 1).l (m 1) (C 1).l.length).s k).getD 0=_;rw[h1,m1];exact a
  rw[a,b];show(Option.getD (none:Option Rat) 0+_*1)+_=_;simp only[Option.getD_none];grind
 have keys:∀k,(stk C m 2).s k≠none→k<n:=fun k hk=>by
  have:=((uT C m 2).mem k).2 hk;rcases mD (stk C m 1) (C 1).l (m 1) k _ this with a | ⟨i,a,b⟩
  ·rcases mD (stk C m 0) (C 0).l (m 0) k _ a with a | ⟨i,a,b⟩
   ·simp[stk]at a
   rw[h0]at a b;rw[←b];exact h.lt _ (oM a)
  rw[h1]at a b;rw[←b];exact hrl i a
 refine⟨n3,fun p hp=>keys _ (by rw[(n1 p hp).2];simp),fun p hp=>(n1 p hp).1,fun k hk=>?_⟩;have e:qW new k new.length=((stk C m 2).s k).getD 0:=by
  have on:=yQ n3;rcases xM on k (Nat.le_refl new.length)with e | ⟨i,hi,e1,e2⟩
  ·rw[e]
   cases c:(stk C m 2).s k with
   | none=>rfl
   | some x=>
    by_cases x0:x=0
    ·rw[x0];rfl
    ·obtain⟨i,hi,ei⟩:=Yo (n2 k x c x0)
     have:=pY on hi hi (Nat.le_refl _)
     rw[ei]at this
     simp only at this
     rw[e]at this
     exact absurd this.symm x0
  rw[e2];have:=(n1 _ (oM hi)).2;rw[e1]at this;rw[this];rfl
 rw[e,sv,h.val k hk,hg k hk];grind
theorem Yp {C:Nat→Cl}{m:Nat→Rat}{K L R:Nat}(h0:Once (C 0).l)(h1:Once (C 1).l)(s0:∀i,i<(C 0).l.length→Sz (cq (C 0).l i).2 K)(s1:∀i,i<(C 1).l.length→Sz (cq (C 1).l i).2 L)(hK:1≤K)(hL:1≤L)(m0:m 0=1)(m1:Sz (m 1) R):
  ∀k j v q,k<2→j≤(C k).l.length→(qV (stk C m k) (C k).l (m k) j).s v=some q→Sz q (K+L+R+5):=by
 intro k j v q hk hj e;have E:((qV (stk C m k) (C k).l (m k) j).s v).getD 0=q:=by rw[e];rfl
 rw[pR]at E;rw[←E];have z1:∀j,j≤(C 0).l.length→Sz (qW (C 0).l v j*1) (K+1):=fun j hj=>Sz.mul (Eu h0 hK s0 v hj) Sz.one;rcases k with _ | _ | k
 ·have:Sz ((Option.getD (none:Option Rat) 0)+qW (C 0).l v j*1) (1+(K+1)+1):=Sz.add2 Sz.zero (z1 j hj);show Sz ((Option.getD (none:Option Rat) 0)+qW (C 0).l v j*m 0) _;rw[m0];exact Sz.mono this (by omega)
 ·have a:Sz (((stk C m 1).s v).getD 0) (1+(K+1)+1):=by show Sz (((qV (stk C m 0) (C 0).l (m 0) (C 0).l.length).s v).getD 0) _;rw[pR,m0];exact Sz.add2 Sz.zero (z1 _ (Nat.le_refl _))
  have b:Sz (qW (C 1).l v j*m 1) (L+R):=Sz.mul (Eu h1 hL s1 v hj) m1;exact Sz.mono (Sz.add2 a b) (by omega)
 omega
theorem yR {u:Int}{l:List Cf}(h:bK u l l.length=0):∀{j i:Nat},i<j→j<l.length→(cf l i).var<(cf l j).var
 | 0,_,h1,_=>absurd h1 (Nat.not_lt_zero _)
 | j+1,i,h1,h2=>by
  obtain⟨_,_,z,_⟩:=gJ (gK h (j+1) h2);have z:=z (by omega);rw[Nat.add_sub_cancel]at z;by_cases e:i=j
  ·subst e;exact z
  have:=yR h (show i<j by omega) (by omega);omega
theorem Ju {u rel:Int}{l:List Cf}{B:Raw}(h:bV u rel l B=0):Once (jO l):=by
 obtain⟨_,_,h0,_⟩:=kS h;intro i j hi hj e;rw[eU]at hi hj;rw[qh hi,qh hj]at e;obtain⟨a,_⟩:=gJ (gK h0 i hi);obtain⟨b,_⟩:=gJ (gK h0 j hj);have e:(cf l i).var.toNat=(cf l j).var.toNat:=e;rcases Nat.lt_trichotomy i j with c | c | c
 ·have:=yR h0 c hj;omega
 ·exact c
 have:=yR h0 c hi;omega
theorem Yr {l:List Cf}{n k:Nat}(ho:Once (jO l))(hk:k<n):(FT l n).getD k 0=qW (jO l) k (jO l).length:=by rw[←GU ho k _ (Nat.le_refl _)];unfold FT;rw[List.getD_eq_getElem?_getD,List.getElem?_map,List.getElem?_range hk];rfl
def two {α:Type}(a b:α):Nat→α
 | 0=>a
 | _+1=>b
def aan (w:World)(n:Nat)(f:Nat→Rat)(b:Rat)(rel:Int)(e:Ending)(w':World):Prop:=
 ∃(C:Cl) (N:Nw),e= .returned (.agg #[.slice C.a C.l.length C.c,.int .i64 rel,.bool N.s,.slice N.a N.n N.c,.slice N.b N.m N.d])∧C.at_ w'∧qg n f C.l∧RA w' b N∧Below w.heap.size w w'∧∀ad,C.a=some ad→w.heap.size≤ad.block
theorem Ub {w:World}{C0 C1:Cl}{B0 B1 M0 M1:Nw}{r0 r1 rel:Int}{n:Nat}{f g:Nat→Rat}{q b0 b1:Rat}(h0:C0.at_ w)(h1:C1.at_ w)(hm0:RA w 1 M0)(hm1:RA w q M1)(hb0:RA w b0 B0)(hb1:RA w b1 B1)(S:qg n f C0.l)(on:Once C1.l)
  (lt:∀i,i<C1.l.length→(cq C1.l i).1<n)(hg:∀k,k<n→g k=qW C1.l k C1.l.length)(hn:n≤24)(sf:∀k,k<n→Sz (f k) 3881)(sg:∀i,i<C1.l.length→Sz (cq C1.l i).2 1)(sq:Sz q 95)(sb0:Sz b0 3881)(sb1:Sz b1 1):
  Calls prog 93 #[.agg #[.slice C0.a C0.l.length C0.c,.int .i64 r0,.bool B0.s,.slice B0.a B0.n B0.c,.slice B0.b B0.m B0.d],nv M0,.agg #[.slice C1.a C1.l.length C1.c,.int .i64 r1,.bool B1.s,.slice B1.a B1.n B1.c,.slice B1.b B1.m B1.d],nv M1,.int .i64 rel] w
   (aan w n (fun k=>f k+q*g k) (b0+q*b1) rel):=by
 have s0:∀i,i<C0.l.length→Sz (cq C0.l i).2 3881:=fun i hi=>by rw[S.at_ hi];exact sf _ (S.lt _ (oM hi))
 have l0:∀i,i<C0.l.length→(cq C0.l i).1<n:=fun i hi=>S.lt _ (oM hi);have keys:∀k j x,k<2→j≤(two C0 C1 k).l.length→x∈(qV (stk (two C0 C1) (two 1 q) k) (two C0 C1 k).l (two 1 q k) j).v→x<n:=fun k j x hk hj hx=>by
  have k0:∀j,j≤C0.l.length→x∈(qV ⟨fun _=>none,[]⟩ C0.l 1 j).v→x<n:=fun j hj hx=>by
   rcases mD ⟨fun _=>none,[]⟩ C0.l 1 x j hx with a | ⟨i,a,b⟩
   ·simp at a
   rw[←b];exact l0 i (by omega)
  rcases k with _ | _ | k
  ·exact k0 j hj hx
  ·rcases mD (stk (two C0 C1) (two 1 q) 1) C1.l q x j hx with a | ⟨i,a,b⟩
   ·exact k0 _ (Nat.le_refl _) a
   have hj:j≤C1.l.length:=hj;rw[←b];exact lt i (by omega)
  omega
 refine(TR (C:=two C0 C1) (m:=two 1 q) (b:=two b0 b1) (M:=two M0 M1) (B:=two B0 B1) (r:=two r0 r1) (rel:=rel) ?_ ?_ ?_ ?_ ?_ ?_ ?_ ?_ ?_).mono ?_
 ·intro k hk;rcases k with _ | _ | k
  ·exact h0
  ·exact h1
  omega
 ·intro k hk;rcases k with _ | _ | k
  ·exact hm0
  ·exact hm1
  omega
 ·intro k hk;rcases k with _ | _ | k
  ·exact hb0
  ·exact hb1
  omega
 ·intro k j v x hk hj e;refine Sz.mono (Yp (C:=two C0 C1) (m:=two 1 q) (K:=3881) (L:=1) (R:=95) (yQ S.once) on s0 sg (by omega) (by omega) rfl sq k j v x hk hj e) (by omega)
 ·intro k j hk hj;rcases k with _ | _ | k
  ·exact Sz.mono (s0 j hj) (by omega)
  ·exact Sz.mono (sg j hj) (by omega)
  omega
 ·intro k hk;rcases k with _ | _ | k
  ·exact Sz.mono Sz.one (by omega)
  ·exact Sz.mono sq (by omega)
  omega
 ·intro k hk;rcases k with _ | _ | k
  ·exact Sz.mono sb0 (by omega)
  ·exact Sz.mono sb1 (by omega)
  omega
 ·intro k j hk hj;have ok:(qV (stk (two C0 C1) (two 1 q) k) (two C0 C1 k).l (two 1 q k) j).ok:=(uT _ _ k).qV _ _ _;have:=AX ok.nd fun x hx=>keys k j x hk hj hx;omega
 ·intro k j hk hj;rcases k with _ | _ | k
  ·have:=l0 j hj;show(cq C0.l j).1<_;omega
  ·have:=lt j hj;show(cq C1.l j).1<_;omega
  omega
 rintro e w' ⟨a,c,co,N,rfl,hC,hR,hB,n1,n2,n3,n4⟩;refine⟨⟨co,a,c⟩,N,rfl,hC,?_,?_,hB,n4⟩
 ·exact S.next (C:=two C0 C1) (m:=two 1 q) (row:=C1.l) on lt hg rfl rfl rfl rfl n1 n2 n3
 have e:two b0 b1 0*two 1 q 0+two b0 b1 1*two 1 q 1=b0+q*b1:=by show b0*1+b1*q=_;grind
 rw[e]at hR;exact hR
structure MQ (w:World)(n:Nat)(R:Rw)(ca:Option Addr)(cc:Nat)(N:Nw):Prop where
 cl:(⟨jO R.l,ca,cc⟩:Cl).at_ w
 bd:RA w (Gx n R).bd ⟨R.B.neg,N.a,N.n,N.c,N.b,N.m,N.d⟩
 on:Once (jO R.l)
 lt:∀i,i<(jO R.l).length→(cq (jO R.l) i).1<n
 co:∀k,k<n→(Gx n R).co k=qW (jO R.l) k (jO R.l).length
 s1:∀i,i<(jO R.l).length→Sz (cq (jO R.l) i).2 1
 s2:Sz (Gx n R).bd 1
 s3:∀k,k<n→Sz ((Gx n R).co k) 1
theorem MQ.below {w w':World}{n:Nat}{R:Rw}{ca:Option Addr}{cc:Nat}{N:Nw}(h:MQ w n R ca cc N)(hb:Below w.heap.size w w'):MQ w' n R ca cc N:=
 ⟨⟨h.cl.q.below hb,h.cl.le,h.cl.cap⟩,aO.below h.bd hb,h.on,h.lt,h.co,h.s1,h.s2,h.s3⟩
theorem Cl.at_.below {C:Cl}{w w':World}(h:C.at_ w)(hb:Below w.heap.size w w'):C.at_ w':=⟨h.q.below hb,h.le,h.cap⟩
theorem MR {q:Rat}(h:Ag q):Sz q 1:=Sz.small h.1 (by have:=h.2;omega)
theorem Ey {w:World}{n:Nat}{R:Rw}{ca:Option Addr}{cc:Nat}{N:Nw}(q:Q5 w R ca cc N)(h:bV (n:Int) R.rel R.l R.B=0):MQ w n R ca cc N:=by obtain⟨a,g,b⟩:=xQ q.co q.bd h;have on:=Ju h;have co:∀k,k<n→(Gx n R).co k=qW (jO R.l) k (jO R.l).length:=fun k hk=>Yr on hk;have s1:∀i,i<(jO R.l).length→Sz (cq (jO R.l) i).2 1:=fun i hi=>MR (g.cs.at_ i hi).2;exact⟨⟨a,by rw[eU];exact q.le,q.cap⟩,b,on,fun i hi=>(g.cs.at_ i hi).1,co,s1,MR g.bd,fun k hk=>by rw[co k hk];exact Eu on (Nat.le_refl _) s1 k (Nat.le_refl _)⟩
theorem Ua {w:World}{C0:Cl}{B0 M0 M1:Nw}{r0:Int}{n i:Nat}{L:Nat→Ln}{q:Nat→Rat}{R:Rw}{ca:Option Addr}{cc:Nat}{N:Nw}(h0:C0.at_ w)(hm0:RA w 1 M0)(hm1:RA w (q i) M1)(hb0:RA w (Sb L q i) B0)(S:qg n (Sv L q i) C0.l)(g:MQ w n R ca cc N)(hL:L i=Gx n R)(hn:n≤24)
  (sv:∀k,k<n→Sz (Sv L q i k) 3881)(sb:Sz (Sb L q i) 3881)(sq:Sz (q i) 95):
  Calls prog 93 #[.agg #[.slice C0.a C0.l.length C0.c,.int .i64 r0,.bool B0.s,.slice B0.a B0.n B0.c,.slice B0.b B0.m B0.d],nv M0,.agg #[.slice ca R.l.length cc,.int .i64 R.rel,.bool R.B.neg,.slice N.a N.n N.c,.slice N.b N.m N.d],nv M1,.int .i64 1] w
   (aan w n (Sv L q (i+1)) (Sb L q (i+1)) 1):=by
 have h:=Ub (B0:=B0) (r0:=r0) (r1:=R.rel) (rel:=1) h0 g.cl hm0 hm1 hb0 g.bd S g.on g.lt g.co hn sv g.s1 sq sb g.s2;have e1:(fun k=>Sv L q i k+q i*(Gx n R).co k)=Sv L q (i+1):=by funext k;rw[←hL];rfl
 have e2:Sb L q i+q i*(Gx n R).bd=Sb L q (i+1):=by rw[←hL];rfl
 rw[e1,e2]at h;simp only[eU]at h;exact h
end Go.Proofs.YtijdglogadnbcaaGreat
namespace Go.Proofs.YtijdglogadnbcaaGreat
open Go.Proofs.Tryz
open Go.RowKit Nt
end Go.Proofs.YtijdglogadnbcaaGreat
namespace Go.Proofs.YtijdglogadnbcaaGreat
open Go.Proofs.Tryz
open Go.RowKit Nt Bl
def raw (l:List Raw)(i:Nat):Raw:=l.getD i default
def Ew (w:World)(l:List Raw)(ca:Option Addr):Prop:=
 l≠[]→∃g o,ca=some ⟨g,o,none⟩∧∀i,i<l.length→∃a n c b m d,
  w.cell? ⟨g,o+i*3,none⟩=some (.bool (raw l i).neg)∧w.cell? ⟨g,o+i*3+1,none⟩=some (.slice a n c)∧w.cell? ⟨g,o+i*3+2,none⟩=some (.slice b m d)∧dG w (raw l i) a n c b m d
theorem Ew.below {w w':World}{l:List Raw}{ca:Option Addr}(h:Ew w l ca)(hb:Below w.heap.size w w'):Ew w' l ca:=by intro hne;obtain⟨g,o,e,k⟩:=h hne;refine⟨g,o,e,fun i hi=>?_⟩;obtain⟨a,n,c,b,m,d,p0,p1,p2,r⟩:=k i hi;exact⟨a,n,c,b,m,d,aj hb p0,aj hb p1,aj hb p2,r.below hb⟩
theorem uX {w:World}{b o:Nat}{sp:Option Nat}{i:Nat}{x y z:Value}(h:w.cells? 0 ((⟨b,o,sp⟩:Addr).add (i*3)) 3=some [x,y,z]):(i=0→sp=none)∧w.cell? ⟨b,o+i*3,none⟩=some x∧w.cell? ⟨b,o+i*3+1,none⟩=some y∧w.cell? ⟨b,o+i*3+2,none⟩=some z:=by
 obtain⟨_,_,hc⟩:=World.cells?_some h;have h0:=hc 0 (by omega);have h1:=hc 1 (by omega);have h2:=hc 2 (by omega);rw[Deep.add_add]at h0 h1 h2;obtain⟨s,h0⟩:=dN h0;refine⟨fun e=>s (by omega),by simpa using h0,?_,?_⟩
 ·simpa[Nat.add_assoc]using(dN h1).2
 simpa[Nat.add_assoc]using(dN h2).2
theorem He {w:World}{b o:Nat}{sp:Option Nat}{i:Nat}{x y z u v:Value}(h:w.cells? 0 ((⟨b,o,sp⟩:Addr).add (i*5)) 5=some [x,y,z,u,v]):(i=0→sp=none)∧∀r t,[x,y,z,u,v][r]? =some t→w.cell? ⟨b,o+(i*5+r),none⟩=some t:=by
 obtain⟨_,_,hc⟩:=World.cells?_some h;have h0:=hc 0 (by omega);have h1:=hc 1 (by omega);have h2:=hc 2 (by omega);have h3:=hc 3 (by omega);have h4:=hc 4 (by omega);rw[Deep.add_add]at h0 h1 h2 h3 h4;obtain⟨s,h0⟩:=dN h0;refine⟨fun e=>s (by omega),fun r t ht=>?_⟩;match r,ht with
 | 0,ht=>simp at ht;subst ht;simpa using h0
 | 1,ht=>simp at ht;subst ht;simpa[Nat.add_assoc]using(dN h1).2
 | 2,ht=>simp at ht;subst ht;simpa[Nat.add_assoc]using(dN h2).2
 | 3,ht=>simp at ht;subst ht;simpa[Nat.add_assoc]using(dN h3).2
 | 4,ht=>simp at ht;subst ht;simpa[Nat.add_assoc]using(dN h4).2
 | r+5,ht=>simp at ht
theorem Nz {H:Type}(d:DataW H):1≤Rows.uptoBulk d:=by
 cases d with
 | lit l=>cases l<;>simp[Rows.uptoBulk]
 | nil=>simp[Rows.uptoBulk]
 | ptr d=>simp[Rows.uptoBulk]
 | slice elems spare=>simp[Rows.uptoBulk]
 | agg parts=>simp[Rows.uptoBulk]
 | iface t d=>simp[Rows.uptoBulk]
 | map entries=>simp[Rows.uptoBulk]
 | held h=>simp[Rows.uptoBulk]
theorem ND {H:Type}(l:List (DataW H)):l.length≤Rows.uptoBulkAll l:=by
 induction l with
 | nil=>simp[Rows.uptoBulkAll]
 | cons x r ih=>have:=Nz x;simp only[Rows.uptoBulkAll,List.length_cons];omega
variable {H:Type} {enc:TypeId×Value→H} {W:World} {sp:Nat→Bool} {hd:Bool}
theorem Jy {fuel:Nat}{v:Value}{x:DataW H×List MemPlace}(h:DataW.trod enc prog W 0 sp hd fuel 34 [v]=some x):∃l ra k cc,v= .slice ra k cc∧lT W l ra∧l.length=k∧k≤cc∧cc≤9223372036854775807∧k≤Rows.uptoBulk x.1:=by
 rcases Deep.open_slice underlying34 h with⟨e2,_⟩ | ⟨a,len,cap,m,n',D,Pl,e2,_,hlc,hcm,hm,rfl,hD⟩
 ·simp at e2;exact⟨[],none,0,0,e2,⟨[],KX.nil W,fun q=>absurd rfl q⟩,rfl,Nat.le_refl _,by omega,Nat.zero_le _⟩
 simp at e2;have hml:len≤m:=by rw[hm];split<;>omega
 rw[cells27]at hD;have each:∀i,i<len→∃(q:Rw) (ca:Option Addr) (cc:Nat) (N:Nw),W.cells? 0 (a.add (i*5)) 5=some (rw5 q ca cc N)∧Q5 W q ca cc N:=by intro i hi;obtain⟨cs',hc,ht⟩:=hD i (by omega);obtain⟨rel,l,B,ca,nc,cc,a1,n1,c1,b1,m1,d1,rfl,k1,k2,k3,k4,k5⟩:=NH ht;subst k2;exact⟨⟨rel,l,B⟩,ca,cc,⟨B.neg,a1,n1,c1,b1,m1,d1⟩,hc,⟨k1,k3,k4,k5⟩⟩
 unfold maxLen at hcm;obtain⟨b,o,spot⟩:=a;have all:∀k,k≤len→∃(l:List Rw) (vs:List Value),l.length=k∧KX W l vs∧∀j u,vs[j]? =some u→W.cell? ⟨b,o+j,none⟩=some u:=by
  intro k;induction k with
  | zero=>intro _;exact⟨[],[],rfl,KX.nil W,fun j u hu=>by simp at hu⟩
  | succ k ih=>
   intro hk
   obtain⟨l,vs,e,V,C⟩:=ih (by omega)
   obtain⟨q,ca,cc,N,c5,q5⟩:=each k (by omega)
   refine⟨l++[q],vs++rw5 q ca cc N,by simp[e],V.push q5,fun j u hu=>?_⟩
   by_cases hj:j<vs.length
   ·rw[List.getElem?_append_left hj]at hu;exact C j u hu
   ·rw[List.getElem?_append_right (by omega)]at hu
    have:=(He c5).2 _ u hu
    rwa[show k*5+(j-vs.length)=j from by rw[←e,←V.1];omega]at this
 obtain⟨l,vs,e,V,C⟩:=all len (Nat.le_refl _);refine⟨l,some ⟨b,o,spot⟩,len,cap,e2,⟨vs,V,fun hne=>?_⟩,e,hlc,by omega,by simp only[Rows.uptoBulk];have:=ND ((List.range len).map D);simp at this;omega⟩;have hpos:0<len:=by rw[←e];exact List.length_pos_iff.2 hne
 obtain⟨_,_,_,_,h0,_⟩:=each 0 hpos;have hs:=(He h0).1 rfl;subst hs;exact⟨b,o,rfl,C⟩
theorem Jz {fuel:Nat}{v:Value}{x:DataW H×List MemPlace}(h:DataW.trod enc prog W 0 sp hd fuel 83 [v]=some x):∃l ca nc cc,v= .slice ca nc cc∧Ew W l ca∧l.length=nc∧nc≤cc∧cc≤9223372036854775807:=by
 rcases Deep.open_slice underlying83 h with⟨e2,_⟩ | ⟨a,len,cap,m,n',D,Pl,e2,_,hlc,hcm,hm,_,hD⟩
 ·simp at e2;exact⟨[],none,0,0,e2,fun q=>absurd rfl q,rfl,Nat.le_refl _,by omega⟩
 simp at e2;have hml:len≤m:=by rw[hm];split<;>omega
 rw[cells25]at hD;have each:∀i,i<len→∃q:Raw,∃a1 n1 c1 b1 m1 d1,W.cells? 0 (a.add (i*3)) 3=some [.bool q.neg,.slice a1 n1 c1,.slice b1 m1 d1]∧dG W q a1 n1 c1 b1 m1 d1:=by intro i hi;obtain⟨cs',hc,ht⟩:=hD i (by omega);obtain⟨R,a1,n1,c1,b1,m1,d1,rfl,r⟩:=uY ht;exact⟨R,a1,n1,c1,b1,m1,d1,hc,r⟩
 obtain⟨q,hq⟩:=Deep.choose_lt each;unfold maxLen at hcm;refine⟨(List.range len).map q,some a,len,cap,e2,?_,by simp,hlc,by omega⟩;intro hne;have hpos:0<len:=by have:=List.length_pos_iff.2 hne;simpa using this
 obtain⟨b,o,spot⟩:=a;obtain⟨_,_,_,_,_,_,h0,_⟩:=hq 0 hpos;have hs:=(uX h0).1 rfl;subst hs;refine⟨b,o,rfl,fun i hi=>?_⟩;have hi':i<len:=by simpa using hi
 obtain⟨a1,n1,c1,b1,m1,d1,hh,r⟩:=hq i hi';obtain⟨_,k0,k1,k2⟩:=uX hh;have e:raw ((List.range len).map q) i=q i:=by unfold raw;rw[List.getD_eq_getElem?_getD];simp[hi']
 rw[e];exact⟨a1,n1,c1,b1,m1,d1,k0,k1,k2,r⟩
end Go.Proofs.YtijdglogadnbcaaGreat
namespace Go.Proofs.YtijdglogadnbcaaGreat
open Go.Proofs.Tryz
open Go.RowKit Nt Bl
def wR (R:Raw):Int:=if aP R≠0 then aP R else if(bF R).den≠1 then 7 else if 3000<Nh.aU (bF R).num.natAbs then 3 else 0
def kD (l:List Raw):Nat→Int
 | 0=>0
 | k+1=>if kD l k≠0 then kD l k else wR (raw l k)
theorem xO {l:List Raw}{k n:Nat}(h0:kD l k=0)(h:wR (raw l k)≠0)(hn:k<n):kD l n=wR (raw l k):=by
 obtain⟨d,rfl⟩:∃d,n=k+1+d:=⟨n-k-1,by omega⟩;clear hn;induction d with
 | zero=>show(if kD l k≠0 then _ else _)=_;rw[if_neg (by rw[h0];simp)]
 | succ d ih=>
  show(if kD l (k+1+d)≠0 then kD l (k+1+d)else _)=_
  rw[if_pos (by rw[ih];exact h),ih]
theorem xP {l:List Raw}{k:Nat}(h0:kD l k=0)(h:wR (raw l k)=0):kD l (k+1)=0:=by show(if kD l k≠0 then _ else _)=_;rw[if_neg (by rw[h0];simp)];exact h
def jP (u:Int)(rows:List Rw)(l:List Raw):Int:=if eP u rows≠0 then eP u rows else if l.length≠rows.length then 2 else kD l l.length
theorem AY {R:Raw}(h:wR R=0):aP R=0∧(bF R).den=1∧Nh.aU (bF R).num.natAbs≤3000:=by
 unfold wR at h;by_cases h1:aP R=0
 ·rw[if_neg (by rw[h1];simp)]at h;by_cases h2:(bF R).den=1
  ·rw[if_neg (by rw[h2];simp)]at h;by_cases h3:3000<Nh.aU (bF R).num.natAbs
   ·rw[if_pos h3]at h;omega
   exact⟨h1,h2,by omega⟩
  rw[if_pos h2]at h;omega
 rw[if_pos h1]at h;exact absurd h h1
def RmL (w:World)(l:List Raw)(v9 v10:Value)(wr:World):Prop:=
 ∃i:Nat,i≤l.length∧v10= .int .i64 (i:Int)∧kD l i=0∧nI wr w.heap.size v9 ((l.take i).map bF)∧Below w.heap.size w wr
theorem NJ {l:List Raw}{i:Nat}(h:i<l.length):(l.take (i+1)).map bF=(l.take i).map bF++[bF (raw l i)]:=by rw[List.take_succ_eq_append_getElem h,List.map_append];unfold raw;rw[List.getD_eq_getElem?_getD,List.getElem?_eq_getElem h];rfl
theorem Uh {R:Raw}(hn:Lm R.num)(hd:Lm R.den)(h:aP R=0):(Nh.aC (bF R).num.natAbs).length≤256:=by obtain⟨f1,_,_,_,_,f6,_⟩:=gG hn hd h;rw[f1];refine Nh.bn (Nat.lt_of_lt_of_le (dD hn) ?_);rw[show(65536:Nat)^256=4294967296^128 from by decide];exact Nat.pow_le_pow_right (by omega) f6
def kE (w:World)(z:Int)(v:Bool)(e:Ending)(w':World):Prop:=e= .returned (.tuple #[.bool (if z=0 then v else false),.int .i64 z])∧Below w.heap.size w w'
theorem NK {w:World}{rows:List Rw}{l:List Raw}{ra ca:Option Addr}{k cc nc c2:Nat}{u:Int}{v:Bool}(h:lT w rows ra)(hk:rows.length=k)(hc:k≤cc)(hc2:cc≤9223372036854775807)
  (hl:Ew w l ca)(hln:l.length=nc)(hlc:nc≤c2)(TY:c2≤9223372036854775807)(hv:jP u rows l=0→∀i,i<rows.length→(∀j,j<(aX rows i).l.length→0≤(cf (aX rows i).l j).var∧aP (cf (aX rows i).l j).gU=0)∧aP (aX rows i).B=0)
  (hu:eP u rows=0→0≤u∧u≤24∧k≤40)
  (CR:jP u rows l=0→∀(W:World) (k1 k2:Nat) (v1 v2:Value),KO W k1 u.toNat v1 rows→nI W k2 v2 (l.map bF)→Calls prog 96 #[v1,.int .i64 u,v2] W fun e w'=>e= .returned (.bool v)∧Below W.heap.size W w'):
  Calls prog 44 #[.slice ra k cc,.int .i64 u,.slice ca nc c2] w (kE w (jP u rows l) v):=by
 have H0:=hid h;have HK:=hid hk;have HL:=hid hl;have ou:=hid hln;have HV:=hid hv;have HU:=hid hu;have CRR:=hid CR;obtain⟨Q,hQ⟩:∃Q:Ending→World→Prop,Q=kE w (jP u rows l) v:=⟨_,rfl⟩;rw[←hQ];have HQ:=hid hQ;obtain⟨i78,LP,Ar,Au,Aw⟩:=info_parts Em;have YA:=wU (u:=u) h hk hc hc2;have E:Hid (jP u rows l=if eP u rows≠0 then eP u rows else if nc≠k then 2 else kD l nc):=by show _=_;unfold jP;rw[hk,hln]
 obtain⟨z,hz⟩:∃z,eP u rows=z:=⟨_,rfl⟩;rw[hz]at YA E HU;have YA:=hid YA;clear h hk hl hln hv hu CR hQ hz;go_enter func44,ntmps44;by_cases hz0:z=0
 ·subst hz0;obtain⟨u0,u24,k40⟩:=HU.out rfl;go_upto_region 2 with(go_at_call 46;refine YA.out.mono ?_;rintro e w2 ⟨rfl,hB2⟩;have B2:=hid hB2;clear hB2 YA)
  by_cases hne:nc=k
  ·subst hne;have E2:Hid (jP u rows l=kD l nc):=by show _=_;rw[E.out,if_neg (by simp),if_neg (by simp)]
   clear E;go_wp2_with fail;go_loopw [9,10] (fun v9 v10 wr=>RmL w l v9 v10 wr) (fun _ x _=>nc-(intOf x).toNat)
   case atStart=>exact⟨0,Nat.zero_le _,rfl,rfl,(nI.nil w2 _),B2.out⟩
   obtain⟨i,hi,rfl,hz0,hO,hB⟩:=hrel;have Z0:=hid hz0;have O9:=hid hO;have BI:=hid hB;rw[ou.out]at hi;clear hz0 hO hB B2;by_cases hlt:i<nc
   ·obtain⟨gc,oc,rfl,dd⟩:=HL.out (by intro e;have:=ou.out;rw[e]at this;simp at this;omega);obtain⟨a,n,c,b,m,d,p0,p1,p2,GX⟩:=dd i (by rw[ou.out];exact hlt);clear dd;have p0:=aj BI.out p0;have p1:=aj BI.out p1;have p2:=aj BI.out p2;have ST:=hid (fun(h:wR (raw l i)≠0)=>(xO Z0.out h hlt));have NX:=hid (fun(h:wR (raw l i)=0)=>(xP Z0.out h));have RN:=hid (NJ (l:=l) (i:=i) (by rw[ou.out];exact hlt));obtain⟨R,hRR⟩:∃R,raw l i=R:=⟨_,rfl⟩;rw[hRR]at p0 GX ST NX RN;clear hRR;have i0:(0:Int)≤(i:Int):=by omega
    have i1:(i:Int)<(nc:Int):=by omega
    have RW:=hid (GX.below BI.out);clear GX;have Tj:=oN RW.out;by_cases hk0:aP R=0
    ·have SZ:=Uh RW.out.num.lm RW.out.den.lm hk0;have SZ:=hid SZ;have EB:Hid (wR R=if(bF R).den≠1 then 7 else if 3000<Nh.aU (bF R).num.natAbs then 3 else 0):=by show _=_;unfold wR;rw[if_neg (by rw[hk0];simp)]
     have HK0:=hid hk0;rw[hk0]at Tj;have Tj:=hid Tj;clear hk0;go_upto_region 13 with(go_at_call 83;refine Tj.out.mono ?_;rintro e w3 ⟨rfl,hB3⟩;have q0:=aj hB3 p0;have q1:=aj hB3 p1;have q2:=aj hB3 p2;have C42:=hid (Yw (RW.out.below hB3) HK0.out);have B3:=hid (aB BI.out hB3);have O3:=hid (O9.out.below hB3);clear hB3 p0 p1 p2 Tj O9)
     go_upto_region 14 with(go_at_call 42;refine C42.out.mono ?_;rintro e w4 ⟨s4,a4,n4,c4,b4,m4,d4,rfl,hr,na,nb,hB4⟩;have H4:=hid (show HN w4 w.heap.size (bF R) ⟨s4,a4,n4,c4,b4,m4,d4⟩ from HN.mono ⟨hr,na,nb⟩ B3.out.size);have O4:=hid (O3.out.below hB4);have B4:=hid (aB B3.out hB4);clear hr na nb hB4 q0 q1 q2 C42 O3)
     have NB5:=ah w4 (.cells #[.bool s4,.slice a4 n4 c4,.slice b4 m4 d4] 78);have R5:Hid (NR (w4.alloc (.cells #[.bool s4,.slice a4 n4 c4,.slice b4 m4 d4] 78)) w4.heap.size s4 a4 n4 c4 b4 m4 d4):=heap_alloc_new _ _;have H5:=hid (H4.out.below NB5);have O5:=hid (O4.out.below NB5);have B5:=hid (aB B4.out NB5);clear NB5 H4 O4;generalize w4.alloc (.cells #[.bool s4,.slice a4 n4 c4,.slice b4 m4 d4] 78)=w5 at*;obtain⟨g,hg⟩:∃g,w4.heap.size=g:=⟨_,rfl⟩;rw[hg]at R5⊢;clear hg;obtain⟨z0,z1,z2,_⟩:=R5.out.reads;have Tm:=Ei H5.out.hr;by_cases hd:(bF R).den=1
     ·rw[if_neg (by rw[hd];simp)]at EB;rw[decide_eq_true hd]at Tm;have Tm:=hid Tm;clear hd;go_upto_region 16 with(go_at_call 94;refine Tm.out.mono ?_;rintro e w6 ⟨rfl,WJ⟩;have R6:=hid (R5.out.later WJ R5.out.lt);have H6:=hid (H5.out.below WJ);have O6:=hid (O5.out.below WJ);have B6:=hid (aB B5.out WJ);clear WJ Tm z0 z1 z2 R5 H5 O5)
      obtain⟨z0,z1,z2,_⟩:=R6.out.reads;have C95:=hid (lX H6.out.hr.num (by have:=H6.out.hr.num.len;have:=SZ.out;omega));by_cases hb:3000<Nh.aU (bF R).num.natAbs
      ·have hbi:(3000:Int)<((Nh.aU (bF R).num.natAbs:Nat):Int):=by omega
       rw[if_pos hb]at EB;go_wp2_with (go_at_call 95;refine C95.out.mono ?_;rintro e w7 ⟨rfl,rfl⟩);rw[HQ.out];unfold kE;rw[E2.out,ST.out (by rw[EB.out];simp),EB.out];exact⟨rfl,B6.out⟩
      have hbi:¬(3000:Int)<((Nh.aU (bF R).num.natAbs:Nat):Int):=by omega
      rw[if_neg hb]at EB;have NZ:=hid (NX.out EB.out);clear ST NX;obtain⟨xs,ho,Nk⟩:=O6.out.ex;have LT:((l.take i).map bF).length=i:=by rw[List.length_map,List.length_take,ou.out];omega
      have qX:=hid (ah w6 (.cells #[.bool s4,.slice a4 n4 c4,.slice b4 m4 d4] 78));have FG:Hid ((w6.alloc (.cells #[.bool s4,.slice a4 n4 c4,.slice b4 m4 d4] 78)).heap[w6.heap.size]? =some (.cells #[.bool s4,.slice a4 n4 c4,.slice b4 m4 d4] 78 (0,0))):=heap_alloc_new _ _;have OA:=hid (World.ownsRow.alloc ho (.cells #[.bool s4,.slice a4 n4 c4,.slice b4 m4 d4] 78));have RV:=hid (Nk.below qX.out);have HA:=hid (H6.out.below qX.out);clear ho Nk;go_wp2_with (first
       | (go_at_call 95;refine C95.out.mono ?_;rintro e w7 ⟨rfl,rfl⟩)
       | (at_builtin;refine wpList_append_own _ rfl _ _ 65 rfl w.heap.size 78 i78 _ 3 56 underlying65 LP Ar Au Aw rfl (by omega) _ ((l.take i).map bF).length xs rfl OA.out ⟨w6.heap.size,0,none⟩ 1 1 [.bool s4,.slice a4 n4 c4,.slice b4 m4 d4] rfl rfl (World.news_of_block FG.out) (by intro u hu;simp at hu;rcases hu with rfl | rfl | rfl<;>rfl) (by rw[LT];unfold maxLen;omega) (by rw[LT];omega) (Nat.le_trans B6.out.size (ah w6 _).size) ?_;intro v5 w8 Af hg5 MI;have B8:=hid (fH (aB B6.out qX.out) OA.out (Nat.le_trans B6.out.size qX.out.size) hg5);have O8:=hid (nI.push (N:=⟨s4,a4,n4,c4,b4,m4,d4⟩) OA.out RV.out HA.out Af hg5);clear Af hg5 MI z0 z1 z2))
      go_roundw
      case rel=>exact⟨i+1,by rw[ou.out];omega,by go_num,NZ.out,by rw[RN.out];exact O8.out,B8.out⟩
      simp[intOf];omega
     have EB2:Hid (wR R=7):=by show _=_;rw[EB.out,if_pos hd]
     rw[decide_eq_false hd]at Tm;have Tm:=hid Tm;clear EB hd;go_wp2_with (go_at_call 94;refine Tm.out.mono ?_;rintro e w6 ⟨rfl,WJ⟩;have B6:=hid (aB B5.out WJ);clear WJ Tm z0 z1 z2);rw[HQ.out];unfold kE;rw[E2.out,ST.out (by rw[EB2.out];simp),EB2.out];exact⟨rfl,B6.out⟩
    have EB:Hid (wR R=aP R):=by show _=_;unfold wR;rw[if_pos hk0]
    obtain⟨z,hz⟩:∃z,aP R=z:=⟨_,rfl⟩;rw[hz]at Tj EB hk0;have Tj:=hid Tj;clear hz;go_wp2_with (go_at_call 83;refine Tj.out.mono ?_;rintro e w3 ⟨rfl,hB3⟩;have B3:=hid (aB BI.out hB3);clear hB3 p0 p1 p2 Tj);rw[HQ.out];unfold kE;rw[E2.out,ST.out (by rw[EB.out];exact hk0),EB.out,if_neg hk0];exact⟨rfl,B3.out⟩
   obtain rfl:nc=i:=by omega
   have ER:Hid (jP u rows l=0):=E2.out.trans Z0.out;have OF:Hid (nI wr w.heap.size u9 (l.map bF)):=by have:=O9.out;rwa[List.take_of_length_le (by rw[ou.out];exact Nat.le_refl _)]at this
   have un:((u.toNat:Nat):Int)=u:=by omega
   have CL:=lines_any (n:=u.toNat) (H0.out.below BI.out) HK.out hc hc2 (by omega) (by omega) (HV.out ER.out);rw[un]at CL;have CL:=hid CL;go_wp2_with (first
    | (go_at_call 28;refine CL.out.mono ?_;rintro e w3 ⟨v3,rfl,hL3,hB3⟩;have C96:=hid (CRR.out ER.out w3 _ _ _ _ hL3 (OF.out.below hB3));have B3:=hid (aB BI.out hB3);clear hL3 hB3 CL)
    | (go_at_call 96;refine C96.out.mono ?_;rintro e w4 ⟨rfl,hB4⟩;have B4:=hid (aB B3.out hB4);clear hB4 C96))
   rw[HQ.out];unfold kE;rw[ER.out];exact⟨rfl,B4.out⟩
  have hne2:¬(nc:Int)=(k:Int):=by omega
  go_wp2_with fail;rw[HQ.out];have e2:jP u rows l=2:=by rw[E.out,if_neg (by simp),if_pos hne]
  unfold kE;rw[e2];exact⟨rfl,B2.out⟩
 go_wp2_with (go_at_call 46;refine YA.out.mono ?_;rintro e w2 ⟨rfl,hB2⟩;have B2:=hid hB2;clear hB2 YA);rw[HQ.out];unfold kE;rw[E.out,if_pos hz0,if_neg hz0];exact⟨rfl,B2.out⟩
end Go.Proofs.YtijdglogadnbcaaGreat
