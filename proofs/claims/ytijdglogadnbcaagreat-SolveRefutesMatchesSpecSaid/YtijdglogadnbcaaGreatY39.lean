/- System.Post. Printed by genUh.py. -/
import Derived.Test.YtijdglogadnbcaaGreatY38
import Derived.Deep.RegionLawGrows
set_option linter.unusedVariables false
set_option linter.unusedSimpArgs false
set_option maxRecDepth 100000
set_option maxHeartbeats 40000000
namespace Go.Proofs.YtijdglogadnbcaaGreat
open Go.Proofs.Tryz
open Go.RowKit Nt Bl
theorem uh {P:Program}{w:World}{o:Oper}{a:Act}{K:Act→World→Prop}{Q:Exit→Act→World→Prop}(hg:o.guard=none)(s x:Operand)(t:TypeId)(hop:o.op=Op.call {callee:=Callee.builtin Builtin.append,args:=#[s,x],argTypes:=#[t,t]})
  (e:TypeId)(i:TypeInfo)(z:Value)(size bytes:Nat)(h1:P.underlying t=some (.slice e))(h2:P.info? e=some i)(h3:i.zero=some z)(h4:i.size=size)(h5:i.bytes=bytes)(h6:z.cells.size=size)(h7:0<size)
  (ao:Option Addr)(n cap:Nat)(olds:List Value)(hs:a.eval s= .slice ao n cap)(hnone:ao=none→n=0∧cap=0)(hlo:olds.length=n*size)(holds:∀b,ao=some b→∀j u,olds[j]? =some u→w.cell? (b.add j)=some u)
  (ad:Addr) (m c:Nat) (news:List Value) (hx:a.eval x= .slice (some ad) m c) (hn:news.length=m*size) (hc:∀j u,news[j]? =some u→w.cell? (ad.add j)=some u) (h1c:∀u∈news,u.oneCell'=true)
  (hfull:cap<n+m) (b1:n+m≤maxLen) (b2:(n+m)*bytes≤140737488355328)
  (hK:∀v' w',w'.ownsRow w.heap.size e size v' (n+m) (olds++news)→w.grownBy w' none→K (a.put o.dst v') w'):Oper.wp P o a w K Q:=by
 have h:=step_append_grows (P:=P) (ops:=#[]) (w:=w) (K:=K) (Q:=Q) (E:=True) hg s x t hop e i z size bytes h1 h2 h3 h4 h5 h6 h7 ao n cap olds hs hnone hlo holds ad m c news hx hn hc h1c hfull b1 b2 hK;have hw:Region.wanted o (yielded #[] a.tmps)=true:=by simp[Region.wanted,hg]
 rwa[if_pos hw]at h
theorem Ag.sz {q:Rat}(h:Ag q):Sz q 1000:=Sz.mono (Sz.small h.1 (by have:=h.2;omega)) (by omega)
theorem Dv.rls {W:World}{gA:Nat}{vs:List Value}{l:List Rl}(h:Dv W gA vs)(hv:Di W l vs):jI W l (some ⟨gA,0,none⟩):=
 ⟨vs,hv,fun _=>⟨gA,0,rfl,fun j u hu=>by rw[Nat.zero_add];exact h.cell hu⟩⟩
theorem VK {W:World}{l:List Rl}{vs:List Value}{ad:Addr}{j:Nat}{u:Value}(hv:Di W l vs)(ha:l≠[]→∃g o,some ad=some (⟨g,o,none⟩:Addr)∧∀j u,vs[j]? =some u→W.cell? ⟨g,o+j,none⟩=some u) (hu:vs[j]? =some u):W.cell? (ad.add j)=some u:=by
 have hne:l≠[]:=fun e=>by rw[List.eq_nil_of_length_eq_zero (l:=vs) (by rw[hv.1,e];rfl)]at hu;simp at hu
 obtain⟨g,o,e,k⟩:=ha hne;simp only[Option.some.injEq]at e;subst e;rw[Gf];exact k j u hu
theorem VT {w:World}{b n:Nat}{v:Value}{xs:List Value}(h:w.ownsRow b 27 5 v n xs)(hn:0<n):∃gA cA,v= .slice (some ⟨gA,0,none⟩) n cA∧b≤gA∧Dv w gA xs∧n≤cA∧cA≤9223372036854775807:=by
 obtain⟨gA,cA,e,x⟩:=Qr h hn;rcases h.2 with⟨_,e0⟩ | ⟨g,cap,cur,hv,hb,hg,h1,h2,_,ht⟩
 ·omega
 rw[e]at hv;simp only[Value.slice.injEq,Option.some.injEq,Addr.mk.injEq]at hv;obtain⟨⟨rfl,_⟩,_,rfl⟩:=hv;exact⟨gA,cA,e,hb,x,h1,by unfold maxLen at h2;omega⟩
theorem Si {w:World}{p n m rc nc cc nn c mm d:Nat}{ra ca a b:Option Addr}{mv:Value}{rows:List Rl}{rel:Int}{l:List Cf}{B:Raw}{okb:Bool}
  (hS:pI w p n (.slice ra m rc) mv)(hr:jI w rows ra)(hm:rows.length=m)(ac9:m≤40)(hmc:m≤rc)(acz:rc≤9223372036854775807)(hn:n≤24)
  (hl:kG w l ca)(hB:dG w B a nn c b mm d)(hln:l.length=nc)(hc:nc≤cc)(hc2:cc≤9223372036854775807)
  (FE:bV (n:Int) rel l B=0→m<40→∀(W:World) (Lc:Option Addr) (rc':Nat),jI W (rows++[tN rel l B]) Lc→Calls prog 61 #[.slice Lc (m+1) rc',.int .i64 (n:Int)] W fun e w'=>∃v,e= .returned (.tuple #[v,.bool okb])∧Below W.heap.size W w'):
  Calls prog 21 #[.pointer (some ⟨p,0,none⟩),.agg #[.slice ca nc cc,.int .i64 rel,.bool B.neg,.slice a nn c,.slice b mm d]] w fun e w'=>
   (bV (n:Int) rel l B≠0∧e= .returned (.int .i64 (bV (n:Int) rel l B))∧Below w.heap.size w w')∨
   (bV (n:Int) rel l B=0∧m=40∧e= .returned (.int .i64 3)∧Below w.heap.size w w')∨
   (bV (n:Int) rel l B=0∧m<40∧okb=false∧e= .returned (.int .i64 15)∧Below w.heap.size w w')∨
   (bV (n:Int) rel l B=0∧m<40∧okb=true∧e= .returned (.int .i64 0)∧∃w1 Lc rc',Below w.heap.size w w1∧jI w1 (rows++[tN rel l B]) Lc∧m+1≤rc'∧rc'≤9223372036854775807∧w'=w1.setCell ⟨p,1,none⟩ (.slice Lc (m+1) rc')):=by
 obtain⟨i27,hi27,QF,QG,QH⟩:=info_parts Gg;have HM:=hid hm;have ou:=hid hln;have HFE:=hid FE;obtain⟨z,hz⟩:∃z,bV (n:Int) rel l B=z:=⟨_,rfl⟩;have HZ:=hid hz;have B0:Hid (Below w.heap.size w (w.alloc (.cells #[.slice ca nc cc,.int .i64 rel,.bool B.neg,.slice a nn c,.slice b mm d] 27))):=ah _ _;have XR:Hid (iH (w.alloc (.cells #[.slice ca nc cc,.int .i64 rel,.bool B.neg,.slice a nn c,.slice b mm d] 27)) w.heap.size #[.slice ca nc cc,.int .i64 rel,.bool B.neg,.slice a nn c,.slice b mm d]):=heap_alloc_new _ _;have S1:=hid (hS.below B0.out);have Ug:=hid (hl.below B0.out);have RW1:=hid (hB.below B0.out);have RL1:=hid (hr.below B0.out);have C1:=hid (yS (u:=(n:Int)) (rel:=rel) (Ug.out.below (Below.refl _ _).drew) (RW1.out.below (Below.refl _ _).drew) hln hc hc2);rw[hz]at C1;rw[hz];have SL:=hid hS.lt;clear hS hr hm hl hB hln FE hz;obtain⟨Qp,hQ⟩:∃Q:Ending→World→Prop,Q=(fun e w'=>(z≠0∧e= .returned (.int .i64 z)∧Below w.heap.size w w')∨(z=0∧m=40∧e= .returned (.int .i64 3)∧Below w.heap.size w w')∨(z=0∧m<40∧okb=false∧e= .returned (.int .i64 15)∧Below w.heap.size w w')∨(z=0∧m<40∧okb=true∧e= .returned (.int .i64 0)∧∃w1 Lc rc',Below w.heap.size w w1∧jI w1 (rows++[tN rel l B]) Lc∧m+1≤rc'∧rc'≤9223372036854775807∧w'=w1.setCell ⟨p,1,none⟩ (.slice Lc (m+1) rc'))):=⟨_,rfl⟩;rw[←hQ];have HQ:=hid hQ;clear hQ;go_enter func21,ntmps21;go_upto_region 1 with fail
 generalize w.alloc (.cells #[.slice ca nc cc,.int .i64 rel,.bool B.neg,.slice a nn c,.slice b mm d] 27)=W at*;obtain⟨g3,hg3⟩:∃g,w.heap.size=g:=⟨_,rfl⟩;have G3:Hid (w.heap.size=g3):=hg3;rw[hg3]at XR⊢;clear hg3;obtain⟨p0,p1,_,fz⟩:=S1.out.reads;obtain⟨u0,u1,u2,u3,u4,_⟩:=XR.out.reads;have iD:=fz 1;clear fz;have KP:=hid (fun(W':World) (hB:Below W.heap.size W W')=>(show W'.cell? ⟨g3,0,none⟩=some (.slice ca nc cc)∧W'.cell? ⟨g3,1,none⟩=some (.int .i64 rel)∧W'.cell? ⟨g3,2,none⟩=some (.bool B.neg)∧W'.cell? ⟨g3,3,none⟩=some (.slice a nn c)∧W'.cell? ⟨g3,4,none⟩=some (.slice b mm d)∧W'.cell? ⟨p,0,none⟩=some (.int .i64 (n:Int)) from⟨aj hB u0,aj hB u1,aj hB u2,aj hB u3,aj hB u4,aj hB p0⟩));refine Rg.aH 7 [] (fun W'=>W'.cell? ⟨g3,0,none⟩=some (.slice ca nc cc)∧W'.cell? ⟨g3,1,none⟩=some (.int .i64 rel)∧W'.cell? ⟨g3,2,none⟩=some (.bool B.neg)∧W'.cell? ⟨g3,3,none⟩=some (.slice a nn c)∧W'.cell? ⟨g3,4,none⟩=some (.slice b mm d)∧W'.cell? ⟨p,0,none⟩=some (.int .i64 (n:Int))) (by kernel_rfl) (by kernel_rfl) ?_ (fun hS ok inv=>?_)
 ·exact⟨u0,u1,u2,u3,u4,p0⟩
 refine Rg.tk 0 rfl ok inv hS fun inv=>?_;refine Rg.tk 1 rfl ok inv hS fun inv=>?_;refine Rg.tk 2 rfl ok inv hS fun inv=>?_;refine Rg.tk 3 rfl ok inv hS fun inv=>?_;refine Rg.tk 4 rfl ok inv hS fun inv=>?_;refine Rg.tk 5 rfl ok inv hS fun inv=>?_;refine Rg.w1 6 rfl inv fun K' hK=>?_;go_simp;go_at_call 14;refine(C1.out).mono ?_;rintro e w6 ⟨rfl,B6⟩;have B6:=aJ B6;have KS:=KP.out w6 B6;have uI:=hid (aB B0.out B6);have XR6:=hid (XR.out.below B6);have S6:=hid (S1.out.below B6);have CF6:=hid (Ug.out.below B6);have abH:=hid (RW1.out.below B6);have RL6:=hid (RL1.out.below B6);refine Rg.st hK ?_ fun hS inv=>?_
 ·exact KS
 clear hK K';refine Rg.wl rfl ?_;go_simp;clear p0 p1 u0 u1 u2 u3 u4 iD XR S1 Ug RW1 RL1 C1;obtain⟨p0,p1,_,fz⟩:=S6.out.reads;obtain⟨u0,u1,u2,u3,u4,_⟩:=XR6.out.reads;have iD:=fz 1;clear fz;have m0:(0:Int)≤(m:Int):=by omega
 by_cases hz0:z=0
 ·by_cases h40:m=40
  ·have m1:(m:Int)≥40:=by omega
   go_wp2_with fail;rw[HQ.out];exact Or.inr (Or.inl ⟨hz0,h40,rfl,uI.out⟩)
  have m1:¬(m:Int)≥40:=by omega
  have mlt:m<40:=by omega
  have ZZ:Hid (bV (n:Int) rel l B=0):=HZ.out.trans hz0;obtain⟨q6,g6,ra6⟩:=xQ (CF6.out) (abH.out) ZZ.out;have RG:Hid (R5 w6 (tN rel l B) ca cc ⟨B.neg,a,nn,c,b,mm,d⟩):=⟨q6,by show(jO l).length≤cc;rw[eU,ou.out];exact hc,hc2,ra6⟩;have n8:nc≤8:=by have:=g6.cs.len;have e:=ou.out;rw[show(tN rel l B).cs=jO l from rfl,eU,e]at this;exact this
  have CL:=hid (zW (n:=nc) (RG.out.below (Below.refl w6.heap.size w6).drew) (by show(jO l).length=nc;rw[eU];exact ou.out) (by omega) (fun i hi=>(g6.cs.at_ i (by show i<(jO l).length;rw[eU,ou.out];exact hi)).2.sz) g6.bd.sz);rw[show(tN rel l B).rel=rel from rfl]at CL;have KB:Hid (Below w6.heap.size w6 w6):=Below.refl _ _;have NN:Hid (ra=none→m=0∧m=0):=fun e=>by
   have:m=0:=by refine Classical.byContradiction fun q=>?_;obtain⟨vs,_,h2⟩:=RL6.out;obtain⟨g,o,e2,_⟩:=h2 (fun e3=>q (by have:=HM.out;rw[e3]at this;exact this.symm));rw[e]at e2;simp at e2
   exact⟨this,this⟩
  have RW6:=RL6;clear q6 ra6 RG CF6 abH;go_upto_region 6 with fail
  have KP:=hid (fun(W':World) (hB:Below w6.heap.size w6 W')=>(show W'.cell? ⟨g3,0,none⟩=some (.slice ca nc cc)∧W'.cell? ⟨g3,1,none⟩=some (.int .i64 rel)∧W'.cell? ⟨g3,2,none⟩=some (.bool B.neg)∧W'.cell? ⟨g3,3,none⟩=some (.slice a nn c)∧W'.cell? ⟨g3,4,none⟩=some (.slice b mm d)∧W'.cell? ⟨p,1,none⟩=some (.slice ra m rc) from⟨aj hB u0,aj hB u1,aj hB u2,aj hB u3,aj hB u4,aj hB p1⟩));refine Rg.aH 10 [] (fun W'=>W'.cell? ⟨g3,0,none⟩=some (.slice ca nc cc)∧W'.cell? ⟨g3,1,none⟩=some (.int .i64 rel)∧W'.cell? ⟨g3,2,none⟩=some (.bool B.neg)∧W'.cell? ⟨g3,3,none⟩=some (.slice a nn c)∧W'.cell? ⟨g3,4,none⟩=some (.slice b mm d)∧W'.cell? ⟨p,1,none⟩=some (.slice ra m rc)) (by kernel_rfl) (by kernel_rfl) ?_ (fun hS ok inv=>?_)
  ·exact⟨u0,u1,u2,u3,u4,p1⟩
  refine Rg.tk 0 rfl ok inv hS fun inv=>?_;refine Rg.tk 1 rfl ok inv hS fun inv=>?_;refine Rg.tk 2 rfl ok inv hS fun inv=>?_;refine Rg.tk 3 rfl ok inv hS fun inv=>?_;refine Rg.tk 4 rfl ok inv hS fun inv=>?_;refine Rg.tk 6 rfl ok inv hS fun inv=>?_;refine Rg.w1 5 rfl inv fun K' hK=>?_;go_simp;go_at_call 60;refine(RY (a:=ra) hmc acz).mono ?_;rintro e w7 ⟨rfl,rfl⟩;have KS:=KP.out _ (Below.refl _ _).drew;refine Rg.st hK ?_ fun hS inv=>?_
  ·exact KS
  clear hK K';refine Rg.w1 7 rfl inv fun K' hK=>?_;go_simp;go_at_call 59;refine(CL.out).mono ?_;rintro e w8 ⟨gN,N,rfl,gN0,R8,B8⟩;have B8:=aJ B8;have KS:=KP.out w8 B8;have RW8:=RW6.out.below B8;have BW8:=hid (aB uI.out B8);have S8:=hid (S6.out.below B8);refine Rg.st hK ?_ fun hS inv=>?_
  ·exact KS
  clear hK K';refine Rg.w1 8 rfl inv fun K' hK=>?_;(try simp only[zA,zB,zC]);go_simp;have ZQ:=ah w8 (.cells #[.slice (some ⟨gN,0,none⟩) nc nc,.int .i64 rel,.bool N.s,.slice N.a N.n N.c,.slice N.b N.m N.d] 27);have F8:=heap_alloc_new w8 (.cells #[.slice (some ⟨gN,0,none⟩) nc nc,.int .i64 rel,.bool N.s,.slice N.a N.n N.c,.slice N.b N.m N.d] 27);refine Rg.st hK ?_ fun hS inv=>?_
  ·exact KP.out _ (aB B8 ZQ)
  clear hK K';have KB9:=hid (aB B8 ZQ);have RW9:=RW8.below ZQ;have R9:=R8.below ZQ;have Eb:=hid (aB BW8.out ZQ);have S9:=hid (S8.out.below ZQ);clear ZQ R8 RW8 B8;generalize w8.alloc (.cells #[.slice (some ⟨gN,0,none⟩) nc nc,.int .i64 rel,.bool N.s,.slice N.a N.n N.c,.slice N.b N.m N.d] 27)=w9 at*;generalize w8.heap.size=g8_ at*;obtain⟨vs,hv9,ha9⟩:=RW9;have VL:Hid (vs.length=m*5):=by show _=_;rw[hv9.1,HM.out]
  have VO:=hid hv9.one;refine Rg.w1 9 rfl inv fun K' hK=>?_;(try simp only[zA,zB,zC]);refine uh (by rfl) _ _ 34 rfl 27 i27 _ 5 88 underlying34 hi27 QF QG QH rfl (by omega) ra m m vs (by rfl) (fun e=>by subst e;exact NN.out rfl) VL.out (fun ad e j u hu=>?_) ⟨g8_,0,none⟩ 1 1 [.slice (some ⟨gN,0,none⟩) nc nc,.int .i64 rel,.bool N.s,.slice N.a N.n N.c,.slice N.b N.m N.d] (by rfl) rfl (World.news_of_block F8) (by intro u hu;simp at hu;rcases hu with rfl | rfl | rfl | rfl | rfl<;>rfl) (by omega) (by unfold maxLen;omega) (by omega) ?_
  ·subst e;exact VK hv9 ha9 hu
  intro v10 w10 O10 G10;have B10:=below_grown G10;have KS:=KP.out w10 (aB KB9.out B10);have ada:=hid (aB KB9.out B10);have VS:Di w10 (rows++[tN rel l B]) (vs++wH (tN rel l B) (some ⟨gN,0,none⟩) nc N):=(hv9.below B10).push (R9.below B10);have E5:wH (tN rel l B) (some ⟨gN,0,none⟩) nc N=[.slice (some ⟨gN,0,none⟩) nc nc,.int .i64 rel,.bool N.s,.slice N.a N.n N.c,.slice N.b N.m N.d]:=by show [Value.slice (some ⟨gN,0,none⟩) (jO l).length nc,_,_,_,_]=_;rw[eU,ou.out];rfl
  rw[E5]at VS;obtain⟨gA,cA,rfl,gA0,AL,cA1,cA2⟩:=VT O10 (by omega);have ZT:=hid (AL.rls VS);have Zq:=hid (S9.out.below B10);have VW:=hid (aB Eb.out B10);refine hK.out _ _ KS (fun hS inv=>?_);clear hK K' B10 VS E5 AL O10 G10 hv9 ha9 R9 F8 KS;try simp only[Act.put,zA,zB,zC,zD,zE,zF]
  refine Rg.wl rfl ?_;go_simp;have acA:=hid (HFE.out ZZ.out mlt w10 (some ⟨gA,0,none⟩) cA ZT.out);obtain⟨p0,_,_,fz⟩:=Zq.out.reads;clear fz;go_upto_region 8 with(go_at_call 61;refine acA.out.mono ?_;rintro e oG ⟨v11,rfl,B11⟩;have abI:=hid (aB VW.out B11);have S11:=hid (Zq.out.below B11);have acB:=hid (ZT.out.below B11);clear B11 Zq ZT)
  clear p0;obtain⟨p0,p1,_,fz⟩:=S11.out.reads;have iD:=fz 1;clear fz
  cases okb with
  | false=>
   go_wp2_with fail
   rw[HQ.out]
   exact Or.inr (Or.inr (Or.inl ⟨hz0,mlt,by simp,rfl,abI.out⟩))
  | true=>
   go_wp2_with fail
   rw[HQ.out]
   exact Or.inr (Or.inr (Or.inr ⟨hz0,mlt,by simp,rfl,oG,_,cA,abI.out,acB.out,cA1,cA2,rfl⟩))
 go_wp2_with fail;rw[HQ.out];exact Or.inl ⟨hz0,rfl,uI.out⟩
structure XI (w:World)(p n m rc:Nat)(ra:Option Addr)(mv:Value)(rows:List Rl):Prop where
 sy:pI w p n (.slice ra m rc) mv
 rl:jI w rows ra
 len:rows.length=m
 le:m≤rc
 cap:rc≤9223372036854775807
 n24:n≤24
 m40:m≤40
 good:∀i,i<rows.length→(rq rows i).Good n
 sol:∃x,qj (dP rows) n x
theorem XI.below {w w':World}{p n m rc:Nat}{ra:Option Addr}{mv:Value}{rows:List Rl}(h:XI w p n m rc ra mv rows)(hb:Below w.heap.size w w'):XI w' p n m rc ra mv rows:=
 ⟨h.sy.below hb,h.rl.below hb,h.len,h.le,h.cap,h.n24,h.m40,h.good,h.sol⟩
theorem XI.lp {w:World}{p n m rc k c:Nat}{ra:Option Addr}{mv:Value}{rows:List Rl}(h:XI w p n m rc ra mv rows){gl:List (Nat×Rat)}{ga:Option Addr}(hg:iE w gl ga)(gd:jk n gl)(hk:gl.length=k)(hc:k≤c∧c≤9223372036854775807):qQ w rows ra n m gl ga c:=
 ⟨h.rl,h.len,hg,by rw[hk];exact hc,by have:=h.n24;omega,by have:=h.m40;omega,h.good,gd⟩
def Sj (n:Nat)(rows:List Rl)(l:List Cf)(w:World)(e:Ending)(w':World):Prop:=
 (bV (n:Int) 3 l ⟨false,[],[1]⟩≠0∧e= .returned (.tuple #[Tz 0 0 Nw.zero Nw.zero,.int .i64 (bV (n:Int) 3 l ⟨false,[],[1]⟩)])∧Below w.heap.size w w')∨
 (bV (n:Int) 3 l ⟨false,[],[1]⟩=0∧∃u v Hi Lo,jf (qj (dP rows) n) (val n (fA (jO l))) u∧jf (qj (dP rows) n) (val n (fA (negC (jO l)))) v∧
  e= .returned (.tuple #[Tz (lC v) (lC u) Lo Hi,.int .i64 0])∧zY w' (fun q=> -q) v Lo∧zY w' (fun q=>q) u Hi∧Below w.heap.size w w')
theorem range_any {w:World}{p n m rc nc cc:Nat}{ra ca:Option Addr}{mv:Value}{rows:List Rl}{l:List Cf}(h:XI w p n m rc ra mv rows)(hl:kG w l ca)(hln:l.length=nc)(hc:nc≤cc)(hc2:cc≤9223372036854775807):
  Calls prog 18 #[.pointer (some ⟨p,0,none⟩),.slice ca nc cc] w (Sj n rows l w):=by
 obtain⟨z,hz⟩:∃z,bV (n:Int) 3 l ⟨false,[],[1]⟩=z:=⟨_,rfl⟩;have HZ:=hid hz;have ou:=hid hln;obtain⟨Qp,hQ⟩:∃Q:Ending→World→Prop,Q=Sj n rows l w:=⟨_,rfl⟩;rw[←hQ];have HQ:=hid hQ;have B0:=hid (ah w (.cells #[.int .i64 0,.int .i64 0,.bool false,.slice none 0 0,.slice none 0 0,.bool false,.slice none 0 0,.slice none 0 0] 42));have X4:Hid (jM (w.alloc (.cells #[.int .i64 0,.int .i64 0,.bool false,.slice none 0 0,.slice none 0 0,.bool false,.slice none 0 0,.slice none 0 0] 42)) w.heap.size 0 0 Nw.zero Nw.zero):=heap_alloc_new w _;have H1:=hid (h.below B0.out);have Ug:=hid (hl.below B0.out);have G4:Hid (w.heap.size≤w.heap.size):=Nat.le_refl _;clear h hl hln hz hQ;go_enter func18,ntmps18;go_upto_region 1 with fail
 generalize w.alloc (.cells #[.int .i64 0,.int .i64 0,.bool false,.slice none 0 0,.slice none 0 0,.bool false,.slice none 0 0,.slice none 0 0] 42)=W at*;obtain⟨g4,hg4⟩:∃g,w.heap.size=g:=⟨_,rfl⟩;have G4:Hid (w.heap.size=g4):=hg4;rw[hg4]at X4⊢;clear hg4;have C1:=zZ (u:=n) (rv:=mv) (ra:=ra) (rn:=m) (rc:=rc) Ug.out ou.out hc hc2;rw[HZ.out]at C1;have C1:=hid C1;obtain⟨p0,p1,_,_⟩:=H1.out.sy.reads;go_upto_region 2 with(go_at_call 56;refine C1.out.mono ?_;rintro e w2 ⟨rfl,B2⟩;have Ai:=hid (aB B0.out B2);have H2:=hid (H1.out.below B2);have X2:=hid (X4.out.below B2);have CF2:=hid (Ug.out.below B2);clear B2 H1 X4 Ug C1)
 clear p0 p1;obtain⟨p0,p1,_,_⟩:=H2.out.sy.reads;have f0:=X2.out.free 0;have f1:=X2.out.free 1;have f2:=X2.out.free 2;have f3:=X2.out.free 3;have f4:=X2.out.free 4;have f5:=X2.out.free 5;have f6:=X2.out.free 6;have f7:=X2.out.free 7;obtain⟨b0,b1,b2',b3,b4,b5,b6,b7⟩:=X2.out.reads;by_cases hz0:z=0
 ·obtain⟨q2,gd⟩:=CF2.out.good (n:=n) (by have:=HZ.out.trans hz0;exact(kS this).2.1) (by have:=HZ.out.trans hz0;exact(kS this).2.2.1);have CB:=hid (D8 (rc:=rc) (k:=nc) (H2.out.lp (k:=nc) (c:=cc) q2 gd (by rw[eU];exact ou.out) ⟨hc,hc2⟩) H2.out.sol (by rw[eU];exact ou.out));clear q2 gd;go_upto_region 4 with fail
  clear b0 b1 b2' b3 b4 b5 b6 b7 f0 f1 f2 f3 f4 f5 f6 f7;go_wp2_with (go_at_call 57;refine CB.out.mono ?_;rintro e w3 ⟨u,v,Hi,Lo,hu,hv,rfl,eL,eH,B3⟩;have HU:=hid hu;have HV:=hid hv;have EL:=hid eL;have EH:=hid eH;have Ed:=hid (aB Ai.out B3);have X3:=X2.out.below B3;have f0:=X3.free 0;have f1:=X3.free 1;have f2:=X3.free 2;have f3:=X3.free 3;have f4:=X3.free 4;have f5:=X3.free 5;have f6:=X3.free 6;have f7:=X3.free 7;obtain⟨b0,b1,b2',b3,b4,b5,b6,b7⟩:=X3.reads;have X3:=hid X3;unfold Tz;clear hu hv eL eH B3 CB);have X4':=X3.out.ZK (lC v) (lC u) Lo Hi;have O9:=abD (w:=w3) (g:=g4) (.int .i64 (lC v)) (.int .i64 (lC u)) (.bool Lo.s) (.slice Lo.a Lo.n Lo.c) (.slice Lo.b Lo.m Lo.d) (.bool Hi.s) (.slice Hi.a Hi.n Hi.c) (.slice Hi.b Hi.m Hi.d);have L9:=X3.out.limb O9;have B9:=Gt (k0:=w.heap.size) (g:=g4) Ed.out (Nat.le_of_eq G4.out) (.int .i64 (lC v)) (.int .i64 (lC u)) (.bool Lo.s) (.slice Lo.a Lo.n Lo.c) (.slice Lo.b Lo.m Lo.d) (.bool Hi.s) (.slice Hi.a Hi.n Hi.c) (.slice Hi.b Hi.m Hi.d);obtain⟨x0,x1,x2,x3,x4,x5,x6,x7⟩:=X4'.reads;refine bodyPost_ret (v:= .tuple #[Tz (lC v) (lC u) Lo Hi,.int .i64 0]) (by simp[results,results18,go_sem,Tz,x0,x1,x2,x3,x4,x5,x6,x7]) rfl ?_;rw[HQ.out];exact Or.inr ⟨HZ.out.trans hz0,u,v,Hi,Lo,HU.out,HV.out,rfl,EL.out.limb L9,EH.out.limb L9,B9⟩
 go_wp2_with fail;have X4':=X2.out.ZK 0 0 Nw.zero Nw.zero;have B9:=Gt (k0:=w.heap.size) (g:=g4) Ai.out (Nat.le_of_eq G4.out) (.int .i64 0) (.int .i64 0) (.bool Nw.zero.s) (.slice Nw.zero.a Nw.zero.n Nw.zero.c) (.slice Nw.zero.b Nw.zero.m Nw.zero.d) (.bool Nw.zero.s) (.slice Nw.zero.a Nw.zero.n Nw.zero.c) (.slice Nw.zero.b Nw.zero.m Nw.zero.d);obtain⟨x0,x1,x2,x3,x4,x5,x6,x7⟩:=X4'.reads;simp only[Nw.zero]at x0 x1 x2 x3 x4 x5 x6 x7;refine bodyPost_ret (v:= .tuple #[Tz 0 0 Nw.zero Nw.zero,.int .i64 z]) (by simp[results,results18,go_sem,Tz,Nw.zero,x0,x1,x2,x3,x4,x5,x6,x7]) rfl ?_;rw[HQ.out];exact Or.inl ⟨by rw[HZ.out];exact hz0,by rw[HZ.out],B9⟩
def exS:List Rl:=[⟨[(0,2)],2,5⟩]
theorem wQ (c:Rat)(x:Nat→Rat):val 1 (fA [(0,c)]) x=c*x 0:=by simp[val,sm,fA,jq,cq,Rat.zero_add]
theorem iO (x:Nat→Rat):qj (dP exS) 1 x↔2*x 0<5:=by
 have e:=wQ 2 x;constructor
 ·intro h;have:=h ⟨fA [(0,2)],2,5⟩ (by simp[dP,exS,Rl.ln]);unfold Ln.ok at this;simp only at this;rw[if_neg (by omega)]at this;simp only[if_true]at this;rw[e]at this;exact this
 intro h r hr;obtain rfl:r=⟨fA [(0,2)],2,5⟩:=by simpa[dP,exS,Rl.ln]using hr
 unfold Ln.ok;simp only;rw[if_neg (by omega)];simp only[if_true];rw[e];exact h
theorem Sl:∃x,qj (dP exS) 1 x:=⟨fun _=>0,(iO _).2 (by grind)⟩
theorem VY:jf (qj (dP exS) 1) (val 1 (fA [(0,1)])) (some (5/2,false)):=by
 refine⟨fun x hx=>?_,?_,fun d hd=>?_⟩
 ·have:=(iO x).1 hx;rw[wQ];grind
 ·rw[if_neg (by simp)];intro x hx;have:=(iO x).1 hx;rw[wQ];grind
 refine⟨fun _=>5/2-d/2,(iO _).2 (by grind),?_⟩;rw[wQ];grind
theorem ZU:jf (qj (dP exS) 1) (val 1 (fA (negC [(0,1)]))) none:=by
 intro M;have e:∀x,val 1 (fA (negC [(0,1)])) x= -1*x 0:=fun x=>wQ (-1) x;by_cases h:M≤0
 ·exact⟨fun _=>0,(iO _).2 (by grind),by rw[e];grind⟩
 exact⟨fun _=> -M,(iO _).2 (by grind),by rw[e];grind⟩
theorem ZV:bV (1:Nat) 2 [⟨0,⟨false,[2],[1]⟩⟩] ⟨false,[5],[1]⟩=0:=by decide
theorem ZW:bV (1:Nat) 3 [⟨0,⟨false,[1],[1]⟩⟩] ⟨false,[],[1]⟩=0:=by decide
theorem acC:bF ⟨false,[2],[1]⟩=2:=by decide
theorem acD:bF ⟨false,[5],[1]⟩=5:=by decide
theorem acE:bF ⟨false,[1],[1]⟩=1:=by decide
theorem Jj:tN 2 [⟨0,⟨false,[2],[1]⟩⟩] ⟨false,[5],[1]⟩=⟨[(0,2)],2,5⟩:=by show(⟨[((0:Int).toNat,bF ⟨false,[2],[1]⟩)],2,bF ⟨false,[5],[1]⟩⟩:Rl)=_;rw[acC,acD];rfl
theorem ZX:jO [⟨0,⟨false,[1],[1]⟩⟩]=[(0,1)]:=by show [((0:Int).toNat,bF ⟨false,[1],[1]⟩)]=_;rw[acE];rfl
theorem Aa {w:World}{x:Nat}{s:Bool}{a b:Option Addr}{n c m d:Nat}(h0:0<x)(h1:x<4294967296)(h:aO w (((x:Nat):Int):Rat) s a n c b m d):s=false∧dG w ⟨false,[x],[1]⟩ a n c b m d:=by
 refine⟨?_,?_,?_⟩
 ·rw[h.sg];rw[show(((x:Nat):Int):Rat).num=(x:Int) from rfl];simp
 ·have:=h.num;rwa[show(((x:Nat):Int):Rat).num.natAbs=x from rfl,bM (by omega),show x%4294967296=x from Nat.mod_eq_of_lt h1,show x/4294967296=0 from Nat.div_eq_of_lt h1,Nt.aA]at this
 have:=h.den;rwa[show(((x:Nat):Int):Rat).den=1 from rfl,show aC 1=[1] from by rw[bM (by omega)];simp[Nt.aA]]at this
theorem Sm {w:World}{g:Nat}{R:Raw}{a b:Option Addr}{n c m d:Nat}(hb:w.heap[g]? =some (.cells #[.int .i64 0,.bool R.neg,.slice a n c,.slice b m d] 72 (0,0))) (r:dG w R a n c b m d):kG w [⟨0,R⟩] (some ⟨g,0,none⟩):=by
 intro _;refine⟨g,0,rfl,fun i hi=>?_⟩;obtain rfl:i=0:=by simpa using hi
 refine⟨a,n,c,b,m,d,?_,?_,?_,?_,r⟩
 ·rw[cell_of_row w g _ _ _ _ hb];rfl
 ·rw[cell_of_row w g _ _ _ _ hb];rfl
 ·rw[cell_of_row w g _ _ _ _ hb];rfl
 rw[cell_of_row w g _ _ _ _ hb];rfl
section
variable {w w':World} {p n m c m' c':Nat} {a a':Option Addr}
theorem pI.XM (h:pI w p n (.slice a m c) (.slice a' m' c')){o:Nat}{v:Value}(e:w.cell? ⟨p,o,none⟩=some v):(∃x,v= .int .i64 x)∨∃a m c,v= .slice a m c:=by
 rw[cell_of_row w p o _ _ _ h]at e;rcases o with _ | _ | _ | o
 ·left;simp at e;exact⟨_,e.symm⟩
 ·right;simp at e;exact⟨_,_,_,e.symm⟩
 ·right;simp at e;exact⟨_,_,_,e.symm⟩
 simp at e
theorem pI.limb (h:pI w p n (.slice a m c) (.slice a' m' c'))(hw:∀b,b≠p→w'.heap[b]? =w.heap[b]?):aQ w w':=
 mg hw fun o x e=>by rcases h.XM e with⟨y,q⟩ | ⟨_,_,_,q⟩<;>simp at q
theorem pI.Sr (h:pI w p n (.slice a m c) (.slice a' m' c')){g o:Nat}{x:Bool}(e:w.cell? ⟨g,o,none⟩=some (.bool x)):g≠p:=fun q=>by subst q;rcases h.XM e with⟨y,q⟩ | ⟨_,_,_,q⟩<;>simp at q
theorem iE.beside {l:List (Nat×Rat)}{ca:Option Addr}(x:iE w l ca)(h:pI w p n (.slice a m c) (.slice a' m' c'))(hw:∀b,b≠p→w'.heap[b]? =w.heap[b]?):iE w' l ca:=by intro hne;obtain⟨g,o,e,k⟩:=x hne;refine⟨g,o,e,fun i hi=>?_⟩;obtain⟨N,c0,c1,c2,c3,r⟩:=k i hi;have gp:=h.Sr c1;exact⟨N,(aN (hw g gp) _).trans c0,(aN (hw g gp) _).trans c1,(aN (hw g gp) _).trans c2,(aN (hw g gp) _).trans c3,RA.limb r (h.limb hw)⟩
theorem jI.beside {l:List Rl}{ra:Option Addr}(x:jI w l ra)(h:pI w p n (.slice a m c) (.slice a' m' c'))(hw:∀b,b≠p→w'.heap[b]? =w.heap[b]?):jI w' l ra:=by
 obtain⟨vs,⟨v1,v2⟩,k⟩:=x;refine⟨vs,⟨v1,fun i hi=>?_⟩,fun hne=>?_⟩
 ·obtain⟨ca,cc,N,q,r⟩:=v2 i hi;exact⟨ca,cc,N,q,r.co.beside h hw,r.le,r.cap,RA.limb r.bd (h.limb hw)⟩
 obtain⟨g,o,e,j⟩:=k hne;have hl:0<l.length:=List.length_pos_iff.2 hne;obtain⟨ca,cc,N,q,r⟩:=v2 0 hl;have q2:=q 2 (by omega);have c2:=j (0*5+2) (.bool N.s) q2;have gp:=h.Sr c2;exact⟨g,o,e,fun i u hu=>(aN (hw g gp) _).trans (j i u hu)⟩
end
theorem KJ:(5/2:Rat)=mkRat 5 2:=by rw[Rat.mkRat_eq_div];rfl
theorem ZY {w:World}{a b:Option Addr}(h:bW w [5] a 1 1)(k:bW w [2] b 1 1):RA w (5/2) ⟨false,a,1,1,b,1,1⟩:=by
 rw[KJ];refine⟨?_,?_,?_⟩
 ·show false=decide ((mkRat 5 2).num<0);decide
 ·rw[show(mkRat 5 2).num.natAbs=5 from by decide,show aC 5=[5] from by rw[bM (by omega)];simp[Nt.aA]];exact h
 rw[show(mkRat 5 2).den=2 from by decide,show aC 2=[2] from by rw[bM (by omega)];simp[Nt.aA]];exact k
theorem abJ {w:World}{g ty x:Nat}(h:w.heap[g]? =some (.cells #[.int .u32 (x:Int)] ty (0,0))) (hx:x<4294967296):bW w [x] (some ⟨g,0,none⟩) 1 1:=by
 refine⟨fun _=>⟨g,0,rfl,fun i hi=>?_⟩,rfl,Nat.le_refl _,by omega,fun y hy=>by simp at hy;omega⟩;obtain rfl:i=0:=by simpa using hi
 rw[cell_of_row w g _ _ _ _ h];rfl
theorem Jk:∀i,i<exS.length→(rq exS i).Good 1:=fun i hi=>by
 obtain rfl:i=0:=by simpa[exS]using hi
 refine⟨⟨by simp[exS,rq],fun j hj=>?_⟩,?_⟩
 ·obtain rfl:j=0:=by simpa[exS,rq]using hj
  exact⟨by simp[exS,rq,cq],by show Ag 2;unfold Ag;decide⟩
 show Ag 5;unfold Ag;decide
theorem V3 {w:World}{p g:Nat}{a5 b5:Option Addr}{n5 c5 m5 d5:Nat}(hS:pI w p 1 (.slice none 0 0) (.slice none 0 0))(hl:kG w [⟨0,⟨false,[2],[1]⟩⟩] (some ⟨g,0,none⟩))(hB:dG w ⟨false,[5],[1]⟩ a5 n5 c5 b5 m5 d5):
  Calls prog 21 #[.pointer (some ⟨p,0,none⟩),.agg #[.slice (some ⟨g,0,none⟩) 1 1,.int .i64 2,.bool false,.slice a5 n5 c5,.slice b5 m5 d5]] w fun e w'=>e= .returned (.int .i64 0)∧(∃ra rc,XI w' p 1 1 rc ra (.slice none 0 0) exS)∧∀k,k≤p→k≤w.heap.size→Below k w w':=by
 refine(Si (okb:=true) (nc:=1) (cc:=1) (rows:=[]) (m:=0) (rc:=0) (ra:=none) (mv:= .slice none 0 0) (rel:=2) hS ⟨[],Di.nil w,fun h=>absurd rfl h⟩ rfl (by omega) (by omega) (by omega) (by omega) hl hB rfl (by omega) (by omega) ?_).mono ?_
 ·intro _ _ W Lc rc' hR;rw[Jj]at hR;refine(Vz (n:=1) (m:=1) (rc:=rc') (rows:=exS) ⟨hR,rfl,iE.nil _ _,⟨Nat.le_refl _,by omega⟩,by omega,by omega,Jk,jk.nil 1⟩ Sl).mono ?_;rintro e w' ⟨rfl,hb⟩;exact⟨_,rfl,hb⟩
 rintro e w' (⟨h,_⟩ | ⟨_,h,_⟩ | ⟨_,_,h,_⟩ | ⟨_,_,_,rfl,w1,Lc,rc',B1,RL1,h1,h2,rfl⟩)
 ·exact absurd ZV h
 ·omega
 ·simp at h
 rw[Jj]at RL1;have S1:=hS.below B1;have O1:=fun c (hc:c≠p)=>heap_setCell_other w1 ⟨p,1,none⟩ c (.slice Lc (0+1) rc') hc;exact⟨rfl,⟨Lc,rc',S1.set1 _,RL1.beside S1 O1,rfl,by omega,h2,by omega,by omega,Jk,Sl⟩,fun k hk hk2=>(B1.mono hk2).setCell hk _⟩
theorem SK {w:World}{p rc g:Nat}{ra:Option Addr}{mv:Value}(h:XI w p 1 1 rc ra mv exS)(hl:kG w [⟨0,⟨false,[1],[1]⟩⟩] (some ⟨g,0,none⟩)):
  Calls prog 18 #[.pointer (some ⟨p,0,none⟩),.slice (some ⟨g,0,none⟩) 1 1] w fun e w'=>∃Hi Lo:Nw,e= .returned (.tuple #[.agg #[.int .i64 0,.int .i64 2,.bool Lo.s,.slice Lo.a Lo.n Lo.c,.slice Lo.b Lo.m Lo.d,.bool Hi.s,.slice Hi.a Hi.n Hi.c,.slice Hi.b Hi.m Hi.d],.int .i64 0])∧RA w' (5/2) Hi∧Below w.heap.size w w':=by
 refine(range_any (nc:=1) (cc:=1) h hl rfl (by omega) (by omega)).mono ?_;rintro e w' (⟨h,_⟩ | ⟨_,u,v,Hi,Lo,hu,hv,rfl,eL,eH,hb⟩)
 ·exact absurd ZW h
 rw[ZX]at hu hv;obtain rfl:=hu.unique VY;obtain rfl:=hv.unique ZU;exact⟨Hi,Lo,rfl,eH,hb⟩
theorem EF (w:World):Calls prog 16 #[] w fun e w'=>e= .returned (.bool true)∧Below w.heap.size w w':=by
 go_enter func16,ntmps16;go_upto_region 2 with(go_at_call 23;refine(RI _).mono ?_;rintro e w1 ⟨p,rfl,pge,sy1,B1⟩;have SY1:=hid sy1;have BW1:=hid B1;have PG:=hid pge;clear sy1 B1 pge)
 go_upto_region 3 with(go_at_call 55;refine(VJ SY1.out (by omega)).mono ?_;rintro e w2 (⟨h,_⟩ | ⟨_,rfl,rfl⟩);omega)
 have SY2:Hid (pI (w1.setCell ⟨p,0,none⟩ (.int .i64 1)) p 1 (.slice none 0 0) (.slice none 0 0)):=SY1.out.set0;have Ai:Hid (Below w.heap.size w (w1.setCell ⟨p,0,none⟩ (.int .i64 1))):=BW1.out.setCell (p:=⟨p,0,none⟩) PG.out (.int .i64 1);clear SY1 BW1;generalize w1.setCell ⟨p,0,none⟩ (.int .i64 1)=W2 at*;go_upto_region 4 with(first
  | (go_at_call 34;refine(sJ 2 (by omega) _).mono ?_;rintro e w3 ⟨s3,a3,n3,c3,b3,m3,d3,rfl,L3,B3⟩;obtain⟨rfl,R3⟩:=Aa (x:=2) (by omega) (by omega) L3;have NB:=ah w3 (.cells #[.int .i64 0,.bool false,.slice a3 n3 c3,.slice b3 m3 d3] 72);have X4:Hid ((w3.alloc (.cells #[.int .i64 0,.bool false,.slice a3 n3 c3,.slice b3 m3 d3] 72)).heap[w3.heap.size]? =some (.cells #[.int .i64 0,.bool false,.slice a3 n3 c3,.slice b3 m3 d3] 72 (0,0))):=heap_alloc_new w3 _;have R4:=hid (R3.below NB);have BW4:=hid (aB Ai.out (aB B3 NB));have SY4:=hid ((SY2.out.below B3).below NB);clear L3 R3 NB B3)
  | (go_at_call 34;go_loud (refine(sJ 5 (by omega) _).mono ?_;rintro e w5 ⟨s5,a5,n5,c5,b5,m5,d5,rfl,L5,B5⟩;obtain⟨rfl,R5⟩:=Aa (x:=5) (by omega) (by omega) L5;have C21:=hid (V3 (SY4.out.below B5) (Sm ((B5.block _ (Array.getElem?_eq_some_iff.1 X4.out).1).trans X4.out) (R4.out.below B5)) R5);have Lp:=hid (aB BW4.out B5);clear L5 R5 B5 X4 R4 BW4 SY4))
  | (go_at_call 21;refine C21.out.mono ?_;rintro e w6 ⟨rfl,⟨ra,rc,hSR⟩,hB⟩;have SR6:=hid hSR;have uI:=hid (Below.trans Lp.out (hB w.heap.size PG.out Lp.out.size));clear hSR hB C21 Lp))
 go_upto_region 5 with(first
  | (go_at_call 34;refine(sJ 1 (by omega) _).mono ?_;rintro e w7 ⟨s7,a7,n7,c7,b7,m7,d7,rfl,L7,B7⟩;obtain⟨rfl,R7⟩:=Aa (x:=1) (by omega) (by omega) L7;have NB:=ah w7 (.cells #[.int .i64 0,.bool false,.slice a7 n7 c7,.slice b7 m7 d7] 72);have X8:(w7.alloc (.cells #[.int .i64 0,.bool false,.slice a7 n7 c7,.slice b7 m7 d7] 72)).heap[w7.heap.size]? =some (.cells #[.int .i64 0,.bool false,.slice a7 n7 c7,.slice b7 m7 d7] 72 (0,0)):=heap_alloc_new w7 _;have C18:=hid (SK ((SR6.out.below B7).below NB) (Sm X8 (R7.below NB)));have BW8:=hid (aB uI.out (aB B7 NB));clear L7 R7 NB B7 X8)
  | (go_at_call 18;refine C18.out.mono ?_;rintro e w9 ⟨Hi,Lo,rfl,hH,hB⟩;have H9:=hid hH;have Eb:=hid (aB BW8.out hB);clear hH hB C18 BW8))
 have X10:jM (w9.alloc (.cells #[.int .i64 0,.int .i64 2,.bool Lo.s,.slice Lo.a Lo.n Lo.c,.slice Lo.b Lo.m Lo.d,.bool Hi.s,.slice Hi.a Hi.n Hi.c,.slice Hi.b Hi.m Hi.d] 42)) w9.heap.size 0 2 Lo Hi:=heap_alloc_new w9 _;have Z5:=ah w9 (.cells #[.int .i64 0,.int .i64 2,.bool Lo.s,.slice Lo.a Lo.n Lo.c,.slice Lo.b Lo.m Lo.d,.bool Hi.s,.slice Hi.a Hi.n Hi.c,.slice Hi.b Hi.m Hi.d] 42);have H10:=hid (aO.below H9.out Z5);have VW:=hid (aB Eb.out Z5);clear H9 Eb Z5;generalize w9.alloc (.cells #[.int .i64 0,.int .i64 2,.bool Lo.s,.slice Lo.a Lo.n Lo.c,.slice Lo.b Lo.m Lo.d,.bool Hi.s,.slice Hi.a Hi.n Hi.c,.slice Hi.b Hi.m Hi.d] 42)=Ko at*;obtain⟨g10,MO⟩:∃g,w9.heap.size=g:=⟨_,rfl⟩;rw[MO]at X10⊢;clear MO;obtain⟨q0,q1,_,_,_,q5,q6,q7⟩:=X10.reads;go_upto_region 7 with fail
 have B1:=ah Ko (.cells #[.int .u32 5] 111);have Y1:(Ko.alloc (.cells #[.int .u32 5] 111)).heap[Ko.heap.size]? =some (.cells #[.int .u32 ((5:Nat):Int)] 111 (0,0)):=heap_alloc_new Ko _;have B2:=ah (Ko.alloc (.cells #[.int .u32 5] 111)) (.cells #[.int .u32 2] 111);have Y2:((Ko.alloc (.cells #[.int .u32 5] 111)).alloc (.cells #[.int .u32 2] 111)).heap[(Ko.alloc (.cells #[.int .u32 5] 111)).heap.size]? =some (.cells #[.int .u32 ((2:Nat):Int)] 111 (0,0)):=heap_alloc_new _ _;rw[show(Ko.alloc (.cells #[.int .u32 5] 111)).heap.size=Ko.heap.size+1 from by simp]at Y2;have R:=ZY ((abJ Y1 (by omega)).below B2) (abJ Y2 (by omega));have C:=hid (same_eq (aO.below (aO.below H10.out B1) B2) R);have acF:=hid (Below.over (aB VW.out B1) (Nat.le_trans VW.out.size B1.size) B2);clear B1 B2 Y1 Y2 R X10;go_wp2_with (go_at_call 33;refine C.out.mono ?_;rintro e nX ⟨rfl,B13⟩;have acG:=hid (aB acF.out B13);clear B13);go_ret;exact⟨rfl,acG.out⟩
end Go.Proofs.YtijdglogadnbcaaGreat
namespace Go.Proofs.YtijdglogadnbcaaGreat
open Go.Proofs.Tryz
open Go.RowKit Nt Bl
end Go.Proofs.YtijdglogadnbcaaGreat
namespace Go.Proofs.YtijdglogadnbcaaGreat
open Go.Proofs.Tryz
open Go.RowKit Nt Bl
structure Rw where
 rel:Int
 l:List Cf
 B:Raw
instance:Inhabited Rw:=⟨⟨0,[],default⟩⟩
def Rw.q (R:Rw):Rl:=tN R.rel R.l R.B
def rws (l:List Rw):List Rl:=l.map Rw.q
def aX (l:List Rw)(i:Nat):Rw:=l.getD i default
def Adm (n:Nat)(l:List Rw):Prop:=(∀R,R∈l→bV (n:Int) R.rel R.l R.B=0)∧l.length≤40∧∃x,qj (dP (rws l)) n x
theorem Jw {l:List Rw}{i:Nat}(h:i<l.length):l.take (i+1)=l.take i++[aX l i]:=by rw[List.take_succ_eq_append_getElem h];unfold aX;rw[List.getD_eq_getElem?_getD,List.getElem?_eq_getElem h];rfl
def rw5 (R:Rw)(ca:Option Addr)(cc:Nat)(N:Nw):List Value:=[.slice ca R.l.length cc,.int .i64 R.rel,.bool R.B.neg,.slice N.a N.n N.c,.slice N.b N.m N.d]
structure Q5 (w:World)(R:Rw)(ca:Option Addr)(cc:Nat)(N:Nw):Prop where
 co:kG w R.l ca
 le:R.l.length≤cc
 cap:cc≤9223372036854775807
 bd:dG w R.B N.a N.n N.c N.b N.m N.d
theorem Q5.below {w w':World}{R:Rw}{ca:Option Addr}{cc:Nat}{N:Nw}(h:Q5 w R ca cc N)(hb:Below w.heap.size w w'):Q5 w' R ca cc N:=⟨h.co.below hb,h.le,h.cap,h.bd.below hb⟩
def KX (w:World)(l:List Rw)(vs:List Value):Prop:=vs.length=l.length*5∧∀i,i<l.length→∃ca cc N,(∀k,k<5→vs[i*5+k]? =(rw5 (aX l i) ca cc N)[k]?)∧Q5 w (aX l i) ca cc N
theorem KX.below {w w':World}{l:List Rw}{vs:List Value}(h:KX w l vs)(hb:Below w.heap.size w w'):KX w' l vs:=
 ⟨h.1,fun i hi=>by obtain⟨ca,cc,N,a,b⟩:=h.2 i hi;exact⟨ca,cc,N,a,b.below hb⟩⟩
theorem KX.nil (w:World):KX w [] []:=⟨rfl,fun i hi=>absurd hi (Nat.not_lt_zero _)⟩
theorem sN {l:List Rw}{R:Rw}{i:Nat}(h:i<l.length):aX (l++[R]) i=aX l i:=by unfold aX;rw[List.getD_eq_getElem?_getD,List.getD_eq_getElem?_getD,List.getElem?_append_left h]
theorem xR {l:List Rw}{R:Rw}:aX (l++[R]) l.length=R:=by unfold aX;rw[List.getD_eq_getElem?_getD,List.getElem?_append_right (Nat.le_refl _)];simp
theorem KX.push {w:World}{l:List Rw}{vs:List Value}{R:Rw}{ca:Option Addr}{cc:Nat}{N:Nw}(h:KX w l vs)(r:Q5 w R ca cc N):KX w (l++[R]) (vs++rw5 R ca cc N):=by
 refine⟨by simp[h.1,rw5];omega,fun i hi=>?_⟩;rw[List.length_append,List.length_singleton]at hi;by_cases e:i<l.length
 ·obtain⟨ca',cc',N',a,b⟩:=h.2 i e;rw[sN e];refine⟨ca',cc',N',fun k hk=>?_,b⟩;rw[List.getElem?_append_left (by rw[h.1];omega)];exact a k hk
 obtain rfl:i=l.length:=by omega
 rw[xR];refine⟨ca,cc,N,fun k hk=>?_,r⟩;rw[List.getElem?_append_right (by rw[h.1];omega),h.1,Nat.add_sub_cancel_left]
def lT (w:World)(l:List Rw)(ra:Option Addr):Prop:=∃vs,KX w l vs∧(l≠[]→∃g o,ra=some ⟨g,o,none⟩∧∀j u,vs[j]? =some u→w.cell? ⟨g,o+j,none⟩=some u)
theorem lT.below {w w':World}{l:List Rw}{ra:Option Addr}(h:lT w l ra)(hb:Below w.heap.size w w'):lT w' l ra:=by obtain⟨vs,a,b⟩:=h;refine⟨vs,a.below hb,fun hne=>?_⟩;obtain⟨g,o,e,k⟩:=b hne;exact⟨g,o,e,fun j u hu=>aj hb (k j u hu)⟩
theorem lT.row {w:World}{l:List Rw}{ra:Option Addr}(h:lT w l ra){i:Nat}(hi:i<l.length):∃g o ca cc N,ra=some ⟨g,o,none⟩∧Q5 w (aX l i) ca cc N∧
  w.cell? ⟨g,o+i*5,none⟩=some (.slice ca (aX l i).l.length cc)∧w.cell? ⟨g,o+i*5+1,none⟩=some (.int .i64 (aX l i).rel)∧w.cell? ⟨g,o+i*5+2,none⟩=some (.bool (aX l i).B.neg)∧w.cell? ⟨g,o+i*5+3,none⟩=some (.slice N.a N.n N.c)∧w.cell? ⟨g,o+i*5+4,none⟩=some (.slice N.b N.m N.d):=by
 obtain⟨vs,a,b⟩:=h;obtain⟨g,o,e,k⟩:=b (by rintro rfl;simp at hi);obtain⟨ca,cc,N,q,r⟩:=a.2 i hi;have f:∀j u,j<5→(rw5 (aX l i) ca cc N)[j]? =some u→w.cell? ⟨g,o+i*5+j,none⟩=some u:=fun j u hj hu=>by have:=k (i*5+j) u ((q j hj).trans hu);rwa[←Nat.add_assoc]at this
 exact⟨g,o,ca,cc,N,e,r,f 0 _ (by omega) rfl,f 1 _ (by omega) rfl,f 2 _ (by omega) rfl,f 3 _ (by omega) rfl,f 4 _ (by omega) rfl⟩
end Go.Proofs.YtijdglogadnbcaaGreat
