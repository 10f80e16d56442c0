/- Problem.raise. Printed by genRz.py. -/
import Derived.Test.YtijdglogadnbcaaGreatY28
set_option linter.unusedVariables false
set_option linter.unusedSimpArgs false
set_option maxRecDepth 100000
set_option maxHeartbeats 40000000
namespace Go.Proofs.YtijdglogadnbcaaGreat
open Go.Proofs.Tryz
open Go.RowKit Nt Bl
def QN:Option (V×Option Nat)→Int
 | some (_,some r)=>(r:Int)
 | _=> -1
def RzV (W:World)(x:Option (V×Option Nat))(M S:Nw):Prop:=∀l b,x=some (l,b)→RA W l.m M∧RA W l.s S
theorem RzV.below {W W':World}{x:Option (V×Option Nat)}{M S:Nw}(h:RzV W x M S)(hb:Below W.heap.size W W'):RzV W' x M S:=
 fun l b e=>⟨(h l b e).1.below hb,(h l b e).2.below hb⟩
theorem RZ0 (P:Pb)(g c:Nat)(rs:Bool):QN (P.lW g c rs 0)= -1:=by
 unfold Pb.lW
 cases (if rs then P.high (P.free c)else P.low (P.free c))<;>rfl
def RzL (n0:Nat)(w:World)(P:Pb)(g c:Nat)(rs:Bool)(gl:Nat)(v10 v11 v75:Value)(wr:World):Prop:=
 ∃i:Nat,i≤P.m∧v75= .int .i64 (i:Int)∧v10= .int .i64 (QN (P.lW g c rs i))∧v11= .bool (P.lW g c rs i).isSome∧Below w.heap.size w wr∧
  ∃M S:Nw,VB wr gl M S∧RzV wr (P.lW g c rs i) M S
theorem Zx {n0 g c:Nat}{w:World}{L:Lay}{P:Pb}(h:eY n0 w L P)(hp:P.Pl)(hs:uz P 1048576)(hg:g<P.m)(hc:c<P.n):
  Calls prog 163 #[.pointer (some ⟨L.p,0,none⟩),.int .i64 (g:Int),.int .i64 (c:Int)] w fun e w'=>(P.rz g c=none∧e= .returned (.bool false)∧Below w.heap.size w w')∨
   ∃Q,P.rz g c=some Q∧e= .returned (.bool true)∧eY n0 w' L Q∧Below n0 w w'∧aQ w w'∧Own L P w w':=by
 have nm:=h.nm;have cp:=h.cp;obtain⟨N,hN⟩:∃N,P.n+P.m=N:=⟨_,rfl⟩;obtain⟨m,hm'⟩:∃m,P.m=m:=⟨_,rfl⟩;obtain⟨n,hn⟩:∃n,P.n=n:=⟨_,rfl⟩;have rH:n0≤w.heap.size:=Nat.le_of_lt (Nat.lt_of_le_of_lt h.ge.1 h.no.blk.lt);have JU:0<P.n:=by omega
 rw[hm']at nm cp;rw[hn]at nm cp;have HN:=hid hN;have HM:=hid hm';have jo:=hid hn;have ug:=hid h;have PL:=hid hp;have SZ:=hid hs;have HC:=hid hc;have HGm:=hid hg;have HD:=hid (fun(W:World) (h:eY n0 W L P)=>(show W.cell? ⟨L.p,1,none⟩=some (.slice (some ⟨L.low,0,none⟩) N N)∧W.cell? ⟨L.p,2,none⟩=some (.slice (some ⟨L.high,0,none⟩) N N)∧W.cell? ⟨L.p,3,none⟩=some (.slice (some ⟨L.now,0,none⟩) N N)∧W.cell? ⟨L.p,4,none⟩=some (.slice (some ⟨L.mY,0,none⟩) m L.qI)∧W.cell? ⟨L.p,5,none⟩=some (.slice (some ⟨L.jw,0,none⟩) n L.rY)∧W.cell? ⟨L.p,6,none⟩=some (.slice (some ⟨L.tab,0,none⟩) m L.tZ) from by have:=h.head;rw[hN,hm',hn,(h.fr JU).1]at this;exact this.2))
 have LI:=hid (fun(W:World) (h:eY n0 W L P) (i:Nat) (hi:i<P.m)=>(show W.cell? ⟨L.tab,i,none⟩=some (.slice (some ⟨L.line i,0,none⟩) n n)∧fE W (L.line i) P.n (P.T i) from by obtain⟨la,li⟩:=h.li JU i hi;have ti:=h.ta i hi;rw[la,hn]at ti;exact⟨ti,li⟩))
 obtain⟨v,hv⟩:∃v,P.free c=v:=⟨_,rfl⟩;have vN:v<N:=by rw[←hv,←hN];exact hp.flt c hc
 have HV:=hid hv;have g0:(0:Int)≤(g:Int):=by omega
 have g1:(g:Int)<(m:Int):=by omega
 have c0:(0:Int)≤(c:Int):=by omega
 have c1:(c:Int)<(n:Int):=by omega
 have v0:(0:Int)≤(v:Int):=by omega
 have v1:(v:Int)<(N:Int):=by omega
 obtain⟨rs,hrs⟩:∃rs,P.rising g c=rs:=⟨_,rfl⟩;obtain⟨z,hz⟩:∃z,aV (P.T g c)=z:=⟨_,rfl⟩;have ZR:Hid (decide (0<z)=rs):=by show _=_;rw[←hz,←hrs];rfl
 have HRS:=hid hrs;have HZ:=hid hz;obtain⟨q1,q2,q3,q4,q5,q6⟩:=HD.out w ug.out;obtain⟨tr,li⟩:=LI.out w ug.out g hg;obtain⟨E,e0,e1,e2,rE⟩:=li.at_ c hc;have SG:=dM rE;rw[hz]at SG;have SG:=hid SG;clear h hp hs hc hg hN hm' hn hv JU hrs hz li rE;go_enter func163,ntmps163;go_upto_region 2 with fail
 refine SG.out.mono ?_;rintro e w1 ⟨rfl,B1⟩;have A1:=ug.out.below B1;clear q1 q2 q3 q4 q5 q6 tr e0 e1 e2 SG;obtain⟨q1,q2,q3,q4,q5,q6⟩:=HD.out w1 A1;have p:w1.cell? ⟨L.jw,c,none⟩=some (.int .i64 (v:Int)):=by rw[←HV.out];exact(A1.fr (by have:=HC.out;omega)).2.at_ c HC.out
 have vN2:v<P.n+P.m:=by rw[HN.out];exact vN
 go_upto_region 4 with fail
 have BA:=aB B1 (ah w1 (.cells #[.bool false,.slice none 0 0,.slice none 0 0,.bool false,.slice none 0 0,.slice none 0 0] 174));have X9:VB (w1.alloc (.cells #[.bool false,.slice none 0 0,.slice none 0 0,.bool false,.slice none 0 0,.slice none 0 0] 174)) w1.heap.size Nw.zero Nw.zero:=heap_alloc_new w1 _;have A2:=ug.out.below BA;obtain⟨gl,hgl⟩:∃gl,w1.heap.size=gl:=⟨_,rfl⟩;have gw:w.heap.size≤gl:=by rw[←hgl];exact B1.size
 rw[hgl]at X9⊢;clear q1 q2 q3 q4 q5 q6 A1 B1 p;generalize w1.alloc (.cells #[.bool false,.slice none 0 0,.slice none 0 0,.bool false,.slice none 0 0,.slice none 0 0] 174)=W0 at*;clear hgl;clear w1;rw[ZR.out];obtain⟨q1,q2,q3,q4,q5,q6⟩:=HD.out W0 A2;obtain⟨his,o9,pF,hev,h0,h1,h2,h3,h4,h5,h6⟩:=(A2.hi.at_ v vN2).r7;obtain⟨DI,oD,pG,rC,l0,l1,l2,l3,l4,l5,l6⟩:=(A2.lo.at_ v vN2).r7;have KP:=hid (fun(W:World) (hB:Below W0.heap.size W0 W)=>(show W.cell? ⟨L.p,1,none⟩=some (.slice (some ⟨L.low,0,none⟩) N N)∧W.cell? ⟨L.p,2,none⟩=some (.slice (some ⟨L.high,0,none⟩) N N)∧W.cell? ⟨L.p,3,none⟩=some (.slice (some ⟨L.now,0,none⟩) N N)∧W.cell? ⟨L.low,v*7,none⟩=some (.bool DI)∧W.cell? ⟨L.low,v*7+1,none⟩=some (.bool oD.s)∧W.cell? ⟨L.low,v*7+2,none⟩=some (.slice oD.a oD.n oD.c)∧W.cell? ⟨L.low,v*7+3,none⟩=some (.slice oD.b oD.m oD.d)∧W.cell? ⟨L.low,v*7+4,none⟩=some (.bool pG.s)∧W.cell? ⟨L.low,v*7+5,none⟩=some (.slice pG.a pG.n pG.c)∧W.cell? ⟨L.low,v*7+6,none⟩=some (.slice pG.b pG.m pG.d) from⟨aj hB q1,aj hB q2,aj hB q3,aj hB l0,aj hB l1,aj hB l2,aj hB l3,aj hB l4,aj hB l5,aj hB l6⟩));have hev:=hid hev;have rC:=hid rC;have A2:=hid A2;have BA:=hid BA;have X9:=hid X9;go_upto_if 49 with fail
 have Xu:=Below.over (Below.refl W0.heap.size W0) (Nat.le_refl _) (ah W0 (.cells #[.bool his,.bool o9.s,.slice o9.a o9.n o9.c,.slice o9.b o9.m o9.d,.bool pF.s,.slice pF.a pF.n pF.c,.slice pF.b pF.m pF.d] 222));have X12:EB (W0.alloc (.cells #[.bool his,.bool o9.s,.slice o9.a o9.n o9.c,.slice o9.b o9.m o9.d,.bool pF.s,.slice pF.a pF.n pF.c,.slice pF.b pF.m pF.d] 222)) W0.heap.size his o9 pF:=heap_alloc_new W0 _;have hev:=hev.out.below Xu;have rC:=rC.out.below Xu;obtain⟨q1,q2,q3,l0,l1,l2,l3,l4,l5,l6⟩:=KP.out _ Xu;have gl0:gl<W0.heap.size:=X9.out.lt;clear h0 h1 h2 h3 h4 h5 h6 q4 q5 q6 KP;generalize W0.alloc (.cells #[.bool his,.bool o9.s,.slice o9.a o9.n o9.c,.slice o9.b o9.m o9.d,.bool pF.s,.slice pF.a pF.n pF.c,.slice pF.b pF.m pF.d] 222)=W1 at*;obtain⟨g12,Zy⟩:∃g12,W0.heap.size=g12:=⟨_,rfl⟩;have acn:=hid Zy;rw[Zy]at X12 gl0 Xu⊢;obtain⟨_,_,_,_,_,_,_,fz⟩:=X12.reads;have fz0:=fz 0;have iD:=fz 1;have jh:=fz 2;have fz3:=fz 3;have kC:=fz 4;have lD:=fz 5;have Dz:=fz 6;have X12:=hid X12;have hev:=hid hev;have rC:=hid rC;have Xu:=hid Xu;clear fz Zy;refine dK (Zu (eh:=P.high v) (el:=P.low v) q1 l0 l1 l2 l3 l4 l5 l6 X12.out hev.out rC.out vN fun is M12 fB x50 Xq x52 x53 x54 x55 x56 wc aco hX hE=> ?rest) (fun _ _ h=>h)
 case rest=>
  have hB:Below W0.heap.size W0 wc:=by rw[acn.out];exact Below.trans Xu.out aco
  have A3:=A2.out.below hB;have BA3:=aB BA.out hB;have X3:=X9.out.later hB X9.out.lt;obtain⟨b0,b1,b2,b3,b4,b5,b6,_⟩:=hX.reads;clear X9 A2 BA hev rC X12 Xu hB q1 q2 q3 l0 l1 l2 l3 l4 l5 l6 fz0 iD jh fz3 kC lD Dz;obtain⟨W2,rfl⟩:∃W2:World,W2=wc:=⟨_,rfl⟩;have R0:Hid (P.lW g c rs 0=(if rs then P.high v else P.low v).map fun e=>(bJ e (P.now v) rs,none)):=by show _=_;rw[←HV.out];rfl
  have RP0:=qL (g:=g) (rs:=rs) PL.out SZ.out HC.out 0 (Nat.zero_le _);have SE:∀u,(if rs then P.high v else P.low v)=some u→Sz u.m 1048576∧Sz u.s 1048576:=fun u hu=>by
   have hb:v<P.n+P.m:=by rw[HN.out];exact vN
   split at hu
   ·exact SZ.out.high v u hb hu
   exact SZ.out.low v u hb hu
  obtain⟨x0,hx0⟩:∃x0,P.lW g c rs 0=x0:=⟨_,rfl⟩;have HX0:=hid hx0;rw[hx0]at R0;obtain⟨en,hen⟩:∃en,(if rs then P.high v else P.low v)=en:=⟨_,rfl⟩;rw[hen]at R0 hE SE;have A3:=hid A3;have BA3:=hid BA3;have X3:=hid X3;have hE:=hid hE;have SE:=hid SE;clear RP0 hx0 hen hX;go_upto_if 58 with fail
  have vN2:v<P.n+P.m:=by rw[HN.out];exact vN
  obtain⟨M,S,r1,r2,c0',c1',c2',c3',Xr,Xt⟩:=(A3.out.no.at_ v vN2).reads;have q3:=(HD.out W2 A3.out).2.2.1;refine dK (Zv (nb:=P.now v) (en:=en) q3 b0 b1 b2 b3 b4 b5 b6 c0' c1' c2' c3' Xr Xt hE.out ⟨r1,r2⟩ SE.out (SZ.out.now v vN2) X3.out vN fun M0 S0 x59 x60 x61 x62 x63 x64 x65 x66 x67 x68 x69 wc hX hL hB1=> ?rest) (fun _ _ h=>h)
  case rest=>
   have IS:is=x0.isSome:=by rw[hE.out.Xa,R0.out];cases en<;>rfl
   subst IS;have hB:Below w.heap.size w wc:=Below.trans BA3.out (hB1.mono gw);have hV:RzV wc x0 M0 S0:=fun l b h=>by rw[R0.out,Option.map_eq_some_iff]at h;obtain⟨u,e1,e2⟩:=h;simp only[Prod.mk.injEq]at e2;obtain⟨rfl,rfl⟩:=e2;exact hL u e1
   clear hL hB1 r1 r2 c0' c1' c2' c3' Xr Xt q3 b0 b1 b2 b3 b4 b5 b6;have J0:Hid (RzL n0 w P g c rs gl (.int .i64 (-1)) (.bool x0.isSome) (.int .i64 0) wc):=by refine⟨0,Nat.zero_le _,rfl,?_,by rw[HX0.out],hB,M0,S0,hX,by rw[HX0.out];exact hV⟩;have RP:=RZ0 P g c rs;rw[RP]
   clear hB hX hV SE hE R0 X3 BA3;have A3:=hid (ug.out.below J0.out.choose_spec.2.2.2.2.1);obtain⟨q1,q2,q3,q4,q5,q6⟩:=HD.out wc A3.out;have RP:=hid (qL (g:=g) (rs:=rs) PL.out SZ.out HC.out);go_wp2_with fail;go_loopw [10,11,75] (fun v10 v11 v75 wr=>RzL n0 w P g c rs gl v10 v11 v75 wr) (fun _ _ v _=>m-(intOf v).toNat)
   case atStart=>exact J0.out
   clear J0 A3 q1 q2 q3 q4 q5 q6;obtain⟨i,hi,rfl,rfl,rfl,hB,M0,S0,hX,hV⟩:=hrel;rw[HM.out]at hi;have A:=hid (ug.out.below hB);have BR:=hid hB;have X9:=hid hX;have VV:=hid hV;clear hB hX hV;obtain⟨q1,q2,q3,q4,q5,q6⟩:=HD.out wr A.out;by_cases hlt:i<m
   ·have hlt2:i<P.m:=by rw[HM.out];exact hlt
    obtain⟨tr,li⟩:=LI.out wr A.out i hlt2;obtain⟨E,e0,e1,e2,rE⟩:=li.at_ c HC.out;obtain⟨zi,hzi⟩:∃zi,aV (P.T i c)=zi:=⟨_,rfl⟩;have SG:=dM rE;rw[hzi]at SG;have SG:=hid SG;have HZI:=hid hzi;obtain⟨b,hb⟩:∃b,P.basic i=b:=⟨_,rfl⟩;have bN:b<N:=by rw[←hb,←HN.out];exact PL.out.blt i hlt2
    have HB:=hid hb;have i0:(0:Int)≤(i:Int):=by omega
    have i1:(i:Int)<(m:Int):=by omega
    have b00:(0:Int)≤(b:Int):=by omega
    have b01:(b:Int)<(N:Int):=by omega
    clear li rE hzi hb;obtain⟨bi,hbi⟩:∃bi,QN (P.lW g c rs i)=bi:=⟨_,rfl⟩;obtain⟨li,hli⟩:∃li,(P.lW g c rs i).isSome=li:=⟨_,rfl⟩;have HBI:=hid hbi;have HLI:=hid hli;rw[hbi,hli];clear hbi hli;go_upto_region 14 with fail
    refine SG.out.mono ?_;rintro e w5 ⟨rfl,B5⟩;have A5:=hid (A.out.below B5);have Y8:=hid (aB BR.out B5);have X5:=hid (X9.out.later B5 X9.out.lt);have V5:=hid (VV.out.below B5);clear q1 q2 q3 q4 q5 q6 tr e0 e1 e2 SG B5 A BR X9 VV;obtain⟨q1,q2,q3,q4,q5,q6⟩:=HD.out w5 A5.out;have STAY:Hid (P.stop g c rs i=none→RzL n0 w P g c rs gl (.int .i64 bi) (.bool li) (.int .i64 ((i:Int)+1)) w5):=fun h=>by refine⟨i+1,by rw[HM.out];omega,rfl,by rw[iL h,HBI.out],by rw[iL h,HLI.out],Y8.out,M0,S0,X5.out,by rw[iL h];exact V5.out⟩
    by_cases z0:zi=0
    ·have T0:Hid (P.stop g c rs i=none):=nS (Or.inl (aY.1 (by rw[HZI.out];exact z0)));have zb:(zi==0)=true:=by simp[z0]
     clear z0;go_wp2_with fail;go_roundw
     case rel=>exact STAY.out T0.out
     simp[intOf];omega
    have zb:(zi==0)=false:=by simp[z0]
    have TN:Hid (P.T i c≠0):=fun h=>z0 (by rw[←HZI.out];exact aY.2 h);clear z0;by_cases ig:i=g
    ·have T0:Hid (P.stop g c rs i=none):=nS (Or.inr ig);have gb:((i:Int)==(g:Int))=true:=by simp[ig]
     clear ig;go_wp2_with fail;go_roundw
     case rel=>exact STAY.out T0.out
     simp[intOf];omega
    have gb:((i:Int)==(g:Int))=false:=by simp;omega
    have IG:=hid ig;clear ig;have pb:w5.cell? ⟨L.mY,i,none⟩=some (.int .i64 (b:Int)):=by rw[←HB.out];exact A5.out.ba.at_ i hlt2
    obtain⟨up,hup⟩:∃up,(decide (0<zi)==rs)=up:=⟨_,rfl⟩;have HU:=hid hup;have SE:Hid (P.stop g c rs i=(if up then P.high b else P.low b).map fun e=>V.mul (1/dR (P.T i c)) (bJ e (P.now b) up)):=by have:=qM (P:=P) (g:=g) (rs:=rs) (up:=up) TN.out IG.out (by rw[HZI.out];exact HU.out);rw[HB.out]at this;exact this
    clear hup;go_upto_region 17 with fail
    rw[HU.out];have bN2:b<P.n+P.m:=by rw[HN.out];exact bN
    obtain⟨his,o9,pF,hev,h0,h1,h2,h3,h4,h5,h6⟩:=(A5.out.hi.at_ b bN2).r7;obtain⟨DI,oD,pG,rC,l0,l1,l2,l3,l4,l5,l6⟩:=(A5.out.lo.at_ b bN2).r7;have Xv:=Below.over (Below.refl w5.heap.size w5) (Nat.le_refl _) (ah w5 (.cells #[.bool DI,.bool oD.s,.slice oD.a oD.n oD.c,.slice oD.b oD.m oD.d,.bool pG.s,.slice pG.a pG.n pG.c,.slice pG.b pG.m pG.d] 222));have J9:EB (w5.alloc (.cells #[.bool DI,.bool oD.s,.slice oD.a oD.n oD.c,.slice oD.b oD.m oD.d,.bool pG.s,.slice pG.a pG.n pG.c,.slice pG.b pG.m pG.d] 222)) w5.heap.size DI oD pG:=heap_alloc_new w5 _;have KP:=hid (fun(W:World) (hB:Below w5.heap.size w5 W)=>(show W.cell? ⟨L.p,2,none⟩=some (.slice (some ⟨L.high,0,none⟩) N N)∧W.cell? ⟨L.high,b*7,none⟩=some (.bool his)∧W.cell? ⟨L.high,b*7+1,none⟩=some (.bool o9.s)∧W.cell? ⟨L.high,b*7+2,none⟩=some (.slice o9.a o9.n o9.c)∧W.cell? ⟨L.high,b*7+3,none⟩=some (.slice o9.b o9.m o9.d)∧W.cell? ⟨L.high,b*7+4,none⟩=some (.bool pF.s)∧W.cell? ⟨L.high,b*7+5,none⟩=some (.slice pF.a pF.n pF.c)∧W.cell? ⟨L.high,b*7+6,none⟩=some (.slice pF.b pF.m pF.d) from⟨aj hB q2,aj hB h0,aj hB h1,aj hB h2,aj hB h3,aj hB h4,aj hB h5,aj hB h6⟩));have hev:=hid hev;have rC:=hid rC;have Xv:=hid Xv;have J9:=hid J9;obtain⟨E9,W9,R9⟩:∃E9 W9,E9=0∧W9=w5:=⟨0,w5,rfl,rfl⟩;go_upto_if 110 with fail
    have hev:=hev.out.below Xv.out;have rC:=rC.out.below Xv.out;clear R9 W9 E9 q1 q2 q3 q4 q5 q6 pb h0 h1 h2 h3 h4 h5 h6 l0 l1 l2 l3 l4 l5 l6;obtain⟨q2,h0,h1,h2,h3,h4,h5,h6⟩:=KP.out _ Xv.out;have acp:gl<w5.heap.size:=X5.out.lt;clear KP;generalize w5.alloc (.cells #[.bool DI,.bool oD.s,.slice oD.a oD.n oD.c,.slice oD.b oD.m oD.d,.bool pG.s,.slice pG.a pG.n pG.c,.slice pG.b pG.m pG.d] 222)=W1 at*;obtain⟨g18,Zz⟩:∃g18,w5.heap.size=g18:=⟨_,rfl⟩;have acr:=hid Zz;rw[Zz]at J9 Xv acp⊢;obtain⟨_,_,_,_,_,_,_,fz⟩:=J9.out.reads;have fz0:=fz 0;have iD:=fz 1;have jh:=fz 2;have fz3:=fz 3;have kC:=fz 4;have lD:=fz 5;have Dz:=fz 6;have hev:=hid hev;have rC:=hid rC;clear fz Zz;refine dK (Vt (eh:=P.high b) (el:=P.low b) q2 h0 h1 h2 h3 h4 h5 h6 J9.out hev.out rC.out bN fun is M12 fB QC x112 x113 x114 x115 QD QE wc hB1 hX hE=> ?rest) (fun _ _ h=>h)
    case rest=>
     have hB:Below w5.heap.size w5 wc:=by rw[acr.out];exact Below.trans Xv.out hB1
     clear hev rC J9 Xv q2 h0 h1 h2 h3 h4 h5 h6 fz0 iD jh fz3 kC lD Dz;obtain⟨b0,b1,b2,b3,b4,b5,b6,_⟩:=hX.reads;have Ea:=hid hB;have J9:=hid hX;obtain⟨en,hen⟩:∃en,(if up then P.high b else P.low b)=en:=⟨_,rfl⟩;have SN:Hid (∀u,en=some u→Sz u.m 1048576∧Sz u.s 1048576):=fun u hu=>by
      rw[←hen]at hu;split at hu
      ·exact SZ.out.high b u bN2 hu
      exact SZ.out.low b u bN2 hu
     rw[hen]at SE hE;have hE:=hid hE;clear hen hB hX;obtain⟨w6,rfl⟩:∃w6:World,w6=wc:=⟨_,rfl⟩;have A6:=hid (A5.out.below Ea.out);have UR:=hid (aB Y8.out Ea.out);have X6:=hid (X5.out.later Ea.out X5.out.lt);have V6:=hid (V5.out.below Ea.out)
     cases en with
     | none=>
      have e0:is=false:=hE.out.Xa
      have T0:Hid (P.stop g c rs i=none):=by show _=_;rw[SE.out];rfl
      have GO:Hid (RzL n0 w P g c rs gl (.int .i64 bi) (.bool li) (.int .i64 ((i:Int)+1)) w6):=
       ⟨i+1,by rw[HM.out];omega,rfl,by rw[iL T0.out,HBI.out],by rw[iL T0.out,HLI.out],UR.out,M0,S0,X6.out,by rw[iL T0.out];exact V6.out⟩
      subst e0
      go_wp2_with fail
      go_roundw
      case rel=>exact GO.out
      case measure=>simp[intOf];omega
     | some u=>
      have e0:is=true:=hE.out.Xa
      have T0:Hid (P.stop g c rs i=some (V.mul (1/dR (P.T i c)) (bJ u (P.now b) up))):=by show _=_;rw[SE.out];rfl
      subst e0
      obtain⟨r3,r4⟩:=hE.out.at_ u rfl
      have RU:=hid (And.intro r3 r4)
      have SU:=hid (SN.out u rfl)
      have abo:=J9
      have abp:Hid (g18<w6.heap.size):=J9.out.lt
      clear STAY SE SN hE r3 r4 A5 Y8 X5 V5 Ea
      go_upto_region 21 with fail
      have q3:=(HD.out w6 A6.out).2.2.1
      obtain⟨_,li⟩:=LI.out w6 A6.out i hlt2
      obtain⟨E,e0,e1,e2,rE⟩:=li.at_ c HC.out
      clear li
      have B19:=hid (ah w6 (.cells #[.bool E.s,.slice E.a E.n E.c,.slice E.b E.m E.d] 25))
      have TU:Hid (NQ (w6.alloc (.cells #[.bool E.s,.slice E.a E.n E.c,.slice E.b E.m E.d] 25)) w6.heap.size E):=heap_alloc_new w6 _
      have rE:=hid (rE.below B19.out)
      have J9:=hid (J9.out.later B19.out J9.out.lt)
      go_upto_if 126 with fail
      clear q3 e0 e1 e2 b0 b1 b2 b3 b4 b5 b6
      generalize w6.alloc (.cells #[.bool E.s,.slice E.a E.n E.c,.slice E.b E.m E.d] 25)=W7 at*
      obtain⟨g19,ZA⟩:∃g19,w6.heap.size=g19:=⟨_,rfl⟩
      have acs:=hid ZA
      rw[ZA]at TU⊢
      obtain⟨y0,y1,y2,fz⟩:=TU.out.reads
      have fz0:=fz 0;have iD:=fz 1;have jh:=fz 2
      clear fz ZA
      refine dK (Vu TU.out rE.out fun N' abh abj wc hB1 hX hE=> ?rest) (fun _ _ h=>h)
      case rest=>
       have hB:Below w6.heap.size w6 wc:=Below.trans B19.out (by rw[acs.out];exact hB1)
       obtain⟨W8,rfl⟩:∃W8:World,W8=wc:=⟨_,rfl⟩
       have Xw:=hid hB
       have A8:=hid (A6.out.below Xw.out);have KW:=hid (aB UR.out Xw.out)
       have X8:=hid (X6.out.later Xw.out X6.out.lt);have V8:=hid (V6.out.below Xw.out)
       have abq:EB W8 g18 true M12 fB:=(by
        have h:W8.heap[g18]? =w6.heap[g18]?:=Xw.out.block _ abp.out
        exact h.trans abo.out)
       have RU8:=hid (And.intro (RU.out.1.below Xw.out) (RU.out.2.below Xw.out))
       obtain⟨b0,b1,b2,b3,b4,b5,b6,_⟩:=abq.reads
       obtain⟨u0,u1,u2,_⟩:=hX.reads
       have q3:=(HD.out W8 A8.out).2.2.1
       obtain⟨M,S,r1,r2,c0',c1',c2',c3',Xr,Xt⟩:=(A8.out.no.at_ b bN2).reads
       have RN:=hid (And.intro r1 r2)
       have SNb:=hid (SZ.out.now b bN2)
       have rT:=hid hE
       have SA:=hid (Ij (SZ.out.tab i c hlt2 HC.out))
       have AN:=hid (Ik TN.out)
       obtain⟨q,hq⟩:∃q,dR (P.T i c)=q:=⟨_,rfl⟩
       rw[hq]at rT SA AN T0
       clear hB hX hE r1 r2 hq Xw A6 UR X6 V6 J9 B19 TU rE y0 y1 y2 fz0 iD jh abq RU
       go_upto_region 24 with fail
       refine dK (Zt (u:=u) (nb:=P.now b) (up:=up) (q:=q) q3 b0 b1 b2 b3 b4 b5 b6 c0' c1' c2' c3' Xr Xt u0 u1 u2 RU8.out RN.out SU.out SNb.out rT.out SA.out AN.out bN fun g20 yF yG aa8 aa9 abb Qu Qv Qw Qx Qy Qz QA QB abd abe abf abg W9 abr d1 d2 hB=>?_) (fun _ _ h=>h)
       obtain⟨far,abt⟩:∃far,V.mul (1/q) (bJ u (P.now b) up)=far:=⟨_,rfl⟩
       rw[abt]at T0 d1 d2
       have FZ:=hid (yA PL.out SZ.out HC.out hlt2 T0.out).2
       have DF:=hid (And.intro d1 d2)
       have X9:=hid (X8.out.later hB X8.out.lt);have V9:=hid (V8.out.below hB)
       have Xx:=hid (aB KW.out hB)
       have A9:=hid (A8.out.below hB)
       have X20:=hid abr
       clear abt abr d1 d2 hB A8 KW X8 V8 RU8 RN SNb SU SA AN rT q3 b0 b1 b2 b3 b4 b5 b6 u0 u1 u2 c0' c1' c2' c3' Xr Xt
       obtain⟨y0,y1,y2,y3,y4,y5,_⟩:=X20.out.reads
       obtain⟨t0,t1,t2,t3,t4,t5,fz⟩:=X9.out.reads
       have fz0:=fz 0;have iD:=fz 1;have jh:=fz 2;have fz3:=fz 3;have kC:=fz 4;have lD:=fz 5
       clear fz
       cases hx:P.lW g c rs i with
       | none=>
        have NX:Hid (P.lW g c rs (i+1)=some (far,some i)):=CX T0.out hx
        have l0:li=false:=by rw[←HLI.out,hx];rfl
        subst l0
        clear hx
        go_wp2_with fail
        go_roundw
        case rel=>
         have XN:=X9.out.kL yF yG
         have LN:=X9.out.jG yF yG
         have BN:=cZ Xx.out gw (.bool yF.s) (.slice yF.a yF.n yF.c) (.slice yF.b yF.m yF.d) (.bool yG.s) (.slice yG.a yG.n yG.c) (.slice yG.b yG.m yG.d)
         exact⟨i+1,by rw[HM.out];omega,by go_num,by rw[NX.out];rfl,by rw[NX.out];rfl,BN,yF,yG,XN,fun l' b' h=>by
          rw[NX.out]at h
          simp only[Option.some.injEq,Prod.mk.injEq]at h
          obtain⟨rfl,rfl⟩:=h
          exact⟨DF.out.1.limb LN,DF.out.2.limb LN⟩⟩
        case measure=>simp[intOf];omega
       | some x=>
        obtain⟨l,bo⟩:=x
        have NX:=hid (yB T0.out hx)
        have l0:li=true:=by rw[←HLI.out,hx];rfl
        have bb:Hid (bi=QN (some (l,bo))):=by show _=_;rw[←HBI.out,hx]
        obtain⟨rl1,rl2⟩:=V9.out l bo hx
        obtain⟨sl1,sl2,sbo⟩:=RP.out i (by rw[HM.out];omega) l bo hx
        have SBO:=hid sbo
        have HX:=hid hx
        subst l0
        obtain⟨cm,hcm⟩:∃cm,jd far l=cm:=⟨_,rfl⟩
        have C:=mX DF.out.1 DF.out.2 rl1 rl2 (Sz.mono FZ.out.1 (by omega)) (Sz.mono FZ.out.2 (by omega)) (Sz.mono sl1 (by omega)) (Sz.mono sl2 (by omega))
        rw[hcm]at C NX
        have C:=hid C
        clear hx rl1 rl2 sl1 sl2 sbo hcm
        go_upto_region 28 with fail
        refine C.out.mono ?_
        rintro e Ko ⟨rfl,B10⟩
        have XA:=hid (X9.out.later B10 X9.out.lt);have VA:=hid (V9.out.below B10)
        have BRA:=hid (aB Xx.out B10)
        have AA:=hid (A9.out.below B10)
        have XB:=hid (X20.out.later B10 X20.out.lt)
        have DA:=hid (And.intro (DF.out.1.below B10) (DF.out.2.below B10))
        clear B10 C X9 V9 Xx A9 X20 DF y0 y1 y2 y3 y4 y5 t0 t1 t2 t3 t4 t5 fz0 iD jh fz3 kC lD
        obtain⟨y0,y1,y2,y3,y4,y5,_⟩:=XB.out.reads
        obtain⟨t0,t1,t2,t3,t4,t5,fz⟩:=XA.out.reads
        have fz0:=fz 0;have iD:=fz 1;have jh:=fz 2;have fz3:=fz 3;have kC:=fz 4;have lD:=fz 5
        clear fz
        have q4:=(HD.out Ko AA.out).2.2.2.1
        have AF:Hid (∀o,P.after i cm o=match o with | none=>decide (0<cm)||(cm==0) | some r=>decide (0<cm)||(cm==0&&decide (P.basic r<b))):=fun o=>by rw[←HB.out];cases o<;>rfl
        go_upto_region 28 with fail
        go_cut [168] (fun x W=>x= .bool (P.after i cm bo)∧W=Ko)
        case first=>
         cases bo with
         | none=>
          have b1:bi= -1:=bb.out
          subst b1
          have E:Hid (P.after i cm none=(decide (0<cm)||(cm==0))):=AF.out none
          clear AF
          by_cases cp:0<cm
          ·go_wp2_with fail
           go_meet
           case rel=>exact⟨by rw[E.out];simp[cp],rfl⟩
          ·by_cases cz:cm=0
           ·subst cz
            go_wp2_with fail
            go_meet
            case rel=>exact⟨by rw[E.out];rfl,rfl⟩
           ·have cb:(cm==0)=false:=by simp[cz]
            go_wp2_with fail
            go_meet
            case rel=>exact⟨by rw[E.out,cb];simp;omega,rfl⟩
         | some r=>
          have b1:bi=(r:Int):=bb.out
          subst b1
          have rm:r<m:=by have:=(SBO.out r rfl).1;omega
          obtain⟨d,hd⟩:∃d,P.basic r=d:=⟨_,rfl⟩
          have E:Hid (P.after i cm (some r)=(decide (0<cm)||(cm==0&&decide (d<b)))):=by show _=_;rw[←hd];exact AF.out (some r)
          have pr:Ko.cell? ⟨L.mY,r,none⟩=some (.int .i64 (d:Int)):=by rw[←hd];exact AA.out.ba.at_ r (by rw[HM.out];exact rm)
          have r0:(0:Int)≤(r:Int):=by omega
          have r1:(r:Int)<(m:Int):=by omega
          clear AF hd
          by_cases cp:0<cm
          ·go_wp2_with fail
           go_meet
           case rel=>exact⟨by rw[E.out];simp[cp],rfl⟩
          ·by_cases cz:cm=0
           ·subst cz
            go_wp2_with fail
            go_meet
            case rel=>exact⟨by rw[E.out];simp;omega,rfl⟩
           ·have cb:(cm==0)=false:=by simp[cz]
            go_wp2_with fail
            go_meet
            case rel=>exact⟨by rw[E.out,cb];simp;omega,rfl⟩
        case rest=>
         obtain⟨rfl,rfl⟩:=hcut
         cases FY:P.after i cm bo with
         | true=>
          have N2:Hid (P.lW g c rs (i+1)=some (l,bo)):=by show _=_;rw[NX.out,FY];rfl
          have GO:Hid (RzL n0 w P g c rs gl (.int .i64 bi) (.bool true) (.int .i64 ((i:Int)+1)) wc):=
           ⟨i+1,by rw[HM.out];omega,rfl,by rw[N2.out,bb.out],by rw[N2.out];rfl,BRA.out,M0,S0,XA.out,by rw[N2.out,←HX.out];exact VA.out⟩
          clear FY
          go_wp2_with fail
          go_roundw
          case rel=>exact GO.out
          case measure=>simp[intOf];omega
         | false=>
          have N2:Hid (P.lW g c rs (i+1)=some (far,some i)):=by show _=_;rw[NX.out,FY];rfl
          clear FY NX
          have NX:=N2
          go_wp2_with fail
          go_roundw
          case rel=>
           have XN:=XA.out.kL yF yG
           have LN:=XA.out.jG yF yG
           have BN:=cZ BRA.out gw (.bool yF.s) (.slice yF.a yF.n yF.c) (.slice yF.b yF.m yF.d) (.bool yG.s) (.slice yG.a yG.n yG.c) (.slice yG.b yG.m yG.d)
           exact⟨i+1,by rw[HM.out];omega,by go_num,by rw[NX.out];rfl,by rw[NX.out];rfl,BN,yF,yG,XN,fun l' b' h=>by
            rw[NX.out]at h
            simp only[Option.some.injEq,Prod.mk.injEq]at h
            obtain⟨rfl,rfl⟩:=h
            exact⟨DA.out.1.limb LN,DA.out.2.limb LN⟩⟩
          case measure=>simp[intOf];omega
   obtain rfl:m=i:=by omega
   have RZE:Hid (P.rz g c=(P.lW g c rs m).map fun x=>P.Py c (if rs then x.1 else V.sub ⟨0,0⟩ x.1) x.2):=by show _=_;rw[Io,HRS.out,HM.out]
   cases hx:P.lW g c rs m with
   | none=>
    have R1:Hid (P.rz g c=none):=by show _=_;rw[RZE.out,hx];rfl
    have BB:=BR
    rw[show(none:Option (V×Option Nat)).isSome=false from rfl]
    clear hx RZE
    go_wp2_with fail
    go_ret
    exact Or.inl ⟨R1.out,rfl,BB.out⟩
   | some x=>
    obtain⟨l,bo⟩:=x
    obtain⟨rl1,rl2⟩:=VV.out l bo hx
    obtain⟨sl1,sl2,sbo⟩:=RP.out m (by rw[HM.out];omega) l bo hx
    have SBO:=hid sbo;have SL:=hid (And.intro sl1 sl2);have RL:=hid (And.intro rl1 rl2)
    have R1:Hid (P.rz g c=some (P.Py c (if rs then l else V.sub ⟨0,0⟩ l) bo)):=by show _=_;rw[RZE.out,hx];rfl
    obtain⟨bi,hbi⟩:∃bi,QN (some (l,bo))=bi:=⟨_,rfl⟩
    have HBI:=hid hbi
    rw[hbi,show(some (l,bo)).isSome=true from rfl]
    clear hx RZE rl1 rl2 sl1 sl2 sbo hbi
    obtain⟨gU,hby⟩:∃gU,(if rs then l else V.sub ⟨0,0⟩ l)=gU:=⟨_,rfl⟩
    rw[hby]at R1
    have BYS:Hid (Sz gU.m 16777216∧Sz gU.s 16777216):=by
     show _∧_
     rw[←hby]
     cases rs with
     | true=>exact⟨Sz.mono SL.out.1 (by omega),Sz.mono SL.out.2 (by omega)⟩
     | false=>exact⟨Sz.mono (Sz.sub (Sz.mono Sz.zero (by omega)) SL.out.1) (by omega),Sz.mono (Sz.sub (Sz.mono Sz.zero (by omega)) SL.out.2) (by omega)⟩
    have HBY:=hid hby
    clear hby
    obtain⟨t0,t1,t2,t3,t4,t5,fz⟩:=X9.out.reads
    have fz0:=fz 0;have iD:=fz 1;have jh:=fz 2;have fz3:=fz 3;have kC:=fz 4;have lD:=fz 5
    clear fz
    go_upto_if 175 with fail
    refine dK (Vw (rs:=rs) X9.out RL.out SL.out fun M5 S5 abk abl abm abn wc hX r1 r2 hB1=> ?rest) (fun _ _ h=>h)
    case rest=>
     have hB:Below w.heap.size w wc:=Below.trans BR.out (hB1.mono gw)
     rw[HBY.out]at r1 r2
     obtain⟨t0,t1,t2,t3,t4,t5,_⟩:=hX.reads
     have A9:=ug.out.below hB
     have C:=Pm A9 PL.out SZ.out HC.out r1 r2 BYS.out.1 BYS.out.2
     have Xx:=hid hB
     have C:=hid C
     clear hB hX r1 r2 A9 A X9 VV q1 q2 q3 q4 q5 q6 fz0 iD jh fz3 kC lD
     go_wp2_with fail
     refine C.out.mono ?_
     rintro e W12 ⟨rfl,hA,hB,hL,hO⟩
     have AM:=hid hA
     have BM:=hid (Below.trans (Xx.out.mono rH) hB)
     have LM:=hid ((aQ.of_below Xx.out).trans hL)
     have OM:Hid (Own L P w W12):=Own.trans (Own.of_below Xx.out) Xx.out.size hO
     clear hA hB hL hO C t0 t1 t2 t3 t4 t5
     cases bo with
     | none=>
      have b1:bi= -1:=HBI.out.symm
      subst b1
      go_wp2_with fail
      go_ret
      exact Or.inr ⟨_,R1.out,rfl,AM.out,BM.out,LM.out,OM.out⟩
     | some r=>
      have b1:bi=(r:Int):=HBI.out.symm
      subst b1
      obtain⟨rm,rn⟩:=SBO.out r rfl
      have r0:(0:Int)≤(r:Int):=by omega
      have C:=hid (Pq (P:=P.mv c gU) AM.out SZ.out.tab (by rw[HM.out.symm]at rm;exact rm) HC.out rn)
      clear rn
      go_wp2_with fail
      refine C.out.mono ?_
      rintro e W13 ⟨rfl,hA,hB,hL,hO⟩
      have AV:=hid hA
      have BV:=hid (Below.trans BM.out hB)
      have LV:=hid (LM.out.trans hL)
      have OV:Hid (Own L P w W13):=Own.trans OM.out BM.out.size hO
      clear hA hB hL hO C
      go_wp2_with fail
      go_ret
      exact Or.inr ⟨_,R1.out,rfl,AV.out,BV.out,LV.out,OV.out⟩
end Go.Proofs.YtijdglogadnbcaaGreat
