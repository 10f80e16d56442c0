/- The reference's Refuting. -/
import Derived.Test.YtijdglogadnbcaaGreatY43
import Derived.Maps.Own
set_option linter.unusedVariables false
set_option linter.unusedSimpArgs false
set_option maxRecDepth 100000
set_option maxHeartbeats 40000000
namespace Go.Proofs.YtijdglogadnbcaaGreat
open Go.Proofs.Tryz
open Go.RowKit Nt Bl
theorem aag {w:World}{g:Nat}{s:Bool}{a b:Option Addr}{n c m d:Nat}(h:NR w g s a n c b m d)(x y z:Value):Kp w (((w.setCell ⟨g,0,none⟩ x).setCell ⟨g,1,none⟩ y).setCell ⟨g,2,none⟩ z):=by
 obtain⟨u0,u1,u2,_⟩:=h.reads;refine Wr.kp (g:=g) (o:=0) (vs:=[x,y,z]) (dY w g 0 [x,y,z] fun j hj=>?_) fun j i hj=>?_
 ·rcases j with _ | _ | _ | j
  ·rw[show 0+0=0 from rfl,u0];rfl
  ·rw[show 0+(0+1)=1 from rfl,u1];rfl
  ·rw[show 0+(0+1+1)=2 from rfl,u2];rfl
  simp at hj;omega
 rcases j with _ | _ | _ | j
 ·rw[show 0+0=0 from rfl,u0];simp
 ·rw[show 0+(0+1)=1 from rfl,u1];simp
 ·rw[show 0+(0+1+1)=2 from rfl,u2];simp
 simp at hj;omega
def Sv (L:Nat→Ln)(q:Nat→Rat)(i v:Nat):Rat:=sm i fun j=>q j*(L j).co v
def Sb (L:Nat→Ln)(q:Nat→Rat)(i:Nat):Rat:=sm i fun j=>q j*(L j).bd
def RuZ (w:World)(gs n:Nat)(v8:Value)(wr:World):Prop:=
 ∃i:Nat,i≤n∧v8= .int .i64 (i:Int)∧um wr All gs n i (fun _=>0)∧Below w.heap.size w wr
def RuL (w:World)(g9 gs k n:Nat)(L:Nat→Ln)(q:Nat→Rat)(v10 v11:Value)(wr:World):Prop:=
 ∃(i:Nat) (N:Nw),i≤k∧v11= .int .i64 (i:Int)∧v10= .bool (oK L q i)∧(∀j,j<i→q j<0→(L j).rel=3)∧um wr All gs n n (Sv L q i)∧NR wr g9 N.s N.a N.n N.c N.b N.m N.d∧HX wr All (Sb L q i) N∧Below w.heap.size w wr
def RuI (w:World)(g9 gs n:Nat)(L:Nat→Ln)(q:Nat→Rat)(i:Nat)(N:Nw)(v12:Value)(wr:World):Prop:=
 ∃v:Nat,v≤n∧v12= .int .i64 (v:Int)∧um wr All gs n n (fun u=>if u<v then Sv L q (i+1) u else Sv L q i u)∧NR wr g9 N.s N.a N.n N.c N.b N.m N.d∧HX wr All (Sb L q i) N∧Below w.heap.size w wr
theorem yO {w:World}{k n:Nat}{v1 v2:Value}{L:Nat→Ln}{q:Nat→Rat}{V:Bool}(hl:LsA w All n v1 k L)(hq:Z7 w All v2 k q)(hk:k≤40)(hn:n≤24)(hz:∀i,i<k→Sz (q i) 95∧Sz (L i).bd 1∧∀v,v<n→Sz ((L i).co v) 1)(hV:V=true↔TM k n L q):
  Calls prog 96 #[v1,.int .i64 (n:Int),v2] w fun e w'=>e= .returned (.bool V)∧Below w.heap.size w w':=by
 obtain⟨Q,hQ⟩:∃Q:Ending→World→Prop,Q=fun e w'=>e= .returned (.bool V)∧Below w.heap.size w w':=⟨_,rfl⟩;rw[←hQ];have HQ:=hid hQ;have HVV:=hid hV;have HZ:=hid hz;obtain⟨al,cl,rfl,hl1,hl2,hl3⟩:=hl;obtain⟨aq,cq',rfl,hq1,hq2,hq3⟩:=hq;have HL3:=hid hl3;have HQ3:=hid hq3;obtain⟨i78,LP,Ar,Au,Aw⟩:=info_parts Em;have SV:Hid (∀i v,i≤k→v<n→Sz (Sv L q i v) 3881):=fun i v hi hv=>Sz.mono (Aq (K:=96) i fun j hj=>Sz.mul (k:=95) (l:=1) (HZ.out j (by omega)).1 ((HZ.out j (by omega)).2.2 v hv)) (by omega);have SB:Hid (∀i,i≤k→Sz (Sb L q i) 3881):=fun i hi=>Sz.mono (Aq (K:=96) i fun j hj=>Sz.mul (k:=95) (l:=1) (HZ.out j (by omega)).1 (HZ.out j (by omega)).2.1) (by omega);clear hQ hV hz hl3 hq3;go_enter func96,ntmps96;go_wp2_with (at_make;refine wpList_make_full _ rfl _ _ 65 rfl w.heap.size 78 i78 _ 3 underlying65 LP Ar Au .i64 .i64 _ _ n rfl rfl (by omega) (by omega) (by rw[Aw];omega) (by unfold maxLen;omega) (Nat.le_refl _) ?_;intro w1 hown1 hg1;obtain⟨cf1,Ye⟩:=um.made (F:=All) (f:=fun _=>0) hown1;have C1:=hid cf1;have GE:=hid Ye;have B1:=hid (below_grown hg1);clear hown1 hg1 cf1 Ye);obtain⟨gs,hgs⟩:∃g,w.heap.size=g:=⟨_,rfl⟩;have HGS:Hid (w.heap.size≤gs):=Nat.le_of_eq hgs;rw[hgs]at C1⊢;clear hgs GE;go_loopw [8] (fun v8 wr=>RuZ w gs n v8 wr) (fun v _=>n-(intOf v).toNat)
 case atStart=>exact⟨0,Nat.zero_le _,rfl,C1.out,B1.out⟩
 clear C1 B1;obtain⟨i,hi,rfl,hC,hB⟩:=hrel;have BR:=hid hB;have CF:=hid hC;clear hB hC;by_cases hlt:i<n
 ·have i0:(0:Int)≤(i:Int):=by omega
  have i1:(i:Int)<(n:Int):=by omega
  go_upto_region 5 with fail
  go_wp2_with (go_at_call 71;refine(Gw (F:=All) (fun _ _=>trivial)).mono ?_;rintro e w2 ⟨s2,a2,n2,c2,b2,m2,d2,rfl,hr,hB2⟩;have H2:=hid (show HX w2 All 0 ⟨s2,a2,n2,c2,b2,m2,d2⟩ from hr);have C2:=hid (CF.out.below hB2);have B2:=hid (aB BR.out hB2);clear hr hB2;obtain⟨N0,z0,z1,z2,_⟩:=C2.out.at_ i hlt;have f0:=C2.out.blk.free (i*3);have f1:=C2.out.blk.free (i*3+1);have f2:=C2.out.blk.free (i*3+2));have WR:=C2.out.wr hlt ⟨s2,a2,n2,c2,b2,m2,d2⟩;have CN:=hid (C2.out.set (k':=i+1) (f':=fun _=>0) hlt WR H2.out fun j hj hne=>⟨by omega,rfl⟩);have BE:=hid (WR.bel w.heap.size w HGS.out B2.out);clear WR;go_roundw
  case rel=>exact⟨i+1,hlt,by go_num,CN.out,BE.out⟩
  simp[intOf];omega
 obtain rfl:n=i:=by omega
 have C0:=CF.out;clear CF hlt hi;have CF:=hid C0;clear C0;go_upto_region 7 with(go_at_call 71;refine(Gw (F:=All) (fun _ _=>trivial)).mono ?_;rintro e w2 ⟨s2,a2,n2,c2,b2,m2,d2,rfl,hr,hB2⟩;have H2:=hid (show HX w2 All 0 ⟨s2,a2,n2,c2,b2,m2,d2⟩ from hr);have C2:=hid (CF.out.below hB2);have B2:=hid (aB BR.out hB2);clear hr hB2)
 have Jr:=ah w2 (.cells #[.bool s2,.slice a2 n2 c2,.slice b2 m2 d2] 78);have R3:Hid (NR (w2.alloc (.cells #[.bool s2,.slice a2 n2 c2,.slice b2 m2 d2] 78)) w2.heap.size s2 a2 n2 c2 b2 m2 d2):=heap_alloc_new _ _;have H3:=hid (H2.out.below Jr);have C3:=hid (C2.out.below Jr);have B3:=hid (aB B2.out Jr);have G9:Hid (w.heap.size≤w2.heap.size):=B2.out.size;have NE:Hid (gs≠w2.heap.size):=Nat.ne_of_lt C2.out.blk.lt;clear Jr H2 C2 B2 CF BR;generalize w2.alloc (.cells #[.bool s2,.slice a2 n2 c2,.slice b2 m2 d2] 78)=w3 at*;obtain⟨g9,hg9⟩:∃g,w2.heap.size=g:=⟨_,rfl⟩;rw[hg9]at R3 G9 NE⊢;clear hg9;go_wp2_with fail;go_loopw [10,11] (fun v10 v11 wr=>RuL w g9 gs k n L q v10 v11 wr) (fun _ v _=>k-(intOf v).toNat)
 case atStart=>exact⟨0,⟨s2,a2,n2,c2,b2,m2,d2⟩,Nat.zero_le _,rfl,rfl,fun j hj=>absurd hj (Nat.not_lt_zero _),C3.out,R3.out,H3.out,B3.out⟩
 clear C3 R3 H3 B3;obtain⟨i,N,hi,rfl,rfl,hup,hC,hN,hX,hB⟩:=hrel;have UP:=hid hup;have CF:=hid hC;have NN:=hid hN;have XN:=hid hX;have BR:=hid hB;clear hup hC hN hX hB;by_cases hlt:i<k
 ·obtain⟨gl,rfl,hbl,hrow⟩:=HL3.out (by omega);obtain⟨gq,rfl,hrq⟩:=HQ3.out (by omega);obtain⟨vb,M,p0,p1,p2,p3,p4,hrs,hbd⟩:=(hrow i hlt).ex;obtain⟨Nq,q0,q1,q2,hqx⟩:=hrq.at_ i hlt;have P0:=hid p0;have P2:=hid p2;have P3:=hid p3;have P4:=hid p4;have Q0:=hid q0;have Q1:=hid q1;have Q2:=hid q2;have P1:=hid p1;have QXw:=hid hqx;have BDw:=hid hbd;have RSw:=hid hrs;have p0:=aj BR.out p0;have p1:=aj BR.out p1;have p2:=aj BR.out p2;have p3:=aj BR.out p3;have p4:=aj BR.out p4;have q0:=aj BR.out q0;have q1:=aj BR.out q1;have q2:=aj BR.out q2;have QX:=hid (hqx.below BR.out);have BD:=hid (hbd.below BR.out);have RS:=hid (hrs.below BR.out);clear hbl hrow hrq hrs hbd hqx;obtain⟨rl,hrl⟩:∃r,(L i).rel=r:=⟨_,rfl⟩;obtain⟨z,hz⟩:∃z,aV (q i)=z:=⟨_,rfl⟩;have RL:=hid hrl;have ZN:Hid (q i<0↔z<0):=by show _↔_;rw[←hz,iT]
  have ZP:Hid (0<q i↔0<z):=by show _↔_;rw[←hz,dZ]
  have ZS:=QX.out.Ac (HZ.out i hlt).1;have CS:=iG (s:=Nq.s) (a:=Nq.a) (n:=Nq.n) (c:=Nq.c) (b:=Nq.b) (m:=Nq.m) (d:=Nq.d) QX.out.toHR (by omega);rw[hz]at CS;rw[hrl]at p1;have CS:=hid CS;have i0:(0:Int)≤(i:Int):=by omega
  have i1:(i:Int)<(k:Int):=by omega
  clear hrl hz ZS;go_upto_region 11 with fail
  go_cut [45] (fun t W=>t= .bool (decide (z<0)&&decide (rl≠3))∧Below wr.heap.size wr W)
  case first=>
   by_cases hz0:z<0
   ·by_cases r3:rl=3
    ·subst r3;have E1:Hid ((decide (z<0)&&decide ((3:Int)≠3))=false):=by show _=_;simp
     go_wp2_with (go_at_call 86;refine CS.out.mono ?_;rintro e w4 ⟨rfl,hB4⟩;have B4:=hid hB4;have p1:=aj hB4 p1;clear hB4);go_meet
     case rel=>exact⟨by rw[E1.out],B4.out⟩
    have E1:Hid ((decide (z<0)&&decide (rl≠3))=true):=by show _=_;simp[hz0,r3]
    have r4:¬rl=3:=r3;have R4:=hid r4;go_wp2_with (go_at_call 86;refine CS.out.mono ?_;rintro e w4 ⟨rfl,hB4⟩;have B4:=hid hB4;have p1:=aj hB4 p1;clear hB4);go_meet
    case rel=>exact⟨by rw[E1.out];simp[R4.out],B4.out⟩
   have E1:Hid ((decide (z<0)&&decide (rl≠3))=false):=by show _=_;simp[hz0]
   go_wp2_with (go_at_call 86;refine CS.out.mono ?_;rintro e w4 ⟨rfl,hB4⟩;have B4:=hid hB4;clear hB4);go_meet
   case rel=>exact⟨by rw[E1.out],B4.out⟩
  obtain⟨rfl,hBc⟩:=hcut;have BC:=hid hBc;clear hBc CS p1 p2 p3 p4;by_cases hbad:z<0∧rl≠3
  ·have E1:(decide (z<0)&&decide (rl≠3))=true:=by simp[hbad.1,hbad.2]
   have VF:Hid (V=false):=by
    show _=_
    cases hv:V with
    | false=>rfl
    | true=>
     have:=(HVV.out.1 hv).up i hlt (ZN.out.2 hbad.1)
     exact absurd (RL.out.symm.trans this) hbad.2
   rw[E1];clear E1 hbad;go_wp2_with fail;rw[HQ.out,VF.out];exact⟨rfl,aB BR.out BC.out⟩
  have E1:(decide (z<0)&&decide (rl≠3))=false:=by
   rw[Bool.and_eq_false_iff];by_cases a:z<0
   ·exact Or.inr (by simp only[ne_eq,decide_eq_false_iff_not,Classical.not_not];exact Classical.byContradiction fun c=>hbad ⟨a,c⟩)
   exact Or.inl (by simpa using a)
  have UP2:Hid (∀j,j<i+1→q j<0→(L j).rel=3):=fun j hj hq=>by
   by_cases e:j=i
   ·subst e;rw[RL.out];exact Classical.byContradiction fun c=>hbad ⟨ZN.out.1 hq,c⟩
   exact UP.out j (by omega) hq
  rw[E1];clear E1 hbad;have CF2:=hid (CF.out.below BC.out);have NN2:=hid (NN.out.later BC.out NN.out.lt);have XN2:=hid (XN.out.below BC.out);have Yf:=hid (aB BR.out BC.out);go_wp2_with fail;go_loopw [12] (fun v12 wx=>RuI w g9 gs n L q i N v12 wx) (fun v _=>n-(intOf v).toNat)
  case atStart=>exact⟨0,Nat.zero_le _,rfl,by simpa using CF2.out,NN2.out,XN2.out,Yf.out⟩
  clear CF NN XN BR CF2 NN2 XN2 Yf BC p0 q0 q1 q2 QX BD RS;obtain⟨v,hv,rfl,hC,hN,hX,hB⟩:=hrel;have CF:=hid hC;have NN:=hid hN;have XN:=hid hX;have BR:=hid hB;clear hC hN hX hB;by_cases hlt2:v<n
  ·obtain⟨av,cv,rfl,hv1,hv2,hv3⟩:=RSw.out;obtain⟨gv,rfl,hrw⟩:=hv3 (by omega);obtain⟨Nv,r0,r1,r2,hvx⟩:=hrw.at_ v hlt2;obtain⟨Ns,z0,z1,z2,hs⟩:=CF.out.num hlt2 hlt2;rw[if_neg (Nat.lt_irrefl _)]at hs;have r0:=aj BR.out r0;have r1:=aj BR.out r1;have r2:=aj BR.out r2;have q0:=aj BR.out Q0.out;have q1:=aj BR.out Q1.out;have q2:=aj BR.out Q2.out;have p0:=aj BR.out P0.out;have VX:=hid (hvx.below BR.out);have QX:=hid (QXw.out.below BR.out);have SX:=hid hs;obtain⟨s1,s2,s3⟩:=HZ.out i hlt;have s4:=QX.out.Ac s1;have s5:=VX.out.Ac (s3 v hlt2);have s6:=SX.out.Ac (SV.out i v (by omega) hlt2);have SP:=hid (Sz.mul (k:=95) (l:=1) s1 (s3 v hlt2));have C88:=hid (Wh (F:=All) (w:=wr.drew) (fun _ _=>trivial) (QX.out.below (Below.refl _ _).drew) (VX.out.below (Below.refl _ _).drew) (by omega));have S6:=hid s6;have v0:(0:Int)≤(v:Int):=by omega
   have v1:(v:Int)<(n:Int):=by omega
   clear hv1 hv3 hrw hvx hs s1 s2 s3 s4 s5 s6;go_upto_region 16 with fail
   have KP:=hid (fun(W':World) (hB:Below wr.heap.size wr W')=>(show W'.cell? ⟨gs,v*3,none⟩=some (.bool Ns.s)∧W'.cell? ⟨gs,v*3+1,none⟩=some (.slice Ns.a Ns.n Ns.c)∧W'.cell? ⟨gs,v*3+2,none⟩=some (.slice Ns.b Ns.m Ns.d)∧W'.cell? ⟨gq,i*3,none⟩=some (.bool Nq.s)∧W'.cell? ⟨gq,i*3+1,none⟩=some (.slice Nq.a Nq.n Nq.c)∧W'.cell? ⟨gq,i*3+2,none⟩=some (.slice Nq.b Nq.m Nq.d)∧W'.cell? ⟨gl,i*5,none⟩=some (.slice (some ⟨gv,0,none⟩) n cv)∧W'.cell? ⟨gv,v*3,none⟩=some (.bool Nv.s)∧W'.cell? ⟨gv,v*3+1,none⟩=some (.slice Nv.a Nv.n Nv.c)∧W'.cell? ⟨gv,v*3+2,none⟩=some (.slice Nv.b Nv.m Nv.d) from⟨aj hB z0,aj hB z1,aj hB z2,aj hB q0,aj hB q1,aj hB q2,aj hB p0,aj hB r0,aj hB r1,aj hB r2⟩));refine Rg.aH 21 [] (fun W'=>W'.cell? ⟨gs,v*3,none⟩=some (.bool Ns.s)∧W'.cell? ⟨gs,v*3+1,none⟩=some (.slice Ns.a Ns.n Ns.c)∧W'.cell? ⟨gs,v*3+2,none⟩=some (.slice Ns.b Ns.m Ns.d)∧W'.cell? ⟨gq,i*3,none⟩=some (.bool Nq.s)∧W'.cell? ⟨gq,i*3+1,none⟩=some (.slice Nq.a Nq.n Nq.c)∧W'.cell? ⟨gq,i*3+2,none⟩=some (.slice Nq.b Nq.m Nq.d)∧W'.cell? ⟨gl,i*5,none⟩=some (.slice (some ⟨gv,0,none⟩) n cv)∧W'.cell? ⟨gv,v*3,none⟩=some (.bool Nv.s)∧W'.cell? ⟨gv,v*3+1,none⟩=some (.slice Nv.a Nv.n Nv.c)∧W'.cell? ⟨gv,v*3+2,none⟩=some (.slice Nv.b Nv.m Nv.d)) (by kernel_rfl) (by kernel_rfl) ?_ (fun hS ok inv=>?_)
   ·exact⟨z0,z1,z2,q0,q1,q2,p0,r0,r1,r2⟩
   refine Rg.tk 0 rfl ok inv hS fun inv=>?_;refine Rg.tk 1 rfl ok inv hS fun inv=>?_;refine Rg.tk 2 rfl ok inv hS fun inv=>?_;refine Rg.tk 3 rfl ok inv hS fun inv=>?_;refine Rg.tk 4 rfl ok inv hS fun inv=>?_;refine Rg.tk 5 rfl ok inv hS fun inv=>?_;refine Rg.tk 6 rfl ok inv hS fun inv=>?_;refine Rg.tk 7 rfl ok inv hS fun inv=>?_;refine Rg.tk 8 rfl ok inv hS fun inv=>?_;refine Rg.tk 9 rfl ok inv hS fun inv=>?_;refine Rg.tk 10 rfl ok inv hS fun inv=>?_;refine Rg.tk 11 rfl ok inv hS fun inv=>?_;refine Rg.tk 12 rfl ok inv hS fun inv=>?_;refine Rg.tk 13 rfl ok inv hS fun inv=>?_;refine Rg.tk 14 rfl ok inv hS fun inv=>?_;refine Rg.tk 15 rfl ok inv hS fun inv=>?_;refine Rg.tk 16 rfl ok inv hS fun inv=>?_;refine Rg.tk 17 rfl ok inv hS fun inv=>?_;refine Rg.w1 18 rfl inv fun K' hK=>?_;go_simp;go_at_call 88;refine(C88.out).mono ?_;rintro e w6 ⟨s6,a6,n6,c6,b6,m6,d6,rfl,Wi,B6⟩;have B6:=aJ B6;have L6:Hid (HX w6 All (q i*(L i).co v) ⟨s6,a6,n6,c6,b6,m6,d6⟩):=Wi;have KS:=KP.out w6 B6;have t6:=L6.out.Ac SP.out;have C87:=hid (V7 (F:=All) (w:=w6) (fun _ _=>trivial) (SX.out.below B6) L6.out (by have:=S6.out;exact⟨by omega,by omega,Nat.le_trans t6.1 (by omega),Nat.le_trans t6.2 (by omega)⟩));refine Rg.st hK ?_ fun hS inv=>?_
   ·exact KS
   clear hK K' t6 Wi;refine Rg.w1 19 rfl inv fun K' hK=>?_;go_simp;go_at_call 87;refine(C87.out).mono ?_;rintro e w7 ⟨s7,a7,n7,c7,b7,m7,d7,rfl,hr7,B7⟩;have L7:Hid (HX w7 All (Sv L q (i+1) v) ⟨s7,a7,n7,c7,b7,m7,d7⟩):=hr7;have Ad:=aB B6 B7;have KS:=KP.out w7 Ad;have LW:=hid (CF.out.below Ad);have NN7:=hid (NN.out.later Ad NN.out.lt);have XN7:=hid (XN.out.below Ad);have Yg:=hid (aB BR.out Ad);have f0:=LW.out.blk.free (v*3);have f1:=LW.out.blk.free (v*3+1);have f2:=LW.out.blk.free (v*3+2);refine Rg.st hK ?_ fun hS inv=>?_
   ·exact KS
   clear hK K' hr7 B7 Ad B6;obtain⟨z0,z1,z2,_⟩:=KS;refine Rg.tk 20 rfl ok inv hS fun inv=>?_;refine Rg.wl rfl ?_;go_simp;have WR:=LW.out.wr hlt2 ⟨s7,a7,n7,c7,b7,m7,d7⟩;have BE:=hid (WR.bel w.heap.size w HGS.out Yg.out);have CN:=hid (LW.out.set (k':=n) (f':=fun u=>if u<v+1 then Sv L q (i+1) u else Sv L q i u) hlt2 WR (by simp only[Nat.lt_succ_self,if_true];exact L7.out) fun j hj hne=>⟨hj,by
    by_cases c:j<v
    ·rw[if_pos c,if_pos (by omega)]
    rw[if_neg c,if_neg (by omega)]⟩)
   have NE9:=hid ((WR.jm g9 (Ne.symm NE.out)).trans NN7.out);have XE9:=hid (XN7.out.kp (LW.out.kp hlt2 WR));clear WR;go_wp2_with fail;go_roundw
   case rel=>exact⟨v+1,hlt2,by go_num,CN.out,NE9.out,XE9.out,BE.out⟩
   simp[intOf];omega
  obtain rfl:n=v:=by omega
  have CF:=hid (CF.out.congr (f':=Sv L q (i+1)) fun u hu=>if_pos hu);obtain⟨z0,z1,z2,_⟩:=NN.out.reads;have q0:=aj BR.out Q0.out;have q1:=aj BR.out Q1.out;have q2:=aj BR.out Q2.out;have p2:=aj BR.out P2.out;have p3:=aj BR.out P3.out;have p4:=aj BR.out P4.out;have VX:=hid (BDw.out.below BR.out);have QX:=hid (QXw.out.below BR.out);obtain⟨s1,s2,s3⟩:=HZ.out i hlt;have s4:=QX.out.Ac s1;have s5:=VX.out.Ac s2;have s6:=XN.out.Ac (SB.out i (by omega));have SP:=hid (Sz.mul (k:=95) (l:=1) s1 s2);have C88:=hid (Wh (F:=All) (w:=wr.drew) (fun _ _=>trivial) (QX.out.below (Below.refl _ _).drew) (VX.out.below (Below.refl _ _).drew) (by omega));have S6:=hid s6;clear s1 s2 s3 s4 s5 s6;go_upto_region 17 with fail
  have KP:=hid (fun(W':World) (hB:Below wr.heap.size wr W')=>(show W'.cell? ⟨g9,0,none⟩=some (.bool N.s)∧W'.cell? ⟨g9,1,none⟩=some (.slice N.a N.n N.c)∧W'.cell? ⟨g9,2,none⟩=some (.slice N.b N.m N.d)∧W'.cell? ⟨gq,i*3,none⟩=some (.bool Nq.s)∧W'.cell? ⟨gq,i*3+1,none⟩=some (.slice Nq.a Nq.n Nq.c)∧W'.cell? ⟨gq,i*3+2,none⟩=some (.slice Nq.b Nq.m Nq.d)∧W'.cell? ⟨gl,i*5+2,none⟩=some (.bool M.s)∧W'.cell? ⟨gl,i*5+3,none⟩=some (.slice M.a M.n M.c)∧W'.cell? ⟨gl,i*5+4,none⟩=some (.slice M.b M.m M.d) from⟨aj hB z0,aj hB z1,aj hB z2,aj hB q0,aj hB q1,aj hB q2,aj hB p2,aj hB p3,aj hB p4⟩));refine Rg.aH 12 [] (fun W'=>W'.cell? ⟨g9,0,none⟩=some (.bool N.s)∧W'.cell? ⟨g9,1,none⟩=some (.slice N.a N.n N.c)∧W'.cell? ⟨g9,2,none⟩=some (.slice N.b N.m N.d)∧W'.cell? ⟨gq,i*3,none⟩=some (.bool Nq.s)∧W'.cell? ⟨gq,i*3+1,none⟩=some (.slice Nq.a Nq.n Nq.c)∧W'.cell? ⟨gq,i*3+2,none⟩=some (.slice Nq.b Nq.m Nq.d)∧W'.cell? ⟨gl,i*5+2,none⟩=some (.bool M.s)∧W'.cell? ⟨gl,i*5+3,none⟩=some (.slice M.a M.n M.c)∧W'.cell? ⟨gl,i*5+4,none⟩=some (.slice M.b M.m M.d)) (by kernel_rfl) (by kernel_rfl) ?_ (fun hS ok inv=>?_)
  ·exact⟨z0,z1,z2,q0,q1,q2,p2,p3,p4⟩
  refine Rg.tk 0 rfl ok inv hS fun inv=>?_;refine Rg.tk 1 rfl ok inv hS fun inv=>?_;refine Rg.tk 2 rfl ok inv hS fun inv=>?_;refine Rg.tk 3 rfl ok inv hS fun inv=>?_;refine Rg.tk 4 rfl ok inv hS fun inv=>?_;refine Rg.tk 5 rfl ok inv hS fun inv=>?_;refine Rg.tk 6 rfl ok inv hS fun inv=>?_;refine Rg.tk 7 rfl ok inv hS fun inv=>?_;refine Rg.tk 8 rfl ok inv hS fun inv=>?_;refine Rg.tk 9 rfl ok inv hS fun inv=>?_;refine Rg.w1 10 rfl inv fun K' hK=>?_;go_simp;go_at_call 88;refine(C88.out).mono ?_;rintro e w6 ⟨s6,a6,n6,c6,b6,m6,d6,rfl,Wi,B6⟩;have B6:=aJ B6;have L6:Hid (HX w6 All (q i*(L i).bd) ⟨s6,a6,n6,c6,b6,m6,d6⟩):=Wi;have KS:=KP.out w6 B6;have t6:=L6.out.Ac SP.out;have C87:=hid (V7 (F:=All) (w:=w6) (fun _ _=>trivial) (XN.out.below B6) L6.out (by have:=S6.out;exact⟨by omega,by omega,Nat.le_trans t6.1 (by omega),Nat.le_trans t6.2 (by omega)⟩));refine Rg.st hK ?_ fun hS inv=>?_
  ·exact KS
  clear hK K' t6 Wi;refine Rg.w1 11 rfl inv fun K' hK=>?_;go_simp;go_at_call 87;refine(C87.out).mono ?_;rintro e w7 ⟨s7,a7,n7,c7,b7,m7,d7,rfl,hr7,B7⟩;have L7:Hid (HX w7 All (Sb L q (i+1)) ⟨s7,a7,n7,c7,b7,m7,d7⟩):=hr7;have Ad:=aB B6 B7;have KS:=KP.out w7 Ad;have LW:=hid (CF.out.below Ad);have NN7:=hid (NN.out.later Ad NN.out.lt);have Yg:=hid (aB BR.out Ad);have QX7:=hid (QX.out.below Ad);obtain⟨_,_,_,fz⟩:=NN7.out.reads;have f0:=fz 0;have f1:=fz 1;have f2:=fz 2;have p1:=aj Yg.out P1.out;refine Rg.st hK ?_ fun hS inv=>?_
  ·exact KS
  clear hK K' hr7 B7 Ad B6 fz;obtain⟨z0,z1,z2,q0,q1,q2,_⟩:=KS;refine Rg.wl rfl ?_;go_simp;have KK:=aag NN7.out (.bool s7) (.slice a7 n7 c7) (.slice b7 m7 d7);have OT:=ay w7 g9 (.bool s7) (.slice a7 n7 c7) (.slice b7 m7 d7);have Wj:=hid (NN7.out.Wn ⟨s7,a7,n7,c7,b7,m7,d7⟩);have Wp:=hid (LW.out.keep (OT gs NE.out) KK);have L8:=hid (L7.out.kp KK);have QX8:=hid (QX7.out.kp KK);have KW:=hid (aG Yg.out g9 G9.out (.bool s7) (.slice a7 n7 c7) (.slice b7 m7 d7));clear KK OT LW NN7 L7 QX7 Yg z0 z1 z2 q0 q1 q2 f0 f1 f2 p1 KP CF NN XN BR VX QX;generalize ((w7.setCell ⟨g9,0,none⟩ (.bool s7)).setCell ⟨g9,1,none⟩ (.slice a7 n7 c7)).setCell ⟨g9,2,none⟩ (.slice b7 m7 d7)=w8 at*;have p1:=aj KW.out P1.out;rw[RL.out]at p1;have q0:=aj KW.out Q0.out;have q1:=aj KW.out Q1.out;have q2:=aj KW.out Q2.out;have QX:=QXw.out.below KW.out;have ZS:=QX.Ac (HZ.out i hlt).1;have CS:=iG (s:=Nq.s) (a:=Nq.a) (n:=Nq.n) (c:=Nq.c) (b:=Nq.b) (m:=Nq.m) (d:=Nq.d) QX.toHR (by omega);obtain⟨z',hz'⟩:∃z',aV (q i)=z':=⟨_,rfl⟩;have ZP':Hid (0<q i↔0<z'):=by show _↔_;rw[←hz',dZ]
  rw[hz']at CS;have CS:=hid CS;clear ZS QX hz';obtain⟨st,hst⟩:∃st,oK L q i=st:=⟨_,rfl⟩;have STE:Hid (oK L q (i+1)=(st||(decide (rl=2)&&decide (0<z')))):=by show _=_;rw[←hst];show(oK L q i||_)=_;rw[RL.out];congr 2;exact decide_eq_decide.2 ZP'.out
  rw[hst];clear hst;go_upto_region 18 with fail
  cases st with
  | true=>
   go_wp2_with fail
   have B4:=hid (Below.refl w8.heap.size w8)
   go_roundw
   case rel=>exact⟨i+1,⟨s7,a7,n7,c7,b7,m7,d7⟩,hlt,by go_num,by rw[STE.out];simp[],UP2.out,Wp.out.below B4.out,Wj.out.later B4.out Wj.out.lt,L8.out.below B4.out,aB KW.out B4.out⟩
   case measure=>simp[intOf];omega
  | false=>
   by_cases r2:rl=2
   ·subst r2
    by_cases zp:z'>0
    ·have E2:Hid (0<z'):=zp
     go_wp2_with (go_at_call 86;refine CS.out.mono ?_;rintro e w4 ⟨rfl,hB4⟩;have B4:=hid hB4;clear hB4)
     go_roundw
     case rel=>exact⟨i+1,⟨s7,a7,n7,c7,b7,m7,d7⟩,hlt,by go_num,by rw[STE.out];simp[E2.out],UP2.out,Wp.out.below B4.out,Wj.out.later B4.out Wj.out.lt,L8.out.below B4.out,aB KW.out B4.out⟩
     case measure=>simp[intOf];omega
    ·have E2:Hid (¬ 0<z'):=zp
     go_wp2_with (go_at_call 86;refine CS.out.mono ?_;rintro e w4 ⟨rfl,hB4⟩;have B4:=hid hB4;clear hB4)
     go_roundw
     case rel=>exact⟨i+1,⟨s7,a7,n7,c7,b7,m7,d7⟩,hlt,by go_num,by rw[STE.out];simp[E2.out],UP2.out,Wp.out.below B4.out,Wj.out.later B4.out Wj.out.lt,L8.out.below B4.out,aB KW.out B4.out⟩
     case measure=>simp[intOf];omega
   ·have E2:Hid (¬rl=2):=r2
    go_wp2_with fail
    have B4:=hid (Below.refl w8.heap.size w8)
    go_roundw
    case rel=>exact⟨i+1,⟨s7,a7,n7,c7,b7,m7,d7⟩,hlt,by go_num,by rw[STE.out];simp[E2.out],UP2.out,Wp.out.below B4.out,Wj.out.later B4.out Wj.out.lt,L8.out.below B4.out,aB KW.out B4.out⟩
    case measure=>simp[intOf];omega
 obtain rfl:k=i:=by omega
 have C0:=CF.out;have N0:=NN.out;have X0:=XN.out;have B0:=BR.out;have U0:=UP.out;clear CF NN XN BR UP;have CF:=hid C0;have NN:=hid N0;have XN:=hid X0;have BR:=hid B0;have UP:=hid U0;clear C0 N0 X0 B0 U0 hlt hi;obtain⟨W9,rfl⟩:∃W9:World,W9=wr:=⟨_,rfl⟩;go_wp2_with fail;go_loopw [13] (fun v13 wx=>∃v:Nat,v≤n∧v13= .int .i64 (v:Int)∧(∀u,u<v→Sv L q k u=0)∧Below W9.heap.size W9 wx) (fun v _=>n-(intOf v).toNat)
 case atStart=>exact⟨0,Nat.zero_le _,rfl,fun u hu=>absurd hu (Nat.not_lt_zero _),Below.refl _ _⟩
 obtain⟨v,hv,rfl,hzz,hB⟩:=hrel;have ZZ:=hid hzz;have BX:=hid hB;clear hzz hB;by_cases hlt:v<n
 ·have v0:(0:Int)≤(v:Int):=by omega
  have v1:(v:Int)<(n:Int):=by omega
  obtain⟨Ns,z0,z1,z2,hs⟩:=CF.out.num hlt hlt;have z0:=aj BX.out z0;have z1:=aj BX.out z1;have z2:=aj BX.out z2;have SX:=hs.below BX.out;have s6:=SX.Ac (SV.out k v (Nat.le_refl _) hlt);have CS:=iG (s:=Ns.s) (a:=Ns.a) (n:=Ns.n) (c:=Ns.c) (b:=Ns.b) (m:=Ns.m) (d:=Ns.d) SX.toHR (by omega);obtain⟨z,hz⟩:∃z,aV (Sv L q k v)=z:=⟨_,rfl⟩;rw[hz]at CS;have ZE:Hid (Sv L q k v=0↔z=0):=by show _↔_;rw[←hz,aY]
  have CS:=hid CS;clear hs SX s6 hz;by_cases hz0:z=0
  ·have SE:=hid (ZE.out.2 hz0);subst hz0;go_wp2_with (go_at_call 86;refine CS.out.mono ?_;rintro e w4 ⟨rfl,hB4⟩;have B4:=hid (aB BX.out hB4);clear hB4);go_roundw
   case rel=>exact⟨v+1,hlt,by go_num,fun u hu=>by
    by_cases e:u=v
    ·subst e;exact SE.out
    exact ZZ.out u (by omega),B4.out⟩
   simp[intOf];omega
  have VF:Hid (V=false):=by
   show _=_
   cases hv:V with
   | false=>rfl
   | true=>exact absurd (ZE.out.1 ((HVV.out.1 hv).zero v hlt)) hz0
  have hz1:(z !=0)=true:=by simpa using hz0
  go_wp2_with (go_at_call 86;refine CS.out.mono ?_;rintro e w4 ⟨rfl,hB4⟩;have B4:=hid (aB BX.out hB4);clear hB4);rw[HQ.out,VF.out];exact⟨rfl,aB BR.out B4.out⟩
 obtain rfl:n=v:=by omega
 have NX:=NN.out.later BX.out NN.out.lt;have XX:=XN.out.below BX.out;have s6:=XX.Ac (SB.out k (Nat.le_refl _));have CS:=iG (s:=N.s) (a:=N.a) (n:=N.n) (c:=N.c) (b:=N.b) (m:=N.m) (d:=N.d) XX.toHR (by omega);obtain⟨z,hz⟩:∃z,aV (Sb L q k)=z:=⟨_,rfl⟩;rw[hz]at CS;have HZZ:=hid hz;have ZN:Hid (Sb L q k<0↔z<0):=by show _↔_;rw[←hz,iT]
 have ZE:Hid (Sb L q k=0↔z=0):=by show _↔_;rw[←hz,aY]
 have CS:=hid CS;obtain⟨z0,z1,z2,_⟩:=NX.reads;have NX:=hid NX;have Yh:=hid (aB BR.out BX.out);clear XX s6 hz hlt;obtain⟨st,hst⟩:∃st,oK L q k=st:=⟨_,rfl⟩;have STE:=hid hst;rw[hst];clear hst;by_cases hz0:z<0
 ·have VF:Hid (V=true):=HVV.out.2 ⟨UP.out,ZZ.out,Or.inl (ZN.out.2 hz0)⟩;go_wp2_with (go_at_call 86;refine CS.out.mono ?_;rintro e w4 ⟨rfl,hB4⟩;have B4:=hid (aB Yh.out hB4);clear hB4);rw[HQ.out,VF.out];exact⟨rfl,B4.out⟩
 have HZ0:=hid hz0;by_cases hz1:z=0
 ·have SE:=ZE.out.2 hz1;have VF:Hid (V=st):=by
   show _=_;have:=uN L q k;rw[STE.out]at this
   cases st with
   | true=>exact HVV.out.2 ⟨UP.out,ZZ.out,Or.inr ⟨SE,this.1 rfl⟩⟩
   | false=>
    cases hv:V with
    | false=>rfl
    | true=>
     rcases(HVV.out.1 hv).bd with h | ⟨_,h⟩
     ·exact absurd (ZN.out.1 h) hz0
     ·exact absurd (this.2 h) (by simp)
  subst hz1;clear SE hz0;have CS2:=hid (fun(W:World) (hB:Below wr.heap.size wr W)=>iG (w:=W) (s:=N.s) (a:=N.a) (n:=N.n) (c:=N.c) (b:=N.b) (m:=N.m) (d:=N.d) ((XN.out.below BX.out).below hB).toHR (by have:=(XN.out.below BX.out).Ac (SB.out k (Nat.le_refl _));omega));simp only[HZZ.out]at CS2;go_wp2_with (first
   | (go_at_call 86;with_reducible refine CS.out.mono ?_;rintro e w4 ⟨rfl,hB4⟩;have C2:=hid (CS2.out _ hB4);have B4:=hid (aB Yh.out hB4);have z0:=aj hB4 z0;have z1:=aj hB4 z1;have z2:=aj hB4 z2;clear hB4 CS)
   | (go_at_call 86;refine C2.out.mono ?_;rintro e w5 ⟨rfl,o7⟩;have B5:=hid (aB B4.out o7);clear o7))
  rw[HQ.out,VF.out];exact⟨rfl,B5.out⟩
 have VF:Hid (V=false):=by
  show _=_
  cases hv:V with
  | false=>rfl
  | true=>
   rcases(HVV.out.1 hv).bd with h | ⟨h,_⟩
   ·exact absurd (ZN.out.1 h) hz0
   ·exact absurd (ZE.out.1 h) hz1
 have CS2:=hid (fun(W:World) (hB:Below wr.heap.size wr W)=>iG (w:=W) (s:=N.s) (a:=N.a) (n:=N.n) (c:=N.c) (b:=N.b) (m:=N.m) (d:=N.d) ((XN.out.below BX.out).below hB).toHR (by have:=(XN.out.below BX.out).Ac (SB.out k (Nat.le_refl _));omega));simp only[HZZ.out]at CS2;have hz1b:(z==0)=false:=by simpa using hz1
 go_wp2_with (first
  | (go_at_call 86;with_reducible refine CS.out.mono ?_;rintro e w4 ⟨rfl,hB4⟩;have C2:=hid (CS2.out _ hB4);have B4:=hid (aB Yh.out hB4);have z0:=aj hB4 z0;have z1:=aj hB4 z1;have z2:=aj hB4 z2;clear hB4 CS)
  | (go_at_call 86;refine C2.out.mono ?_;rintro e w5 ⟨rfl,o7⟩;have B5:=hid (aB B4.out o7);clear o7))
 rw[HQ.out,VF.out];exact⟨by show Ending.returned (Value.bool (decide (z<0)))=_;rw[decide_eq_false (by have:=HZ0.out;omega)],B5.out⟩
end Go.Proofs.YtijdglogadnbcaaGreat
namespace Go.Proofs.YtijdglogadnbcaaGreat
open Go.Proofs.Tryz
open Go.RowKit Nt
theorem yP {w:World}{R:Raw}{a b:Option Addr}{n c m d g:Nat}(h:dG w R a n c b m d)(hg:NB w g R.neg a n c b m d)(h0:aP R=0):
  Calls prog 131 #[.slice (some ⟨g,0,none⟩) 1 1] w (bP w (if vl R.den=1 then 0 else 7)):=by
 have G:=hid hg;have C:=hid (uO h hg);have CZ:=hid h0;obtain⟨_,_,_,c4⟩:=rJ h0;have cn:=canon h.den.lm c4;obtain⟨y,hy⟩:∃y,vl R.den=y:=⟨_,rfl⟩;rw[hy]at cn⊢;have LD:=hid (fun(W:World) (hB:Below w.heap.size w W)=>(show bW W (aC y) b m d from by have:=h.den.below hB;rwa[cn]at this));obtain⟨z,hz⟩:∃z:Int,(if y=1 then 0 else 7)=z:=⟨_,rfl⟩;rw[hz];have ZZ:=hid hz;clear h hg h0 cn hy c4 hz;go_enter func131,ntmps131;go_wp2_with fail;refine C.out.mono ?_;rintro e w1 ⟨rfl,B1⟩;rw[CZ.out];have G1:Hid (NB w1 g R.neg a n c b m d):=G.out.later B1 G.out.lt;have L1:=hid (LD.out w1 B1);have B1:=hid B1;go_wp2_with fail;go_loopw [13] (fun i wr=>∃k:Nat,i= .int .i64 (k:Int)∧((k=0∧wr=w1)∨(k=1∧y=1∧Below w.heap.size w wr))) (fun i _=>2-(intOf i).toNat)
 case atStart=>exact⟨0,rfl,Or.inl ⟨rfl,rfl⟩⟩
 obtain⟨k,rfl,⟨rfl,rfl⟩ | ⟨rfl,hy1,hB⟩⟩:=hrel
 ·obtain⟨z0,z1,z2,_⟩:=G1.out.reads;have L2:=hid (L1.out.below (ah _ (.cells #[.bool R.neg,.slice a n c,.slice b m d] 25)));have B2:=hid (aB B1.out (ah _ (.cells #[.bool R.neg,.slice a n c,.slice b m d] 25)));have C2:=aS L2.out;by_cases e1:y=1
  ·rw[decide_eq_true e1]at C2;have C2:=hid C2;have E1:=hid e1;clear e1;go_wp2_with (go_at_call 111;refine C2.out.mono ?_;rintro e w' ⟨rfl,rfl⟩);go_roundw
   case rel=>exact⟨1,by go_num,Or.inr ⟨rfl,E1.out,B2.out⟩⟩
   simp[intOf]
  rw[decide_eq_false e1]at C2;have C2:=hid C2;have E1:=hid e1;clear e1;go_wp2_with (go_at_call 111;refine C2.out.mono ?_;rintro e w' ⟨rfl,rfl⟩);go_ret;have zz:=ZZ.out;rw[if_neg E1.out]at zz;subst zz;exact⟨rfl,B2.out⟩
 have BR:=hid hB;have E1:=hid hy1;clear hB hy1;go_wp2_with fail;go_ret;have zz:=ZZ.out;rw[if_pos E1.out]at zz;subst zz;exact⟨rfl,BR.out⟩
theorem En {w:World}{R:Raw}{a b:Option Addr}{n c m d:Nat}(h:dG w R a n c b m d)(h0:aP R=0):
  Calls prog 91 #[.agg #[.bool R.neg,.slice a n c,.slice b m d]] w fun e w'=>∃x:Int,e= .returned (.tuple #[.int .i64 x,.int .i64 (if vl R.den=1 then 0 else 7)])∧(vl R.den=1→x=(Nh.aU (vl R.num):Nat))∧Below w.heap.size w w':=by
 obtain⟨c1,c2,c3,c4⟩:=rJ h0;have hn:n≤128:=by rw[←h.num.len];exact c1
 have cn:=canon h.num.lm c3;obtain⟨P,hP⟩:∃P,vl R.num=P:=⟨_,rfl⟩;rw[hP]at cn⊢;obtain⟨W1,hW1⟩:∃W1,W1=w.alloc (.cells #[.bool R.neg,.slice a n c,.slice b m d] 25):=⟨_,rfl⟩;obtain⟨W2,hW2⟩:∃W2,W2=W1.alloc (.cells #[.bool R.neg,.slice a n c,.slice b m d] 25):=⟨_,rfl⟩;have B1:Below w.heap.size w W1:=by rw[hW1];exact ah _ _
 have B2:Below W1.heap.size W1 W2:=by rw[hW2];exact ah _ _
 have s1:W1.heap.size=w.heap.size+1:=by rw[hW1];simp
 have G2:NB W2 (w.heap.size+1) R.neg a n c b m d:=by rw[←s1,hW2];exact heap_alloc_new _ _
 have G1:NB W1 w.heap.size R.neg a n c b m d:=by rw[hW1];exact heap_alloc_new _ _
 have C:=yP ((h.below B1).below B2) G2 h0;have LN:Hid (∀W,Below W2.heap.size W2 W→bW W (aC P) a n c):=by intro W hB;have:=((h.num.below B1).below B2).below hB;rwa[cn]at this
 have eX:=hid (aB B1 B2);have G12:Hid (NB W2 w.heap.size R.neg a n c b m d):=G1.later B2 (by omega);rw[hW2,hW1]at C;have HW:Hid (W2=(w.alloc (.cells #[.bool R.neg,.slice a n c,.slice b m d] 25)).alloc (.cells #[.bool R.neg,.slice a n c,.slice b m d] 25)):=by show _=_;rw[hW2,hW1]
 clear h h0 cn hP hW1 hW2 B1 B2 s1 G2 G1;by_cases e1:vl R.den=1
 ·rw[if_pos e1]at C⊢;have C:=hid C;have E1:=hid e1;clear e1;go_enter func91,ntmps91;go_wp2_with fail;refine C.out.mono ?_;rintro e w3 ⟨rfl,B3⟩;rw[←HW.out]at B3;have G3:NB w3 w.heap.size R.neg a n c b m d:=G12.out.later B3 G12.out.lt;obtain⟨z0,z1,z2,_⟩:=G3.reads;have L3:=hid (LN.out w3 B3);have fC:=hid (aB eX.out B3);clear B3 G3;go_wp2_with fail;refine(len_any L3.out (by omega)).mono ?_;rintro e w' ⟨rfl,rfl⟩;go_wp2_with fail;go_ret2;exact⟨_,rfl,fun _=>rfl,fC.out⟩
 rw[if_neg e1]at C⊢;have C:=hid C;have E1:=hid e1;clear e1;go_enter func91,ntmps91;go_wp2_with fail;refine C.out.mono ?_;rintro e w3 ⟨rfl,B3⟩;rw[←HW.out]at B3;have fC:=hid (aB eX.out B3);clear B3;go_wp2_with fail;go_ret2;exact⟨_,rfl,fun q=>absurd q E1.out,fC.out⟩
end Go.Proofs.YtijdglogadnbcaaGreat
namespace Go.Proofs.YtijdglogadnbcaaGreat
open Go.Proofs.Tryz
open Go.RowKit Nt Bl
def fi (k:Int):List (Int×Value)→Option (Nat×Value)
 | []=>none
 | p::l=>if k=p.1 then some (0,p.2)else(fi k l).map fun x=>(x.1+1,x.2)
theorem uP (k:Int):∀(es:List MapEntry) (l:List (Int×Value)) (i:Nat),es.map (fun e=>(e.key,e.val))=l.map (fun p=>(Value.int .i64 p.1,p.2))→
  Instr.findNow (.int .i64) (.int .i64 k) es i=some ((fi k l).map fun x=>(i+x.1,x.2))
 | [],l,i,h=>by
  cases l with
  | nil=>rfl
  | cons p l=>simp at h
 | e::es,l,i,h=>by
  cases l with
  | nil=>simp at h
  | cons p l=>
   simp only[List.map_cons,List.cons.injEq,Prod.mk.injEq]at h
   obtain⟨⟨h1,h2⟩,h3⟩:=h
   have ih:=uP k es l (i+1) h3
   obtain⟨pk,pv⟩:=p
   simp only at h1 h2
   by_cases hk:k=pk
   ·subst hk
    simp[Instr.findNow,h1,Instr.sameNow,fi,h2]
   ·have hb:(k==pk)=false:=by simpa using hk
    simp only[Instr.findNow,h1,Instr.sameNow,if_true,hb,ih,fi,if_neg hk,Option.map_map]
    congr 2
    funext x
    simp;omega
theorem Mc (k v':Int)(v:Value):∀(l:List (Int×Value)) (i:Nat) (u:Value),fi k l=some (i,u)→fi v' (l.set i (k,v))=if v'=k then some (i,v)else fi v' l
 | [],i,u,h=>by simp[fi]at h
 | p::l,i,u,h=>by
  unfold fi at h;by_cases e:k=p.1
  ·rw[if_pos e]at h;simp only[Option.some.injEq,Prod.mk.injEq]at h;obtain⟨rfl,_⟩:=h;simp only[List.set_cons_zero,fi];by_cases q:v'=k
   ·simp[q]
   simp only[if_neg q,←e]
  rw[if_neg e]at h;obtain⟨⟨j,x⟩,hj,he⟩:=Option.map_eq_some_iff.1 h;simp only[Prod.mk.injEq]at he;obtain⟨rfl,rfl⟩:=he;have ih:=Mc k v' v l j x hj;simp only[List.set_cons_succ,fi,ih];by_cases q:v'=k
  ·subst q;simp[e]
  simp only[if_neg q]
theorem Wq {k:Int}:∀{l:List (Int×Value)} {i:Nat} {u:Value},fi k l=some (i,u)→i<l.length∧(l[i]?).map (·.1)=some k
 | [],i,u,h=>by simp[fi]at h
 | p::l,i,u,h=>by
  unfold fi at h;by_cases e:k=p.1
  ·rw[if_pos e]at h;simp only[Option.some.injEq,Prod.mk.injEq]at h;obtain⟨rfl,_⟩:=h;simp[e]
  rw[if_neg e]at h;obtain⟨⟨j,x⟩,hj,he⟩:=Option.map_eq_some_iff.1 h;simp only[Prod.mk.injEq]at he;obtain⟨rfl,rfl⟩:=he;have ih:=Wq hj;simp;exact⟨ih.1,by simpa using ih.2⟩
theorem Gz (k v':Int)(v:Value):∀(l:List (Int×Value)),fi k l=none→∃i,fi k (l++[(k,v)])=some (i,v)∧∀v',v'≠k→fi v' (l++[(k,v)])=fi v' l
 | [],_=>⟨0,by simp[fi],fun v' h=>by simp[fi,h]⟩
 | p::l,h=>by
  unfold fi at h;by_cases e:k=p.1
  ·rw[if_pos e]at h;simp at h
  rw[if_neg e,Option.map_eq_none_iff]at h;obtain⟨i,h1,h2⟩:=Gz k v' v l h;refine⟨i+1,by simp[fi,e,h1],fun v' hv=>?_⟩;simp only[List.cons_append,fi,h2 v' hv]
def sK (w:World)(b:Nat)(l:List (Int×Value)):Prop:=∃es ck,w.heap[b]? =some (.map es ck)∧es.toList.map (fun e=>(e.key,e.val))=l.map (fun p=>(Value.int .i64 p.1,p.2))
theorem sK.of_block {w w':World}{b:Nat}{l:List (Int×Value)}(h:sK w b l)(hb:w'.heap[b]? =w.heap[b]?):sK w' b l:=by obtain⟨es,ck,h1,h2⟩:=h;exact⟨es,ck,hb.trans h1,h2⟩
theorem gI (x:Int)(em:Bool)(w:World):(Instr.checkKey em 10000 3 (.int .i64 x)).run prog w= .ok () w:=by kernel_rfl
theorem uo (w:World):(zeroValue 25).run prog w= .ok (.agg #[.bool false,.slice none 0 0,.slice none 0 0]) w:=by kernel_rfl
def Ws:Value:= .agg #[.bool false,.slice none 0 0,.slice none 0 0]
theorem Eo {w:World}{b:Nat}{l:List (Int×Value)}{es:Array MapEntry}(h2:es.toList.map (fun e=>(e.key,e.val))=l.map (fun p=>(Value.int .i64 p.1,p.2)))(k:Int):
  (Instr.findKey 3 (.int .i64 k) es.toList).run prog w= .ok (fi k l) w:=by
 have:=uP k es.toList l 0 h2;have e:((fi k l).map fun x=>(0+x.1,x.2))=fi k l:=by
  cases fi k l with
  | none=>rfl
  | some x=>simp
 rw[e]at this;exact MapKept.run_findKey underlying3 this
theorem sK.look {w:World}{b:Nat}{l:List (Int×Value)}(h:sK w b l)(k:Int):
  (Instr.lookup 184 (.map (some b)) (.int .i64 k) true).run prog w= .ok (.tuple #[((fi k l).map (·.2)).getD Ws,.bool (fi k l).isSome]) w:=by
 obtain⟨es,ck,h1,h2⟩:=h;have hr:=Eo (w:=w) (b:=b) h2 k
 cases hk:fi k l with
 | none=>
  rw[hk]at hr
  simp[Instr.lookup,run_underlying underlying184,MapKept.run_getObj_map h1,gI,hr,Result.andThen,uo,Ws]
 | some p=>
  rw[hk]at hr
  simp[Instr.lookup,run_underlying underlying184,MapKept.run_getObj_map h1,gI,hr,Result.andThen,uo]
theorem sK.look1 {w:World}{b:Nat}{l:List (Int×Value)}(h:sK w b l)(k:Int):
  (Instr.lookup 184 (.map (some b)) (.int .i64 k) false).run prog w= .ok (((fi k l).map (·.2)).getD Ws) w:=by
 obtain⟨es,ck,h1,h2⟩:=h;have hr:=Eo (w:=w) (b:=b) h2 k
 cases hk:fi k l with
 | none=>
  rw[hk]at hr
  simp[Instr.lookup,run_underlying underlying184,MapKept.run_getObj_map h1,gI,hr,Result.andThen,uo,Ws]
 | some p=>
  rw[hk]at hr
  simp[Instr.lookup,run_underlying underlying184,MapKept.run_getObj_map h1,gI,hr,Result.andThen,uo]
theorem lZ {h:Array Obj}{b:Nat}{o o':Obj}(hb:h[b]? =some o):(h.setIfInBounds b o')[b]? =some o':=by
 have:b<h.size:=by
  rcases Nat.lt_or_ge b h.size with h' | h'
  ·exact h'
  rw[Array.getElem?_eq_none h']at hb;simp at hb
 simp[this]
def Wu (l:List (Int×Value))(k:Int)(v:Value):List (Int×Value):=match fi k l with | some (i,_)=>l.set i (k,v) | none=>l++[(k,v)]
theorem Yi (l:List (Int×Value))(k:Int)(v:Value)(k':Int):((fi k' (Wu l k v)).map (·.2))=if k'=k then some v else(fi k' l).map (·.2):=by
 unfold Wu
 cases hk:fi k l with
 | none=>
  obtain⟨i,h1,h2⟩:=Gz k k v l hk
  simp only
  by_cases e:k'=k
  ·subst e;rw[h1];simp
  ·rw[h2 k' e,if_neg e]
 | some p=>
  obtain⟨i,u⟩:=p
  simp only
  rw[Mc k k' v l i u hk]
  by_cases e:k'=k
  ·simp[e]
  ·simp[e]
theorem Md (x:Int)(w:World):(Instr.keyThatStays (.int .i64 x) (.int .i64 x)).run prog w= .ok (.int .i64 x) w:=by
 have:Instr.sameBits 10000 (.int .i64 x) (.int .i64 x)=true:=by simp[Instr.sameBits]
 simp[Instr.keyThatStays,this]
theorem sK.store {w:World}{b:Nat}{l:List (Int×Value)}(h:sK w b l)(k:Int)(v:Value):
  ∃o,(Instr.mapUpdate 184 (.map (some b)) (.int .i64 k) v).run prog w= .ok () (ChangeMaps.setBlock w b o)∧sK (ChangeMaps.setBlock w b o) b (Wu l k v):=by
 obtain⟨es,ck,h1,h2⟩:=h;have hr:=Eo (w:=w) (b:=b) h2 k
 cases hk:fi k l with
 | none=>
  rw[hk]at hr
  refine⟨.map (es.push {key:= .int .i64 k,val:=v,born:=ck}) (ck+1),?_,?_⟩
  ·simp[Instr.mapUpdate,run_underlying underlying184,MapKept.run_getObj_map h1,gI,hr,MapKept.run_setObj_map _ h1,Result.andThen,ChangeMaps.setBlock]
  ·refine⟨_,_,lZ h1,?_⟩
   unfold Wu
   rw[hk]
   simp[h2]
 | some p=>
  obtain⟨i,u⟩:=p
  rw[hk]at hr
  obtain⟨lt,ke⟩:=Wq hk
  have hl:es.toList.length=l.length:=by have:=congrArg List.length h2;simpa using this
  have ei:(es[i]?).map (·.key)=some (.int .i64 k):=by
   have:=congrArg (fun q=>(q[i]?).map (·.1)) h2
   simp only[List.getElem?_map,Option.map_map]at this
   rw[←Array.getElem?_toList]
   obtain⟨e,he⟩:∃e,es.toList[i]? =some e:=⟨_,List.getElem?_eq_getElem (by omega)⟩
   obtain⟨q,hq⟩:∃q,l[i]? =some q:=⟨_,List.getElem?_eq_getElem lt⟩
   rw[he,hq]at this
   rw[hq]at ke
   rw[he]
   simp at this ke⊢
   rw[this,ke]
  refine⟨.map (es.modify i fun e=>{e with key:= .int .i64 k,val:=v}) ck,?_,?_⟩
  ·have ks:(Instr.keyThatStays (.int .i64 k) (.int .i64 k)).run prog w= .ok (.int .i64 k) w:=Md k w
   simp[Instr.mapUpdate,run_underlying underlying184,MapKept.run_getObj_map h1,gI,hr,MapKept.run_setObj_map _ h1,Result.andThen,ChangeMaps.setBlock,ei,ks]
  ·refine⟨_,_,lZ h1,?_⟩
   unfold Wu
   rw[hk]
   simp only
   rw[Array.toList_modify]
   refine List.ext_getElem? fun j=>?_
   have:=congrArg (fun q=>q[j]?) h2
   simp only[List.getElem?_map]at this⊢
   rw[List.getElem?_modify,List.getElem?_set]
   by_cases e:i=j
   ·subst e
    obtain⟨e,he⟩:∃e,es.toList[i]? =some e:=⟨_,List.getElem?_eq_getElem (by omega)⟩
    simp[he,lt]
   ·simp only[if_neg e]
    simpa using this
end Go.Proofs.YtijdglogadnbcaaGreat
