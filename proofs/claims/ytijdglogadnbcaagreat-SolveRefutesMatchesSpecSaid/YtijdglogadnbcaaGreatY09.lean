/- rat.Add. -/
import Derived.Test.YtijdglogadnbcaaGreatY08
set_option linter.unusedVariables false
set_option linter.unusedSimpArgs false
set_option maxRecDepth 100000
set_option maxHeartbeats 40000000
namespace Go.Proofs.YtijdglogadnbcaaGreat
open Go.Proofs.Tryz
open Go.RowKit Nt
def AdC (w:World)(g1 g2:Nat)(s t:Bool)(a b a' b':Option Addr)(n c m d n' c' m' d' X Y D:Nat)(x y z:Value)(W:World):Prop:=
 ∃(xa:Option Addr) (xn xc:Nat) (ya:Option Addr) (yn yc:Nat) (za:Option Addr) (zn zc:Nat),x= .slice xa xn xc∧y= .slice ya yn yc∧z= .slice za zn zc∧
  bW W (aC X) xa xn xc∧bW W (aC Y) ya yn yc∧bW W (aC D) za zn zc∧NB W g1 s a n c b m d∧NB W g2 t a' n' c' b' m' d'∧NB W (w.heap.size+2) false none 0 0 none 0 0∧Below w.heap.size w W
theorem UG {w:World}{p q:Rat}{s t:Bool}{a b a' b':Option Addr}{n c m d n' c' m' d':Nat}(hp:aO w p s a n c b m d)(hq:aO w q t a' n' c' b' m' d')(sp:Sz p 268435456)(sq:Sz q 268435456)(p0:p≠0)(q0:q≠0):
  Calls prog 133 #[.agg #[.bool s,.slice a n c,.slice b m d],.agg #[.bool t,.slice a' n' c',.slice b' m' d']] w (iC w (p+q)):=by
 have hn:n≠0:=fun e=>p0 (hp.zero.1 e);have hn':n'≠0:=fun e=>q0 (hq.zero.1 e);have P:=hid hp;have Q:=hid hq;have SP:=hid sp;have SQ:=hid sq;have s1:=sp.1;have s2:=sp.2;have s3:=sq.1;have s4:=sq.2;rw[hp.num.len]at s1;rw[hp.den.len]at s2;rw[hq.num.len]at s3;rw[hq.den.len]at s4;have nz:((n:Int)==0)=false:=by simp;exact hn
 have nz':((n':Int)==0)=false:=by simp;exact hn'
 have T3:=hid (bZ w (.cells #[.bool s,.slice a n c,.slice b m d] 25) (.cells #[.bool t,.slice a' n' c',.slice b' m' d'] 25) (.cells #[.bool false,.slice none 0 0,.slice none 0 0] 25) _ rfl);have dz:Hid (p.den*q.den≠0):=Nat.mul_ne_zero p.den_nz q.den_nz;have NZ:Hid (p.num.natAbs≠0∧q.num.natAbs≠0):=⟨fun e=>p0 (Rat.num_eq_zero.1 (Int.natAbs_eq_zero.1 e)),fun e=>q0 (Rat.num_eq_zero.1 (Int.natAbs_eq_zero.1 e))⟩;clear hp hq sp sq p0 q0 hn hn';go_enter func133,ntmps133;go_wp2_with fail;generalize ((w.alloc (.cells #[.bool s,.slice a n c,.slice b m d] 25)).alloc (.cells #[.bool t,.slice a' n' c',.slice b' m' d'] 25)).alloc (.cells #[.bool false,.slice none 0 0,.slice none 0 0] 25)=W0 at*;obtain⟨t1,t2,t3,t4,t5⟩:=T3.out;have X1:Hid (NB W0 w.heap.size s a n c b m d):=t1;have X2:Hid (NB W0 (w.heap.size+1) t a' n' c' b' m' d'):=t2;have X3:Hid (NB W0 (w.heap.size+2) false none 0 0 none 0 0):=t3;have B0:=hid t4;have S0:=hid t5;clear t1 t2 t3 t4 t5;obtain⟨u0,u1,u2,_⟩:=X1.out.reads;obtain⟨v0,v1,v2,_⟩:=X2.out.reads;go_region_held3 (fun W=>W.cell? ⟨w.heap.size,0,none⟩=some (.bool s)∧W.cell? ⟨w.heap.size,1,none⟩=some (.slice a n c)∧W.cell? ⟨w.heap.size,2,none⟩=some (.slice b m d)∧W.cell? ⟨w.heap.size+1,0,none⟩=some (.bool t)∧W.cell? ⟨w.heap.size+1,1,none⟩=some (.slice a' n' c')∧W.cell? ⟨w.heap.size+1,2,none⟩=some (.slice b' m' d'))
  (first
   | exact⟨u0,u1,u2,v0,v1,v2⟩
   | exact⟨y0,y1,y2,y3,y4,y5⟩
   | go_keep)
  ((go_at_call 119;refine(one_any _).mono ?_;rintro e w2 ⟨a2,n2,c2,rfl,L2,B2⟩;have B2:=aJ B2;have N1:NB w2 w.heap.size s a n c b m d:=X1.out.later B2 X1.out.lt;have N2:NB w2 (w.heap.size+1) t a' n' c' b' m' d':=X2.out.later B2 X2.out.lt;have N3:NB w2 (w.heap.size+2) false none 0 0 none 0 0:=X3.out.later B2 X3.out.lt;obtain⟨y0,y1,y2,_⟩:=N1.reads;obtain⟨y3,y4,y5,_⟩:=N2.reads;have N1:=hid N1;have N2:=hid N2;have N3:=hid N3;have L2:=hid L2;have eX:=hid (aB B0.out B2);clear B2))
 clear X1 X2 X3 u0 u1 u2 v0 v1 v2 T3 S0;go_upto_region 6 with fail
 go_cut [32] (fun v W=>v= .bool (!(decide (p.den=1))|| !(decide (q.den=1)))∧W=w2)
 case first=>
  have Q2:=hid ((Q.out.below eX.out));have P2:=hid ((P.out.below eX.out));by_cases h1:p.den=1
  ·have D1:Hid (decide (p.den=1)=true):=decide_eq_true h1;have E1:Hid (!(decide (p.den=1))=false):=by show _=_;rw[D1.out];rfl
   by_cases h2:q.den=1
   ·have D2:Hid (decide (q.den=1)=true):=decide_eq_true h2;have E2:Hid ((!(decide (p.den=1))|| !(decide (q.den=1)))=false):=by show _=_;rw[D1.out,D2.out];rfl
    clear h1 h2;go_wp2_with fail;refine(aS P2.out.den).mono ?_;rintro e w' ⟨rfl,rfl⟩;rw[D1.out];go_wp2_with fail;refine(aS Q2.out.den).mono ?_;rintro e w' ⟨rfl,rfl⟩;rw[D2.out];go_wp2_with fail;go_meet
    case rel=>exact⟨by rw[E2.out],rfl⟩
   have D2:Hid (decide (q.den=1)=false):=decide_eq_false h2;have E2:Hid ((!(decide (p.den=1))|| !(decide (q.den=1)))=true):=by show _=_;rw[D1.out,D2.out];rfl
   clear h1 h2;go_wp2_with fail;refine(aS P2.out.den).mono ?_;rintro e w' ⟨rfl,rfl⟩;rw[D1.out];go_wp2_with fail;refine(aS Q2.out.den).mono ?_;rintro e w' ⟨rfl,rfl⟩;rw[D2.out];go_wp2_with fail;go_meet
   case rel=>exact⟨by rw[E2.out],rfl⟩
  have D1:Hid (decide (p.den=1)=false):=decide_eq_false h1;have E2:Hid ((!(decide (p.den=1))|| !(decide (q.den=1)))=true):=by show _=_;rw[D1.out];rfl
  clear h1;go_wp2_with fail;refine(aS P2.out.den).mono ?_;rintro e w' ⟨rfl,rfl⟩;rw[D1.out];go_wp2_with fail;go_meet
  case rel=>exact⟨by rw[E2.out],rfl⟩
 obtain⟨rfl,rfl⟩:=hcut;obtain⟨W2,rfl⟩:∃W2:World,W2=wc:=⟨_,rfl⟩;go_upto_if 32 with fail
 go_cut [5,6,7] (fun x y z W=>AdC w w.heap.size (w.heap.size+1) s t a b a' b' n c m d n' c' m' d' (p.num.natAbs*q.den) (q.num.natAbs*p.den) (p.den*q.den) x y z W)
 case first=>
  obtain⟨y0,y1,y2,_⟩:=N1.out.reads;obtain⟨y3,y4,y5,_⟩:=N2.out.reads;by_cases hd:p.den=1∧q.den=1
  ·have E2:Hid ((!(decide (p.den=1))|| !(decide (q.den=1)))=false):=by show _=_;rw[decide_eq_true hd.1,decide_eq_true hd.2];rfl
   have F:Hid (AdC w w.heap.size (w.heap.size+1) s t a b a' b' n c m d n' c' m' d' (p.num.natAbs*q.den) (q.num.natAbs*p.den) (p.den*q.den) (.slice a n c) (.slice a' n' c') (.slice a2 n2 c2) W2):=by
    refine⟨a,n,c,a',n',c',a2,n2,c2,rfl,rfl,rfl,?_,?_,?_,N1.out,N2.out,N3.out,eX.out⟩
    ·rw[hd.2,Nat.mul_one];exact P.out.num.below eX.out
    ·rw[hd.1,Nat.mul_one];exact Q.out.num.below eX.out
    rw[hd.1,hd.2];exact L2.out
   clear hd;rw[E2.out];go_wp2_with fail;go_meet
   case rel=>exact F.out
  have E2:Hid ((!(decide (p.den=1))|| !(decide (q.den=1)))=true):=by
   show _=_;by_cases h1:p.den=1
   ·rw[decide_eq_true h1,decide_eq_false fun e=>hd ⟨h1,e⟩];rfl
   rw[decide_eq_false h1];rfl
  have C1:=hid (fun(W:World) (hB:Below w.heap.size w W)=>mul_any (P.out.num.below hB) (Q.out.den.below hB) (by omega) (by omega));have C2:=hid (fun(W:World) (hB:Below w.heap.size w W)=>mul_any (Q.out.num.below hB) (P.out.den.below hB) (by omega) (by omega));have C3:=hid (fun(W:World) (hB:Below w.heap.size w W)=>mul_any (P.out.den.below hB) (Q.out.den.below hB) (by omega) (by omega));have VN:Hid (vl (aC p.num.natAbs)*vl (aC q.den)=p.num.natAbs*q.den∧vl (aC q.num.natAbs)*vl (aC p.den)=q.num.natAbs*p.den∧vl (aC p.den)*vl (aC q.den)=p.den*q.den):=⟨by rw[au,au],by rw[au,au],by rw[au,au]⟩;clear hd;rw[E2.out];go_wp2_with fail;go_region_held3 (fun W=>W.cell? ⟨w.heap.size,0,none⟩=some (.bool s)∧W.cell? ⟨w.heap.size,1,none⟩=some (.slice a n c)∧W.cell? ⟨w.heap.size,2,none⟩=some (.slice b m d)∧W.cell? ⟨w.heap.size+1,0,none⟩=some (.bool t)∧W.cell? ⟨w.heap.size+1,1,none⟩=some (.slice a' n' c')∧W.cell? ⟨w.heap.size+1,2,none⟩=some (.slice b' m' d'))
   (first
    | exact⟨y0,y1,y2,y3,y4,y5⟩
    | exact⟨x0,x1,x2,x3,x4,x5⟩
    | exact⟨r0,r1,r2,r3,r4,r5⟩
    | exact⟨q0,q1,q2,q3,q4,q5⟩
    | go_keep)
   (first
    | (go_at_call 99;((with_reducible refine(C1.out W2.drew eX.out.drew).mono ?_));rintro e w3 ⟨a3,n3,c3,rfl,L3,B3⟩;have B3:=aJ B3;rw[VN.out.1]at L3;have M1:NB w3 w.heap.size s a n c b m d:=N1.out.later B3 N1.out.lt;have M2:NB w3 (w.heap.size+1) t a' n' c' b' m' d':=N2.out.later B3 N2.out.lt;have M3:NB w3 (w.heap.size+2) false none 0 0 none 0 0:=N3.out.later B3 N3.out.lt;obtain⟨x0,x1,x2,_⟩:=M1.reads;obtain⟨x3,x4,x5,_⟩:=M2.reads;have M1:=hid M1;have M2:=hid M2;have M3:=hid M3;have L3:=hid L3;have fC:=hid (aB eX.out B3);clear B3)
    | (go_at_call 99;((with_reducible refine(C2.out w3 fC.out).mono ?_));rintro e w4 ⟨a4,n4,c4,rfl,L4,B4⟩;rw[VN.out.2.1]at L4;have K1:NB w4 w.heap.size s a n c b m d:=M1.out.later B4 M1.out.lt;have K2:NB w4 (w.heap.size+1) t a' n' c' b' m' d':=M2.out.later B4 M2.out.lt;have K3:NB w4 (w.heap.size+2) false none 0 0 none 0 0:=M3.out.later B4 M3.out.lt;obtain⟨r0,r1,r2,_⟩:=K1.reads;obtain⟨r3,r4,r5,_⟩:=K2.reads;have K1:=hid K1;have K2:=hid K2;have K3:=hid K3;have L34:=hid (L3.out.below B4);have L4:=hid L4;have zq:=hid (aB fC.out B4);clear B4)
    | (go_at_call 99;((with_reducible refine(C3.out w4 zq.out).mono ?_));rintro e w5 ⟨a5,n5,c5,rfl,L5,B5⟩;rw[VN.out.2.2]at L5;have J1:NB w5 w.heap.size s a n c b m d:=K1.out.later B5 K1.out.lt;have J2:NB w5 (w.heap.size+1) t a' n' c' b' m' d':=K2.out.later B5 K2.out.lt;have J3:NB w5 (w.heap.size+2) false none 0 0 none 0 0:=K3.out.later B5 K3.out.lt;obtain⟨q0,q1,q2,_⟩:=J1.reads;obtain⟨q3,q4,q5,_⟩:=J2.reads;have J1:=hid J1;have J2:=hid J2;have J3:=hid J3;have ab2:=hid (L34.out.below B5);have L45:=hid (L4.out.below B5);have L5:=hid L5;have UH:=hid (aB zq.out B5);clear B5))
  go_wp2_with fail;go_meet
  case rel=>exact⟨a3,n3,c3,a4,n4,c4,a5,n5,c5,rfl,rfl,rfl,ab2.out,L45.out,L5.out,J1.out,J2.out,J3.out,UH.out⟩
 obtain⟨xa,xn,xc,ya,yn,yc,za,zn,zc,rfl,rfl,rfl,hX,hY,hZ,hM1,hM2,hM3,hB⟩:=hcut;have LX:=hid hX;have LY:=hid hY;have LZ:=hid hZ;have M1:=hid hM1;have M2:=hid hM2;have M3:=hid hM3;have fC:=hid hB;obtain⟨y0,y1,y2,_⟩:=hM1.reads;obtain⟨y3,y4,y5,_⟩:=hM2.reads;have XN:Hid (xn≤536870912):=by show _≤_;rw[←hX.len];exact Nat.le_trans (aW SP.out.1 SQ.out.2) (by omega)
 have YN:Hid (yn≤536870912):=by show _≤_;rw[←hY.len];exact Nat.le_trans (aW SQ.out.1 SP.out.2) (by omega)
 have ZN:Hid (zn≤536870912):=by show _≤_;rw[←hZ.len];exact Nat.le_trans (aW SP.out.2 SQ.out.2) (by omega)
 have X0:Hid (p.num.natAbs*q.den≠0):=Nat.mul_ne_zero NZ.out.1 q.den_nz;have Y0:Hid (q.num.natAbs*p.den≠0):=Nat.mul_ne_zero NZ.out.2 p.den_nz;have SGP:=hid P.out.sg;have SGQ:=hid Q.out.sg;have AS:=hid (iP (p:=p) (q:=q));have AG:=hid (iR (p:=p) (q:=q));have AL:=hid (jS (p:=p) (q:=q));rw[←SGP.out,←SGQ.out]at AS AG AL;clear hX hY hZ hM1 hM2 hM3 hB N1 N2 N3 L2 eX;obtain⟨W3,rfl⟩:∃W3:World,W3=wc:=⟨_,rfl⟩;obtain⟨X,hX⟩:∃X,p.num.natAbs*q.den=X:=⟨_,rfl⟩;obtain⟨Y,hY⟩:∃Y,q.num.natAbs*p.den=Y:=⟨_,rfl⟩;rw[hX]at LX X0;rw[hY]at LY Y0;rw[hX,hY]at AS AG AL;clear hX hY;by_cases hst:s=t
 ·subst hst;have FR:Hid (fQ s (X+Y) (p.den*q.den)=p+q):=(AS.out rfl).symm;have RL:Hid ((aC (X+Y)).length≤536870913):=jU (by rw[LX.out.len];exact XN.out) (by rw[LY.out.len];exact YN.out);obtain⟨WA,hWA⟩:∃WA,WA=W3.drew.alloc (.cells #[.slice xa xn xc,.slice ya yn yc] 23):=⟨_,rfl⟩;have BA:Hid (Below W3.heap.size W3 WA):=by show Below _ _ _;rw[hWA];exact aJ (ah _ _)
  have hg:WA.heap[W3.heap.size]? =some (.cells #[.slice xa xn xc,.slice ya yn yc] 23 (0,0)):=by rw[hWA];exact heap_alloc_new W3.drew _
  have g0:WA.cell? ⟨W3.heap.size,0,none⟩=some (.slice xa xn xc):=by rw[cell_of_row WA W3.heap.size 0 _ _ _ hg];rfl
  have g1:WA.cell? ⟨W3.heap.size,1,none⟩=some (.slice ya yn yc):=by rw[cell_of_row WA W3.heap.size 1 _ _ _ hg];rfl
  have AA:=hid (add_any (LX.out.below BA.out) (LY.out.below BA.out) g0 g1 (by have:=XN.out;omega) (by have:=YN.out;omega));have Oz:Hid (NB WA w.heap.size s a n c b m d):=M1.out.later BA.out M1.out.lt;have OC:Hid (NB WA (w.heap.size+1) s a' n' c' b' m' d'):=M2.out.later BA.out M2.out.lt;have WT:Hid (NB WA (w.heap.size+2) false none 0 0 none 0 0):=M3.out.later BA.out M3.out.lt;have LZA:=hid (LZ.out.below BA.out);have B0A:=hid (aB fC.out BA.out);have k0:=Oz.out.cells.1;have k1:=OC.out.cells.1;rw[hWA]at k0 k1 AA;have HWA:=hid hWA;clear hWA hg g0 g1;go_wp2_with fail;go_region_held3 (fun W=>W.cell? ⟨w.heap.size,0,none⟩=some (.bool s)∧W.cell? ⟨w.heap.size+1,0,none⟩=some (.bool s))
   (first
    | exact⟨y0,y3⟩
    | exact⟨k0,k1⟩
    | exact⟨x0,x3⟩
    | exact⟨r0,r3⟩
    | exact⟨(K1.out.gy (by omega) _ _ _).cells.1,(K2.out.gy (by omega) _ _ _).cells.1⟩
    | go_keep)
   (first
    | (go_at_call 173;go_loud (refine AA.out.mono ?_;rintro e w5 ⟨a5,n5,c5,rfl,L5,B5⟩;rw[←HWA.out]at B5;have J1:NB w5 w.heap.size s a n c b m d:=Oz.out.later B5 Oz.out.lt;have J2:NB w5 (w.heap.size+1) s a' n' c' b' m' d':=OC.out.later B5 OC.out.lt;have J3:NB w5 (w.heap.size+2) false none 0 0 none 0 0:=WT.out.later B5 WT.out.lt;obtain⟨x0,x1,x2,_⟩:=J1.reads;obtain⟨x3,x4,x5,_⟩:=J2.reads;have J1:=hid J1;have J2:=hid J2;have J3:=hid J3;have LR:=hid L5;have WU:=hid (LZA.out.below B5);have UH:=hid (aB B0A.out B5);clear B5))
    | (go_at_call 142;go_loud (refine(iZ (neg:=s) LR.out WU.out dz.out (by have:=LR.out.len;have:=RL.out;omega) (by have:=WU.out.len;have:=ZN.out;omega)).mono ?_;rintro e w6 ⟨s6,a6,n6,c6,b6,m6,d6,rfl,L6,B6⟩;rw[FR.out]at L6;have K1:NB w6 w.heap.size s a n c b m d:=J1.out.later B6 J1.out.lt;have K2:NB w6 (w.heap.size+1) s a' n' c' b' m' d':=J2.out.later B6 J2.out.lt;have K3:NB w6 (w.heap.size+2) false none 0 0 none 0 0:=J3.out.later B6 J3.out.lt;obtain⟨r0,r1,r2,_⟩:=K1.reads;obtain⟨r3,r4,r5,_⟩:=K2.reads;obtain⟨z0,z1,z2,f⟩:=K3.reads;have f0:=f 0;have f1:=f 1;have f2:=f 2;have Tq:=K3.lt;clear f;have K1:=hid K1;have K2:=hid K2;have K3:=hid K3;have L6:=hid L6;have o8:=hid (aB UH.out B6);clear B6)))
  go_wp2_with fail;exact bodyPost_ret (v:= .agg #[.bool s6,.slice a6 n6 c6,.slice b6 m6 d6]) (by simp[results,results133,go_sem,z0,z1,z2]) rfl ⟨s6,a6,n6,c6,b6,m6,d6,rfl,⟨L6.out.sg,L6.out.num.beside K3.out (ay _ _ _ _ _),L6.out.den.beside K3.out (ay _ _ _ _ _)⟩,aG o8.out _ (by omega) _ _ _⟩
 have hse:(s==t)=false:=by simp;exact hst
 have CMP:=hid (jW LX.out LY.out);by_cases hle:Y≤X
 ·have FR:Hid (fQ s (X-Y) (p.den*q.den)=p+q):=(AG.out hst hle).symm;have RL:Hid ((aC (X-Y)).length≤536870912):=by show _≤_;exact Nat.le_trans (aK (Nat.sub_le X Y)) (by rw[LX.out.len];exact XN.out)
  have CC:Hid (0≤bU X Y):=by show _≤_;unfold bU;rw[if_neg (by omega)];split<;>omega
  have CN:Hid (yn≤xn):=by show _≤_;rw[←LX.out.len,←LY.out.len];exact aK hle
  have XP:Hid (0<xn):=by show _<_;rw[←LX.out.len];exact iY X0.out
  have D9:=hid hle;obtain⟨cm,hcm⟩:∃cm,bU X Y=cm:=⟨_,rfl⟩;have cm0:0≤cm:=by rw[←hcm];exact CC.out
  have HCM:=hid hcm;clear hcm hle hst;go_wp2_with fail;refine CMP.out.mono ?_;rintro e W4 ⟨rfl,hq4⟩;rw[HCM.out];have Ec:=hid hq4.below;have SU:=hid (fun(W:World) (hB:Below W3.heap.size W3 W)=>Hq (LX.out.below hB) (LY.out.below hB) (by have:=XN.out;omega) CN.out XP.out (by rw[au,au];exact D9.out));have Oz:Hid (NB W4 w.heap.size s a n c b m d):=M1.out.later Ec.out M1.out.lt;have OC:Hid (NB W4 (w.heap.size+1) t a' n' c' b' m' d'):=M2.out.later Ec.out M2.out.lt;have WT:Hid (NB W4 (w.heap.size+2) false none 0 0 none 0 0):=M3.out.later Ec.out M3.out.lt;have LZA:=hid (LZ.out.below Ec.out);have B0A:=hid (aB fC.out Ec.out);have k0:=Oz.out.cells.1;have k1:=OC.out.cells.1;clear hq4 y0 y1 y2 y3 y4 y5;go_wp2_with fail;go_region_held3 (fun W=>W.cell? ⟨w.heap.size,0,none⟩=some (.bool s)∧W.cell? ⟨w.heap.size+1,0,none⟩=some (.bool t))
   (first
    | exact⟨k0,k1⟩
    | exact⟨x0,x3⟩
    | exact⟨r0,r3⟩
    | exact⟨(K1.out.gy (by omega) _ _ _).cells.1,(K2.out.gy (by omega) _ _ _).cells.1⟩
    | go_keep)
   (first
    | (go_at_call 174;go_loud (refine(SU.out W4.drew Ec.out.drew).mono ?_;rintro e w5 ⟨a5,n5,c5,rfl,L5,B5⟩;have B5:=aJ B5;rw[au,au]at L5;have J1:NB w5 w.heap.size s a n c b m d:=Oz.out.later B5 Oz.out.lt;have J2:NB w5 (w.heap.size+1) t a' n' c' b' m' d':=OC.out.later B5 OC.out.lt;have J3:NB w5 (w.heap.size+2) false none 0 0 none 0 0:=WT.out.later B5 WT.out.lt;obtain⟨x0,x1,x2,_⟩:=J1.reads;obtain⟨x3,x4,x5,_⟩:=J2.reads;have J1:=hid J1;have J2:=hid J2;have J3:=hid J3;have LR:=hid L5;have WU:=hid (LZA.out.below B5);have UH:=hid (aB B0A.out B5);clear B5))
    | (go_at_call 142;go_loud (refine(iZ (neg:=s) LR.out WU.out dz.out (by have:=LR.out.len;have:=RL.out;omega) (by have:=WU.out.len;have:=ZN.out;omega)).mono ?_;rintro e w6 ⟨s6,a6,n6,c6,b6,m6,d6,rfl,L6,B6⟩;rw[FR.out]at L6;have K1:NB w6 w.heap.size s a n c b m d:=J1.out.later B6 J1.out.lt;have K2:NB w6 (w.heap.size+1) t a' n' c' b' m' d':=J2.out.later B6 J2.out.lt;have K3:NB w6 (w.heap.size+2) false none 0 0 none 0 0:=J3.out.later B6 J3.out.lt;obtain⟨r0,r1,r2,_⟩:=K1.reads;obtain⟨r3,r4,r5,_⟩:=K2.reads;obtain⟨z0,z1,z2,f⟩:=K3.reads;have f0:=f 0;have f1:=f 1;have f2:=f 2;have Tq:=K3.lt;clear f;have K1:=hid K1;have K2:=hid K2;have K3:=hid K3;have L6:=hid L6;have o8:=hid (aB UH.out B6);clear B6)))
  go_wp2_with fail;exact bodyPost_ret (v:= .agg #[.bool s6,.slice a6 n6 c6,.slice b6 m6 d6]) (by simp[results,results133,go_sem,z0,z1,z2]) rfl ⟨s6,a6,n6,c6,b6,m6,d6,rfl,⟨L6.out.sg,L6.out.num.beside K3.out (ay _ _ _ _ _),L6.out.den.beside K3.out (ay _ _ _ _ _)⟩,aG o8.out _ (by omega) _ _ _⟩
 have hle2:X≤Y:=by omega
 have FR:Hid (fQ t (Y-X) (p.den*q.den)=p+q):=(AL.out hst hle2).symm;have RL:Hid ((aC (Y-X)).length≤536870912):=by show _≤_;exact Nat.le_trans (aK (Nat.sub_le Y X)) (by rw[LY.out.len];exact YN.out)
 have CC:Hid (bU X Y= -1):=by show _=_;unfold bU;rw[if_pos (by omega)]
 have CN:Hid (xn≤yn):=by show _≤_;rw[←LX.out.len,←LY.out.len];exact aK hle2
 have XP:Hid (0<yn):=by show _<_;rw[←LY.out.len];exact iY Y0.out
 have D9:=hid hle2;clear hle hle2 hst;go_wp2_with fail;refine CMP.out.mono ?_;rintro e W4 ⟨rfl,hq4⟩;rw[CC.out];have Ec:=hid hq4.below;have SU:=hid (fun(W:World) (hB:Below W3.heap.size W3 W)=>Hq (LY.out.below hB) (LX.out.below hB) (by have:=YN.out;omega) CN.out XP.out (by rw[au,au];exact D9.out));have Oz:Hid (NB W4 w.heap.size s a n c b m d):=M1.out.later Ec.out M1.out.lt;have OC:Hid (NB W4 (w.heap.size+1) t a' n' c' b' m' d'):=M2.out.later Ec.out M2.out.lt;have WT:Hid (NB W4 (w.heap.size+2) false none 0 0 none 0 0):=M3.out.later Ec.out M3.out.lt;have LZA:=hid (LZ.out.below Ec.out);have B0A:=hid (aB fC.out Ec.out);have k0:=Oz.out.cells.1;have k1:=OC.out.cells.1;clear hq4 y0 y1 y2 y3 y4 y5;go_wp2_with fail;go_region_held3 (fun W=>W.cell? ⟨w.heap.size,0,none⟩=some (.bool s)∧W.cell? ⟨w.heap.size+1,0,none⟩=some (.bool t))
  (first
   | exact⟨k0,k1⟩
   | exact⟨x0,x3⟩
   | exact⟨r0,r3⟩
   | exact⟨(K1.out.gy (by omega) _ _ _).cells.1,(K2.out.gy (by omega) _ _ _).cells.1⟩
   | go_keep)
  (first
   | (go_at_call 174;go_loud (refine(SU.out W4.drew Ec.out.drew).mono ?_;rintro e w5 ⟨a5,n5,c5,rfl,L5,B5⟩;have B5:=aJ B5;rw[au,au]at L5;have J1:NB w5 w.heap.size s a n c b m d:=Oz.out.later B5 Oz.out.lt;have J2:NB w5 (w.heap.size+1) t a' n' c' b' m' d':=OC.out.later B5 OC.out.lt;have J3:NB w5 (w.heap.size+2) false none 0 0 none 0 0:=WT.out.later B5 WT.out.lt;obtain⟨x0,x1,x2,_⟩:=J1.reads;obtain⟨x3,x4,x5,_⟩:=J2.reads;have J1:=hid J1;have J2:=hid J2;have J3:=hid J3;have LR:=hid L5;have WU:=hid (LZA.out.below B5);have UH:=hid (aB B0A.out B5);clear B5))
   | (go_at_call 142;go_loud (refine(iZ (neg:=t) LR.out WU.out dz.out (by have:=LR.out.len;have:=RL.out;omega) (by have:=WU.out.len;have:=ZN.out;omega)).mono ?_;rintro e w6 ⟨s6,a6,n6,c6,b6,m6,d6,rfl,L6,B6⟩;rw[FR.out]at L6;have K1:NB w6 w.heap.size s a n c b m d:=J1.out.later B6 J1.out.lt;have K2:NB w6 (w.heap.size+1) t a' n' c' b' m' d':=J2.out.later B6 J2.out.lt;have K3:NB w6 (w.heap.size+2) false none 0 0 none 0 0:=J3.out.later B6 J3.out.lt;obtain⟨r0,r1,r2,_⟩:=K1.reads;obtain⟨r3,r4,r5,_⟩:=K2.reads;obtain⟨z0,z1,z2,f⟩:=K3.reads;have f0:=f 0;have f1:=f 1;have f2:=f 2;have Tq:=K3.lt;clear f;have K1:=hid K1;have K2:=hid K2;have K3:=hid K3;have L6:=hid L6;have o8:=hid (aB UH.out B6);clear B6)))
 go_wp2_with fail;exact bodyPost_ret (v:= .agg #[.bool s6,.slice a6 n6 c6,.slice b6 m6 d6]) (by simp[results,results133,go_sem,z0,z1,z2]) rfl ⟨s6,a6,n6,c6,b6,m6,d6,rfl,⟨L6.out.sg,L6.out.num.beside K3.out (ay _ _ _ _ _),L6.out.den.beside K3.out (ay _ _ _ _ _)⟩,aG o8.out _ (by omega) _ _ _⟩
theorem JK {w:World}{p q:Rat}{s t:Bool}{a b a' b':Option Addr}{n c m d n' c' m' d':Nat}(hp:aO w p s a n c b m d)(hq:aO w q t a' n' c' b' m' d')(h0:p=0):
  Calls prog 133 #[.agg #[.bool s,.slice a n c,.slice b m d],.agg #[.bool t,.slice a' n' c',.slice b' m' d']] w (iC w (p+q)):=by
 have E:Hid (p+q=q):=by show _=_;rw[h0,Rat.zero_add]
 have Q:=hid hq;have nz:((n:Int)==0)=true:=by simp;exact hp.zero.2 h0
 clear hp h0 hq;go_enter func133,ntmps133;go_wp2_with fail;exact bodyPost_ret (v:= .agg #[.bool t,.slice a' n' c',.slice b' m' d']) (by simp[results,results133,go_sem]) rfl ⟨t,a',n',c',b',m',d',rfl,by rw[E.out];exact Q.out.below (bZ w _ _ _ _ rfl).2.2.2.1,(bZ w _ _ _ _ rfl).2.2.2.1⟩
theorem FK {w:World}{p q:Rat}{s t:Bool}{a b a' b':Option Addr}{n c m d n' c' m' d':Nat}(hp:aO w p s a n c b m d)(hq:aO w q t a' n' c' b' m' d')(p0:p≠0)(h0:q=0):
  Calls prog 133 #[.agg #[.bool s,.slice a n c,.slice b m d],.agg #[.bool t,.slice a' n' c',.slice b' m' d']] w (iC w (p+q)):=by
 have E:Hid (p+q=p):=by show _=_;rw[h0,Rat.add_zero]
 have P:=hid hp;have nz:((n:Int)==0)=false:=by simp;exact fun e=>p0 (hp.zero.1 e)
 have nz':((n':Int)==0)=true:=by simp;exact hq.zero.2 h0
 clear hp h0 hq p0;go_enter func133,ntmps133;go_wp2_with fail;exact bodyPost_ret (v:= .agg #[.bool s,.slice a n c,.slice b m d]) (by simp[results,results133,go_sem]) rfl ⟨s,a,n,c,b,m,d,rfl,by rw[E.out];exact P.out.below (bZ w _ _ _ _ rfl).2.2.2.1,(bZ w _ _ _ _ rfl).2.2.2.1⟩
theorem iq {w:World}{p q:Rat}{s t:Bool}{a b a' b':Option Addr}{n c m d n' c' m' d':Nat}(hp:aO w p s a n c b m d)(hq:aO w q t a' n' c' b' m' d')(sp:Sz p 268435456)(sq:Sz q 268435456):
  Calls prog 133 #[.agg #[.bool s,.slice a n c,.slice b m d],.agg #[.bool t,.slice a' n' c',.slice b' m' d']] w (iC w (p+q)):=by
 by_cases h:p=0
 ·exact JK hp hq h
 by_cases h':q=0
 ·exact FK hp hq h h'
 exact UG hp hq sp sq h h'
theorem Sz.neg {q:Rat}{k:Nat}(h:Sz q k):Sz (-q) k:=by unfold Sz at*;rw[Rat.neg_num,Int.natAbs_neg,Rat.neg_den];exact h
theorem vT {w:World}{p q:Rat}{s t:Bool}{a b a' b':Option Addr}{n c m d n' c' m' d':Nat}(hp:aO w p s a n c b m d)(hq:aO w q t a' n' c' b' m' d')(sp:Sz p 268435456)(sq:Sz q 268435456):
  Calls prog 120 #[.agg #[.bool s,.slice a n c,.slice b m d],.agg #[.bool t,.slice a' n' c',.slice b' m' d']] w (iC w (p-q)):=by
 have P:=hid hp;have Q:=hid hq;have SP:=hid sp;have SQ:=hid sq.neg;have E:Hid (p+ -q=p-q):=(Rat.sub_eq_add_neg p q).symm;have T3:=hid (bZ w (.cells #[.bool s,.slice a n c,.slice b m d] 25) (.cells #[.bool t,.slice a' n' c',.slice b' m' d'] 25) (.cells #[.bool false,.slice none 0 0,.slice none 0 0] 25) _ rfl);clear hp hq sp sq;go_enter func120,ntmps120;go_wp2_with fail;generalize ((w.alloc (.cells #[.bool s,.slice a n c,.slice b m d] 25)).alloc (.cells #[.bool t,.slice a' n' c',.slice b' m' d'] 25)).alloc (.cells #[.bool false,.slice none 0 0,.slice none 0 0] 25)=W0 at*;obtain⟨t1,t2,t3,t4,t5⟩:=T3.out;have X1:Hid (NB W0 w.heap.size s a n c b m d):=t1;have X2:Hid (NB W0 (w.heap.size+1) t a' n' c' b' m' d'):=t2;have X3:Hid (NB W0 (w.heap.size+2) false none 0 0 none 0 0):=t3;have B0:=hid t4;have S0:=hid t5;clear t1 t2 t3 t4 t5;obtain⟨u0,u1,u2,_⟩:=X1.out.reads;obtain⟨v0,v1,v2,_⟩:=X2.out.reads;have P0:=hid (P.out.below B0.out);have Q0:=hid (Q.out.below B0.out);have NG:=hid (mP (show aO W0.drew q t a' n' c' b' m' d' from Q0.out.below (Below.refl _ _).drew));go_region_held3 (fun W=>W.cell? ⟨w.heap.size,0,none⟩=some (.bool s)∧W.cell? ⟨w.heap.size,1,none⟩=some (.slice a n c)∧W.cell? ⟨w.heap.size,2,none⟩=some (.slice b m d)∧W.cell? ⟨w.heap.size+1,0,none⟩=some (.bool t)∧W.cell? ⟨w.heap.size+1,1,none⟩=some (.slice a' n' c')∧W.cell? ⟨w.heap.size+1,2,none⟩=some (.slice b' m' d'))
  (first
   | exact⟨u0,u1,u2,v0,v1,v2⟩
   | exact⟨y0,y1,y2,y3,y4,y5⟩
   | exact⟨r0,r1,r2,r3,r4,r5⟩
   | exact six (K1.out.gy (by omega) _ _ _) (K2.out.gy (by omega) _ _ _)
   | go_keep)
  (first
   | (go_at_call 79;go_loud (refine NG.out.mono ?_;rintro e w2 ⟨s2,a2,n2,c2,b2,m2,d2,rfl,L2,B2⟩;have B2:=aJ B2;have N1:NB w2 w.heap.size s a n c b m d:=X1.out.later B2 X1.out.lt;have N2:NB w2 (w.heap.size+1) t a' n' c' b' m' d':=X2.out.later B2 X2.out.lt;have N3:NB w2 (w.heap.size+2) false none 0 0 none 0 0:=X3.out.later B2 X3.out.lt;obtain⟨y0,y1,y2,_⟩:=N1.reads;obtain⟨y3,y4,y5,_⟩:=N2.reads;have N1:=hid N1;have N2:=hid N2;have N3:=hid N3;have L2:=hid L2;have P2:=hid (P0.out.below B2);have eX:=hid (aB B0.out B2);clear B2))
   | (go_at_call 133;go_loud (refine(iq P2.out L2.out SP.out SQ.out).mono ?_;rintro e w6 ⟨s6,a6,n6,c6,b6,m6,d6,rfl,L6,B6⟩;rw[E.out]at L6;have K1:NB w6 w.heap.size s a n c b m d:=N1.out.later B6 N1.out.lt;have K2:NB w6 (w.heap.size+1) t a' n' c' b' m' d':=N2.out.later B6 N2.out.lt;have K3:NB w6 (w.heap.size+2) false none 0 0 none 0 0:=N3.out.later B6 N3.out.lt;obtain⟨r0,r1,r2,_⟩:=K1.reads;obtain⟨r3,r4,r5,_⟩:=K2.reads;obtain⟨z0,z1,z2,f⟩:=K3.reads;have f0:=f 0;have f1:=f 1;have f2:=f 2;have Tq:=K3.lt;clear f;have K1:=hid K1;have K2:=hid K2;have K3:=hid K3;have L6:=hid L6;have o8:=hid (aB eX.out B6);clear B6)))
 go_wp2_with fail;exact bodyPost_ret (v:= .agg #[.bool s6,.slice a6 n6 c6,.slice b6 m6 d6]) (by simp[results,results120,go_sem,z0,z1,z2]) rfl ⟨s6,a6,n6,c6,b6,m6,d6,rfl,⟨L6.out.sg,L6.out.num.beside K3.out (ay _ _ _ _ _),L6.out.den.beside K3.out (ay _ _ _ _ _)⟩,aG o8.out _ (by omega) _ _ _⟩
theorem Ce {w:World}{p q:Rat}{s t:Bool}{a b a' b':Option Addr}{n c m d n' c' m' d':Nat}(hp:aO w p s a n c b m d)(hq:aO w q t a' n' c' b' m' d')(sp:Sz p 268435456)(sq:Sz q 268435456):
  Calls prog 73 #[.agg #[.bool s,.slice a n c,.slice b m d],.agg #[.bool t,.slice a' n' c',.slice b' m' d']] w fun e w'=>e= .returned (.int .i64 (aV (p-q)))∧Below w.heap.size w w':=by have B0:Hid (Below w.heap.size w ((w.alloc (.cells #[.bool s,.slice a n c,.slice b m d] 25)).alloc (.cells #[.bool t,.slice a' n' c',.slice b' m' d'] 25))):=(ah w _).alloc (by simp) _;have P0:=hid (hp.below B0.out);have Q0:=hid (hq.below B0.out);have SP:=hid sp;have SQ:=hid sq;clear hp hq sp sq;go_enter func73,ntmps73;go_wp2_with fail;refine(vT P0.out Q0.out SP.out SQ.out).mono ?_;rintro e w2 ⟨s2,a2,n2,c2,b2,m2,d2,rfl,L2,B2⟩;have L2:=hid L2;have B2:=hid (aB B0.out B2);go_wp2_with fail;refine(dM L2.out).mono ?_;rintro e w3 ⟨rfl,B3⟩;have B3:=hid B3;go_wp2_with fail;go_ret;exact⟨rfl,aB B2.out B3.out⟩
end Go.Proofs.YtijdglogadnbcaaGreat
