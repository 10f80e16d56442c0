/- The program's Refutes. -/
import Derived.Test.YtijdglogadnbcaaGreatY47
set_option linter.unusedVariables false
set_option linter.unusedSimpArgs false
set_option maxRecDepth 100000
set_option maxHeartbeats 40000000
namespace Go.Proofs.YtijdglogadnbcaaGreat
open Go.Proofs.Tryz
open Go.RowKit Nt Bl
theorem pW0(k m:Nat)(h:k≤32*m)(x:Nat)(y:x<2^k):x<4294967296^m:=Nat.lt_of_lt_of_le y (by rw[show(4294967296:Nat)=2^32 from by decide,←Nat.pow_mul];exact Nat.pow_le_pow_right (by omega) h)
theorem pW1(k m:Nat)(h:k≤32*m)(x:Nat)(y:Nh.aU x≤k):x<4294967296^m:=pW0 k m h x (by rw[Nh.jR]at y;exact y)
theorem MJ {R:Raw}(h:wR R=0):Sz (bF R) 95:=by obtain⟨_,h2,h3⟩:=AY h;exact⟨bn (pW1 3000 95 (by decide) _ h3),by rw[h2];exact bn (by decide)⟩
theorem abT {w:World}{g k:Nat}(hk:k≠g)(a b c d e:Value):(((((w.setCell ⟨g,0,none⟩ a).setCell ⟨g,1,none⟩ b).setCell ⟨g,2,none⟩ c).setCell ⟨g,3,none⟩ d).setCell ⟨g,4,none⟩ e).heap[k]? =w.heap[k]?:=by rw[heap_setCell_other _ ⟨g,4,none⟩ _ _ hk,heap_setCell_other _ ⟨g,3,none⟩ _ _ hk,heap_setCell_other _ ⟨g,2,none⟩ _ _ hk,heap_setCell_other _ ⟨g,1,none⟩ _ _ hk,heap_setCell_other _ ⟨g,0,none⟩ _ _ hk]
def PbL (w:World)(l:List Raw)(v:Value)(wr:World):Prop:=∃i:Nat,i≤l.length∧v= .int .i64 (i:Int)∧kD l i=0∧Below w.heap.size w wr
def PrL (w:World)(g k n:Nat)(L:Nat→Ln)(q:Nat→Rat)(v15 v58:Value)(wr:World):Prop:=
 ∃(i:Nat) (C:Cl) (N:Nw) (r:Int),i≤k∧v58= .int .i64 (i:Int)∧v15= .bool (oK L q i)∧(∀j,j<i→q j<0→(L j).rel=3)∧iH wr g #[.slice C.a C.l.length C.c,.int .i64 r,.bool N.s,.slice N.a N.n N.c,.slice N.b N.m N.d]∧C.at_ wr∧qg n (Sv L q i) C.l∧RA wr (Sb L q i) N∧Below w.heap.size w wr
theorem uV {l:List Raw}:∀{n:Nat},kD l n=0→∀i,i<n→wR (raw l i)=0
 | 0,_,_,h=>absurd h (Nat.not_lt_zero _)
 | n+1,h,i,hi=>by
  change(if kD l n≠0 then _ else _)=_ at h;by_cases e:kD l n=0
  ·rw[if_neg (by rw[e];simp)]at h;by_cases c:i=n
   ·subst c;exact h
   exact uV e i (by omega)
  rw[if_pos e]at h;exact absurd h e
theorem MK {w:World}{rows:List Rw}{l:List Raw}{ra ca:Option Addr}{k cc nc c2:Nat}{u:Int}{V:Bool}(h:lT w rows ra)(hk:rows.length=k)(hc:k≤cc)(hc2:cc≤9223372036854775807)
  (hl:Ew w l ca)(hln:l.length=nc)(hlc:nc≤c2)(TY:c2≤9223372036854775807)(hV:jP u rows l=0→(V=true↔TM k u.toNat (fun i=>Gx u.toNat (aX rows i)) (fun i=>bF (raw l i))))
  (hu:eP u rows=0→0≤u∧u≤24∧k≤40∧∀i,i<k→bV u (aX rows i).rel (aX rows i).l (aX rows i).B=0):
  Calls prog 43 #[.slice ra k cc,.int .i64 u,.slice ca nc c2] w (kE w (jP u rows l) V):=by
 have H0:=hid h;have HK:=hid hk;have HL:=hid hl;have ou:=hid hln;have HV:=hid hV;have HU:=hid hu;obtain⟨Q,hQ⟩:∃Q:Ending→World→Prop,Q=kE w (jP u rows l) V:=⟨_,rfl⟩;rw[←hQ];have HQ:=hid hQ;have Yq:=wS (u:=u) h hk hc hc2;have E:Hid (jP u rows l=if eP u rows≠0 then eP u rows else if nc≠k then 2 else kD l nc):=by show _=_;unfold jP;rw[hk,hln]
 obtain⟨z,hz⟩:∃z,eP u rows=z:=⟨_,rfl⟩;rw[hz]at Yq E HU;have Yq:=hid Yq;clear h hk hl hln hV hu hQ hz;go_enter func43,ntmps43;by_cases hz0:z=0
 ·subst hz0;obtain⟨u0,u24,k40,hrow⟩:=HU.out rfl;have aam:=hid hrow;clear hrow HU;go_upto_region 2 with(go_at_call 90;refine Yq.out.mono ?_;rintro e w2 ⟨rfl,hB2⟩;have B2:=hid hB2;clear hB2 Yq)
  by_cases hne:nc=k
  ·subst hne;have E2:Hid (jP u rows l=kD l nc):=by show _=_;rw[E.out,if_neg (by simp),if_neg (by simp)]
   clear E;go_wp2_with fail;go_loopw [32] (fun v wr=>PbL w l v wr) (fun x _=>nc-(intOf x).toNat)
   case atStart=>exact⟨0,Nat.zero_le _,rfl,rfl,B2.out⟩
   obtain⟨i,hi,rfl,hz0,hB⟩:=hrel;have Z0:=hid hz0;have BI:=hid hB;rw[ou.out]at hi;clear hz0 hB B2;by_cases hlt:i<nc
   ·obtain⟨gc,oc,rfl,dd⟩:=HL.out (by intro e;have:=ou.out;rw[e]at this;simp at this;omega);obtain⟨a,n,c,b,m,d,p0,p1,p2,GX⟩:=dd i (by rw[ou.out];exact hlt);clear dd;have p0:=aj BI.out p0;have p1:=aj BI.out p1;have p2:=aj BI.out p2;have ST:=hid (fun(h:wR (raw l i)≠0)=>(xO Z0.out h hlt));have NX:=hid (fun(h:wR (raw l i)=0)=>(xP Z0.out h));obtain⟨R,hRR⟩:∃R,raw l i=R:=⟨_,rfl⟩;rw[hRR]at p0 GX ST NX;clear hRR;have i0:(0:Int)≤(i:Int):=by omega
    have i1:(i:Int)<(nc:Int):=by omega
    have Jr:=ah wr (.cells #[.bool R.neg,.slice a n c,.slice b m d] 25);have X3:Hid (NB (wr.alloc (.cells #[.bool R.neg,.slice a n c,.slice b m d] 25)) wr.heap.size R.neg a n c b m d):=heap_alloc_new _ _;have RW:=hid ((GX.below BI.out).below Jr);have B3:=hid (aB BI.out Jr);clear GX Jr;go_upto_region 9 with fail
    clear p0 p1 p2;generalize wr.alloc (.cells #[.bool R.neg,.slice a n c,.slice b m d] 25)=W3 at*;obtain⟨g10,MO⟩:∃g,wr.heap.size=g:=⟨_,rfl⟩;rw[MO]at X3⊢;clear MO;obtain⟨x0,x1,x2,_⟩:=X3.out.reads;have Tf:=check_any RW.out;by_cases hk0:aP R=0
    ·rw[hk0]at Tf;have Tf:=hid Tf;have HK0:=hid hk0;obtain⟨f1,f2,-⟩:=gG RW.out.num.lm RW.out.den.lm hk0;have EB:Hid (wR R=if vl R.den≠1 then 7 else if 3000<Nh.aU (vl R.num)then 3 else 0):=by show _=_;unfold wR;rw[if_neg (by rw[hk0];simp),f1,f2]
     clear hk0 f1 f2;go_upto_region 12 with(go_at_call 52;refine Tf.out.mono ?_;rintro e w4 ⟨rfl,hB4⟩;have X4:=hid (X3.out.later hB4 X3.out.lt);have RW4:=hid (RW.out.below hB4);have B4:=hid (aB B3.out hB4);clear hB4 x0 x1 x2 Tf RW X3)
     obtain⟨x0,x1,x2,_⟩:=X4.out.reads;have Ti:=En RW4.out HK0.out;by_cases hd:vl R.den=1
     ·rw[if_pos hd]at Ti;rw[if_neg (by simpa using hd)]at EB;have Ti:=hid Ti;have HD:=hid hd;clear hd;go_upto_region 13 with(go_at_call 91;refine Ti.out.mono ?_;rintro e w5 ⟨x,rfl,hx,o7⟩;have B5:=hid (aB B4.out o7);obtain rfl:=hx HD.out;clear o7 hx x0 x1 x2 Ti)
      by_cases hb:3000<Nh.aU (vl R.num)
      ·have hbi:(3000:Int)<((Nh.aU (vl R.num):Nat):Int):=by omega
       rw[if_pos hb]at EB;go_wp2_with fail;rw[HQ.out];unfold kE;rw[E2.out,ST.out (by rw[EB.out];simp),EB.out];exact⟨rfl,B5.out⟩
      have hbi:¬(3000:Int)<((Nh.aU (vl R.num):Nat):Int):=by omega
      rw[if_neg hb]at EB;have NZ:=hid (NX.out EB.out);clear ST NX;go_wp2_with fail;go_roundw
      case rel=>exact⟨i+1,by rw[ou.out];omega,by go_num,NZ.out,B5.out⟩
      simp[intOf];omega
     rw[if_neg hd]at Ti;have EB2:Hid (wR R=7):=by show _=_;rw[EB.out,if_pos hd]
     have Ti:=hid Ti;clear hd EB;go_wp2_with (go_at_call 91;refine Ti.out.mono ?_;rintro e w5 ⟨x,rfl,_,o7⟩;have B5:=hid (aB B4.out o7);clear o7 x0 x1 x2 Ti);rw[HQ.out];unfold kE;rw[E2.out,ST.out (by rw[EB2.out];simp),EB2.out];exact⟨rfl,B5.out⟩
    have EB:Hid (wR R=aP R):=by show _=_;unfold wR;rw[if_pos hk0]
    obtain⟨z,hz⟩:∃z,aP R=z:=⟨_,rfl⟩;rw[hz]at Tf EB hk0;have Tf:=hid Tf;clear hz;go_wp2_with (go_at_call 52;refine Tf.out.mono ?_;rintro e w4 ⟨rfl,hB4⟩;have B4:=hid (aB B3.out hB4);clear hB4 x0 x1 x2 Tf);rw[HQ.out];unfold kE;rw[E2.out,ST.out (by rw[EB.out];exact hk0),EB.out,if_neg hk0];exact⟨rfl,B4.out⟩
   obtain rfl:nc=i:=by omega
   have ER:Hid (jP u rows l=0):=E2.out.trans Z0.out;obtain⟨n,hn⟩:∃n,u.toNat=n:=⟨_,rfl⟩;have n24:n≤24:=by omega
   have VV:=HV.out ER.out;have RF:Hid (∀i,i<nc→bV (n:Int) (aX rows i).rel (aX rows i).l (aX rows i).B=0):=fun i hi=>by have:=aam.out i hi;rwa[show u=(n:Int) from by omega]at this
   have BYE:=hid (uV Z0.out);rw[hn]at VV;clear aam HV hn;obtain⟨L,hL⟩:∃L:Nat→Ln,L=fun i=>Gx n (aX rows i):=⟨_,rfl⟩;obtain⟨q,hq⟩:∃q:Nat→Rat,q=fun i=>bF (raw l i):=⟨_,rfl⟩;rw[←hL,←hq]at VV;have LI:Hid (∀i,L i=Gx n (aX rows i)):=fun i=>congrFun hL i;have QI:Hid (∀i,q i=bF (raw l i)):=fun i=>congrFun hq i;have VV:=hid VV;clear hL hq;have SQ:Hid (∀i,i<nc→Sz (q i) 95):=fun i hi=>by rw[QI.out];exact MJ (BYE.out i hi)
   have SL:Hid (∀i,i<nc→Sz (L i).bd 1∧∀v,v<n→Sz ((L i).co v) 1):=fun i hi=>by obtain⟨_,_,_,_,_,_,q5,_⟩:=H0.out.row (i:=i) (by rw[HK.out];exact hi);have:=Ey q5 (RF.out i hi);rw[LI.out];exact⟨this.s2,this.s3⟩
   have SV:Hid (∀i v,i≤nc→v<n→Sz (Sv L q i v) 3881):=fun i v hi hv=>Sz.mono (Aq (K:=96) i fun j hj=>Sz.mul (k:=95) (l:=1) (SQ.out j (by omega)) ((SL.out j (by omega)).2 v hv)) (by omega);have SB:Hid (∀i,i≤nc→Sz (Sb L q i) 3881):=fun i hi=>Sz.mono (Aq (K:=96) i fun j hj=>Sz.mul (k:=95) (l:=1) (SQ.out j (by omega)) (SL.out j (by omega)).1) (by omega);go_upto_region 19 with(go_at_call 72;refine(bI 0 (by omega) (by omega) _).mono ?_;rintro e w3 ⟨s3,a3,n3,c3,b3,m3,d3,rfl,hr3,hB3⟩;have R3:=hid (show RA w3 0 ⟨s3,a3,n3,c3,b3,m3,d3⟩ from hr3);have B3:=hid (aB BI.out hB3);clear hr3 hB3)
   have NB:=ah w3 (.cells #[.slice none 0 0,.int .i64 0,.bool s3,.slice a3 n3 c3,.slice b3 m3 d3] 27);have X4:Hid (iH (w3.alloc (.cells #[.slice none 0 0,.int .i64 0,.bool s3,.slice a3 n3 c3,.slice b3 m3 d3] 27)) w3.heap.size #[.slice none 0 0,.int .i64 0,.bool s3,.slice a3 n3 c3,.slice b3 m3 d3]):=heap_alloc_new _ _;have R4:=hid (R3.out.below NB);have B4:=hid (aB B3.out NB);have Td:Hid (w.heap.size≤w3.heap.size):=B3.out.size;clear NB R3 B3 BI;generalize w3.alloc (.cells #[.slice none 0 0,.int .i64 0,.bool s3,.slice a3 n3 c3,.slice b3 m3 d3] 27)=w4 at*;obtain⟨g14,Js⟩:∃g,w3.heap.size=g:=⟨_,rfl⟩;rw[Js]at X4 Td⊢;clear Js;go_wp2_with fail;go_loopw [15,58] (fun v15 v58 wr=>PrL w g14 nc n L q v15 v58 wr) (fun _ v _=>nc-(intOf v).toNat)
   case atStart=>exact⟨0,⟨[],none,0⟩,⟨s3,a3,n3,c3,b3,m3,d3⟩,0,Nat.zero_le _,rfl,rfl,fun j hj=>absurd hj (Nat.not_lt_zero _),X4.out,⟨iE.nil _ _,Nat.le_refl _,Nat.zero_le _⟩,qg.nil n,R4.out,B4.out⟩
   clear X4 R4 B4;obtain⟨i,C,N,r,hi,rfl,rfl,hup,hX,hC,hS,hN,hB⟩:=hrel;have UP:=hid hup;have XX:=hid hX;have CC:=hid hC;have SS:=hid hS;have NN:=hid hN;have BR:=hid hB;clear hup hX hC hS hN hB;by_cases hlt:i<nc
   ·obtain⟨gr,orr,cr,ccr,Nr,rfl,q5,p0,p1,p2,p3,p4⟩:=H0.out.row (i:=i) (by rw[HK.out];exact hlt);obtain⟨gc,oc,rfl,dd⟩:=HL.out (by intro e;have:=ou.out;rw[e]at this;simp at this;omega);obtain⟨a,n1,c1,b,m1,d1,z0,z1,z2,GX⟩:=dd i (by rw[ou.out];exact hlt);clear dd;have p0:=aj BR.out p0;have p1:=aj BR.out p1;have p2:=aj BR.out p2;have p3:=aj BR.out p3;have p4:=aj BR.out p4;have z0:=aj BR.out z0;have z1:=aj BR.out z1;have z2:=aj BR.out z2;have RG:=hid (Ey (q5.below BR.out) (RF.out i hlt));have RL:Hid ((L i).rel=(aX rows i).rel):=by show _=_;rw[LI.out];rfl
    have LIi:=hid (LI.out i);have hR:=(GX.below BR.out).rat (AY (BYE.out i hlt)).1;rw[←QI.out]at hR;obtain⟨R,hRR⟩:∃R,aX rows i=R:=⟨_,rfl⟩;rw[hRR]at p0 p1 p2 RG RL LIi;obtain⟨sg,hsg⟩:∃s,(raw l i).neg=s:=⟨_,rfl⟩;rw[hsg]at z0 hR;have RQ:Hid (RA wr (q i) ⟨sg,a,n1,c1,b,m1,d1⟩):=hR;have SG:Hid (sg=true↔q i<0):=by show _↔_;rw[hR.sg,decide_eq_true_eq];exact uq
    clear q5 GX hRR hsg hR;obtain⟨rl,hrl⟩:∃r,R.rel=r:=⟨_,rfl⟩;rw[hrl]at p1 RL;have HRL:=hid hrl;clear hrl;have i0:(0:Int)≤(i:Int):=by omega
    have i1:(i:Int)<(nc:Int):=by omega
    have qX:=ah wr (.cells #[.slice cr R.l.length ccr,.int .i64 rl,.bool R.B.neg,.slice Nr.a Nr.n Nr.c,.slice Nr.b Nr.m Nr.d] 27);have X1:Hid (iH (wr.alloc (.cells #[.slice cr R.l.length ccr,.int .i64 rl,.bool R.B.neg,.slice Nr.a Nr.n Nr.c,.slice Nr.b Nr.m Nr.d] 27)) wr.heap.size #[.slice cr R.l.length ccr,.int .i64 rl,.bool R.B.neg,.slice Nr.a Nr.n Nr.c,.slice Nr.b Nr.m Nr.d]):=heap_alloc_new _ _;have BN:=hid qX;have z0:=aj BN.out z0;have z1:=aj BN.out z1;have z2:=aj BN.out z2;have XX1:=hid (XX.out.below BN.out);have RG1:=hid (RG.out.below BN.out);have RQ1:=hid (RQ.out.below BN.out);have CC1:=hid (CC.out.below BN.out);have NN1:=hid (NN.out.below BN.out);have B1:=hid (aB BR.out BN.out);clear qX XX RG RQ CC NN BR;go_upto_region 23 with fail
    clear p0 p1 p2 p3 p4;generalize wr.alloc (.cells #[.slice cr R.l.length ccr,.int .i64 rl,.bool R.B.neg,.slice Nr.a Nr.n Nr.c,.slice Nr.b Nr.m Nr.d] 27)=W at*;obtain⟨g17,MG⟩:∃g,wr.heap.size=g:=⟨_,rfl⟩;rw[MG]at X1⊢;clear MG BN;obtain⟨u0,u1,u2,u3,u4,_⟩:=X1.out.reads;go_cut [72] (fun t W'=>t= .bool (decide (rl≠3)&&sg)∧W=W')
    case first=>
     by_cases r3:rl=3
     ·subst r3;go_wp2_with fail;go_meet
      case rel=>exact⟨rfl,rfl⟩
     go_wp2_with fail;go_meet
     case rel=>exact⟨by simp[r3],rfl⟩
    obtain⟨rfl,rfl⟩:=hcut;by_cases hbad:rl≠3∧sg=true
    ·obtain⟨hb1,rfl⟩:=hbad;have VF:Hid (V=false):=by
      show _=_
      cases hv:V with
      | false=>rfl
      | true=>
       have:=(VV.out.1 hv).up i hlt (SG.out.1 rfl)
       exact absurd (RL.out.symm.trans this) hb1
     have E1:(decide (rl≠3)&&true)=true:=by simp[hb1]
     rw[E1];clear E1;go_wp2_with fail;rw[HQ.out];unfold kE;rw[ER.out,VF.out];exact⟨rfl,B1.out⟩
    have UP2:Hid (∀j,j<i+1→q j<0→(L j).rel=3):=fun j hj hqj=>by
     by_cases e:j=i
     ·subst e;rw[RL.out];exact Classical.byContradiction fun c=>hbad ⟨c,SG.out.2 hqj⟩
     exact UP.out j (by omega) hqj
    have E1:(decide (rl≠3)&&sg)=false:=by
     cases hs:sg with
     | false=>simp
     | true=>rw[Bool.and_true];exact decide_eq_false fun c=>hbad ⟨c,hs⟩
    rw[E1];clear E1 hbad;go_upto_region 25 with fail
    have CS:=dM (s:=sg) (a:=a) (n:=n1) (c:=c1) (b:=b) (m:=m1) (d:=d1) RQ1.out;obtain⟨z,hz⟩:∃z,aV (q i)=z:=⟨_,rfl⟩;rw[hz]at CS;have ZP:Hid (0<q i↔0<z):=by show _↔_;rw[←hz,dZ]
    have CS:=hid CS;obtain⟨st,hst⟩:∃s,oK L q i=s:=⟨_,rfl⟩;have ST:Hid (oK L q (i+1)=(st||(decide (rl=2)&&decide (0<z)))):=by show(oK L q i||(decide ((L i).rel=2)&&decide (0<q i)))=_;rw[hst,RL.out,decide_eq_decide.2 ZP.out]
    rw[hst];clear hz hst;go_cut [15] (fun t W'=>t= .bool (oK L q (i+1))∧Below W.heap.size W W')
    case first=>
     cases st with
     | true=>
      go_wp2_with fail
      go_meet
      case rel=>exact⟨by rw[ST.out];rfl,Below.refl _ _⟩
     | false=>
      by_cases r2:rl=2
      ·subst r2
       go_wp2_with (go_at_call 92;refine CS.out.mono ?_;rintro e w5 ⟨rfl,o7⟩;have B5:=hid o7;clear o7)
       go_meet
       case rel=>exact⟨by rw[ST.out];simp,B5.out⟩
      ·go_wp2_with fail
       go_meet
       case rel=>exact⟨by rw[ST.out];simp[r2],Below.refl _ _⟩
    obtain⟨rfl,hBc⟩:=hcut;have BC:=hid hBc;clear hBc CS ST ZP u0 u1 u2 u3 u4;have z0:=aj BC.out z0;have z1:=aj BC.out z1;have z2:=aj BC.out z2;obtain⟨u0,u1,u2,u3,u4,_⟩:=(X1.out.below BC.out).reads;have XX2:=hid (XX1.out.below BC.out);obtain⟨t0,t1,t2,t3,t4,_⟩:=XX2.out.reads;have RG2:=hid (RG1.out.below BC.out);have RQ2:=hid (RQ1.out.below BC.out);have CC2:=hid (CC1.out.below BC.out);have NN2:=hid (NN1.out.below BC.out);have B2:=hid (aB B1.out BC.out);clear X1 XX1 RG1 RQ1 CC1 NN1 B1 BC;go_upto_region 26 with fail
    have KP:=hid (fun(W':World) (hB:Below wc.heap.size wc W')=>(show W'.cell? ⟨g14,0,none⟩=some (.slice C.a C.l.length C.c)∧W'.cell? ⟨g14,1,none⟩=some (.int .i64 r)∧W'.cell? ⟨g14,2,none⟩=some (.bool N.s)∧W'.cell? ⟨g14,3,none⟩=some (.slice N.a N.n N.c)∧W'.cell? ⟨g14,4,none⟩=some (.slice N.b N.m N.d)∧W'.cell? ⟨g17,0,none⟩=some (.slice cr R.l.length ccr)∧W'.cell? ⟨g17,1,none⟩=some (.int .i64 rl)∧W'.cell? ⟨g17,2,none⟩=some (.bool R.B.neg)∧W'.cell? ⟨g17,3,none⟩=some (.slice Nr.a Nr.n Nr.c)∧W'.cell? ⟨g17,4,none⟩=some (.slice Nr.b Nr.m Nr.d)∧W'.cell? ⟨gc,oc+i*3,none⟩=some (.bool sg)∧W'.cell? ⟨gc,oc+i*3+1,none⟩=some (.slice a n1 c1)∧W'.cell? ⟨gc,oc+i*3+2,none⟩=some (.slice b m1 d1) from⟨aj hB t0,aj hB t1,aj hB t2,aj hB t3,aj hB t4,aj hB u0,aj hB u1,aj hB u2,aj hB u3,aj hB u4,aj hB z0,aj hB z1,aj hB z2⟩));refine Rg.aH 8 [] (fun W'=>W'.cell? ⟨g14,0,none⟩=some (.slice C.a C.l.length C.c)∧W'.cell? ⟨g14,1,none⟩=some (.int .i64 r)∧W'.cell? ⟨g14,2,none⟩=some (.bool N.s)∧W'.cell? ⟨g14,3,none⟩=some (.slice N.a N.n N.c)∧W'.cell? ⟨g14,4,none⟩=some (.slice N.b N.m N.d)∧W'.cell? ⟨g17,0,none⟩=some (.slice cr R.l.length ccr)∧W'.cell? ⟨g17,1,none⟩=some (.int .i64 rl)∧W'.cell? ⟨g17,2,none⟩=some (.bool R.B.neg)∧W'.cell? ⟨g17,3,none⟩=some (.slice Nr.a Nr.n Nr.c)∧W'.cell? ⟨g17,4,none⟩=some (.slice Nr.b Nr.m Nr.d)∧W'.cell? ⟨gc,oc+i*3,none⟩=some (.bool sg)∧W'.cell? ⟨gc,oc+i*3+1,none⟩=some (.slice a n1 c1)∧W'.cell? ⟨gc,oc+i*3+2,none⟩=some (.slice b m1 d1)) (by kernel_rfl) (by kernel_rfl) ?_ (fun hS ok inv=>?_)
    ·exact⟨t0,t1,t2,t3,t4,u0,u1,u2,u3,u4,z0,z1,z2⟩
    refine Rg.tk 0 rfl ok inv hS fun inv=>?_;refine Rg.tk 2 rfl ok inv hS fun inv=>?_;refine Rg.tk 3 rfl ok inv hS fun inv=>?_;refine Rg.tk 4 rfl ok inv hS fun inv=>?_;refine Rg.tk 5 rfl ok inv hS fun inv=>?_;refine Rg.tk 6 rfl ok inv hS fun inv=>?_;refine Rg.w1 1 rfl inv fun K' hK=>?_;go_simp;go_at_call 72;refine(bI 1 (by omega) (by omega) _).mono ?_;rintro e w6 ⟨s6,a6,n6,c6,b6,m6,d6,rfl,Wi,B6⟩;have B6:=aJ B6;have L6:Hid (RA w6 1 ⟨s6,a6,n6,c6,b6,m6,d6⟩):=Wi;have KS:=KP.out w6 B6;have BB6:=hid B6;have C93:=hid (Ua (r0:=r) (n:=n) (L:=L) (q:=q) (CC2.out.below B6) L6.out (RQ2.out.below B6) (NN2.out.below B6) SS.out (RG2.out.below B6) LIi.out n24 (fun k hk=>SV.out i k (by omega) hk) (SB.out i (by omega)) (SQ.out i hlt));rw[HRL.out]at C93;refine Rg.st hK ?_ fun hS inv=>?_
    ·exact KS
    clear hK K' Wi B6;refine Rg.w1 7 rfl inv fun K' hK=>?_;go_simp;go_at_call 93;refine(C93.out).mono ?_;rintro e w7 ⟨C7,N7,rfl,hC7,hS7,hN7,B7,hF7⟩;have Ad:=aB BB6.out B7;have KS:=KP.out w7 Ad;have X7:=hid (XX2.out.below Ad);have C7':=hid hC7;have S7:=hid hS7;have N7':=hid hN7;have F7:=hid hF7;have Yg:=hid (aB B2.out Ad);have LT:Hid (g14<w6.heap.size):=(Array.getElem?_eq_some_iff.1 (XX2.out.below BB6.out)).1;obtain⟨_,_,_,_,_,fz⟩:=X7.out.reads;have f0:=fz 0;have f1:=fz 1;have f2:=fz 2;have f3:=fz 3;have f4:=fz 4;refine Rg.st hK ?_ fun hS inv=>?_
    ·exact KS
    clear hK K' hC7 hS7 hN7 hF7 B7 Ad fz;obtain⟨t0,t1,t2,t3,t4,_⟩:=KS;refine Rg.wl rfl ?_;go_simp;have Y7:=hid (X7.out.Jt (.slice C7.a C7.l.length C7.c) (.int .i64 1) (.bool N7.s) (.slice N7.a N7.n N7.c) (.slice N7.b N7.m N7.d));have LM:=l7 X7.out (.slice C7.a C7.l.length C7.c) (.int .i64 1) (.bool N7.s) (.slice N7.a N7.n N7.c) (.slice N7.b N7.m N7.d);have CE:=hid (C7'.out.keep (fun ad e=>abT (fun h=>by have:=F7.out ad e;have:=LT.out;omega) _ _ _ _ _) LM);have RE:=hid (RA.limb N7'.out LM);have BE:=hid (((((Yg.out.setCell (p:=⟨g14,0,none⟩) Td.out (.slice C7.a C7.l.length C7.c)).setCell (p:=⟨g14,1,none⟩) Td.out (.int .i64 1)).setCell (p:=⟨g14,2,none⟩) Td.out (.bool N7.s)).setCell (p:=⟨g14,3,none⟩) Td.out (.slice N7.a N7.n N7.c)).setCell (p:=⟨g14,4,none⟩) Td.out (.slice N7.b N7.m N7.d));clear LM;generalize (((((w7.setCell ⟨g14,0,none⟩ (.slice C7.a C7.l.length C7.c)).setCell ⟨g14,1,none⟩ (.int .i64 1)).setCell ⟨g14,2,none⟩ (.bool N7.s)).setCell ⟨g14,3,none⟩ (.slice N7.a N7.n N7.c)).setCell ⟨g14,4,none⟩ (.slice N7.b N7.m N7.d))=w8 at*;go_wp2_with fail;go_roundw
    case rel=>exact⟨i+1,C7,N7,1,hlt,by go_num,rfl,UP2.out,Y7.out,CE.out,S7.out,RE.out,BE.out⟩
    simp[intOf];omega
   obtain rfl:nc=i:=by omega
   obtain⟨t0,t1,t2,t3,t4,_⟩:=XX.out.reads;have CS:=dM NN.out;obtain⟨z,hz⟩:∃z,aV (Sb L q nc)=z:=⟨_,rfl⟩;rw[hz]at CS;have CS:=hid CS;obtain⟨lc,hl⟩:∃k,C.l.length=k:=⟨_,rfl⟩;obtain⟨st,hst⟩:∃s,oK L q nc=s:=⟨_,rfl⟩;have VQ:V=true↔lc=0∧(z<0∨z=0∧st=true):=by rw[VV.out,←hl,SS.out.empty,←hz,←hst,iT,aY,uN];exact⟨fun h=>⟨h.zero,h.bd⟩,fun h=>⟨UP.out,h.1,h.2⟩⟩
   rw[hl]at t0;rw[hst];have HLC:=hid hl;clear hz hl hst;have XX:=hid XX.out;by_cases l0:lc=0
   ·subst l0;by_cases z0:z<0
    ·have VF:Hid (V=true):=VQ.2 ⟨rfl,Or.inl z0⟩;clear VQ;go_wp2_with (go_at_call 92;refine CS.out.mono ?_;rintro e w5 ⟨rfl,o7⟩;obtain⟨t0,t1,t2,t3,t4,_⟩:=(XX.out.below o7).reads;rw[HLC.out]at t0;have B5:=hid (aB BR.out o7);clear o7);rw[HQ.out];unfold kE;rw[ER.out,VF.out];exact⟨rfl,B5.out⟩
    by_cases z1:z=0
    ·subst z1;have VF:Hid (V=st):=by
      show _=_
      cases st with
      | true=>exact VQ.2 ⟨rfl,Or.inr ⟨rfl,rfl⟩⟩
      | false=>cases hv:V with
       | false=>rfl
       | true=>
        rcases(VQ.1 hv).2 with c | c
        ·omega
        ·exact absurd c.2 (by simp)
     clear VQ;go_wp2_with (go_at_call 92;refine CS.out.mono ?_;rintro e w5 ⟨rfl,o7⟩;obtain⟨t0,t1,t2,t3,t4,_⟩:=(XX.out.below o7).reads;rw[HLC.out]at t0;have B5:=hid (aB BR.out o7);clear o7);rw[HQ.out];unfold kE;rw[ER.out,VF.out];exact⟨rfl,B5.out⟩
    have VF:Hid (V=false):=by
     show _=_
     cases hv:V with
     | false=>rfl
     | true=>
      rcases(VQ.1 hv).2 with c | c
      ·omega
      ·exact absurd c.1 z1
    clear VQ;go_wp2_with (go_at_call 92;refine CS.out.mono ?_;rintro e w5 ⟨rfl,o7⟩;obtain⟨t0,t1,t2,t3,t4,_⟩:=(XX.out.below o7).reads;rw[HLC.out]at t0;have B5:=hid (aB BR.out o7);clear o7);rw[HQ.out];unfold kE;rw[ER.out,VF.out];exact⟨by(rw[show(if(0:Int)=0 then false else false)=decide (z<0) from by rw[decide_eq_false (show ¬z<0 by omega)];rfl])<;>rfl,B5.out⟩
   have VF:Hid (V=false):=by
    show _=_
    cases hv:V with
    | false=>rfl
    | true=>exact absurd (VQ.1 hv).1 l0
   have l1:¬(lc:Int)=0:=by omega
   clear VQ;go_wp2_with (go_at_call 92;refine CS.out.mono ?_;rintro e w5 ⟨rfl,o7⟩;obtain⟨t0,t1,t2,t3,t4,_⟩:=(XX.out.below o7).reads;rw[HLC.out]at t0;have B5:=hid (aB BR.out o7);clear o7);rw[HQ.out];unfold kE;rw[ER.out,VF.out];exact⟨rfl,B5.out⟩
  have hne2:¬(nc:Int)=(k:Int):=by omega
  go_wp2_with fail;rw[HQ.out];have e2:jP u rows l=2:=by rw[E.out,if_neg (by simp),if_pos hne]
  unfold kE;rw[e2];exact⟨rfl,B2.out⟩
 go_wp2_with (go_at_call 90;refine Yq.out.mono ?_;rintro e w2 ⟨rfl,hB2⟩;have B2:=hid hB2;clear hB2 Yq);rw[HQ.out];unfold kE;rw[E.out,if_pos hz0,if_neg hz0];exact⟨rfl,B2.out⟩
end Go.Proofs.YtijdglogadnbcaaGreat
