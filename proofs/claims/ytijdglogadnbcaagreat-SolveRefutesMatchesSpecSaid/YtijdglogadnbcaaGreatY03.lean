/- nat.digit. -/
import Derived.Test.YtijdglogadnbcaaGreatY02
import Derived.Test.YtijdglogadnbcaaGreatProg
import Derived.Deep.CutBlock
import Derived.Shelf.Small.Bits
set_option linter.unusedVariables false
set_option linter.unusedSimpArgs false
set_option maxRecDepth 100000
set_option maxHeartbeats 40000000
namespace Go.Proofs.YtijdglogadnbcaaGreat
open Go.Proofs.Tryz
open Go.RowKit Nt
def x9 (w:World)(g:Nat)(pre l post:List Nat):Prop:=UB w g (pre++l++post)
theorem x9.cell {w:World}{g o:Nat}{pre l post:List Nat}(h:x9 w g pre l post)(ho:pre.length=o){i:Nat}(hi:i<l.length):w.cell? ⟨g,o+i,none⟩=some (.int .u32 ((l.getD i 0:Nat):Int)):=by have:=UB.cell h (i:=o+i) (by rw[List.length_append,List.length_append];omega);rw[this];congr 3;simp only[List.getD_eq_getElem?_getD];rw[List.getElem?_append_left (by rw[List.length_append];omega),List.getElem?_append_right (by omega),show o+i-pre.length=i from by omega]
theorem x9.free {w:World}{g:Nat}{pre l post:List Nat}(h:x9 w g pre l post)(i:Nat):w.frozen? ⟨g,i,none⟩=false:=UB.free h i
theorem x9.set {w:World}{g o:Nat}{pre l post:List Nat}(h:x9 w g pre l post)(ho:pre.length=o){i:Nat}(hi:i<l.length)(x:Nat):x9 (w.setCell ⟨g,o+i,none⟩ (.int .u32 ((x:Nat):Int))) g pre (l.set i x) post:=by have:=UB.set h (o+i) x;unfold x9;rw[List.append_assoc]at this⊢;rw[List.set_append_right _ _ (by omega),show o+i-pre.length=i from by omega,List.set_append_left _ _ hi]at this;exact this
def But (g:Nat)(w w':World):Prop:=w.grownBy w' (some g)
theorem But.refl (g:Nat)(w:World):But g w w:=World.grownBy.refl w _
theorem But.drewN {g:Nat}{w w':World}(h:But g w w')(k:Nat):But g w (w'.drewN k):=⟨h.os,h.tape,h.output,h.size,h.block⟩
theorem But.set {g:Nat}{w w':World}(h:But g w w')(i:Nat)(v:Value):But g w (w'.setCell ⟨g,i,none⟩ v):=
 ⟨h.os,h.tape,h.output,by simp[World.setCell];exact h.size,fun k hk hne=>by rw[Below.heap_setCell _ _ _ _ (by intro e;exact hne (by rw[e]))];exact h.block k hk hne⟩
theorem But.cell {g:Nat}{w w':World}(h:But g w w'){a:Addr}{v:Value}(hc:w.cell? a=some v)(hne:a.block≠g):w'.cell? a=some v:=
 World.grownBy.cell h hc (by simpa using hne)
def YI (w:World)(g:Nat)(pre u v post:List Nat)(n:Nat)(e:Ending)(w':World):Prop:=
 e= .returned (.int .u32 ((vl u/vl v:Nat):Int))∧But g w w'∧∃rem,rem.length=n+1∧Lm rem∧vl rem=vl u%vl v∧x9 w' g pre rem post
def GsL (w:World)(u v:List Nat)(n:Nat)(g r:Value)(wr:World):Prop:=Qt w wr∧∃gg rr:Nat,g= .int .u64 (gg:Int)∧r= .int .u64 (rr:Int)∧sS u v n gg rr
theorem Ht {a b:Int}(h:a=b):Ending.returned (.int .u32 a)= .returned (.int .u32 b):=by rw[h]
theorem x9.qt {w w':World}{g:Nat}{pre l post:List Nat}(h:x9 w g pre l post)(q:Qt w w'):x9 w' g pre l post:=by obtain⟨k,rfl⟩:=q;exact h
theorem But.aav {g:Nat}{w w':World}(q:Qt w w'):But g w w':=by obtain⟨k,rfl⟩:=q;exact(But.refl g w).drewN k
def MsL (w:World)(g:Nat)(pre u v post:List Nat)(gg n:Nat)(bo ca k:Value)(wr:World):Prop:=
 ∃(i:Nat) (ds:List Nat) (r c:Nat),i≤n∧k= .int .i64 (i:Int)∧bo= .int .u64 (r:Int)∧ca= .int .u64 (c:Int)∧KY u v gg i ds r c∧x9 wr g pre (ds++u.drop i) post∧But g w wr
theorem MsL.step {w wr:World}{g o n i r c gg x y s:Nat}{W:Int}{pre u v post ds:List Nat}(hv:Lm v)(hn:u.length=n+1)(hi:i<n)(hgg:gg<4294967296)(I:KY u v gg i ds r c)(U:x9 wr g pre (ds++u.drop i) post)(B:But g w wr)(ho:pre.length=o)
  (hx:u.getD i 0=x)(hy:v.getD i 0=y)(xb:x<4294967296)(hs:s=c+gg*y)(hW:W=((x:Int)-((s%4294967296:Nat):Int)-(r:Int))%18446744073709551616):
  MsL w g pre u v post gg n (.int .u64 (bits .and .u64 (W/4294967296) 1)) (.int .u64 ((s:Int)/4294967296)) (.int .i64 ((i:Int)+1)) (wr.setCell ⟨g,o+i,none⟩ (.int .u32 (W%4294967296))):=by
 have r1:=I.r1;obtain⟨m,hm⟩:∃m,s%4294967296=m:=⟨_,rfl⟩;have mb:m<4294967296:=by rw[←hm];exact Nat.mod_lt _ (by omega)
 rw[hm]at hW;have fin:∀d r':Nat,d<4294967296→r'≤1→x+r'*4294967296=d+m+r→W%4294967296=(d:Int)→bits .and .u64 (W/4294967296) 1=(r':Int)→
   MsL w g pre u v post gg n (.int .u64 (bits .and .u64 (W/4294967296) 1)) (.int .u64 ((s:Int)/4294967296)) (.int .i64 ((i:Int)+1)) (wr.setCell ⟨g,o+i,none⟩ (.int .u32 (W%4294967296))):=by
  intro d r' hd hr he e1 e2
  rw[e1,e2]
  refine⟨i+1,ds++[d],r',(c+gg*v.getD i 0)/4294967296,by omega,by go_num,rfl,by rw[hy,←hs];rfl,I.step hv hgg hd hr (by rw[hx,hy,←hs,hm];exact he),?_,B.set _ _⟩
  have:=U.set ho (i:=i) (by rw[List.length_append,I.len,List.length_drop];omega) d
  rwa[set_mid I.len (by omega)]at this
 by_cases h:m+r≤x
 ·have e:W/4294967296=0:=by omega
  exact fin (x-m-r) 0 (by omega) (by omega) (by omega) (by omega) (by rw[e];decide)
 have e:W/4294967296=4294967295:=by omega
 exact fin (x+4294967296-m-r) 1 (by omega) (by omega) (by omega) (by omega) (by rw[e];decide)
def AbL (w:World)(g:Nat)(pre ds v post:List Nat)(d n:Nat)(ca k:Value)(wr:World):Prop:=
 ∃(i:Nat) (es:List Nat) (c:Nat),i≤n∧k= .int .i64 (i:Int)∧ca= .int .u64 (c:Int)∧iF ds v i es c∧x9 wr g pre (es++(ds++[d]).drop i) post∧But g w wr
theorem AbL.step {w wr:World}{g o n i c d s q:Nat}{pre ds v post es:List Nat}(hds:Lm ds)(hv:Lm v)(hn:ds.length=n)(hi:i<n)(I:iF ds v i es c)(U:x9 wr g pre (es++(ds++[d]).drop i) post)(B:But g w wr)(ho:pre.length=o)
  (hs:s=c+ds.getD i 0+v.getD i 0):
  AbL w g pre ds v post d n (.int .u64 ((s:Int)/4294967296)) (.int .i64 ((i:Int)+1)) ((wr.setCell ⟨g,o+i,none⟩ (.int .u32 ((s:Int)%4294967296))).drewN q):=by refine⟨i+1,es++[s%4294967296],s/4294967296,by omega,by go_num,by go_num,by rw[hs];exact I.step hds hv,?_,(B.set _ _).drewN q⟩;have:=U.set ho (i:=i) (by rw[List.length_append,I.len,List.length_drop,List.length_append,hn];simp;omega) (s%4294967296);rw[set_mid I.len (by rw[List.length_append,hn];simp;omega)]at this;rw[show((s:Int)%4294967296)=((s%4294967296:Nat):Int) from by omega];exact this
theorem JD {w:World}{g o n cu cv:Nat}{pre u v post:List Nat}{b:Option Addr}(hd:Dg u v n)(hu:x9 w g pre u post)(ho:pre.length=o)(hv:EI w v b)(hgb:∀a,b=some a→a.block≠g)(hcu:n+1≤cu)(ac4:cu≤9223372036854775807)(hcv:n≤cv)(hcv2:cv≤9223372036854775807)(hsz:n≤1099511627776):
  Calls prog 139 #[.slice (some ⟨g,o,none⟩) (n+1) cu,.slice b n cv] w (YI w g pre u v post n):=by
 obtain⟨bb,ob,rfl,dv⟩:=hv (by intro e;have:=hd.wW;rw[e]at this;have:=hd.two;simp at*;omega);have hne:bb≠g:=hgb _ rfl;have DV:=hid dv;have D:=hid hd;have U:=hid hu;have HO:=hid ho;have two:=hd.two;have YJ:=hu.cell ho (i:=n) (by rw[hd.qp];omega);have pu1:=hu.cell ho (i:=n-1) (by rw[hd.qp];omega);have pu2:=hu.cell ho (i:=n-2) (by rw[hd.qp];omega);have pv1:=dv (n-1) (by rw[hd.wW];omega);have pv2:=dv (n-2) (by rw[hd.wW];omega);obtain⟨u0,hu0⟩:∃x,u.getD n 0=x:=⟨_,rfl⟩;obtain⟨u1,hu1⟩:∃x,u.getD (n-1) 0=x:=⟨_,rfl⟩;obtain⟨u2,hu2⟩:∃x,u.getD (n-2) 0=x:=⟨_,rfl⟩;obtain⟨v1,hv1⟩:∃x,v.getD (n-1) 0=x:=⟨_,rfl⟩;obtain⟨v2,hv2⟩:∃x,v.getD (n-2) 0=x:=⟨_,rfl⟩;have bu0:u0<4294967296:=by rw[←hu0];exact ak hd.lu _
 have bu1:u1<4294967296:=by rw[←hu1];exact ak hd.lu _
 have bu2:u2<4294967296:=by rw[←hu2];exact ak hd.lu _
 have bv1:v1<4294967296:=by rw[←hv1];exact ak hd.lv _
 have bv2:v2<4294967296:=by rw[←hv2];exact ak hd.lv _
 have hh:=hd.high;rw[hv1]at hh pv1;rw[hv2]at pv2;rw[hu0]at YJ;rw[hu1]at pu1;rw[hu2]at pu2;have ht:Hid (vw u n=u0*4294967296+u1):=by show _=_;unfold vw;rw[hu0,hu1]
 have HU0:=hid hu0;have HU1:=hid hu1;have HU2:=hid hu2;have WO:=hid hv1;have YK:=hid hv2;clear hu0 hu1 hu2 hv1 hv2 hv hd hu ho dv hgb;obtain⟨t,htt⟩:∃t,u0*4294967296+u1=t:=⟨_,rfl⟩;have hor:=EU u0 u1 bu0 bu1;rw[htt]at hor;have tb:t≤18446744073709551615:=by omega
 have HTT:=hid htt;clear htt;have i1:((n:Int)-1)=((n-1:Nat):Int):=by omega
 have i2:((n:Int)-2)=((n-2:Nat):Int):=by omega
 have hnz:((v1:Int)==0)=false:=by simp;omega
 go_enter func139,ntmps139;go_wp2_with fail;go_quiet (fail);go_wp2_with fail;have Q1:Hid (Qt w (w.drewN nq)):=⟨nq,rfl⟩;have W0:=hid (fun(W:World) (h:Qt w W)=>(show W.cell? ⟨g,o+n,none⟩=some (.int .u32 (u0:Int))∧W.cell? ⟨g,o+(n-1),none⟩=some (.int .u32 (u1:Int))∧W.cell? ⟨g,o+(n-2),none⟩=some (.int .u32 (u2:Int))∧W.cell? ⟨bb,ob+(n-1),none⟩=some (.int .u32 (v1:Int))∧W.cell? ⟨bb,ob+(n-2),none⟩=some (.int .u32 (v2:Int)) from⟨h.cell YJ,h.cell pu1,h.cell pu2,h.cell pv1,h.cell pv2⟩));clear YJ pu1 pu2 pv1 pv2 hor;generalize w.drewN nq=w1 at*;obtain⟨YJ,pu1,pu2,pv1,pv2⟩:=W0.out w1 Q1.out;go_quiet (fail);go_upto_block 0 with fail
 have WQ:Hid (IntKind.u64.wrap ((t:Int)/(v1:Int))=((t/v1:Nat):Int)):=by show _=_;have:=(sS.start D.out).gle;rw[ht.out,HTT.out,WO.out]at this;rw[show(t:Int)/(v1:Int)=((t/v1:Nat):Int) from rfl,IntKind.wrap_u64];generalize t/v1=q at*;omega
 have Q2:Hid (Qt w (w1.drewN nq)):=Q1.out.drewN nq;clear YJ pu1 pu2 pv1 pv2;generalize w1.drewN nq=w2 at*;have ST:Hid (sS u v n (t/v1) (t%v1)):=by have:=sS.start D.out;rwa[ht.out,HTT.out,WO.out]at this
 go_cut [7] (fun gu W=>∃gg:Nat,gu= .int .u64 (gg:Int)∧Uo u v gg∧Qt w W)
 case first=>
  go_wp2_with fail;go_loopw [7,8] (fun gu r wr=>GsL w u v n gu r wr) (fun gu _ _=>(intOf gu).toNat)
  case atStart=>exact⟨Q2.out,t/v1,t%v1,by rw[WQ.out],rfl,ST.out⟩
  obtain⟨hq,gg,rr,rfl,rfl,hG⟩:=hrel;have HQ:=hid hq;have G:=hid hG;have gle:=hG.gle;have rlt:=hG.rlt;have cap:=hG.cap D.out;rw[YK.out]at cap;clear hq hG;obtain⟨YJ,pu1,pu2,pv1,pv2⟩:=W0.out wr HQ.out;clear YJ pu1;by_cases hA:4294967296≤gg
  ·obtain⟨gp,YL⟩:∃gp,gg=gp+1:=⟨gg-1,by omega⟩;have t1:(0:Int)<(gg:Int)/4294967296:=by omega
   have t1':decide ((0:Int)<(gg:Int)/4294967296)=true:=by simp;omega
   have GP:Hid (sS u v n (gp+1) rr):=by show sS _ _ _ _ _;rw[←YL];exact G.out
   have GE:Hid ((gg:Int)-1=(gp:Int)):=by show _=_;omega
   have g1:(1:Int)≤(gg:Int):=by omega
   have hA:=hid (YL▸hA);clear YL;go_wp2_with fail;go_quiet (fail);by_cases hov:rr+v1<4294967296
   ·have t2:((rr:Int)+(v1:Int))/4294967296=0:=by omega
    have G2:Hid (sS u v n gp (rr+v1)):=by have:=GP.out.next D.out (Or.inl hA.out) (by rw[WO.out];exact hov);rwa[WO.out]at this
    go_wp2_with fail;go_roundw
    case rel=>exact⟨HQ.out.drewN _,gp,rr+v1,by rw[GE.out],by go_num,G2.out⟩
    simp[intOf];omega
   have t2:(0:Int)<((rr:Int)+(v1:Int))/4294967296:=by omega
   have G2:Hid (Uo u v gp):=GP.out.stop2 D.out (Or.inl hA.out) (by rw[WO.out];omega);go_wp2_with fail;go_meet
   case rel=>exact⟨gp,by rw[GE.out],G2.out,HQ.out.drewN _⟩
  have t1:decide ((0:Int)<(gg:Int)/4294967296)=false:=by simp;omega
  obtain⟨m,hm⟩:∃m,rr*4294967296+u2=m:=⟨_,rfl⟩;have hor:=EU rr u2 rlt bu2;rw[hm]at hor;have mb:m≤18446744073709551615:=by omega
  have HM:=hid hm;clear hm;by_cases hB:m<gg*v2
  ·obtain⟨gp,YL⟩:∃gp,gg=gp+1:=⟨gg-1,by
    have:gg≠0:=by intro e;rw[e]at hB;omega
    omega⟩
   have t3:(m:Int)<(gg:Int)*(v2:Int):=by rw[←Int.natCast_mul];omega
   have t3':decide ((m:Int)<(gg:Int)*(v2:Int))=true:=by simp;exact t3
   have HT3:Hid (rr*4294967296+u.getD (n-2) 0<(gp+1)*v.getD (n-2) 0):=by show _<_;rw[HU2.out,YK.out,HM.out,←YL];exact hB
   have cap2:(gg:Int)*(v2:Int)<18446744073709551616:=by rw[←Int.natCast_mul];omega
   have GP:Hid (sS u v n (gp+1) rr):=by show sS _ _ _ _ _;rw[←YL];exact G.out
   have GE:Hid ((gg:Int)-1=(gp:Int)):=by show _=_;omega
   have g1:(1:Int)≤(gg:Int):=by omega
   clear YL;go_wp2_with fail;go_quiet (fail);by_cases hov:rr+v1<4294967296
   ·have t2:((rr:Int)+(v1:Int))/4294967296=0:=by omega
    have G2:Hid (sS u v n gp (rr+v1)):=by have:=GP.out.next D.out (Or.inr HT3.out) (by rw[WO.out];exact hov);rwa[WO.out]at this
    go_wp2_with fail;go_roundw
    case rel=>exact⟨HQ.out.drewN _,gp,rr+v1,by rw[GE.out],by go_num,G2.out⟩
    simp[intOf];omega
   have t2:(0:Int)<((rr:Int)+(v1:Int))/4294967296:=by omega
   have G2:Hid (Uo u v gp):=GP.out.stop2 D.out (Or.inr HT3.out) (by rw[WO.out];omega);go_wp2_with fail;go_meet
   case rel=>exact⟨gp,by rw[GE.out],G2.out,HQ.out.drewN _⟩
  have G2:Hid (Uo u v gg):=G.out.stop D.out (by omega) (by rw[HU2.out,YK.out,HM.out];omega);have t3:((gg:Int)*(v2:Int))≤(m:Int):=by rw[←Int.natCast_mul];omega
  have t4:decide ((m:Int)<(gg:Int)*(v2:Int))=false:=by simp;exact t3
  have cap2:(gg:Int)*(v2:Int)<18446744073709551616:=by rw[←Int.natCast_mul];omega
  go_wp2_with fail;go_quiet (fail);go_wp2_with fail;go_meet
  case rel=>exact⟨gg,by go_num,G2.out,HQ.out.drewN _⟩
 obtain⟨gg,rfl,hF,hq⟩:=hcut;have F:=hid hF;have HQ:=hid hq;have ggb:=hF.1;clear hF hq;go_wp2_with fail;go_loopw [9,10,84] (fun bo ca k wr=>MsL w g pre u v post gg n bo ca k wr) (fun _ _ k _=>n-(intOf k).toNat)
 case atStart=>exact⟨0,[],0,0,Nat.zero_le _,rfl,rfl,rfl,KY.nil u v gg,U.out.qt HQ.out,But.aav HQ.out⟩
 obtain⟨i,ds,r,c,hi,rfl,rfl,rfl,hI,hU,hB⟩:=hrel;have I:=hid hI;have UU:=hid hU;have BB:=hid hB;have cb:=hI.c1;clear hI hU hB;by_cases hlt:i<n
 ·have p1:=BB.out.cell (DV.out i (by rw[D.out.wW];exact hlt)) hne;have p2:=UU.out.cell HO.out (i:=i) (by rw[List.length_append,I.out.len,List.length_drop,D.out.qp];omega);have f2:=UU.out.free (o+i);rw[jD I.out.len (by rw[D.out.qp];omega)]at p2;obtain⟨x,hx⟩:∃x,u.getD i 0=x:=⟨_,rfl⟩;obtain⟨y,hy⟩:∃y,v.getD i 0=y:=⟨_,rfl⟩;have xb:x<4294967296:=by rw[←hx];exact ak D.out.lu i
  have yb:y<4294967296:=by rw[←hy];exact ak D.out.lv i
  rw[hx]at p2;rw[hy]at p1;have HX:=hid hx;have HY:=hid hy;clear hx hy;have cp:=(N9 ggb yb cb).1;go_wp2_with fail;go_roundw
  case rel=>obtain⟨s,hs⟩:∃s,c+gg*y=s:=⟨_,rfl⟩;rw[show(c:Int)+(gg:Int)*(y:Int)=(s:Int) from by rw[←hs,Int.natCast_add,Int.natCast_mul]];exact MsL.step D.out.lv D.out.qp hlt ggb I.out UU.out BB.out HO.out HX.out HY.out xb hs.symm (by rw[IntKind.wrap_u64,IntKind.wrap_u64];omega)
  simp[intOf];omega
 obtain rfl:n=i:=by omega
 have r1:=I.out.r1;have p2:=UU.out.cell HO.out (i:=n) (by rw[List.length_append,I.out.len,List.length_drop,D.out.qp];omega);have f2:=UU.out.free (o+n);rw[jD I.out.len (by rw[D.out.qp];omega),HU0.out]at p2;have YM:Hid (∀d:Nat,x9 (wr.setCell ⟨g,o+n,none⟩ (.int .u32 (d:Int))) g pre (ds++[d]) post):=by intro d;have:=UU.out.set HO.out (i:=n) (by rw[List.length_append,I.out.len,List.length_drop,D.out.qp];omega) d;rwa[set_mid I.out.len (by rw[D.out.qp];omega),List.drop_of_length_le (by rw[D.out.qp];exact Nat.le_refl _),List.append_nil]at this
 by_cases hb:c+r≤u0
 ·obtain⟨d,hd⟩:∃d,u0-c-r=d:=⟨_,rfl⟩;have db:d<4294967296:=by omega
  have RT:=hid (D.out.right F.out I.out (d:=d) (by rw[HU0.out];omega));have E12:IntKind.u64.wrap (IntKind.u64.wrap ((u0:Int)-(c:Int))-(r:Int))=(d:Int):=by rw[IntKind.wrap_u64,IntKind.wrap_u64];omega
  have E0:((d:Int)/4294967296)=0:=by omega
  have E3:bits .and .u64 0 1=0:=by decide
  have E4:(d:Int)%4294967296=(d:Int):=by omega
  clear hb hd;go_wp2_with fail;go_ret;refine⟨by rw[←RT.out.1];exact Ht (by omega),BB.out.set _ _,ds++[d],by rw[List.length_append,I.out.len];rfl,fZ I.out.lm db,RT.out.2,YM.out d⟩
 obtain⟨d,hd⟩:∃d,u0+4294967296-c-r=d:=⟨_,rfl⟩;have db:d<4294967296:=by omega
 have OV:=hid (D.out.over F.out I.out (d:=d) db (by rw[HU0.out];omega));obtain⟨z,hz⟩:∃z,d+18446744069414584320=z:=⟨_,rfl⟩;have E12:IntKind.u64.wrap (IntKind.u64.wrap ((u0:Int)-(c:Int))-(r:Int))=(z:Int):=by rw[IntKind.wrap_u64,IntKind.wrap_u64];omega
 have E0:((z:Int)/4294967296)=4294967295:=by omega
 have E3:bits .and .u64 4294967295 1=1:=by decide
 have E4:(z:Int)%4294967296=(d:Int):=by omega
 have B1:Hid (But g w (wr.setCell ⟨g,o+n,none⟩ (.int .u32 (d:Int)))):=BB.out.set _ _;have D1:=hid (YM.out d);clear hb hd hz YM;go_wp2_with fail;clear p2 f2 E12 E0 E3 E4;generalize wr.setCell ⟨g,o+n,none⟩ (.int .u32 (d:Int))=w3 at*;go_loopw [10,140] (fun ca k wr=>AbL w g pre ds v post d n ca k wr) (fun _ k _=>n-(intOf k).toNat)
 case atStart=>exact⟨0,[],0,Nat.zero_le _,rfl,rfl,iF.nil ds v,D1.out,B1.out⟩
 obtain⟨i,es,c2,hi,rfl,rfl,hI2,Lh,hB2⟩:=hrel;have I2:=hid hI2;have U2:=hid Lh;have B2:=hid hB2;have c21:=hI2.c1;clear hI2 Lh hB2;by_cases hlt2:i<n
 ·have p1:=B2.out.cell (DV.out i (by rw[D.out.wW];exact hlt2)) hne;have p2:=U2.out.cell HO.out (i:=i) (by rw[List.length_append,I2.out.len,List.length_drop,List.length_append,I.out.len];simp;omega);have f2:=U2.out.free (o+i);rw[jD I2.out.len (by rw[List.length_append,I.out.len];simp;omega)]at p2;have e1:(ds++[d]).getD i 0=ds.getD i 0:=by simp only[List.getD_eq_getElem?_getD];rw[List.getElem?_append_left (by rw[I.out.len];exact hlt2)]
  rw[e1]at p2;clear e1;obtain⟨x,hx⟩:∃x,ds.getD i 0=x:=⟨_,rfl⟩;obtain⟨y,hy⟩:∃y,v.getD i 0=y:=⟨_,rfl⟩;have xb:x<4294967296:=by rw[←hx];exact ak I.out.lm i
  have yb:y<4294967296:=by rw[←hy];exact ak D.out.lv i
  rw[hx]at p2;rw[hy]at p1;have HX:=hid hx;have HY:=hid hy;clear hx hy;have s1:IntKind.u64.wrap ((x:Int)+(y:Int))=(x:Int)+(y:Int):=wraps_u64 _ (by omega) (by omega);have s2:IntKind.u64.wrap ((c2:Int)+((x:Int)+(y:Int)))=(c2:Int)+((x:Int)+(y:Int)):=wraps_u64 _ (by omega) (by omega);go_wp2_with fail;go_quiet (fail);go_wp2_with fail;go_roundw
  case rel=>rw[show(c2:Int)+((x:Int)+(y:Int))=((c2+x+y:Nat):Int) from by omega];exact AbL.step I.out.lm D.out.lv I.out.len hlt2 I2.out U2.out B2.out HO.out (by rw[HX.out,HY.out])
  simp[intOf];omega
 obtain rfl:n=i:=by omega
 have BK:=hid (D.out.back I.out.len db OV.out.2 I2.out);have p2:=U2.out.cell HO.out (i:=n) (by rw[List.length_append,I2.out.len,List.length_drop,List.length_append,I.out.len];simp);have f2:=U2.out.free (o+n);rw[jD I2.out.len (by rw[List.length_append,I.out.len];simp)]at p2;have e1:(ds++[d]).getD n 0=d:=by simp only[List.getD_eq_getElem?_getD];rw[List.getElem?_append_right (by rw[I.out.len];exact Nat.le_refl _),I.out.len,Nat.sub_self];rfl
 rw[e1]at p2;clear e1;go_wp2_with fail;go_ret;have fin:=U2.out.set HO.out (i:=n) (by rw[List.length_append,I2.out.len,List.length_drop,List.length_append,I.out.len];simp) 0;rw[set_mid I2.out.len (by rw[List.length_append,I.out.len];simp),List.drop_of_length_le (by rw[List.length_append,I.out.len];simp),List.append_nil]at fin;refine⟨Ht ?_,B2.out.set _ _,es++[0],by rw[List.length_append,I2.out.len];rfl,fZ I2.out.lm (by omega),BK.out.2,?_⟩
 ·have:=OV.out.1;rw[IntKind.wrap_u64];generalize vl u/vl v=qq at*;omega
 rw[show((d:Int)+(c2:Int))%4294967296=((0:Nat):Int) from by have:=BK.out.1;omega];exact fin
end Go.Proofs.YtijdglogadnbcaaGreat
namespace Go.Proofs
open Go.Shelf
def Tryz.lays128_ren:Go.Shelf.Ren:=⟨fun | 128=>172 | n=>n,fun | 51=>111 | 3=>3 | 4=>4 | 46=>181 | 5=>5 | 9=>9 | n=>n,fun | n=>n⟩
theorem Tryz.lays128:Go.Proofs.Lays.n128 prog Tryz.lays128_ren:={
 mixed:=by kernel_rfl
 f128:=func172.trans (congrArg some (by kernel_rfl))
 t3:=underlying3
 a3:=isAgg3
 z3:=sizeOf3
 v3:=zeroValue3
 t4:=underlying4
 a4:=isAgg4
 z4:=sizeOf4
 v4:=zeroValue4
 t5:=underlying5
 a5:=isAgg5
 z5:=sizeOf5
 v5:=zeroValue5
 t9:=underlying9
 a9:=isAgg9
 z9:=sizeOf9
 v9:=zeroValue9
 t46:=underlying181
 a46:=isAgg181
 z46:=sizeOf181
 v46:=zeroValue181
 t51:=underlying111
 a51:=isAgg111
 z51:=sizeOf111
 v51:=zeroValue111}
theorem Tryz.bits_Len32 (x:Int)(w:World)(h0:0≤x)(h1:x≤4294967295):
  Calls prog 172 #[.int .u32 x] w fun e w'=>e= .returned (.int .i64 (Lib.bitLen x.toNat))∧w'=w:=Any.bits_Len32 Tryz.lays128 x w h0 h1
def Tryz.lays133_ren:Go.Shelf.Ren:=⟨fun | 133=>137 | 128=>172 | n=>n,fun | 51=>111 | 3=>3 | 4=>4 | 46=>181 | 5=>5 | 9=>9 | n=>n,fun | n=>n⟩
theorem Tryz.lays133:Go.Proofs.Lays.n133 prog Tryz.lays133_ren:={
 mixed:=by kernel_rfl
 f128:=func172.trans (congrArg some (by kernel_rfl))
 f133:=func137.trans (congrArg some (by kernel_rfl))
 t3:=underlying3
 a3:=isAgg3
 z3:=sizeOf3
 v3:=zeroValue3
 t4:=underlying4
 a4:=isAgg4
 z4:=sizeOf4
 v4:=zeroValue4
 t5:=underlying5
 a5:=isAgg5
 z5:=sizeOf5
 v5:=zeroValue5
 t9:=underlying9
 a9:=isAgg9
 z9:=sizeOf9
 v9:=zeroValue9
 t46:=underlying181
 a46:=isAgg181
 z46:=sizeOf181
 v46:=zeroValue181
 t51:=underlying111
 a51:=isAgg111
 z51:=sizeOf111
 v51:=zeroValue111}
theorem Tryz.bits_LeadingZeros32 (x:Int)(w:World)(h0:0≤x)(h1:x≤4294967295):
  Calls prog 137 #[.int .u32 x] w fun e w'=>e= .returned (.int .i64 (32-(Lib.bitLen x.toNat:Int)))∧w'=w:=Any.bits_LeadingZeros32 Tryz.lays133 x w h0 h1
end Go.Proofs
