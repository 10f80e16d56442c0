/- Problem.pivot: the walk. Printed by genLp.py. -/
import Derived.Test.YtijdglogadnbcaaGreatY14
set_option linter.unusedVariables false
set_option linter.unusedSimpArgs false
set_option maxRecDepth 100000
set_option maxHeartbeats 40000000
namespace Go.Proofs.YtijdglogadnbcaaGreat
open Go.Proofs.Tryz
open Go.RowKit Nt Bl
theorem nR {W W':World}{o:Obj}(hb:Below (W.alloc o).heap.size (W.alloc o) W'):W'.heap[W.heap.size]? =some o:=
 (hb.block W.heap.size (by simp)).trans (heap_alloc_new W o)
theorem U8 {w:World}{g:Nat}{s:Bool}{a b:Option Addr}{n c m d:Nat}(h:NB w g false none 0 0 none 0 0):aQ w (((w.setCell ⟨g,0,none⟩ (.bool s)).setCell ⟨g,1,none⟩ (.slice a n c)).setCell ⟨g,2,none⟩ (.slice b m d)):=by
 intro k o x e;by_cases q:k=g
 ·subst q;rw[cell_of_row w k o _ _ _ h]at e;rcases o with _ | _ | _ | o<;>simp at e
 rw[World.cell?_of_block (ay w g _ _ _ k q)];exact e
theorem aO.oH {w:World}{g:Nat}{q:Rat}{s:Bool}{a b:Option Addr}{n c m d:Nat}(l:aO w q s a n c b m d)(h:NB w g false none 0 0 none 0 0):RA (((w.setCell ⟨g,0,none⟩ (.bool s)).setCell ⟨g,1,none⟩ (.slice a n c)).setCell ⟨g,2,none⟩ (.slice b m d)) q ⟨s,a,n,c,b,m,d⟩:=
 RA.limb (N:=⟨s,a,n,c,b,m,d⟩) l (U8 h)
theorem CW {n0 g:Nat}{w w3:World}{L:Lay}{P:Pb}{s:Bool}{a b:Option Addr}{n c m d:Nat}(h:eY n0 w L P)(hb:Below w.heap.size w w3)(hg:w.heap.size≤g)(hn:n0≤w.heap.size)(X:NB w3 g false none 0 0 none 0 0):
  xg n0 w L P g ⟨s,a,n,c,b,m,d⟩ P.T (((w3.setCell ⟨g,0,none⟩ (.bool s)).setCell ⟨g,1,none⟩ (.slice a n c)).setCell ⟨g,2,none⟩ (.slice b m d)):=by have B:=aG hb g hg (.bool s) (.slice a n c) (.slice b m d);refine⟨h.below B,?_,B.mono hn,aQ.of_below B,Nat.le_trans hn hg,Own.of_below B⟩;unfold NQ;have e1:=heap_setCell_same w3 g 0 _ _ (.bool s) X;have e2:=heap_setCell_same _ g 1 _ _ (.slice a n c) e1;exact heap_setCell_same _ g 2 _ _ (.slice b m d) e2
theorem cell_far {w:World}{k g o i:Nat}{v x:Value}(h:w.cell? ⟨k,o,none⟩=some v)(hne:k≠g):(w.setCell ⟨g,i,none⟩ x).cell? ⟨k,o,none⟩=some v:=
 (World.cell?_of_block (heap_setCell_other w ⟨g,i,none⟩ k x hne)).trans h
theorem aaE (w:World)(o:Obj):Below w.heap.size w (w.drew.alloc o):=(Below.refl _ _).drew.alloc (Nat.le_refl _) o
theorem Pq {n0 r c:Nat}{w:World}{L:Lay}{P:Pb}(h:eY n0 w L P)(hs:∀i k,i<P.m→k<P.n→Sz (P.T i k) 1048576)(hr:r<P.m)(hc:c<P.n)(hz:P.T r c≠0):
  Calls prog 162 #[.pointer (some ⟨L.p,0,none⟩),.int .i64 (r:Int),.int .i64 (c:Int)] w fun e w'=>e= .returned (.tuple #[])∧eY n0 w' L (P.pivot r c)∧Below n0 w w'∧aQ w w'∧Own L P w w':=by
 have nm:=h.nm;have cp:=h.cp;obtain⟨m,hm'⟩:∃m,P.m=m:=⟨_,rfl⟩;obtain⟨n,hn⟩:∃n,P.n=n:=⟨_,rfl⟩;have rH:n0≤w.heap.size:=Nat.le_of_lt (Nat.lt_of_le_of_lt h.ge.1 h.no.blk.lt);have JU:0<P.n:=by omega
 have HL:Hid (∀i,i<P.m→L.line i<w.heap.size):=fun i hi=>(h.li JU i hi).2.blk.lt;rw[hm']at nm cp;rw[hn]at nm cp;have HM:=hid hm';have jo:=hid hn;have SZ:=hid hs;have HC:=hid hc;have HR:=hid hr;have HZ:=hid hz;have ug:=hid h;have HD:=hid (fun(W:World) (T:Nat→Nat→Rat) (h:eY n0 W L {P with T:=T})=>(show W.cell? ⟨L.p,4,none⟩=some (.slice (some ⟨L.mY,0,none⟩) m L.qI)∧W.cell? ⟨L.p,5,none⟩=some (.slice (some ⟨L.jw,0,none⟩) n L.rY)∧W.cell? ⟨L.p,6,none⟩=some (.slice (some ⟨L.tab,0,none⟩) m L.tZ) from by have:=h.head;simp only at this;rw[hm',hn,(h.fr JU).1]at this;exact⟨this.2.2.2.2.1,this.2.2.2.2.2.1,this.2.2.2.2.2.2⟩))
 have LI:=hid (fun(W:World) (T:Nat→Nat→Rat) (h:eY n0 W L {P with T:=T}) (i:Nat) (hi:i<m)=>(show W.cell? ⟨L.tab,i,none⟩=some (.slice (some ⟨L.line i,0,none⟩) n n)∧fE W (L.line i) P.n (T i) from by
  have hi2:i<P.m:=by rw[hm'];exact hi
  have t:=h.ta i hi2;have l:=h.li JU i hi2;rw[l.1]at t;simp only[hn]at t;exact⟨t,l.2⟩))
 obtain⟨q4,q5,q6⟩:=HD.out w P.T h;obtain⟨tr,li⟩:=LI.out w P.T h r (by rw[←hm'];exact hr);obtain⟨E,e0,e1,e2,rE⟩:=li.at_ c hc;rw[hm']at hr;rw[hn]at hc;have c0:(0:Int)≤(c:Int):=by omega
 have c1:(c:Int)<(n:Int):=by omega
 have r0:(0:Int)≤(r:Int):=by omega
 have r1:(r:Int)<(m:Int):=by omega
 have RE:=hid rE;have SI:Hid (Sz (P.T r c)⁻¹ 1048577):=by have:=Sz.inv (SZ.out r c HR.out HC.out) HZ.out;rw[Rat.div_def,Rat.one_mul]at this;exact this
 have LLT:Hid (L.line r<w.heap.size):=HL.out r HR.out;have IV:Hid (((1:Int):Rat)/P.T r c=(P.T r c)⁻¹):=by show _=_;rw[Rat.div_def];simp
 have N1:=hid (bI 1 (by omega) (by omega) w.drew);have KP:=hid (fun(W:World) (hB:Below w.heap.size w W)=>(show W.cell? ⟨L.line r,c*3,none⟩=some (.bool E.s)∧W.cell? ⟨L.line r,c*3+1,none⟩=some (.slice E.a E.n E.c)∧W.cell? ⟨L.line r,c*3+2,none⟩=some (.slice E.b E.m E.d) from⟨aj hB e0,aj hB e1,aj hB e2⟩));clear h hs hz hm' hn JU li rE;go_enter func162,ntmps162;go_upto_region 1 with fail
 go_cut [7] (fun v W=>∃(g:Nat) (Iv:Nw),v= .pointer (some ⟨g,0,none⟩)∧w.heap.size≤g∧xg n0 w L P g Iv P.T W∧RA W (P.T r c)⁻¹ Iv)
 case first=>
  refine Rg.aH 7 [] (fun W=>W.cell? ⟨L.line r,c*3,none⟩=some (.bool E.s)∧W.cell? ⟨L.line r,c*3+1,none⟩=some (.slice E.a E.n E.c)∧W.cell? ⟨L.line r,c*3+2,none⟩=some (.slice E.b E.m E.d)) (by kernel_rfl) (by kernel_rfl) ?_ (fun hS ok inv=>?_)
  ·exact⟨e0,e1,e2⟩
  refine Rg.tk 1 rfl ok inv hS fun inv=>?_;refine Rg.tk 2 rfl ok inv hS fun inv=>?_;refine Rg.tk 3 rfl ok inv hS fun inv=>?_;refine Rg.tk 4 rfl ok inv hS fun inv=>?_;refine Rg.w2 0 6 rfl rfl inv (fun K' hK=>?_) fun K' hK=>?_
  ·(try simp only[zA,zB,zC]);go_simp;go_at_call 72;refine(bI 1 (by omega) (by omega) _).mono ?_;rintro e w2 ⟨s2,a2,n2,c2,b2,m2,d2,rfl,L2,B2⟩;have B2:=aJ B2;have KS:=KP.out w2 B2;have C2:=hid (fun(W:World) (hB:Below w2.heap.size w2 W)=>fU (L2.below hB) (RE.out.below (aB B2 hB)) (Sz.mono Sz.one (by omega)) (Sz.mono (SZ.out r c HR.out HC.out) (by omega)) HZ.out);refine Rg.st hK ?_ fun hS inv=>?_
   ·exact KS
   clear hK K';refine Rg.w2 5 6 rfl rfl inv (fun K' hK=>?_) fun K' hK=>?_
   ·(try simp only[zA,zB,zC]);go_simp;go_at_call 101;refine(C2.out _ (Below.refl _ _)).mono ?_;rintro e w3 ⟨s3,a3,n3,c3,b3,m3,d3,rfl,L3,B3⟩;rw[IV.out]at L3;have fC:=aB B2 B3;have Pv:=KP.out w3 fC;refine Rg.st hK ?_ fun hS inv=>?_
    ·exact Pv
    clear hK K';refine Rg.w1 6 rfl inv fun K' hK=>?_;(try simp only[zA,zB,zC]);go_simp;refine Rg.st hK ?_ fun hS inv=>?_
    ·exact KP.out _ (aB fC (ah _ _))
    clear hK K';refine Rg.wl rfl ?_;go_simp;have zq:Below w.heap.size w (w3.alloc (.cells #[.bool s3,.slice a3 n3 c3,.slice b3 m3 d3] 25)):=aB fC (ah _ _);go_wp2_with fail;go_meet
    case rel=>exact⟨w3.heap.size,⟨s3,a3,n3,c3,b3,m3,d3⟩,rfl,fC.size,⟨ug.out.below zq,heap_alloc_new w3 _,zq.mono rH,aQ.of_below zq,Nat.le_trans rH fC.size,Own.of_below zq⟩,aO.below L3 (ah _ _)⟩
   (try simp only[zA,zB,zC]);go_simp;refine Rg.st hK ?_ fun hS inv=>?_
   ·exact KP.out _ (aB B2 (ah _ _))
   clear hK K';refine Rg.w1 5 rfl inv fun K' hK=>?_;(try simp only[zA,zB,zC]);go_simp;go_at_call 101;refine(C2.out _ (ah _ _)).mono ?_;rintro e w3 ⟨s3,a3,n3,c3,b3,m3,d3,rfl,L3,B3⟩;rw[IV.out]at L3;have XN:NB w3 w2.heap.size false none 0 0 none 0 0:=nR B3;have fC:=Below.over (aB B2 (ah _ _)) (Nat.le_trans B2.size (by simp)) B3;have Pv:=KP.out w3 fC;obtain⟨z0,z1,z2,f⟩:=XN.reads;have f0:=f 0;have f1:=f 1;have f2:=f 2;refine Rg.st hK ?_ fun hS inv=>?_
   ·exact Pv
   clear hK K';refine Rg.wl rfl ?_;go_simp;go_wp2_with fail;go_meet
   case rel=>exact⟨w2.heap.size,⟨s3,a3,n3,c3,b3,m3,d3⟩,rfl,B2.size,CW ug.out fC B2.size rH XN,aO.oH L3 XN⟩
  (try simp only[zA,zB,zC]);go_simp;refine Rg.st hK ?_ fun hS inv=>?_
  ·exact KP.out _ (aaE w _)
  clear hK K';refine Rg.w1 0 rfl inv fun K' hK=>?_;(try simp only[zA,zB,zC]);go_simp;go_at_call 72;refine(bI 1 (by omega) (by omega) _).mono ?_;rintro e w2 ⟨s2,a2,n2,c2,b2,m2,d2,rfl,L2,sW⟩;have XG:NB w2 w.heap.size false none 0 0 none 0 0:=nR (aJ sW);have B2:Below w.heap.size w w2:=Below.over (ah w _) (by simp) (aJ sW);have KS:=KP.out w2 B2;have C2:=hid (fU L2 (RE.out.below B2) (Sz.mono Sz.one (by omega)) (Sz.mono (SZ.out r c HR.out HC.out) (by omega)) HZ.out);refine Rg.st hK ?_ fun hS inv=>?_
  ·exact KS
  clear hK K';refine Rg.w1 5 rfl inv fun K' hK=>?_;(try simp only[zA,zB,zC]);go_simp;go_at_call 101;refine(C2.out).mono ?_;rintro e w3 ⟨s3,a3,n3,c3,b3,m3,d3,rfl,L3,B3⟩;rw[IV.out]at L3;have XN:=XG.later B3 XG.lt;have fC:=aB B2 B3;have Pv:=KP.out w3 fC;obtain⟨z0,z1,z2,f⟩:=XN.reads;have f0:=f 0;have f1:=f 1;have f2:=f 2;refine Rg.st hK ?_ fun hS inv=>?_
  ·exact Pv
  clear hK K';refine Rg.wl rfl ?_;go_simp;go_wp2_with fail;go_meet
  case rel=>exact⟨w.heap.size,⟨s3,a3,n3,c3,b3,m3,d3⟩,rfl,Nat.le_refl _,CW ug.out fC (Nat.le_refl _) rH XN,aO.oH L3 XN⟩
 obtain⟨g,Iv,rfl,hg,hI,hV⟩:=hcut;have I0:=hid hI;have V0:=hid hV;have HG:=hid hg;clear hI hV q4 q5 q6 tr e0 e1 e2 N1 KP RE IV;have GL:Hid (∀i,i<P.m→L.line i≠g):=fun i hi=>Nat.ne_of_lt (Nat.lt_of_lt_of_le (HL.out i hi) HG.out);go_wp2_with fail;go_loopw [8,28] (fun v8 v28 wr=>∃j:Nat,j≤P.n∧v28= .int .i64 (j:Int)∧xg n0 w L P g Iv (st1 P r c j) wr∧RA wr (P.T r c)⁻¹ Iv) (fun _ v _=>n-(intOf v).toNat)
 case atStart=>exact⟨0,Nat.zero_le _,rfl,I0.out.tabs (fun i k _ _=>by unfold st1;rw[if_neg (by omega)]),V0.out⟩
 clear I0 V0;obtain⟨j,hj,rfl,hI,hV⟩:=hrel;rw[jo.out]at hj;have I:=hid hI;have VV:=hid hV;clear hI hV;by_cases hlt:j<n
 ·have hj2:j<P.n:=by rw[jo.out];exact hlt
  obtain⟨tr,li⟩:=LI.out wr _ I.out.at_ r hr;obtain⟨E,e0,e1,e2,rE⟩:=li.at_ j hj2;have g0:=li.blk.free (j*3);have g1:=li.blk.free (j*3+1);have g2:=li.blk.free (j*3+2);obtain⟨u0,u1,u2,_⟩:=I.out.nq.reads;have j0:(0:Int)≤(j:Int):=by omega
  have j1:(j:Int)<(n:Int):=by omega
  have WR:=hid (fun(M:Nw)=>li.wr hj2 M);by_cases jc:j=c
  ·subst jc;have NX:xg n0 w L P g Iv (st1 P r j (j+1)) (((wr.setCell ⟨L.line r,j*3,none⟩ (.bool Iv.s)).setCell ⟨L.line r,j*3+1,none⟩ (.slice Iv.a Iv.n Iv.c)).setCell ⟨L.line r,j*3+2,none⟩ (.slice Iv.b Iv.m Iv.d)):=by refine I.out.line HR.out hj2 (GL.out r HR.out) (WR.out Iv) VV.out fun i' k' _ _=>?_;have:=CU (P:=P) (r:=r) (c:=j) (j:=j) i' k';rw[show jF P r j j=(P.T r j)⁻¹ from by unfold jF;rw[if_pos rfl]]at this;exact this
   have NX:=hid NX;have VN:Hid (RA (((wr.setCell ⟨L.line r,j*3,none⟩ (.bool Iv.s)).setCell ⟨L.line r,j*3+1,none⟩ (.slice Iv.a Iv.n Iv.c)).setCell ⟨L.line r,j*3+2,none⟩ (.slice Iv.b Iv.m Iv.d)) (P.T r j)⁻¹ Iv):=VV.out.limb (li.limb hj2 (WR.out Iv));clear li tr;go_wp2_with fail;go_roundw
   case rel=>exact⟨j+1,by rw[jo.out];omega,by go_num,NX.out,VN.out⟩
   simp[intOf];omega
  have rE2:RA wr (P.T r j) E:=by
   have e:st1 P r c j r j=P.T r j:=by unfold st1;rw[if_neg (by omega)]
   rw[←e];exact rE
  have RE:=hid rE2;have jcb:((j:Int)==(c:Int))=false:=by simp;omega
  have C7:=hid (jC (w:=wr.drew) (rE2.below (Below.refl _ _).drew) (VV.out.below (Below.refl _ _).drew) (Sz.mono (SZ.out r j HR.out hj2) (by omega)) (Sz.mono SI.out (by omega)));clear rE rE2 tr;have KP:=hid (fun(W:World) (hB:Below wr.heap.size wr W)=>(show W.cell? ⟨L.line r,j*3,none⟩=some (.bool E.s)∧W.cell? ⟨L.line r,j*3+1,none⟩=some (.slice E.a E.n E.c)∧W.cell? ⟨L.line r,j*3+2,none⟩=some (.slice E.b E.m E.d)∧W.cell? ⟨g,0,none⟩=some (.bool Iv.s)∧W.cell? ⟨g,1,none⟩=some (.slice Iv.a Iv.n Iv.c)∧W.cell? ⟨g,2,none⟩=some (.slice Iv.b Iv.m Iv.d) from⟨aj hB e0,aj hB e1,aj hB e2,aj hB u0,aj hB u1,aj hB u2⟩));go_upto_region 7 with fail
  refine Rg.aH 10 [] (fun W=>W.cell? ⟨L.line r,j*3,none⟩=some (.bool E.s)∧W.cell? ⟨L.line r,j*3+1,none⟩=some (.slice E.a E.n E.c)∧W.cell? ⟨L.line r,j*3+2,none⟩=some (.slice E.b E.m E.d)∧W.cell? ⟨g,0,none⟩=some (.bool Iv.s)∧W.cell? ⟨g,1,none⟩=some (.slice Iv.a Iv.n Iv.c)∧W.cell? ⟨g,2,none⟩=some (.slice Iv.b Iv.m Iv.d)) (by kernel_rfl) (by kernel_rfl) ?_ (fun hS ok inv=>?_)
  ·exact⟨e0,e1,e2,u0,u1,u2⟩
  refine Rg.tk 0 rfl ok inv hS fun inv=>?_;refine Rg.tk 1 rfl ok inv hS fun inv=>?_;refine Rg.tk 2 rfl ok inv hS fun inv=>?_;refine Rg.tk 3 rfl ok inv hS fun inv=>?_;refine Rg.tk 4 rfl ok inv hS fun inv=>?_;refine Rg.tk 5 rfl ok inv hS fun inv=>?_;refine Rg.tk 6 rfl ok inv hS fun inv=>?_;refine Rg.w1 7 rfl inv fun K' hK=>?_;go_simp;go_at_call 100;refine(C7.out).mono ?_;rintro e w5 ⟨s5,a5,n5,c5,b5,m5,d5,rfl,L5,B5⟩;have B5:=aJ B5;have KS:=KP.out w5 B5;have C8:=hid (mP L5);refine Rg.st hK ?_ fun hS inv=>?_
  ·exact KS
  clear hK K';refine Rg.w1 8 rfl inv fun K' hK=>?_;go_simp;go_at_call 79;refine(C8.out).mono ?_;rintro e w6 ⟨s6,a6,n6,c6,b6,m6,d6,rfl,L6,B6⟩;have o8:=aB B5 B6;have KS:=KP.out w6 o8;have I6:=I.out.below o8;obtain⟨_,Px⟩:=LI.out w6 _ I6.at_ r hr;have g0:=Px.blk.free (j*3);have g1:=Px.blk.free (j*3+1);have g2:=Px.blk.free (j*3+2);have I6:=hid I6;have L6:=hid L6;have LI6:=hid Px;have o8:=hid o8;clear Px B6 B5 L5;refine Rg.st hK ?_ fun hS inv=>?_
  ·exact KS
  clear hK K';obtain⟨e0,e1,e2,u0,u1,u2⟩:=hS;have hS:(fun W=>W.cell? ⟨L.line r,j*3,none⟩=some (.bool E.s)∧W.cell? ⟨L.line r,j*3+1,none⟩=some (.slice E.a E.n E.c)∧W.cell? ⟨L.line r,j*3+2,none⟩=some (.slice E.b E.m E.d)∧W.cell? ⟨g,0,none⟩=some (.bool Iv.s)∧W.cell? ⟨g,1,none⟩=some (.slice Iv.a Iv.n Iv.c)∧W.cell? ⟨g,2,none⟩=some (.slice Iv.b Iv.m Iv.d)) w6:=⟨e0,e1,e2,u0,u1,u2⟩;refine Rg.tk 9 rfl ok inv hS fun inv=>?_;refine Rg.wl rfl ?_;go_simp;have hw:Wr w6 (((w6.setCell ⟨L.line r,j*3,none⟩ (.bool s6)).setCell ⟨L.line r,j*3+1,none⟩ (.slice a6 n6 c6)).setCell ⟨L.line r,j*3+2,none⟩ (.slice b6 m6 d6)) (L.line r) (j*3) (Nw.cs ⟨s6,a6,n6,c6,b6,m6,d6⟩):=LI6.out.wr hj2 ⟨s6,a6,n6,c6,b6,m6,d6⟩;have hm:RA w6 (jF P r c j) ⟨s6,a6,n6,c6,b6,m6,d6⟩:=by unfold jF;rw[if_neg jc];exact L6.out
  have NX:=xg.line (x:=jF P r c j) (T':=st1 P r c (j+1)) I6.out HR.out hj2 (GL.out r HR.out) hw hm (fun i' k' _ _=>CU i' k');have VN:=RA.limb (VV.out.below o8.out) (LI6.out.limb hj2 hw);clear hw hm;have NX:=hid NX;have VN:=hid VN;go_wp2_with fail;go_roundw
  case rel=>exact⟨j+1,by rw[jo.out];omega,by go_num,NX.out,VN.out⟩
  simp[intOf];omega
 obtain rfl:n=j:=by omega
 have I0:xg n0 w L P g Iv (st2 P r c 0) wr:=I.out.tabs (fun i k _ hk=>by rw[←jo.out];exact UZ i k hk);have SL:Hid (∀k,k<P.n→Sz (jF P r c k) 2097153):=fun k hk=>by
  unfold jF;split
  ·exact Sz.mono SI.out (by omega)
  exact(Sz.mono (Sz.mul (SZ.out r k HR.out hk) SI.out) (by omega)).neg
 obtain⟨q4,q5,q6⟩:=HD.out wr _ I0.at_;have I0:=hid I0;clear I VV;go_wp2_with fail;go_loopw [54] (fun v54 wr=>∃i:Nat,i≤P.m∧v54= .int .i64 (i:Int)∧xg n0 w L P g Iv (st2 P r c i) wr) (fun v _=>m-(intOf v).toNat)
 case atStart=>exact⟨0,Nat.zero_le _,rfl,I0.out⟩
 clear I0 q4 q5 q6;obtain⟨i,hi,rfl,hI⟩:=hrel;rw[HM.out]at hi;have I:=hid hI;clear hI;by_cases hlt:i<m
 ·have him:i<P.m:=by rw[HM.out];exact hlt
  obtain⟨ti,li⟩:=LI.out _ _ I.out.at_ i hlt;have i0:(0:Int)≤(i:Int):=by omega
  have i1:(i:Int)<(m:Int):=by omega
  by_cases ir:i=r
  ·have NX:=hid (I.out.tabs (fun a k _ _=>CV (Or.inl ir) a k));have irb:((i:Int)==(r:Int))=true:=by simp;omega
   clear li ir;go_wp2_with fail;go_roundw
   case rel=>exact⟨i+1,by rw[HM.out];omega,by go_num,NX.out⟩
   simp[intOf];omega
  have irb:((i:Int)==(r:Int))=false:=by simp;omega
  obtain⟨E,e0,e1,e2,rE⟩:=li.at_ c HC.out;have eT:st2 P r c i i c=P.T i c:=by unfold st2;rw[if_neg ir,if_neg (Nat.lt_irrefl _)]
  rw[eT]at rE;have SG:=dM rE;obtain⟨q,hq⟩:∃q,P.T i c=q:=⟨_,rfl⟩;rw[hq]at SG rE;have SG:=hid SG;have HQ:=hid hq;have RE:=hid rE;have IR:=hid ir;clear li eT hq rE ir;by_cases z0:q=0
  ·have zz:aV q=0:=aY.2 z0;rw[zz]at SG;have QZ:=hid z0;clear z0 zz;go_wp2_with fail;refine SG.out.mono ?_;rintro e w5 ⟨rfl,B5⟩;have NX:=hid ((I.out.below B5).tabs (fun a k _ _=>CV (Or.inr (by rw[HQ.out];exact QZ.out)) a k));clear B5;go_wp2_with fail;go_roundw
   case rel=>exact⟨i+1,by rw[HM.out];omega,by go_num,NX.out⟩
   simp[intOf];omega
  obtain⟨z,hz⟩:∃z,aV q=z:=⟨_,rfl⟩;have zb:(z==0)=false:=by simp;rw[←hz];exact fun k=>z0 (aY.1 k)
  rw[hz]at SG;clear hz z0;go_wp2_with fail;refine SG.out.mono ?_;rintro e w5 ⟨rfl,B5⟩;have I5:=hid (I.out.below B5);have RE5:=hid (RE.out.below B5);have GB:Hid (w5.heap.size=w5.heap.size):=rfl;obtain⟨_,li5⟩:=LI.out _ _ I5.out.at_ i hlt;have d0:=aj B5 e0;have d1:=aj B5 e1;have d2:=aj B5 e2;have BA:Hid (Below w5.heap.size w5 (w5.alloc (.cells #[.bool E.s,.slice E.a E.n E.c,.slice E.b E.m E.d] 25))):=ah _ _;have XB:Hid (NQ (w5.alloc (.cells #[.bool E.s,.slice E.a E.n E.c,.slice E.b E.m E.d] 25)) w5.heap.size E):=heap_alloc_new w5 _;have I6:=hid (I5.out.below BA.out);have RE6:=hid (RE5.out.below BA.out);have GW:Hid (w.heap.size≤w5.heap.size):=by have:=HG.out;have:=I5.out.nq.lt;show _≤_;omega
  clear e0 e1 e2 B5 li5 ti;go_upto_region 14 with fail
  clear d0 d1 d2;obtain⟨gb,hgb⟩:∃gb,w5.heap.size=gb:=⟨_,rfl⟩;rw[hgb]at XB GW;rw[hgb];clear hgb GB BA;generalize w5.alloc (.cells #[.bool E.s,.slice E.a E.n E.c,.slice E.b E.m E.d] 25)=W6 at*;have GI:Hid (∀i,i<P.m→L.line i≠gb):=fun i hi=>Nat.ne_of_lt (Nat.lt_of_lt_of_le (HL.out i hi) GW.out);go_wp2_with fail;refine(bI 0 (by omega) (by omega) _).mono ?_;rintro e w7 ⟨s7,a7,n7,c7,b7,m7,d7,rfl,L7,B7⟩;have I7:=I6.out.below B7;have X7:=XB.out.later B7 XB.out.lt;have R7:=RE6.out.below B7;obtain⟨t7,Za⟩:=LI.out _ _ I7.at_ i hlt;obtain⟨F,e0,e1,e2,_⟩:=Za.at_ c HC.out;have g0:=Za.blk.free (c*3);have g1:=Za.blk.free (c*3+1);have g2:=Za.blk.free (c*3+2);have hw:Wr w7 (((w7.setCell ⟨L.line i,c*3,none⟩ (.bool s7)).setCell ⟨L.line i,c*3+1,none⟩ (.slice a7 n7 c7)).setCell ⟨L.line i,c*3+2,none⟩ (.slice b7 m7 d7)) (L.line i) (c*3) (Nw.cs ⟨s7,a7,n7,c7,b7,m7,d7⟩):=Za.wr HC.out ⟨s7,a7,n7,c7,b7,m7,d7⟩;have L7:RA w7 (0:Rat) ⟨s7,a7,n7,c7,b7,m7,d7⟩:=L7;have NX:=xg.line (x:=0) (T':=FU P r c i 0) I7 him HC.out (GL.out i him) hw L7 (fun i' k' _ _=>Pn IR.out i' k');have XN:NQ (((w7.setCell ⟨L.line i,c*3,none⟩ (.bool s7)).setCell ⟨L.line i,c*3+1,none⟩ (.slice a7 n7 c7)).setCell ⟨L.line i,c*3+2,none⟩ (.slice b7 m7 d7)) gb E:=(hw.jm _ (GI.out i him).symm).trans X7;have RN:RA (((w7.setCell ⟨L.line i,c*3,none⟩ (.bool s7)).setCell ⟨L.line i,c*3+1,none⟩ (.slice a7 n7 c7)).setCell ⟨L.line i,c*3+2,none⟩ (.slice b7 m7 d7)) q E:=R7.limb (Za.limb HC.out hw);have NX:=hid NX;have XN:=hid XN;have RN:=hid RN;clear I7 X7 R7 t7 Za hw L7 B7;go_upto_region 15 with fail
  clear e0 e1 e2 g0 g1 g2;generalize (((w7.setCell ⟨L.line i,c*3,none⟩ (.bool s7)).setCell ⟨L.line i,c*3+1,none⟩ (.slice a7 n7 c7)).setCell ⟨L.line i,c*3+2,none⟩ (.slice b7 m7 d7))=W8 at*;go_wp2_with fail;go_loopw [80] (fun v80 wr=>∃j:Nat,j≤P.n∧v80= .int .i64 (j:Int)∧xg n0 w L P g Iv (FU P r c i j) wr∧NQ wr gb E∧RA wr q E) (fun v _=>n-(intOf v).toNat)
  case atStart=>exact⟨0,Nat.zero_le _,rfl,NX.out,XN.out,RN.out⟩
  clear NX XN RN;obtain⟨j,hj,rfl,hI,hX,hR⟩:=hrel;rw[jo.out]at hj;have J:=hid hI;have X:=hid hX;have R:=hid hR;clear hI hX hR;by_cases hjn:j<n
  ·have hj2:j<P.n:=by rw[jo.out];exact hjn
   obtain⟨_,li⟩:=LI.out _ _ J.out.at_ i hlt;obtain⟨_,lr⟩:=LI.out _ _ J.out.at_ r hr;obtain⟨A,a0,a1,a2,rA⟩:=li.at_ j hj2;obtain⟨F,f0,f1,f2,rF⟩:=lr.at_ j hj2;obtain⟨u0,u1,u2,_⟩:=X.out.reads;have eA:FU P r c i j i j=if j=c then 0 else P.T i j:=by unfold FU;rw[if_neg IR.out,if_neg (Nat.lt_irrefl _),if_pos rfl,if_neg (Nat.lt_irrefl _)]
   have eF:FU P r c i j r j=jF P r c j:=by unfold FU;rw[if_pos rfl]
   rw[eA]at rA;rw[eF]at rF;have sA:Sz (if j=c then 0 else P.T i j) 1048576:=by
    split
    ·exact Sz.mono Sz.zero (by omega)
    exact SZ.out i j him hj2
   obtain⟨x,hx⟩:∃x,(if j=c then(0:Rat)else P.T i j)=x:=⟨_,rfl⟩;rw[hx]at rA sA;obtain⟨y,hy⟩:∃y,jF P r c j=y:=⟨_,rfl⟩;rw[hy]at rF;have sq:Sz q 1048576:=by rw[←HQ.out];exact SZ.out i c him HC.out
   have sy:Sz y 2097153:=by rw[←hy];exact SL.out j hj2
   have RT:Hid (x+q*y=oJ P r c i j):=by show _=_;unfold oJ;rw[hx,hy,HQ.out]
   have j0:(0:Int)≤(j:Int):=by omega
   have j1:(j:Int)<(n:Int):=by omega
   have RX:=hid rA;have SX:=hid sA;have SQY:=hid (Sz.mul sq sy);have C7:=hid (jC (R.out.below (Below.refl _ _).drew) (rF.below (Below.refl _ _).drew) (Sz.mono sq (by omega)) (Sz.mono sy (by omega)));obtain⟨wo,hwo⟩:∃wo:World,wo=wo:=⟨w,rfl⟩;clear rA rF eA eF sA sq sy hx hy li lr;have KP:=hid (fun(W:World) (hB:Below wr.heap.size wr W)=>(show W.cell? ⟨L.line i,j*3,none⟩=some (.bool A.s)∧W.cell? ⟨L.line i,j*3+1,none⟩=some (.slice A.a A.n A.c)∧W.cell? ⟨L.line i,j*3+2,none⟩=some (.slice A.b A.m A.d)∧W.cell? ⟨L.line r,j*3,none⟩=some (.bool F.s)∧W.cell? ⟨L.line r,j*3+1,none⟩=some (.slice F.a F.n F.c)∧W.cell? ⟨L.line r,j*3+2,none⟩=some (.slice F.b F.m F.d)∧W.cell? ⟨gb,0,none⟩=some (.bool E.s)∧W.cell? ⟨gb,1,none⟩=some (.slice E.a E.n E.c)∧W.cell? ⟨gb,2,none⟩=some (.slice E.b E.m E.d) from⟨aj hB a0,aj hB a1,aj hB a2,aj hB f0,aj hB f1,aj hB f2,aj hB u0,aj hB u1,aj hB u2⟩));go_upto_region 18 with fail
   refine Rg.aH 14 [] (fun W=>W.cell? ⟨L.line i,j*3,none⟩=some (.bool A.s)∧W.cell? ⟨L.line i,j*3+1,none⟩=some (.slice A.a A.n A.c)∧W.cell? ⟨L.line i,j*3+2,none⟩=some (.slice A.b A.m A.d)∧W.cell? ⟨L.line r,j*3,none⟩=some (.bool F.s)∧W.cell? ⟨L.line r,j*3+1,none⟩=some (.slice F.a F.n F.c)∧W.cell? ⟨L.line r,j*3+2,none⟩=some (.slice F.b F.m F.d)∧W.cell? ⟨gb,0,none⟩=some (.bool E.s)∧W.cell? ⟨gb,1,none⟩=some (.slice E.a E.n E.c)∧W.cell? ⟨gb,2,none⟩=some (.slice E.b E.m E.d)) (by kernel_rfl) (by kernel_rfl) ?_ (fun hS ok inv=>?_)
   ·exact⟨a0,a1,a2,f0,f1,f2,u0,u1,u2⟩
   refine Rg.tk 0 rfl ok inv hS fun inv=>?_;refine Rg.tk 1 rfl ok inv hS fun inv=>?_;refine Rg.tk 2 rfl ok inv hS fun inv=>?_;refine Rg.tk 3 rfl ok inv hS fun inv=>?_;refine Rg.tk 4 rfl ok inv hS fun inv=>?_;refine Rg.tk 5 rfl ok inv hS fun inv=>?_;refine Rg.tk 6 rfl ok inv hS fun inv=>?_;refine Rg.tk 7 rfl ok inv hS fun inv=>?_;refine Rg.tk 8 rfl ok inv hS fun inv=>?_;refine Rg.tk 9 rfl ok inv hS fun inv=>?_;refine Rg.tk 10 rfl ok inv hS fun inv=>?_;refine Rg.w1 11 rfl inv fun K' hK=>?_;go_simp;go_at_call 100;refine(C7.out).mono ?_;rintro e w9 ⟨s5,a5,n5,c5,b5,m5,d5,rfl,L5,B5⟩;have B5:=aJ B5;have KS:=KP.out w9 B5;have C8:=hid (iq (RX.out.below B5) L5 (Sz.mono SX.out (by omega)) (Sz.mono SQY.out (by omega)));refine Rg.st hK ?_ fun hS inv=>?_
   ·exact KS
   clear hK K';refine Rg.w1 12 rfl inv fun K' hK=>?_;go_simp;go_at_call 133;refine(C8.out).mono ?_;rintro e w10 ⟨s6,a6,n6,c6,b6,m6,d6,rfl,L6,B6⟩;rw[RT.out]at L6;have o8:=aB B5 B6;have KS:=KP.out w10 o8;have I6:=J.out.below o8;obtain⟨_,Px⟩:=LI.out w10 _ I6.at_ i hlt;have g0:=Px.blk.free (j*3);have g1:=Px.blk.free (j*3+1);have g2:=Px.blk.free (j*3+2);have X6:=hid (X.out.later o8 X.out.lt);have R6:=hid (R.out.below o8);have I6:=hid I6;have L6:RA w10 (oJ P r c i j) ⟨s6,a6,n6,c6,b6,m6,d6⟩:=L6;have L6:=hid L6;have LI6:=hid Px;have o8:=hid o8;clear Px B6 B5 L5;refine Rg.st hK ?_ fun hS inv=>?_
   ·exact KS
   clear hK K';obtain⟨a0,a1,a2,f0,f1,f2,u0,u1,u2⟩:=hS;have hS:(fun W=>W.cell? ⟨L.line i,j*3,none⟩=some (.bool A.s)∧W.cell? ⟨L.line i,j*3+1,none⟩=some (.slice A.a A.n A.c)∧W.cell? ⟨L.line i,j*3+2,none⟩=some (.slice A.b A.m A.d)∧W.cell? ⟨L.line r,j*3,none⟩=some (.bool F.s)∧W.cell? ⟨L.line r,j*3+1,none⟩=some (.slice F.a F.n F.c)∧W.cell? ⟨L.line r,j*3+2,none⟩=some (.slice F.b F.m F.d)∧W.cell? ⟨gb,0,none⟩=some (.bool E.s)∧W.cell? ⟨gb,1,none⟩=some (.slice E.a E.n E.c)∧W.cell? ⟨gb,2,none⟩=some (.slice E.b E.m E.d)) w10:=⟨a0,a1,a2,f0,f1,f2,u0,u1,u2⟩;refine Rg.tk 13 rfl ok inv hS fun inv=>?_;refine Rg.wl rfl ?_;go_simp;have hw:Wr w10 (((w10.setCell ⟨L.line i,j*3,none⟩ (.bool s6)).setCell ⟨L.line i,j*3+1,none⟩ (.slice a6 n6 c6)).setCell ⟨L.line i,j*3+2,none⟩ (.slice b6 m6 d6)) (L.line i) (j*3) (Nw.cs ⟨s6,a6,n6,c6,b6,m6,d6⟩):=LI6.out.wr hj2 ⟨s6,a6,n6,c6,b6,m6,d6⟩;have NX:=xg.line (x:=oJ P r c i j) (T':=FU P r c i (j+1)) I6.out him hj2 (GL.out i him) hw L6.out (fun i' k' _ _=>Po IR.out i' k');have XN:NQ (((w10.setCell ⟨L.line i,j*3,none⟩ (.bool s6)).setCell ⟨L.line i,j*3+1,none⟩ (.slice a6 n6 c6)).setCell ⟨L.line i,j*3+2,none⟩ (.slice b6 m6 d6)) gb E:=(hw.jm _ (GI.out i him).symm).trans X6.out;have RN:=RA.limb R6.out (LI6.out.limb hj2 hw);clear hw;have NX:=hid NX;have XN:=hid XN;have RN:=hid RN;go_wp2_with fail;go_roundw
   case rel=>exact⟨j+1,by rw[jo.out];omega,by go_num,NX.out,XN.out,RN.out⟩
   simp[intOf];omega
  obtain rfl:n=j:=by omega
  have NX:xg n0 w L P g Iv (st2 P r c (i+1)) wr:=J.out.tabs (fun a k _ hk=>by rw[←jo.out];exact U7 a k hk);have NX:=hid NX;go_wp2_with fail;go_roundw
  case rel=>exact⟨i+1,by rw[HM.out];omega,by go_num,NX.out⟩
  simp[intOf];omega
 obtain rfl:m=i:=by omega
 have FI:=xg.tabs (T':=(P.pivot r c).T) I.out (fun a k ha hk=>by
  unfold st2 Pb.pivot oJ jF;rw[HM.out]at ha;by_cases e:a=r
  ·simp[e]
  simp[e,ha])
 obtain⟨q4,q5,q6⟩:=HD.out _ _ FI.at_;obtain⟨_,fr⟩:=FI.at_.fr (by show 0<P.n;have:=HC.out;omega);have pf:wr.cell? ⟨L.jw,c,none⟩=some (.int .i64 ((P.free c:Nat):Int)):=fr.at_ c HC.out;have pb:wr.cell? ⟨L.mY,r,none⟩=some (.int .i64 ((P.basic r:Nat):Int)):=FI.at_.ba.at_ r HR.out;have gb:=FI.at_.ba.blk.free r;have gf:=fr.blk.free c;have bf:=FI.at_.bf;obtain⟨x,hx⟩:∃x,P.free c=x:=⟨_,rfl⟩;obtain⟨y,hy⟩:∃y,P.basic r=y:=⟨_,rfl⟩;rw[hx]at pf;rw[hy]at pb;have HX:=hid hx;have HY:=hid hy;have FI:=hid FI;clear fr hx hy I;go_wp2_with fail;go_upto_region 21 with fail
 have pf:wr.drew.cell? ⟨L.jw,c,none⟩=some (.int .i64 (x:Int)):=pf;have pb:wr.drew.cell? ⟨L.mY,r,none⟩=some (.int .i64 (y:Int)):=pb;have PB:Hid (L.p≠L.mY):=FI.out.at_.pb.ne FI.out.at_.ba.blk (by decide);have FIN:Hid ((Ending.returned (.tuple #[])=Ending.returned (.tuple #[]))∧eY n0 ((wr.drew.setCell ⟨L.mY,r,none⟩ (.int .i64 (x:Int))).setCell ⟨L.jw,c,none⟩ (.int .i64 (y:Int))) L (P.pivot r c)∧Below n0 w ((wr.drew.setCell ⟨L.mY,r,none⟩ (.int .i64 (x:Int))).setCell ⟨L.jw,c,none⟩ (.int .i64 (y:Int)))∧aQ w ((wr.drew.setCell ⟨L.mY,r,none⟩ (.int .i64 (x:Int))).setCell ⟨L.jw,c,none⟩ (.int .i64 (y:Int)))∧Own L P w ((wr.drew.setCell ⟨L.mY,r,none⟩ (.int .i64 (x:Int))).setCell ⟨L.jw,c,none⟩ (.int .i64 (y:Int)))):=by
  have w1:Wr wr.drew (wr.drew.setCells L.mY r [.int .i64 (x:Int)]) L.mY r [.int .i64 (x:Int)]:=dY _ _ _ _ fun j hj=>by
   have:j=0:=by simpa using hj
   subst this;rw[Nat.add_zero,pb];rfl
  have w2:Wr (wr.drew.setCell ⟨L.mY,r,none⟩ (.int .i64 (x:Int))) (World.setCells (wr.drew.setCell ⟨L.mY,r,none⟩ (.int .i64 (x:Int))) L.jw c [.int .i64 (y:Int)]) L.jw c [.int .i64 (y:Int)]:=dY _ _ _ _ fun j hj=>by
   have:j=0:=by simpa using hj
   subst this;rw[Nat.add_zero,cell_far pf (Ne.symm bf)];rfl
  have a1:=FI.out.at_.drew.YV HR.out w1;have a2:=a1.YW HC.out w2;have l1:=FI.out.at_.drew.ba.limb HR.out w1;have l2:=(a1.fr (by show 0<P.n;have:=HC.out;omega)).2.limb HC.out w2;rw[←HX.out,←HY.out]at a2;rw[←HX.out,←HY.out];rw[←HX.out]at w1;rw[←HX.out,←HY.out]at w2;rw[←HX.out]at l1;rw[←HX.out,←HY.out]at l2;refine⟨rfl,a2,w2.bel _ _ FI.out.at_.ge.2.2.1 (w1.bel _ _ FI.out.at_.ge.2.1 FI.out.bl.drew),(FI.out.lb.trans (aQ.of_below (Below.refl _ _).drew)).trans (l1.trans l2),fun b l a1 a2 a3 a4=>(w2.jm b a3).trans ((w1.jm b a2).trans (FI.out.fr b l a1 a2 a3 a4))⟩
 refine Rg.aH 27 [] (fun W=>W.cell? ⟨L.p,4,none⟩=some (.slice (some ⟨L.mY,0,none⟩) m L.qI)∧W.cell? ⟨L.p,5,none⟩=some (.slice (some ⟨L.jw,0,none⟩) n L.rY)) (by kernel_rfl) (by kernel_rfl) ?_ (fun hS ok inv=>?_)
 ·exact⟨q4,q5⟩
 refine Rg.tk 0 rfl ok inv hS fun inv=>?_;refine Rg.tk 1 rfl ok inv hS fun inv=>?_;refine Rg.tk 2 rfl ok inv hS fun inv=>?_;refine Rg.tk 3 rfl ok inv hS fun inv=>?_;refine Rg.tk 4 rfl ok inv hS fun inv=>?_;refine Rg.tk 5 rfl ok inv hS fun inv=>?_;refine Rg.tk 6 rfl ok inv hS fun inv=>?_;refine Rg.tk 7 rfl ok inv hS fun inv=>?_;refine Rg.tk 8 rfl ok inv hS fun inv=>?_;refine Rg.tk 9 rfl ok inv hS fun inv=>?_;refine Rg.tk 10 rfl ok inv hS fun inv=>?_;refine Rg.tk 11 rfl ok inv hS fun inv=>?_;refine Rg.tk 12 rfl ok inv hS fun inv=>?_;refine Rg.tk 13 rfl ok inv hS fun inv=>?_;refine Rg.tk 14 rfl ok inv hS fun inv=>?_;refine Rg.tk 15 rfl ok inv hS fun inv=>?_;refine Rg.tk 17 rfl ok inv hS fun inv=>?_;refine Rg.tk 18 rfl ok inv hS fun inv=>?_;refine Rg.tk 19 rfl ok inv hS fun inv=>?_;refine Rg.tk 20 rfl ok inv hS fun inv=>?_;refine Rg.tk 21 rfl ok inv hS fun inv=>?_;refine Rg.tk 22 rfl ok inv hS fun inv=>?_;refine Rg.Pg (k:=16) (l:=23) (v:=?_) (u:=?_) (by kernel_rfl) rfl rfl (by decide) (by decide) inv hS (by rfl) (by rfl) ?_ ?_ (fun inv=>?_) (fun inv=>?_);rotate_left;rotate_left
 ·((try simp only[zA,zB,zC]);go_simp;(try with_reducible rfl))
 ·((try simp only[zA,zB,zC]);go_simp;(try with_reducible rfl))
 ·try simp only[Act.put,zA,zB,zC,zD,zE,zF]
  refine Rg.y1 23 rfl inv hS fun inv=>?_;refine Rg.tk 24 rfl ok inv hS fun inv=>?_;refine Rg.w1 25 rfl inv fun K' hK=>?_;(try simp only[zA,zB,zC]);go_simp;refine Rg.st hK ?_ fun hS inv=>?_
  ·exact⟨cell_far q4 PB.out,cell_far q5 PB.out⟩
  clear hK K';refine Rg.tk 26 rfl ok inv hS fun inv=>?_;have pf2:(wr.drew.setCell ⟨L.mY,r,none⟩ (.int .i64 (x:Int))).cell? ⟨L.jw,c,none⟩=some (.int .i64 (x:Int)):=cell_far pf (Ne.symm bf);refine Rg.wl rfl ?_;go_simp;exact bodyPost_end (v:= .tuple #[]) (by simp[results,results162,go_sem]) rfl FIN.out
 try simp only[Act.put,zA,zB,zC,zD,zE,zF]
 refine Rg.y1 16 rfl inv hS fun inv=>?_;refine Rg.tk 24 rfl ok inv hS fun inv=>?_;refine Rg.w1 25 rfl inv fun K' hK=>?_;(try simp only[zA,zB,zC]);go_simp;refine Rg.st hK ?_ fun hS inv=>?_
 ·exact⟨cell_far q4 PB.out,cell_far q5 PB.out⟩
 clear hK K';refine Rg.tk 26 rfl ok inv hS fun inv=>?_;have pf2:(wr.drew.setCell ⟨L.mY,r,none⟩ (.int .i64 (x:Int))).cell? ⟨L.jw,c,none⟩=some (.int .i64 (x:Int)):=cell_far pf (Ne.symm bf);refine Rg.wl rfl ?_;go_simp;exact bodyPost_end (v:= .tuple #[]) (by simp[results,results162,go_sem]) rfl FIN.out
end Go.Proofs.YtijdglogadnbcaaGreat
