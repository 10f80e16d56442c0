/- Problem.Greatest. Printed by genGr.py. -/
import Derived.Test.YtijdglogadnbcaaGreatY29
import Derived.Deep.LoopGhost
import Derived.Deep.Onto
set_option linter.unusedVariables false
set_option linter.unusedSimpArgs false
set_option maxRecDepth 100000
set_option maxHeartbeats 40000000
namespace Go.Proofs.YtijdglogadnbcaaGreat
open Go.Proofs.Tryz
open Go.RowKit Nt Bl
theorem abv {P P':Pb}{g c:Nat}(hp:P.Pl)(hs:uz P 1048576)(hc:c<P.n)(h:P.rz g c=some P'):P'.Pl∧P'.n=P.n∧P'.m=P.m:=by
 rw[Io,Option.map_eq_some_iff]at h;obtain⟨⟨l,b⟩,hx,rfl⟩:=h;have pr:=qL (g:=g) (rs:=P.rising g c) hp hs hc P.m (Nat.le_refl _) l b hx
 cases b with
 | none=>exact⟨Pb.qK hp _ _,rfl,rfl⟩
 | some r=>exact⟨Pb.Pl.pivot (Pb.qK hp _ _) (r:=r) (c:=c) (pr.2.2 r rfl).1 hc,rfl,rfl⟩
theorem Own.p {L:Lay}{P P':Pb}{w w':World}(h:Own L P' w w')(e:P'.m=P.m):Own L P w w':=fun b l a1 a2 a3 a4=>h b l a1 a2 a3 (by rw[e];exact a4)
theorem eY.ZC {n0 g:Nat}{w w':World}{L:Lay}{P:Pb}{M S:Nw}(h:eY n0 w L P)(hx:VB w g M S)(hn:L.now≠g)(e:∀b,b≠g→w'.heap[b]? =w.heap[b]?) (hl:aQ w w'):eY n0 w' L P:=by
 have hb:dh w g 174:=⟨_,hx⟩;have B:∀{k ty:Nat},dh w k ty→ty≠174→w'.heap[k]? =w.heap[k]?:=fun q hne=>e _ (q.ne hb hne);exact⟨(B h.pb (by decide)).trans h.hd,h.lo.keep (B h.lo.blk (by decide)) hl,h.hi.keep (B h.hi.blk (by decide)) hl,h.no.keep (e _ hn) hl,h.ba.keep (B h.ba.blk (by decide)),
  fun q=>⟨(h.fr q).1,(h.fr q).2.keep (B (h.fr q).2.blk (by decide))⟩,h.tb.keep (B h.tb (by decide)),fun i hi=>(aN (B h.tb (by decide)) i).trans (h.ta i hi),
  fun q i hi=>⟨(h.li q i hi).1,(h.li q i hi).2.keep (B (h.li q i hi).2.blk (by decide)) hl⟩,h.inj,h.bf,h.ge,h.cp,h.nm⟩
structure ZF (n0:Nat)(w W0:World)(L:Lay)(P P1:Pb)(wr:World):Prop where
 pl:P1.Pl
 en:P1.n=P.n
 em:P1.m=P.m
 at_:eY n0 wr L P1
 bl:Below n0 w wr
 lb:aQ w wr
 ow:Own L P W0 wr
 si:W0.heap.size≤wr.heap.size
 vb:VB wr w.heap.size Nw.zero Nw.zero
theorem ZF.below {n0:Nat}{w W0:World}{L:Lay}{P P1:Pb}{wr w':World}(h:ZF n0 w W0 L P P1 wr)(hn:n0≤w.heap.size)(hb:Below wr.heap.size wr w'):ZF n0 w W0 L P P1 w':=
 ⟨h.pl,h.en,h.em,h.at_.below hb,Below.trans h.bl (hb.mono (Nat.le_trans hn h.bl.size)),h.lb.trans (aQ.of_below hb),h.ow.below h.si hb,Nat.le_trans h.si hb.size,h.vb.later hb h.vb.lt⟩
theorem ZF.fin {n0:Nat}{w W0:World}{L:Lay}{P P1:Pb}{wr:World}(h:ZF n0 w W0 L P P1 wr)(hn:n0≤w.heap.size)(hl:L.now<w.heap.size)(B0:Below w.heap.size w W0)(M S:Nw){x y z a b c:Value}(ex:x= .bool M.s)(ey:y= .slice M.a M.n M.c)(ez:z= .slice M.b M.m M.d)(ea:a= .bool S.s)(eb:b= .slice S.a S.n S.c)(ec:c= .slice S.b S.m S.d){W:World}
  (hW:W=((((((wr.setCell ⟨w.heap.size,0,none⟩ x).setCell ⟨w.heap.size,1,none⟩ y).setCell ⟨w.heap.size,2,none⟩ z).setCell ⟨w.heap.size,3,none⟩ a).setCell ⟨w.heap.size,4,none⟩ b).setCell ⟨w.heap.size,5,none⟩ c)):
  VB W w.heap.size M S∧aQ wr W∧P1.n=P.n∧P1.m=P.m∧P1.Pl∧eY n0 W L P1∧Below n0 w W∧aQ w W∧Own L P w W:=by
 subst ex ey ez ea eb ec hW;have L6:=h.vb.jG M S;exact⟨h.vb.kL M S,L6,h.en,h.em,h.pl,h.at_.ZC h.vb (by omega) (fun b hb=>aaG hb _ _ _ _ _ _) L6,cZ h.bl hn _ _ _ _ _ _,h.lb.trans L6,
  fun b l a1 a2 a3 a4=>(aaG (by omega) _ _ _ _ _ _).trans ((h.ow b (Nat.lt_of_lt_of_le l B0.size) a1 a2 a3 a4).trans (B0.block b l))⟩
theorem Bl.Ci.sz {K k:Nat}{P Q:Pb}{is:Bool}(h:Ci K k P Q is):uz P K:=by
 cases k with
 | zero=>exact h.1
 | succ k=>exact h.1
def GrL (n0:Nat)(w W0:World)(L:Lay)(P Q:Pb)(is:Bool)(k:Nat)(wr:World):Prop:=
 ∃P':Pb,Ci 1048576 k P' Q is∧ZF n0 w W0 L P P' wr
theorem Kq {f:Nat→Nat}{v n r:Nat}(h:dI f v n=some r):r<n:=(wG h).1
theorem Vx {n0 k:Nat}{w:World}{L:Lay}{P Q:Pb}{is:Bool}(h:eY n0 w L P)(hp:P.Pl)(hG:Ci 1048576 k P Q is):
  Calls prog 122 #[.pointer (some ⟨L.p,0,none⟩)] w fun e w'=>(∃M S:Nw,e= .returned (.tuple #[.agg #[.bool M.s,.slice M.a M.n M.c,.slice M.b M.m M.d,.bool S.s,.slice S.a S.n S.c,.slice S.b S.m S.d],.bool is])∧
    (is=true→RA w' (Q.now (P.n+P.m-1)).m M∧RA w' (Q.now (P.n+P.m-1)).s S))∧Q.n=P.n∧Q.m=P.m∧Q.Pl∧eY n0 w' L Q∧Below n0 w w'∧aQ w w'∧Own L P w w':=by
 have nm:=h.nm;have cp:=h.cp;obtain⟨v,hN⟩:∃v,P.n+P.m=v+1:=⟨P.n+P.m-1,by omega⟩;obtain⟨m,hm⟩:∃m,P.m=m:=⟨_,rfl⟩;obtain⟨n,hn⟩:∃n,P.n=n:=⟨_,rfl⟩;have rH:n0≤w.heap.size:=Nat.le_of_lt (Nat.lt_of_le_of_lt h.ge.1 h.no.blk.lt);rw[hm,hn]at nm;rw[hm,hn]at cp;have HN:=hid hN;have HM:=hid hm;have jo:=hid hn;have vv:v≤200:=by omega
 have vI0:(0:Int)≤(v:Int):=by omega
 have vI1:(v:Int)<((v+1:Nat):Int):=by omega
 have HD:=hid (fun(W:World) (P':Pb) (h:eY n0 W L P') (en:P'.n=P.n) (em:P'.m=P.m)=>(show W.cell? ⟨L.p,3,none⟩=some (.slice (some ⟨L.now,0,none⟩) (v+1) (v+1))∧W.cell? ⟨L.p,4,none⟩=some (.slice (some ⟨L.mY,0,none⟩) m L.qI) from by have:=h.head;rw[en,em,hN,hm]at this;exact⟨this.2.2.2.1,this.2.2.2.2.1⟩))
 have B0:Hid (Below w.heap.size w (w.alloc (.cells #[.bool false,.slice none 0 0,.slice none 0 0,.bool false,.slice none 0 0,.slice none 0 0] 174))):=ah _ _;have X0:Hid (VB (w.alloc (.cells #[.bool false,.slice none 0 0,.slice none 0 0,.bool false,.slice none 0 0,.slice none 0 0] 174)) w.heap.size Nw.zero Nw.zero):=heap_alloc_new w _;have ou:Hid (L.now<w.heap.size∧L.mY<w.heap.size∧(0<P.n→L.jw<w.heap.size∧∀i,i<P.m→L.line i<w.heap.size)):=⟨h.no.blk.lt,h.ba.blk.lt,fun q=>⟨(h.fr q).2.blk.lt,fun i hi=>(h.li q i hi).2.blk.lt⟩⟩;have J0:Hid (GrL n0 w (w.alloc (.cells #[.bool false,.slice none 0 0,.slice none 0 0,.bool false,.slice none 0 0,.slice none 0 0] 174)) L P Q is k (w.alloc (.cells #[.bool false,.slice none 0 0,.slice none 0 0,.bool false,.slice none 0 0,.slice none 0 0] 174))):=
  ⟨P,hG,hp,rfl,rfl,h.below B0.out,B0.out.mono rH,aQ.of_below B0.out,fun _ _ _ _ _ _=>rfl,Nat.le_refl _,X0.out⟩
 clear h hp hG hN hm hn;go_enter func122,ntmps122;go_upto_region 1 with fail
 generalize w.alloc (.cells #[.bool false,.slice none 0 0,.slice none 0 0,.bool false,.slice none 0 0,.slice none 0 0] 174)=W0 at*;have HQ:Hid (W0.cell? ⟨L.p,3,none⟩=some (.slice (some ⟨L.now,0,none⟩) (v+1) (v+1))∧W0.cell? ⟨L.p,4,none⟩=some (.slice (some ⟨L.mY,0,none⟩) m L.qI)):=by obtain⟨P1,_,S1⟩:=J0.out;exact HD.out W0 P1 S1.at_ S1.en S1.em
 obtain⟨q3,q4⟩:=HQ.out;go_upto_region 2 with fail
 go_loopg [] k (fun gk wr=>GrL n0 w W0 L P Q is gk wr)
 case atStart=>exact J0.out
 clear J0 q3 q4 HQ X0;obtain⟨P1,hG,hS⟩:=hrel;obtain⟨q3,q4⟩:=HD.out wr P1 hS.at_ hS.en hS.em;have G:=hid hG;have ST:=hid hS;have mp:P1.m=m:=hS.em.trans HM.out;have IX:=yD (v:=v) hS.at_.ba (hS.at_.cp.1) hS.at_.cp.2.1;rw[mp]at IX;have IX:=hid IX;obtain⟨t0,t1,t2,t3,t4,t5,fz⟩:=hS.vb.reads;have fz0:=fz 0;have iD:=fz 1;have jh:=fz 2;have fz3:=fz 3;have kC:=fz 4;have lD:=fz 5;have EV:Hid (P1.n+P1.m-1=v):=by show _=_;rw[hS.en,hS.em];have:=HN.out;omega
 have RO:Hid (P1.rowOf v P1.m=dI P1.basic v m):=by show _=_;rw[nU,mp]
 have MP:=hid mp;clear hG hS fz mp;have GC:Hid ((∃r c P2 k',gk=k'+1∧dI P1.basic v m=some r∧P1.hlp r true=some c∧P1.rz r c=some P2∧Ci 1048576 k' P2 Q is)∨
   (Q=P1∧((is=false∧dI P1.basic v m=none)∨(is=false∧∃r c,dI P1.basic v m=some r∧P1.hlp r true=some c∧P1.rz r c=none)∨(is=true∧∃r,dI P1.basic v m=some r∧P1.hlp r true=none)))):=by
  have g:=G.out
  rw[←RO.out,←EV.out]
  cases gk with
  | zero=>
   obtain⟨_,rfl,g⟩:=g
   refine Or.inr ⟨rfl,?_⟩
   rcases g with⟨rfl,g | g⟩ | ⟨rfl,g⟩
   ·exact Or.inl ⟨rfl,g⟩
   ·exact Or.inr (Or.inl ⟨rfl,g⟩)
   ·exact Or.inr (Or.inr ⟨rfl,g⟩)
  | succ k'=>
   obtain⟨_,r,c,P2,g1,g2,g3,g4⟩:=g
   exact Or.inl ⟨r,c,P2,k',rfl,g1,g2,g3,g4⟩
 have SZ:=hid G.out.sz;obtain⟨ro,hro⟩:∃ro,dI P1.basic v m=ro:=⟨_,rfl⟩;rw[hro]at GC IX;have HRO:=hid hro;clear hro G
 cases ro with
 | none=>
  have G1:Hid (P1=Q∧is=false):=by
   rcases GC.out with⟨r,c,P2,k',_,g,_⟩ | ⟨e,⟨e2,_⟩ | ⟨_,r,c,g,_⟩ | ⟨_,r,g,_⟩⟩
   ·simp at g
   ·exact⟨e.symm,e2⟩
   ·simp at g
   ·simp at g
  clear GC
  go_wp2_with fail
  refine IX.out.mono ?_
  rintro e w' ⟨rfl,rfl⟩
  go_wp2_with fail
  have F:=ST.out.fin rH ou.out.1 B0.out Nw.zero Nw.zero rfl rfl rfl rfl rfl rfl rfl
  obtain⟨XN,L6,F⟩:=F
  obtain⟨x0,x1,x2,x3,x4,x5,_⟩:=XN.reads
  have F:=hid F
  clear L6 XN
  simp only[Nw.zero]at x0 x1 x2 x3 x4 x5
  refine bodyPost_ret (v:= .tuple #[.agg #[.bool false,.slice none 0 0,.slice none 0 0,.bool false,.slice none 0 0,.slice none 0 0],.bool false]) (by simp[results,results122,go_sem,x0,x1,x2,x3,x4,x5]) rfl ?_
  have e1:=G1.out.1
  subst e1
  exact⟨⟨Nw.zero,Nw.zero,by rw[G1.out.2];rfl,fun h=>by rw[G1.out.2]at h;simp at h⟩,F.out⟩
 | some r=>
  obtain⟨ho,hho⟩:∃ho,P1.hlp r true=ho:=⟨_,rfl⟩
  have RL:Hid (r<P1.m):=by show _<_;rw[MP.out];exact Kq HRO.out
  have C:=Ie (up:=true) ST.out.at_ ST.out.pl SZ.out RL.out
  rw[hho]at C
  have C:=hid C
  have HO:=hid hho
  have HC:Hid (∀c,ho=some c→c<P1.n):=fun c hc=>by
   have:=P1.dS r true P1.n
   unfold Pb.hlp at hho
   rw[hho,hc]at this
   exact this.1
  clear hho
  have r0:(0:Int)≤(r:Int):=by omega
  go_wp2_with fail
  refine IX.out.mono ?_
  rintro e w' ⟨rfl,rfl⟩
  go_wp2_with fail
  refine C.out.mono ?_
  rintro e w5 ⟨rfl,B5⟩
  have Kr:=hid (ST.out.below rH B5)
  clear C IX ST B5 q3 q4 t0 t1 t2 t3 t4 t5 fz0 iD jh fz3 kC lD
  obtain⟨q3,q4⟩:=HD.out w5 P1 Kr.out.at_ Kr.out.en Kr.out.em
  obtain⟨t0,t1,t2,t3,t4,t5,fz⟩:=Kr.out.vb.reads
  have fz0:=fz 0;have iD:=fz 1;have jh:=fz 2;have fz3:=fz 3;have kC:=fz 4;have lD:=fz 5
  clear fz
  cases ho with
  | none=>
   have G1:Hid (P1=Q∧is=true):=by
    rcases GC.out with⟨r',c,P2,k',_,g,g2,_⟩ | ⟨e,⟨_,g⟩ | ⟨_,r',c,g,g2,_⟩ | ⟨e2,r',g,_⟩⟩
    ·simp only[Option.some.injEq]at g;subst g;rw[HO.out]at g2;simp at g2
    ·simp at g
    ·simp only[Option.some.injEq]at g;subst g;rw[HO.out]at g2;simp at g2
    ·exact⟨e.symm,e2⟩
   have vN:v<P1.n+P1.m:=by rw[Kr.out.en,Kr.out.em,HN.out];omega
   obtain⟨M,S,r1,r2,a0,a1,a2,a3,a4,a5⟩:=(Kr.out.at_.no.at_ v vN).reads
   have RM:=hid (And.intro r1 r2)
   clear r1 r2 GC
   go_wp2_with fail
   have F:=Kr.out.fin rH ou.out.1 B0.out M S rfl rfl rfl rfl rfl rfl rfl
   obtain⟨XN,L6,F⟩:=F
   obtain⟨x0,x1,x2,x3,x4,x5,_⟩:=XN.reads
   have LL:=hid L6
   have F:=hid F
   clear L6 XN
   refine bodyPost_ret (v:= .tuple #[.agg #[.bool M.s,.slice M.a M.n M.c,.slice M.b M.m M.d,.bool S.s,.slice S.a S.n S.c,.slice S.b S.m S.d],.bool true]) (by simp[results,results122,go_sem,x0,x1,x2,x3,x4,x5]) rfl ?_
   have e1:=G1.out.1
   subst e1
   exact⟨⟨M,S,by rw[G1.out.2],fun _=>by rw[HN.out];exact⟨RM.out.1.limb LL.out,RM.out.2.limb LL.out⟩⟩,F.out⟩
  | some c=>
   have c0:(0:Int)≤(c:Int):=by omega
   have cn:c<P1.n:=HC.out c rfl
   have C:=hid (Zx Kr.out.at_ Kr.out.pl SZ.out RL.out cn)
   clear HC
   go_wp2_with fail
   refine C.out.mono ?_
   rintro e w6 (⟨hz,rfl,B6⟩ | ⟨P2,hz,rfl,hA,hB,hL,hO⟩)
   ·have G1:Hid (P1=Q∧is=false):=by
     rcases GC.out with⟨r',c',P3,k',_,g,g2,g3,_⟩ | ⟨e,⟨_,g⟩ | ⟨e2,r',c',g,g2,_⟩ | ⟨e2,r',g,g2⟩⟩
     ·simp only[Option.some.injEq]at g;subst g;rw[HO.out]at g2;simp only[Option.some.injEq]at g2;subst g2;rw[hz]at g3;simp at g3
     ·simp at g
     ·exact⟨e.symm,e2⟩
     ·simp only[Option.some.injEq]at g;subst g;rw[HO.out]at g2;simp at g2
    have ST:=hid (Kr.out.below rH B6)
    clear hz B6 C t0 t1 t2 t3 t4 t5 fz0 iD jh fz3 kC lD GC q3 q4
    obtain⟨t0,t1,t2,t3,t4,t5,fz⟩:=ST.out.vb.reads
    have fz0:=fz 0;have iD:=fz 1;have jh:=fz 2;have fz3:=fz 3;have kC:=fz 4;have lD:=fz 5
    clear fz
    go_wp2_with fail
    have F:=ST.out.fin rH ou.out.1 B0.out Nw.zero Nw.zero rfl rfl rfl rfl rfl rfl rfl
    obtain⟨XN,L6,F⟩:=F
    obtain⟨x0,x1,x2,x3,x4,x5,_⟩:=XN.reads
    have F:=hid F
    clear L6 XN
    simp only[Nw.zero]at x0 x1 x2 x3 x4 x5
    refine bodyPost_ret (v:= .tuple #[.agg #[.bool false,.slice none 0 0,.slice none 0 0,.bool false,.slice none 0 0,.slice none 0 0],.bool false]) (by simp[results,results122,go_sem,x0,x1,x2,x3,x4,x5]) rfl ?_
    have e1:=G1.out.1
    subst e1
    exact⟨⟨Nw.zero,Nw.zero,by rw[G1.out.2];rfl,fun h=>by rw[G1.out.2]at h;simp at h⟩,F.out⟩
   ·have G1:Hid (∃k',gk=k'+1∧Ci 1048576 k' P2 Q is):=by
     rcases GC.out with⟨r',c',P3,k',ek,g,g2,g3,g4⟩ | ⟨e,⟨_,g⟩ | ⟨e2,r',c',g,g2,g3⟩ | ⟨e2,r',g,g2⟩⟩
     ·simp only[Option.some.injEq]at g;subst g;rw[HO.out]at g2;simp only[Option.some.injEq]at g2;subst g2;rw[hz]at g3;simp only[Option.some.injEq]at g3;subst g3;exact⟨k',ek,g4⟩
     ·simp at g
     ·simp only[Option.some.injEq]at g;subst g;rw[HO.out]at g2;simp only[Option.some.injEq]at g2;subst g2;rw[hz]at g3;simp at g3
     ·simp only[Option.some.injEq]at g;subst g;rw[HO.out]at g2;simp at g2
    obtain⟨p2,n2,m2⟩:=abv Kr.out.pl SZ.out cn hz
    have NX:Hid (ZF n0 w W0 L P P2 w6):=by
     have s5:=Kr.out
     have hl:=ou.out.2.2 (by have:=s5.en;omega)
     refine⟨p2,n2.trans s5.en,m2.trans s5.em,hA,Below.trans s5.bl hB,s5.lb.trans hL,Own.trans s5.ow s5.si (hO.p s5.em),Nat.le_trans s5.si hB.size,?_⟩
     refine(hO w.heap.size s5.vb.lt (by have:=ou.out.1;omega) (by have:=ou.out.2.1;omega) (by have:=hl.1;omega) (fun i hi=>?_)).trans s5.vb
     have:=hl.2 i (by rw[←s5.em];exact hi)
     omega
    obtain⟨k',ek,g4⟩:=G1.out
    have G4:=hid g4
    have EK:=hid ek
    clear hA hB hL hO hz p2 n2 m2 C GC G1 ek g4 t0 t1 t2 t3 t4 t5 fz0 iD jh fz3 kC lD q3 q4
    go_wp2_with fail
    go_roundg k'
    case measure=>have:=EK.out;omega
    case rel=>exact⟨P2,G4.out,NX.out⟩
theorem Bl.Ci.goal {K:Nat}:∀{k:Nat} {P Q:Pb},Ci K k P Q true→∃r,dI Q.basic (Q.n+Q.m-1) Q.m=some r
 | 0,P,Q,h=>by
  obtain⟨_,rfl,h⟩:=h;rcases h with⟨h,_⟩ | ⟨_,r,h,_⟩
  ·simp at h
  exact⟨r,by rw[←nU];exact h⟩
 | k+1,P,Q,h=>by obtain⟨_,r,c,P2,_,_,_,h⟩:=h;exact Bl.Ci.goal h
theorem abw {w:World}{g k:Nat}(hk:k≠g)(a b c:Value):((((w.setCell ⟨g,0,none⟩ a).setCell ⟨g,1,none⟩ b).setCell ⟨g,2,none⟩ c)).heap[k]? =w.heap[k]?:=
 heap_setCells_other hk [a,b,c] 0 w
theorem QO {w:World}{base e size n g:Nat}{v:Value}{xs:List Value}(h:w.ownsRow base e size v n xs)(hg:g<base)(a b c:Value):(((w.setCell ⟨g,0,none⟩ a).setCell ⟨g,1,none⟩ b).setCell ⟨g,2,none⟩ c).ownsRow base e size v n xs:=by
 refine h.kept (row:=some g) ⟨rfl,rfl,rfl,Nat.le_of_eq (by simp[World.setCell]),fun k _ hne=>abw (fun q=>hne (by rw[q])) a b c⟩ ?_
 cases q:v.ownBlock with
 | none=>exact Or.inl rfl
 | some k=>
  refine Or.inr (fun e=>?_)
  have:=(h.lt k q).1
  simp only[Option.some.injEq]at e
  omega
theorem yE.below {w w':World}{rows:List Rl}{ra:Option Addr}{n m:Nat}{gl:List (Nat×Rat)}{ga:Option Addr}{gc:Nat}(h:yE w rows ra n m gl ga gc)(hb:Below w.heap.size w w'):yE w' rows ra n m gl ga gc:=
 ⟨h.hr.below hb,h.hm,h.hg.below hb,h.hgc,h.hn,h.zT,h.hv⟩
theorem Vy {w:World}{rows:List Rl}{ra:Option Addr}{rc n m k k2:Nat}{gl:List (Nat×Rat)}{ga:Option Addr}{gc:Nat}{Q Q2:Pb}{is:Bool}(h:yE w rows ra n m gl ga gc)
  (hF:KZ 1048576 k (cO (dP rows) n (fA gl)) Q none)(hG:Ci 1048576 k2 Q Q2 is)(hs:is=true→Sz (Q2.now (n+m)).s 1048576):
  Calls prog 77 #[.slice ra m rc,.int .i64 (n:Int),.slice ga gl.length gc] w fun e w'=>Below w.heap.size w w'∧
   ((is=false∧e= .returned (.tuple #[.agg #[.bool false,.slice none 0 0,.slice none 0 0],.bool false,.bool false,.slice none 0 0]))∨
    (is=true∧∃(M:Nw) (v:Value) (r:Nat),e= .returned (.tuple #[.agg #[.bool M.s,.slice M.a M.n M.c,.slice M.b M.m M.d],.bool true,.bool (decide ((Q2.now (n+m)).s=0)),v])∧RA w' (Q2.now (n+m)).m M∧
     dI Q2.basic (n+m) (m+1)=some r∧w'.ownsRow w.heap.size 3 1 v (Q2.tight r).length (Dn (Q2.tight r)))):=by
 have B0:=hid (ah w (.cells #[.bool false,.slice none 0 0,.slice none 0 0] 25));have X0:Hid (NQ (w.alloc (.cells #[.bool false,.slice none 0 0,.slice none 0 0] 25)) w.heap.size Nw.zero):=heap_alloc_new w _;have h:=h.below B0.out;have N0:Hid ((cO (dP rows) n (fA gl)).n=n∧(cO (dP rows) n (fA gl)).m=m+1):=⟨rfl,by show(dP rows).length+1=m+1;rw[ku,h.hm]⟩;have PL:=hid (cO.pl (dP rows) n (fA gl));have C:=hid (new_any (rc:=rc) (N:=n+m+1) h.hr h.hm h.hg h.hgc h.hn h.zT rfl h.hv);have HF:=hid hF;have HG:=hid hG;have HS:=hid hs;obtain⟨P0,hP0⟩:∃P0,cO (dP rows) n (fA gl)=P0:=⟨_,rfl⟩;rw[hP0]at N0 PL C HF;clear h hF hG hs hP0;go_enter func77,ntmps77;go_upto_region 1 with fail
 generalize w.alloc (.cells #[.bool false,.slice none 0 0,.slice none 0 0] 25)=W0 at*;obtain⟨g6,Jp⟩:∃g6,w.heap.size=g6:=⟨_,rfl⟩;have HG6:=hid Jp;rw[Jp]at X0⊢;clear Jp;go_upto_if 24 with(first
  | (go_at_call 114;refine C.out.mono ?_;rintro e w1 ⟨L,rfl,hP,hB⟩;have CC:=hid (Jd (R:=fun _ _=>True) hP PL.out HF.out (fun _ _ _ h=>by simp at h));have B1:=hid hB;clear hP hB C)
  | (go_at_call 115;refine CC.out.mono ?_;rintro e w2 ⟨v,rfl,h1,h2,hS⟩;have B2:=hid (Below.trans B1.out hS.bl);have CG:=hid (Vx hS.at_ hS.pl HG.out);have NQ2:=hid (And.intro hS.en hS.em);clear hS CC B1 h1 h2)
  | (go_at_call 122;refine CG.out.mono ?_;rintro e w3 ⟨⟨M,S,rfl,hR⟩,e1,e2,hp,hA,hB,hL,hO⟩;have B3:=hid (Below.trans B2.out hB);have AT:=hid hA;have PLQ:=hid hp;have NN:=hid (And.intro e1 e2);have HR:=hid hR;clear hA hB hp e1 e2 hR hL hO CG B2))
 have BV:=hid (ah w3 (.cells #[.bool M.s,.slice M.a M.n M.c,.slice M.b M.m M.d,.bool S.s,.slice S.a S.n S.c,.slice S.b S.m S.d] 174));have XV:Hid (VB (w3.alloc (.cells #[.bool M.s,.slice M.a M.n M.c,.slice M.b M.m M.d,.bool S.s,.slice S.a S.n S.c,.slice S.b S.m S.d] 174)) w3.heap.size M S):=heap_alloc_new w3 _;obtain⟨g11,abx⟩:∃g11,w3.heap.size=g11:=⟨_,rfl⟩;have B5:=hid (aB B3.out BV.out);have A5:=hid (AT.out.below BV.out);rw[abx]at XV⊢;have X5:Hid (NQ (w3.alloc (.cells #[.bool M.s,.slice M.a M.n M.c,.slice M.b M.m M.d,.bool S.s,.slice S.a S.n S.c,.slice S.b S.m S.d] 174)) g6 Nw.zero):=X0.out.later B5.out X0.out.lt;have RMS:Hid (is=true→RA (w3.alloc (.cells #[.bool M.s,.slice M.a M.n M.c,.slice M.b M.m M.d,.bool S.s,.slice S.a S.n S.c,.slice S.b S.m S.d] 174)) (Q2.now (n+m)).m M∧RA (w3.alloc (.cells #[.bool M.s,.slice M.a M.n M.c,.slice M.b M.m M.d,.bool S.s,.slice S.a S.n S.c,.slice S.b S.m S.d] 174)) (Q2.now (n+m)).s S):=fun h=>by obtain⟨a,b⟩:=HR.out h;rw[NQ2.out.1,NQ2.out.2,N0.out.1,N0.out.2]at a b;exact⟨a.below BV.out,b.below BV.out⟩
 have FST:Hid (is=true→∃r,dI Q2.basic (Q2.n+Q2.m-1) Q2.m=some r):=fun h=>by have:=HG.out;rw[h]at this;exact this.goal
 have NM:Hid (Q2.n+Q2.m-1=n+m∧Q2.m=m+1):=by show _∧_;rw[NN.out.1,NN.out.2,NQ2.out.1,NQ2.out.2,N0.out.1,N0.out.2];omega
 have g6w:Hid (w.heap.size=g6):=HG6;clear HR AT BV B3 abx;generalize w3.alloc (.cells #[.bool M.s,.slice M.a M.n M.c,.slice M.b M.m M.d,.bool S.s,.slice S.a S.n S.c,.slice S.b S.m S.d] 174)=W5 at*;obtain⟨z0,z1,z2,fz⟩:=X5.out.reads;have fz0:=fz 0;have iD:=fz 1;have jh:=fz 2;clear fz;have BW:Hid (Below w.heap.size w W5):=aB B0.out B5.out
 cases is with
 | false=>
  go_wp2_with fail
  have XN:=X5.out.gy Nw.zero
  have BN:=aG BW.out g6 (Nat.le_of_eq HG6.out) (.bool false) (.slice none 0 0) (.slice none 0 0)
  have x0:(((W5.setCell ⟨g6,0,none⟩ (.bool false)).setCell ⟨g6,1,none⟩ (.slice none 0 0)).setCell ⟨g6,2,none⟩ (.slice none 0 0)).cell? ⟨g6,0,none⟩=some (.bool false):=XN.reads.1
  have x1:(((W5.setCell ⟨g6,0,none⟩ (.bool false)).setCell ⟨g6,1,none⟩ (.slice none 0 0)).setCell ⟨g6,2,none⟩ (.slice none 0 0)).cell? ⟨g6,1,none⟩=some (.slice none 0 0):=XN.reads.2.1
  have x2:(((W5.setCell ⟨g6,0,none⟩ (.bool false)).setCell ⟨g6,1,none⟩ (.slice none 0 0)).setCell ⟨g6,2,none⟩ (.slice none 0 0)).cell? ⟨g6,2,none⟩=some (.slice none 0 0):=XN.reads.2.2.1
  refine bodyPost_ret (v:= .tuple #[.agg #[.bool false,.slice none 0 0,.slice none 0 0],.bool false,.bool false,.slice none 0 0]) (by simp[results,results77,go_sem,x0,x1,x2]) rfl ?_
  exact⟨BN,rfl⟩
 | true=>
  clear z0 z1 z2 fz0 iD jh
  obtain⟨r,hr⟩:=FST.out rfl
  have FR:=hid hr
  have RM:=hid (RMS.out rfl).1
  have RS:=hid (RMS.out rfl).2
  have SG:=hid (dM (RS.out.below (Below.refl W5.heap.size W5).drew))
  obtain⟨t0,t1,t2,t3,t4,t5,_⟩:=XV.out.reads
  clear hr RMS FST
  have KP:=hid (fun(W:World) (hB:Below W5.heap.size W5 W)=>(show W.cell? ⟨g11,0,none⟩=some (.bool M.s)∧W.cell? ⟨g11,1,none⟩=some (.slice M.a M.n M.c)∧W.cell? ⟨g11,2,none⟩=some (.slice M.b M.m M.d)∧W.cell? ⟨g11,3,none⟩=some (.bool S.s)∧W.cell? ⟨g11,4,none⟩=some (.slice S.a S.n S.c)∧W.cell? ⟨g11,5,none⟩=some (.slice S.b S.m S.d) from⟨aj hB t0,aj hB t1,aj hB t2,aj hB t3,aj hB t4,aj hB t5⟩))
  obtain⟨z,hz⟩:∃z,aV (Q2.now (n+m)).s=z:=⟨_,rfl⟩
  have HZ:=hid hz
  rw[hz]at SG
  clear hz
  have NE:Hid (g11≠g6):=by show _≠_;intro e;have h1:=X5.out;have h2:=XV.out;unfold VB at h2;unfold NQ at h1;rw[e,h1]at h2;simp at h2
  go_upto_region 6 with fail
  refine Rg.aH 11 [] (fun W=>W.cell? ⟨g11,0,none⟩=some (.bool M.s)∧W.cell? ⟨g11,1,none⟩=some (.slice M.a M.n M.c)∧W.cell? ⟨g11,2,none⟩=some (.slice M.b M.m M.d)∧W.cell? ⟨g11,3,none⟩=some (.bool S.s)∧W.cell? ⟨g11,4,none⟩=some (.slice S.a S.n S.c)∧W.cell? ⟨g11,5,none⟩=some (.slice S.b S.m S.d)) (by kernel_rfl) (by kernel_rfl) ?_ (fun hS ok inv=>?_)
  ·exact⟨t0,t1,t2,t3,t4,t5⟩
  refine Rg.tk 0 rfl ok inv hS fun inv=>?_
  refine Rg.tk 1 rfl ok inv hS fun inv=>?_
  refine Rg.tk 2 rfl ok inv hS fun inv=>?_
  refine Rg.tk 3 rfl ok inv hS fun inv=>?_
  refine Rg.tk 6 rfl ok inv hS fun inv=>?_
  refine Rg.w1 4 rfl inv fun K' hK=>?_
  go_simp
  go_at_call 92
  refine(SG.out).mono ?_
  rintro e w6 ⟨rfl,B6⟩
  have B6:=aJ B6
  have KS:=KP.out w6 B6
  have A6:=hid (A5.out.below B6)
  have RM6:=hid (RM.out.below B6)
  have uI:=hid (aB BW.out B6)
  have X6:=hid (X5.out.later B6 X5.out.lt)
  have CT:=hid (J5 A6.out PLQ.out FR.out)
  refine Rg.st hK ?_ fun hS inv=>?_
  ·exact KS
  clear hK K'
  refine Rg.tk 5 rfl ok inv hS fun inv=>?_
  refine Rg.w1 7 rfl inv fun K' hK=>?_
  go_simp
  go_at_call 123
  refine(CT.out).mono ?_
  rintro e w7 ⟨v7,rfl,hO,B7⟩
  have KS:=KP.out w7 (aB B6 B7)
  have RM7:=hid (RM6.out.below B7)
  have Ak:=hid (aB uI.out B7)
  have X7:=hid (X6.out.later B7 X6.out.lt)
  have OT:=hid hO
  have BVV:=hid (aB B6 B7)
  obtain⟨_,_,_,fz⟩:=X7.out.reads
  have fz0:=fz 0;have iD:=fz 1;have jh:=fz 2
  clear fz hO
  refine Rg.st hK ?_ fun hS inv=>?_
  ·exact KS
  clear hK K'
  refine Rg.w1 8 rfl inv fun K' hK=>?_
  have XVv:=XV.out.later BVV.out XV.out.lt
  have KS8:=(show(((w7.setCell ⟨g6,0,none⟩ (.bool M.s)).setCell ⟨g6,1,none⟩ (.slice M.a M.n M.c)).setCell ⟨g6,2,none⟩ (.slice M.b M.m M.d)).cell? ⟨g11,0,none⟩=some (.bool M.s)∧(((w7.setCell ⟨g6,0,none⟩ (.bool M.s)).setCell ⟨g6,1,none⟩ (.slice M.a M.n M.c)).setCell ⟨g6,2,none⟩ (.slice M.b M.m M.d)).cell? ⟨g11,1,none⟩=some (.slice M.a M.n M.c)∧(((w7.setCell ⟨g6,0,none⟩ (.bool M.s)).setCell ⟨g6,1,none⟩ (.slice M.a M.n M.c)).setCell ⟨g6,2,none⟩ (.slice M.b M.m M.d)).cell? ⟨g11,2,none⟩=some (.slice M.b M.m M.d)∧(((w7.setCell ⟨g6,0,none⟩ (.bool M.s)).setCell ⟨g6,1,none⟩ (.slice M.a M.n M.c)).setCell ⟨g6,2,none⟩ (.slice M.b M.m M.d)).cell? ⟨g11,3,none⟩=some (.bool S.s)∧(((w7.setCell ⟨g6,0,none⟩ (.bool M.s)).setCell ⟨g6,1,none⟩ (.slice M.a M.n M.c)).setCell ⟨g6,2,none⟩ (.slice M.b M.m M.d)).cell? ⟨g11,4,none⟩=some (.slice S.a S.n S.c)∧(((w7.setCell ⟨g6,0,none⟩ (.bool M.s)).setCell ⟨g6,1,none⟩ (.slice M.a M.n M.c)).setCell ⟨g6,2,none⟩ (.slice M.b M.m M.d)).cell? ⟨g11,5,none⟩=some (.slice S.b S.m S.d) from(VB.reads (g:=g11) (M:=M) (S:=S) ((abw (w:=w7) (g:=g6) NE.out (.bool M.s) (.slice M.a M.n M.c) (.slice M.b M.m M.d)).trans XVv)) |> fun h=>⟨h.1,h.2.1,h.2.2.1,h.2.2.2.1,h.2.2.2.2.1,h.2.2.2.2.2.1⟩)
  (try simp only[zA,zB,zC])
  go_simp
  refine Rg.st hK ?_ fun hS inv=>?_
  ·exact KS8
  clear hK K'
  refine Rg.tk 9 rfl ok inv hS fun inv=>?_
  refine Rg.tk 10 rfl ok inv hS fun inv=>?_
  refine Rg.wl rfl ?_
  go_simp
  go_wp2_with fail
  have XN:=X7.out.gy M
  have LN:=X7.out.oH M
  have BN:=aG Ak.out g6 (Nat.le_of_eq HG6.out) (.bool M.s) (.slice M.a M.n M.c) (.slice M.b M.m M.d)
  have ON:=QO (g:=g6) OT.out (Nat.lt_of_lt_of_le X6.out.lt (Nat.le_refl _)) (.bool M.s) (.slice M.a M.n M.c) (.slice M.b M.m M.d)
  obtain⟨x0,x1,x2,_⟩:=XN.reads
  refine bodyPost_ret (v:= .tuple #[.agg #[.bool M.s,.slice M.a M.n M.c,.slice M.b M.m M.d],.bool true,.bool (z==0),v7]) (by simp[results,results77,go_sem,x0,x1,x2]) rfl ?_
  have ZE:(z==0)=decide ((Q2.now (n+m)).s=0):=by
   rw[←HZ.out]
   by_cases q:(Q2.now (n+m)).s=0
   ·rw[aY.2 q];simp[q]
   ·have:aV (Q2.now (n+m)).s≠0:=fun e=>q (aY.1 e)
    simp[q,this]
  have F:=FR.out
  rw[NM.out.1,NM.out.2]at F
  exact⟨BN,M,v7,by rw[ZE],RM7.out.limb LN,r,F,World.ownsRow.mono ON (Nat.le_trans uI.out.size (Nat.le_refl _))⟩
end Go.Proofs.YtijdglogadnbcaaGreat
