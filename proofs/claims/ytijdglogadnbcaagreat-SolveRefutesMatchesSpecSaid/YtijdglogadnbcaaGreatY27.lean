/- Problem.Feasible. Printed by genFb.py. -/
import Derived.Test.YtijdglogadnbcaaGreatY26
import Derived.Deep.LoopGhost
set_option linter.unusedVariables false
set_option linter.unusedSimpArgs false
set_option maxRecDepth 100000
set_option maxHeartbeats 40000000
namespace Go.Proofs.YtijdglogadnbcaaGreat
open Go.Proofs.Tryz
open Go.RowKit Nt Bl
structure FeS (n0:Nat)(w:World)(L:Lay)(P P1:Pb)(wr:World):Prop where
 pl:P1.Pl
 en:P1.n=P.n
 em:P1.m=P.m
 at_:eY n0 wr L P1
 bl:Below n0 w wr
 lb:aQ w wr
 ow:Own L P w wr
theorem FeS.below {n0:Nat}{w:World}{L:Lay}{P P1:Pb}{wr w':World}(h:FeS n0 w L P P1 wr)(hn:n0≤w.heap.size)(hb:Below wr.heap.size wr w'):FeS n0 w L P P1 w':=
 ⟨h.pl,h.en,h.em,h.at_.below hb,Below.trans h.bl (hb.mono (Nat.le_trans hn h.bl.size)),h.lb.trans (aQ.of_below hb),h.ow.below h.bl.size hb⟩
theorem Own.p' {L:Lay}{P P':Pb}{w w':World}(h:Own L P' w w')(e:P'.m=P.m):Own L P w w':=fun b l a1 a2 a3 a4=>h b l a1 a2 a3 (by rw[e];exact a4)
theorem Bl.KZ.sz {K k:Nat}{P Q:Pb}{x:Option (Nat×Bool)}(h:KZ K k P Q x):uz P K:=by
 cases k with
 | zero=>exact h.1
 | succ k=>exact h.1
def FeL (n0:Nat)(w:World)(L:Lay)(P Q:Pb)(x:Option (Nat×Bool))(k:Nat)(wr:World):Prop:=
 ∃P':Pb,KZ 1048576 k P' Q x∧FeS n0 w L P P' wr
def Zr (n0:Nat)(w:World)(L:Lay)(P Q:Pb)(x:Option (Nat×Bool))(R:Value→World→Prop)(e:Ending)(w':World):Prop:=
 ∃v,e= .returned (.tuple #[v,.bool x.isNone])∧(x=none→v= .slice none 0 0)∧(x≠none→R v w')∧FeS n0 w L P Q w'
theorem Jd {n0 k:Nat}{w:World}{L:Lay}{P Q:Pb}{x:Option (Nat×Bool)}{R:Value→World→Prop}(h:eY n0 w L P)(hp:P.Pl)(hF:KZ 1048576 k P Q x)
  (CF:∀(W:World) (r:Nat) (up:Bool),x=some (r,up)→eY n0 W L Q→Calls prog 158 #[.pointer (some ⟨L.p,0,none⟩),.int .i64 (r:Int),.bool up] W fun e w'=>∃v,e= .returned v∧R v w'∧Below W.heap.size W w'):
  Calls prog 115 #[.pointer (some ⟨L.p,0,none⟩)] w (Zr n0 w L P Q x R):=by
 have nm:=h.nm;have cp:=h.cp;obtain⟨N,hN⟩:∃N,P.n+P.m=N:=⟨_,rfl⟩;obtain⟨m,hm⟩:∃m,P.m=m:=⟨_,rfl⟩;obtain⟨n,hn⟩:∃n,P.n=n:=⟨_,rfl⟩;have rH:n0≤w.heap.size:=Nat.le_of_lt (Nat.lt_of_le_of_lt h.ge.1 h.no.blk.lt);rw[hm,hn]at nm;rw[hm,hn]at cp;have HN:=hid hN;have HM:=hid hm;have jo:=hid hn;have CFH:=hid CF;have HD:=hid (fun(W:World) (P':Pb) (h:eY n0 W L P') (en:P'.n=P.n) (em:P'.m=P.m)=>(show W.cell? ⟨L.p,1,none⟩=some (.slice (some ⟨L.low,0,none⟩) N N)∧W.cell? ⟨L.p,2,none⟩=some (.slice (some ⟨L.high,0,none⟩) N N)∧W.cell? ⟨L.p,3,none⟩=some (.slice (some ⟨L.now,0,none⟩) N N)∧W.cell? ⟨L.p,4,none⟩=some (.slice (some ⟨L.mY,0,none⟩) m L.qI)∧W.cell? ⟨L.p,6,none⟩=some (.slice (some ⟨L.tab,0,none⟩) m L.tZ) from by have:=h.head;rw[en,em,hN,hm]at this;exact⟨this.2.1,this.2.2.1,this.2.2.2.1,this.2.2.2.2.1,this.2.2.2.2.2.2⟩))
 have J0:Hid (FeL n0 w L P Q x k w):=⟨P,hF,hp,rfl,rfl,h,Below.refl _ _,aQ.refl _,fun _ _ _ _ _ _=>rfl⟩;clear h hp hF hN hm hn CF;go_enter func115,ntmps115;go_wp2_with fail;go_loopg [4,5] k (fun gk _ _ wr=>FeL n0 w L P Q x gk wr)
 case atStart=>exact J0.out
 clear J0;obtain⟨P1,hG,hS⟩:=hrel;have G:=hid hG;have ST:=hid hS;have MP:Hid (P1.m=m):=hS.em.trans HM.out;have NP:Hid (P1.n=n):=hS.en.trans jo.out;have SZ:=hid hG.sz;have C:=UN hS.at_ hS.pl hG.sz;have GC:Hid ((Q=P1∧P1.brk=x∧∀r up,x=some (r,up)→P1.hlp r up=none)∨∃r up c b k',gk=k'+1∧P1.brk=some (r,up)∧P1.hlp r up=some c∧P1.fO r up=some b∧uz (P1.mv c (V.mul (1/P1.T r c) (b.sub (P1.now (P1.basic r))))) 1048576∧KZ 1048576 k' (P1.fst r c b) Q x):=by
  have g:=G.out
  cases gk with
  | zero=>
   obtain⟨_,e,e2,e3⟩:=g
   exact Or.inl ⟨e,e2,e3⟩
  | succ k'=>
   obtain⟨_,r,up,c,b,g1,g2,g3,g4,g5⟩:=g
   exact Or.inr ⟨r,up,c,b,k',rfl,g1,g2,g3,g4,g5⟩
 obtain⟨bo,hbo⟩:∃bo,P1.brk=bo:=⟨_,rfl⟩;rw[hbo]at C GC;have C:=hid C;have HBO:=hid hbo;clear hG hS hbo G
 cases bo with
 | none=>
  have G1:Hid (P1=Q∧x=none):=by
   rcases GC.out with⟨e,e2,_⟩ | ⟨r,up,c,b,k',_,g,_⟩
   ·exact⟨e.symm,e2.symm⟩
   ·simp at g
  clear GC
  go_wp2_with fail
  refine C.out.mono ?_
  rintro e w2 ⟨rfl,B2⟩
  have S2:=hid (ST.out.below rH B2)
  clear B2 C ST
  simp only[JQ,upB]
  go_wp2_with fail
  go_ret2
  obtain⟨e1,e2⟩:=G1.out
  subst e1 e2
  exact⟨_,rfl,fun _=>rfl,fun q=>absurd rfl q,S2.out⟩
 | some y=>
  obtain⟨r,up⟩:=y
  have RM:Hid (r<P1.m):=by
   have bp:=P1.fK P1.m
   have e:=HBO.out
   unfold Pb.brk at e;rw[e]at bp
   exact bp.1
  go_wp2_with fail
  refine C.out.mono ?_
  rintro e w2 ⟨rfl,B2⟩
  have S2:=hid (ST.out.below rH B2)
  clear B2 C ST
  simp only[JQ,upB]
  have r0:(0:Int)≤(r:Int):=by omega
  obtain⟨ho,hho⟩:∃ho,P1.hlp r up=ho:=⟨_,rfl⟩
  have C:=Ie (up:=up) S2.out.at_ S2.out.pl SZ.out RM.out
  rw[hho]at C
  have C:=hid C;have HHO:=hid hho
  clear hho
  cases ho with
  | none=>
   have G1:Hid (Q=P1∧x=some (r,up)):=by
    rcases GC.out with⟨e,e2,_⟩ | ⟨r',up',c,b,k',_,g,g2,_⟩
    ·exact⟨e,e2.symm⟩
    ·simp only[Option.some.injEq,Prod.mk.injEq]at g
     obtain⟨rfl,rfl⟩:=g
     rw[HHO.out]at g2;simp at g2
   clear GC
   simp only[je]at C
   go_upto_region 6 with(go_at_call 157;refine C.out.mono ?_;rintro e w3 ⟨rfl,B3⟩;have S3:=hid (S2.out.below rH B3);clear B3)
   have CQ:Hid (Calls prog 158 #[.pointer (some ⟨L.p,0,none⟩),.int .i64 (r:Int),.bool up] w3 fun e w'=>∃v,e= .returned v∧R v w'∧Below w3.heap.size w3 w'):=
    CFH.out w3 r up G1.out.2 (by rw[G1.out.1];exact S3.out.at_)
   go_wp2_with (go_at_call 158;refine CQ.out.mono ?_;rintro e w4 ⟨v,rfl,hR,B4⟩;have RV:=hid hR;have S4:=hid (S3.out.below rH B4);clear hR B4)
   go_ret2
   obtain⟨e1,e2⟩:=G1.out
   subst e1 e2
   exact⟨v,rfl,fun q=>by simp at q,fun _=>RV.out,S4.out⟩
  | some c=>
   obtain⟨b,k',ek,ge,mz,g5⟩:∃b k',gk=k'+1∧P1.fO r up=some b∧uz (P1.mv c (V.mul (1/P1.T r c) (b.sub (P1.now (P1.basic r))))) 1048576∧KZ 1048576 k' (P1.fst r c b) Q x:=by
    rcases GC.out with⟨e,e2,e3⟩ | ⟨r',up',c',b,k',ek,g,g2,g3,g4,g5⟩
    ·have:=e3 r up e2.symm
     rw[HHO.out]at this;simp at this
    ·simp only[Option.some.injEq,Prod.mk.injEq]at g
     obtain⟨rfl,rfl⟩:=g
     rw[HHO.out]at g2
     simp only[Option.some.injEq]at g2
     subst g2
     exact⟨b,k',ek,g3,g4,g5⟩
   have HE:=P1.dS r up P1.n
   have hh:=HHO.out
   unfold Pb.hlp at hh
   rw[hh]at HE
   have CN:Hid (c<P1.n):=HE.1
   have TN:Hid (P1.T r c≠0):=Pb.vW HE.2.1
   have EK:=hid ek;have GE:=hid ge;have MZ:=hid mz;have G5:=hid g5
   clear GC HE hh ek ge mz g5
   have cn:c<n:=by have:=CN.out;have:=NP.out;omega
   have rm:r<m:=by have:=RM.out;have:=MP.out;omega
   have c0:(0:Int)≤(c:Int):=by omega
   simp only[je]at C
   obtain⟨bb,hbb⟩:∃bb,P1.basic r=bb:=⟨_,rfl⟩
   have HBB:=hid hbb
   have BN:Hid (bb<P1.n+P1.m):=by show _<_;rw[←hbb];exact S2.out.pl.blt r RM.out
   have bN:bb<N:=by have:=BN.out;have:=NP.out;have:=MP.out;have:=HN.out;have:=jo.out;have:=HM.out;omega
   clear hbb
   have b00:(0:Int)≤(bb:Int):=by omega
   have b01:(bb:Int)<(N:Int):=by omega
   have r1:(r:Int)<(m:Int):=by omega
   go_upto_region 7 with(go_at_call 157;refine C.out.mono ?_;rintro e w3 ⟨rfl,B3⟩;have S3:=hid (S2.out.below rH B3);clear B3)
   obtain⟨q1,q2,q3,q4,q6⟩:=HD.out w3 P1 S3.out.at_ S3.out.en S3.out.em
   have pb:w3.cell? ⟨L.mY,r,none⟩=some (.int .i64 (bb:Int)):=by rw[←HBB.out];exact S3.out.at_.ba.at_ r RM.out
   obtain⟨his,M8,S8,hev,h0,h1,h2,h3,h4,h5,h6⟩:=(S3.out.at_.hi.at_ bb BN.out).r7
   obtain⟨DI,M9,S9,rC,l0,l1,l2,l3,l4,l5,l6⟩:=(S3.out.at_.lo.at_ bb BN.out).r7
   have hev:=hid hev;have rC:=hid rC
   have B8:=hid (ah w3 (.cells #[.bool M8.s,.slice M8.a M8.n M8.c,.slice M8.b M8.m M8.d,.bool S8.s,.slice S8.a S8.n S8.c,.slice S8.b S8.m S8.d] 174))
   have X8:Hid (VB (w3.alloc (.cells #[.bool M8.s,.slice M8.a M8.n M8.c,.slice M8.b M8.m M8.d,.bool S8.s,.slice S8.a S8.n S8.c,.slice S8.b S8.m S8.d] 174)) w3.heap.size M8 S8):=heap_alloc_new w3 _
   have LL:Hid ((w3.alloc (.cells #[.bool M8.s,.slice M8.a M8.n M8.c,.slice M8.b M8.m M8.d,.bool S8.s,.slice S8.a S8.n S8.c,.slice S8.b S8.m S8.d] 174)).cell? ⟨L.p,1,none⟩=some (.slice (some ⟨L.low,0,none⟩) N N)∧(w3.alloc (.cells #[.bool M8.s,.slice M8.a M8.n M8.c,.slice M8.b M8.m M8.d,.bool S8.s,.slice S8.a S8.n S8.c,.slice S8.b S8.m S8.d] 174)).cell? ⟨L.low,bb*7+1,none⟩=some (.bool M9.s)∧(w3.alloc (.cells #[.bool M8.s,.slice M8.a M8.n M8.c,.slice M8.b M8.m M8.d,.bool S8.s,.slice S8.a S8.n S8.c,.slice S8.b S8.m S8.d] 174)).cell? ⟨L.low,bb*7+2,none⟩=some (.slice M9.a M9.n M9.c)∧(w3.alloc (.cells #[.bool M8.s,.slice M8.a M8.n M8.c,.slice M8.b M8.m M8.d,.bool S8.s,.slice S8.a S8.n S8.c,.slice S8.b S8.m S8.d] 174)).cell? ⟨L.low,bb*7+3,none⟩=some (.slice M9.b M9.m M9.d)∧(w3.alloc (.cells #[.bool M8.s,.slice M8.a M8.n M8.c,.slice M8.b M8.m M8.d,.bool S8.s,.slice S8.a S8.n S8.c,.slice S8.b S8.m S8.d] 174)).cell? ⟨L.low,bb*7+4,none⟩=some (.bool S9.s)∧(w3.alloc (.cells #[.bool M8.s,.slice M8.a M8.n M8.c,.slice M8.b M8.m M8.d,.bool S8.s,.slice S8.a S8.n S8.c,.slice S8.b S8.m S8.d] 174)).cell? ⟨L.low,bb*7+5,none⟩=some (.slice S9.a S9.n S9.c)∧(w3.alloc (.cells #[.bool M8.s,.slice M8.a M8.n M8.c,.slice M8.b M8.m M8.d,.bool S8.s,.slice S8.a S8.n S8.c,.slice S8.b S8.m S8.d] 174)).cell? ⟨L.low,bb*7+6,none⟩=some (.slice S9.b S9.m S9.d)):=
    ⟨aj B8.out q1,aj B8.out l1,aj B8.out l2,aj B8.out l3,aj B8.out l4,aj B8.out l5,aj B8.out l6⟩
   go_upto_region 9 with fail
   clear q1 q2 q3 q4 q6 pb h0 h1 h2 h3 h4 h5 h6 l0 l1 l2 l3 l4 l5 l6 C
   obtain⟨g8,hg8⟩:∃g8,w3.heap.size=g8:=⟨_,rfl⟩
   have HG8:=hid hg8
   rw[hg8]at X8⊢
   generalize w3.alloc (.cells #[.bool M8.s,.slice M8.a M8.n M8.c,.slice M8.b M8.m M8.d,.bool S8.s,.slice S8.a S8.n S8.c,.slice S8.b S8.m S8.d] 174)=W4 at*
   clear hg8
   obtain⟨p1,l1,l2,l3,l4,l5,l6⟩:=LL.out
   obtain⟨_,_,_,_,_,_,fz⟩:=X8.out.reads
   have fz0:=fz 0;have iD:=fz 1;have jh:=fz 2;have fz3:=fz 3;have kC:=fz 4;have lD:=fz 5
   clear fz LL
   go_upto_if 42 with fail
   go_cut [5] (fun s5 W=>s5= .bool up∧Below w3.heap.size w3 W∧∃M S,VB W g8 M S∧RA W b.m M∧RA W b.s S)
   case first=>
    cases up with
    | false=>
     have e:P1.high bb=some b:=by have:=GE.out;unfold Pb.fO at this;rw[HBB.out]at this;simpa using this
     obtain⟨a1,a2⟩:=hev.out.at_ b e
     have a1:=hid (aO.below a1 B8.out);have a2:=hid (aO.below a2 B8.out)
     clear e
     go_wp2_with fail
     go_meet
     case rel=>exact⟨rfl,B8.out,M8,S8,X8.out,a1.out,a2.out⟩
    | true=>
     have e:P1.low bb=some b:=by have:=GE.out;unfold Pb.fO at this;rw[HBB.out]at this;simpa using this
     obtain⟨a1,a2⟩:=rC.out.at_ b e
     have a1:=hid (aO.below a1 B8.out);have a2:=hid (aO.below a2 B8.out)
     clear e
     go_wp2_with fail
     go_meet
     case rel=>exact⟨rfl,cZ B8.out (Nat.le_of_eq HG8.out) _ _ _ _ _ _,M9,S9,X8.out.kL M9 S9,RA.limb (N:=M9) a1.out (X8.out.jG M9 S9),RA.limb (N:=S9) a2.out (X8.out.jG M9 S9)⟩
   case rest=>
    obtain⟨rfl,hB,M5,S5,hX,hm5,hs5⟩:=hcut
    have S4:=hid (S3.out.below rH hB)
    clear X8 fz0 iD jh fz3 kC lD p1 l1 l2 l3 l4 l5 l6 hev rC B8 hB
    obtain⟨t0,t1,t2,t3,t4,t5,_⟩:=hX.reads
    obtain⟨q1,q2,q3,q4,q6⟩:=HD.out wc P1 S4.out.at_ S4.out.en S4.out.em
    obtain⟨M,S,rn1,rn2,c0',c1',c2',c3',Xr,Xt⟩:=(S4.out.at_.no.at_ bb BN.out).reads
    have JU:0<P1.n:=by have:=CN.out;omega
    obtain⟨la,li⟩:=S4.out.at_.li JU r RM.out
    have tr:wc.cell? ⟨L.tab,r,none⟩=some (.slice (some ⟨L.line r,0,none⟩) n n):=by have:=S4.out.at_.ta r RM.out;rw[la,NP.out]at this;exact this
    obtain⟨E,e0,e1,e2,rE⟩:=li.at_ c CN.out
    have BS:Hid (Sz b.m 1048576∧Sz b.s 1048576):=by
     have g:=GE.out
     unfold Pb.fO at g
     rw[HBB.out]at g
     cases up with
     | true=>exact SZ.out.low bb b BN.out (by simpa using g)
     | false=>exact SZ.out.high bb b BN.out (by simpa using g)
    go_upto_region 11 with fail
    refine dK (Zp (q:=P1.T r c) (u:=b) (nb:=P1.now bb) t0 t1 t2 t3 t4 t5 q3 c0' c1' c2' c3' Xr Xt q6 tr e0 e1 e2 ⟨hm5,hs5⟩ ⟨rn1,rn2⟩ BS.out (SZ.out.now bb BN.out) rE (SZ.out.tab r c RM.out CN.out) TN.out bN rm cn fun g9 M9 S9 Xq x52 x53 x54 x55 x56 x57 x58 x59 x60 x61 x62 x63 x64 x65 x66 x67 x68 x69 x70 x71 x72 W5 hX9 hm9 hs9 hB9=>?_) (fun _ _ h=>h)
    have QJ:=hid (S4.out.below rH hB9)
    have rw9:P1.now (P1.basic r)=P1.now bb:=by rw[HBB.out]
    obtain⟨gU,hby⟩:∃gU,V.mul (1/P1.T r c) (b.sub (P1.now bb))=gU:=⟨_,rfl⟩
    have HBY:Hid (V.mul (1/P1.T r c) (b.sub (P1.now (P1.basic r)))=gU):=by show _=_;rw[rw9];exact hby
    have BYZ:Hid (Sz gU.m 16777216∧Sz gU.s 16777216):=by
     show _∧_
     rw[←hby]
     have i:=Sz.inv (SZ.out.tab r c RM.out CN.out) TN.out
     exact⟨Sz.mono (Sz.mul i (Sz.sub BS.out.1 (SZ.out.now bb BN.out).1)) (by omega),Sz.mono (Sz.mul i (Sz.sub BS.out.2 (SZ.out.now bb BN.out).2)) (by omega)⟩
    rw[hby]at hm9 hs9
    have C:=hid (Pm QJ.out.at_ QJ.out.pl SZ.out CN.out hm9 hs9 BYZ.out.1 BYZ.out.2)
    obtain⟨y0,y1,y2,y3,y4,y5,_⟩:=hX9.reads
    clear hX hm5 hs5 t0 t1 t2 t3 t4 t5 q1 q2 q3 q4 q6 rn1 rn2 c0' c1' c2' c3' Xr Xt la li tr e0 e1 e2 rE hX9 hm9 hs9 hB9 hby rw9 S4
    go_upto_region 13 with(go_at_call 161;refine C.out.mono ?_;rintro e W6 ⟨rfl,hA,hB,hL,hO⟩;have A6:=hid hA;have B6:=hid (Below.trans QJ.out.bl hB);have L6:=hid (QJ.out.lb.trans hL);have O6:=hid (Own.trans QJ.out.ow QJ.out.bl.size (Own.p' hO QJ.out.em));clear hA hB hL hO)
    have C7:=hid (Pq (P:=P1.mv c gU) A6.out SZ.out.tab RM.out CN.out TN.out)
    clear C y0 y1 y2 y3 y4 y5
    go_wp2_with (go_at_call 162;refine C7.out.mono ?_;rintro e W7 ⟨rfl,hA,hB,hL,hO⟩;have A7:=hid hA;have B7:=hid (Below.trans B6.out hB);have L7:=hid (L6.out.trans hL);have O7:=hid (Own.trans O6.out B6.out.size (Own.p' hO QJ.out.em));clear hA hB hL hO)
    have NX:Hid (FeL n0 w L P Q x k' W7):=by
     refine⟨P1.fst r c b,G5.out,?_,QJ.out.en,QJ.out.em,?_,B7.out,L7.out,O7.out⟩
     ·exact(Pb.qK QJ.out.pl _ _).pivot RM.out CN.out
     ·show eY n0 W7 L ((P1.mv c (V.mul (1/P1.T r c) (b.sub (P1.now (P1.basic r))))).pivot r c)
      rw[HBY.out];exact A7.out
    clear A7 B7 L7 O7 A6 B6 L6 O6 C7
    go_roundg k'
    case measure=>have:=EK.out;omega
    case rel=>exact NX.out
structure yE (w:World)(rows:List Rl)(ra:Option Addr)(n m:Nat)(gl:List (Nat×Rat))(ga:Option Addr)(gc:Nat):Prop where
 hr:jI w rows ra
 hm:rows.length=m
 hg:iE w gl ga
 hgc:gl.length≤gc∧gc≤9223372036854775807
 hn:n≤60
 zT:m≤60
 hv:∀i,i<m+1→∀j,j<(rq (kQ rows gl) i).cs.length→(cq (rq (kQ rows gl) i).cs j).1<n
theorem Vs {w:World}{rows:List Rl}{ra:Option Addr}{rc n m k:Nat}{Q:Pb}{x:Option (Nat×Bool)}{R:Value→World→Prop}(h:yE w rows ra n m [] none 0)
  (hF:KZ 1048576 k (cO (dP rows) n (fA [])) Q x)
  (CF:∀(L:Lay) (W:World) (r:Nat) (up:Bool),x=some (r,up)→eY w.heap.size W L Q→Calls prog 158 #[.pointer (some ⟨L.p,0,none⟩),.int .i64 (r:Int),.bool up] W fun e w'=>∃v,e= .returned v∧R v w'∧Below W.heap.size W w'):
  Calls prog 61 #[.slice ra m rc,.int .i64 (n:Int)] w fun e w'=>∃v,e= .returned (.tuple #[v,.bool x.isNone])∧(x=none→v= .slice none 0 0)∧(x≠none→R v w')∧Below w.heap.size w w':=by
 have C:=hid (new_any (rc:=rc) (N:=n+m+1) h.hr h.hm h.hg h.hgc h.hn h.zT rfl h.hv);have HF:=hid hF;have HC:=hid CF;have PL:=hid (cO.pl (dP rows) n (fA []));clear h hF CF;go_enter func61,ntmps61;go_wp2_with (first
  | (go_at_call 114;refine C.out.mono ?_;rintro e w1 ⟨L,rfl,hP,hB⟩;have CC:=hid (Jd hP PL.out HF.out (HC.out L));have B1:=hid hB;clear hP hB C)
  | (go_at_call 115;refine CC.out.mono ?_;rintro e w2 ⟨v,rfl,h1,h2,hS⟩;have B2:=hid (Below.trans B1.out hS.bl);clear hS CC B1))
 refine bodyPost_ret (v:= .tuple #[v,.bool x.isNone]) (by simp[results,results61,go_sem]) rfl ?_;exact⟨v,rfl,h1,h2,B2.out⟩
theorem Zt {W:World}{p now g18 g19 N b:Nat}{q:Rat}{u nb:V}{up:Bool}{M12 fB M S N':Nw}(q3:W.cell? ⟨p,3,none⟩=some (.slice (some ⟨now,0,none⟩) N N))(b0_:W.cell? ⟨g18,0,none⟩=some (.bool true))(b1_:W.cell? ⟨g18,1,none⟩=some (.bool M12.s))(b2_:W.cell? ⟨g18,2,none⟩=some (.slice M12.a M12.n M12.c))(b3_:W.cell? ⟨g18,3,none⟩=some (.slice M12.b M12.m M12.d))(b4_:W.cell? ⟨g18,4,none⟩=some (.bool fB.s))(b5_:W.cell? ⟨g18,5,none⟩=some (.slice fB.a fB.n fB.c))(b6_:W.cell? ⟨g18,6,none⟩=some (.slice fB.b fB.m fB.d))(Xk:W.cell? ⟨now,b*6,none⟩=some (.bool M.s))(Xl:W.cell? ⟨now,b*6+1,none⟩=some (.slice M.a M.n M.c))(Xm:W.cell? ⟨now,b*6+2,none⟩=some (.slice M.b M.m M.d))(Xn:W.cell? ⟨now,b*6+3,none⟩=some (.bool S.s))(Xo:W.cell? ⟨now,b*6+4,none⟩=some (.slice S.a S.n S.c))(Xp:W.cell? ⟨now,b*6+5,none⟩=some (.slice S.b S.m S.d))(d0_:W.cell? ⟨g19,0,none⟩=some (.bool N'.s))(d1_:W.cell? ⟨g19,1,none⟩=some (.slice N'.a N'.n N'.c))(d2_:W.cell? ⟨g19,2,none⟩=some (.slice N'.b N'.m N'.d))
  (ru:RA W u.m M12∧RA W u.s fB)(rn:RA W nb.m M∧RA W nb.s S)(SU:Sz u.m 1048576∧Sz u.s 1048576)(SN:Sz nb.m 1048576∧Sz nb.s 1048576)(rT:RA W q N')(SA:Sz q 1048576)(AN:q≠0)(hbN:b<N)
  {K:Act→World→Prop}{u1 u2 u3 u4 u5 u6 u7 u8 u9 u10 u11 u12 u13 u14 u15 u20 u21 u22 u23 u24 u25 u26 u27 u28 u29 u30 u31 u32 u33 u34 u35 u36 u37 u38 u39 u40 u41 u42 u43 u44 u45 u46 u47 u48 u49 u50 u51 u52 u53 u54 u55 u56 u57 u58 u59 u60 u61 u62 u63 u64 u65 u66 u67 u68 u69 u70 u71 u72 u73 u74 u75 u76 u77 u78 u79 u80 u81 u82 u83 u84 u85 u86 u87 u88 u89 u90 u91 u92 u93 u94 u95 u96 u97 u98 u99 u100 u101 u102 u103 u104 u105 u106 u107 u108 u109 u110 u111 u112 u113 u114 u115 u116 u117 u118 u119 u120 u121 u122 u123 u124 u125 u126 u127 u128 u129 u130 u131 u132 u133 u134 u135 u136 u137 u138 u139 u140 u141 u142 u143 u144 u145 u146 u147 u148 u149 u150 u151 u152 u153 u154 u155 u156 u157 u158 u159 u160 u161 u162 u163 u164 u165 u166 u167 u168 u169 u170 u171 u172 u173 u174 u175 u176 u177 u178 u179 u180 u181 u182 u183 u184 u185 u186 u187 u188 u189:Value}
  (hK:∀(g:Nat) (M14 bT:Nw) (aa8 aa9 abb Qu Qv Qw Qx Qy Qz QA QB abd abe abf abg:Value) (W':World),VB W' g M14 bT→RA W' (V.mul (1/q) (bJ u nb up)).m M14→RA W' (V.mul (1/q) (bJ u nb up)).s bT→Below W.heap.size W W'→K ⟨#[.pointer (some ⟨p,0,none⟩),u1,u2,u3,u4,u5,u6,u7,u8,u9,u10,u11,u12,u13,u14,u15,.int .i64 (b:Int),.bool up,.pointer (some ⟨g18,0,none⟩),.pointer (some ⟨g19,0,none⟩),.pointer (some ⟨g,0,none⟩),u21,u22,u23,u24,u25,u26,u27,u28,u29,u30,u31,u32,u33,u34,u35,u36,u37,u38,u39,u40,u41,u42,u43,u44,u45,u46,u47,u48,u49,u50,u51,u52,u53,u54,u55,u56,u57,u58,u59,u60,u61,u62,u63,u64,u65,u66,u67,u68,u69,u70,u71,u72,u73,u74,u75,u76,u77,u78,u79,u80,u81,u82,u83,u84,u85,u86,u87,u88,u89,u90,u91,u92,u93,u94,u95,u96,u97,u98,u99,u100,u101,u102,u103,u104,u105,u106,u107,u108,u109,u110,u111,u112,u113,u114,u115,u116,u117,u118,u119,u120,u121,u122,u123,u124,u125,u126,u127,u128,aa8,aa9,abb,Qu,Qv,Qw,Qx,Qy,Qz,QA,QB,abd,abe,abf,abg,u144,u145,u146,u147,u148,u149,u150,u151,u152,u153,u154,u155,u156,u157,u158,u159,u160,u161,u162,u163,u164,u165,u166,u167,u168,u169,u170,u171,u172,u173,u174,u175,u176,u177,u178,u179,u180,u181,u182,u183,u184,u185,u186,u187,u188,u189],[]⟩ W'):
  (iI f163 24).wp prog (Only K) ⟨#[.pointer (some ⟨p,0,none⟩),u1,u2,u3,u4,u5,u6,u7,u8,u9,u10,u11,u12,u13,u14,u15,.int .i64 (b:Int),.bool up,.pointer (some ⟨g18,0,none⟩),.pointer (some ⟨g19,0,none⟩),u20,u21,u22,u23,u24,u25,u26,u27,u28,u29,u30,u31,u32,u33,u34,u35,u36,u37,u38,u39,u40,u41,u42,u43,u44,u45,u46,u47,u48,u49,u50,u51,u52,u53,u54,u55,u56,u57,u58,u59,u60,u61,u62,u63,u64,u65,u66,u67,u68,u69,u70,u71,u72,u73,u74,u75,u76,u77,u78,u79,u80,u81,u82,u83,u84,u85,u86,u87,u88,u89,u90,u91,u92,u93,u94,u95,u96,u97,u98,u99,u100,u101,u102,u103,u104,u105,u106,u107,u108,u109,u110,u111,u112,u113,u114,u115,u116,u117,u118,u119,u120,u121,u122,u123,u124,u125,u126,u127,u128,u129,u130,u131,u132,u133,u134,u135,u136,u137,u138,u139,u140,u141,u142,u143,u144,u145,u146,u147,u148,u149,u150,u151,u152,u153,u154,u155,u156,u157,u158,u159,u160,u161,u162,u163,u164,u165,u166,u167,u168,u169,u170,u171,u172,u173,u174,u175,u176,u177,u178,u179,u180,u181,u182,u183,u184,u185,u186,u187,u188,u189],[]⟩ W:=by
 rw[show iI f163 24=_ from by(simp only[iI,f163,iU,Nat.reduceEqDiff,if_true,if_false,Option.getD];rfl)];have dO:=hK;clear hK;have KP:=hid (fun(W':World) (hB:Below W.heap.size W W')=>(show W'.cell? ⟨p,3,none⟩=some (.slice (some ⟨now,0,none⟩) N N)∧W'.cell? ⟨g18,0,none⟩=some (.bool true)∧W'.cell? ⟨g18,1,none⟩=some (.bool M12.s)∧W'.cell? ⟨g18,2,none⟩=some (.slice M12.a M12.n M12.c)∧W'.cell? ⟨g18,3,none⟩=some (.slice M12.b M12.m M12.d)∧W'.cell? ⟨g18,4,none⟩=some (.bool fB.s)∧W'.cell? ⟨g18,5,none⟩=some (.slice fB.a fB.n fB.c)∧W'.cell? ⟨g18,6,none⟩=some (.slice fB.b fB.m fB.d)∧W'.cell? ⟨now,b*6,none⟩=some (.bool M.s)∧W'.cell? ⟨now,b*6+1,none⟩=some (.slice M.a M.n M.c)∧W'.cell? ⟨now,b*6+2,none⟩=some (.slice M.b M.m M.d)∧W'.cell? ⟨now,b*6+3,none⟩=some (.bool S.s)∧W'.cell? ⟨now,b*6+4,none⟩=some (.slice S.a S.n S.c)∧W'.cell? ⟨now,b*6+5,none⟩=some (.slice S.b S.m S.d)∧W'.cell? ⟨g19,0,none⟩=some (.bool N'.s)∧W'.cell? ⟨g19,1,none⟩=some (.slice N'.a N'.n N'.c)∧W'.cell? ⟨g19,2,none⟩=some (.slice N'.b N'.m N'.d) from⟨aj hB q3,aj hB b0_,aj hB b1_,aj hB b2_,aj hB b3_,aj hB b4_,aj hB b5_,aj hB b6_,aj hB Xk,aj hB Xl,aj hB Xm,aj hB Xn,aj hB Xo,aj hB Xp,aj hB d0_,aj hB d1_,aj hB d2_⟩));have VZ:=hid (vZ (up:=up) SU SN);have IZ:=hid (Sz.inv SA AN);have aci:(0:Int)≤(b:Int):=by omega
 have acj:(b:Int)<(N:Int):=by omega
 refine Rg.aH 16 [] (fun W'=>W'.cell? ⟨p,3,none⟩=some (.slice (some ⟨now,0,none⟩) N N)∧W'.cell? ⟨g18,0,none⟩=some (.bool true)∧W'.cell? ⟨g18,1,none⟩=some (.bool M12.s)∧W'.cell? ⟨g18,2,none⟩=some (.slice M12.a M12.n M12.c)∧W'.cell? ⟨g18,3,none⟩=some (.slice M12.b M12.m M12.d)∧W'.cell? ⟨g18,4,none⟩=some (.bool fB.s)∧W'.cell? ⟨g18,5,none⟩=some (.slice fB.a fB.n fB.c)∧W'.cell? ⟨g18,6,none⟩=some (.slice fB.b fB.m fB.d)∧W'.cell? ⟨now,b*6,none⟩=some (.bool M.s)∧W'.cell? ⟨now,b*6+1,none⟩=some (.slice M.a M.n M.c)∧W'.cell? ⟨now,b*6+2,none⟩=some (.slice M.b M.m M.d)∧W'.cell? ⟨now,b*6+3,none⟩=some (.bool S.s)∧W'.cell? ⟨now,b*6+4,none⟩=some (.slice S.a S.n S.c)∧W'.cell? ⟨now,b*6+5,none⟩=some (.slice S.b S.m S.d)∧W'.cell? ⟨g19,0,none⟩=some (.bool N'.s)∧W'.cell? ⟨g19,1,none⟩=some (.slice N'.a N'.n N'.c)∧W'.cell? ⟨g19,2,none⟩=some (.slice N'.b N'.m N'.d)) (by kernel_rfl) (by kernel_rfl) ?_ (fun hS ok inv=>?_)
 ·exact⟨q3,b0_,b1_,b2_,b3_,b4_,b5_,b6_,Xk,Xl,Xm,Xn,Xo,Xp,d0_,d1_,d2_⟩
 refine Rg.tk 0 rfl ok inv hS fun inv=>?_;refine Rg.tk 1 rfl ok inv hS fun inv=>?_;refine Rg.tk 2 rfl ok inv hS fun inv=>?_;refine Rg.tk 3 rfl ok inv hS fun inv=>?_;refine Rg.tk 4 rfl ok inv hS fun inv=>?_;refine Rg.tk 5 rfl ok inv hS fun inv=>?_;refine Rg.tk 6 rfl ok inv hS fun inv=>?_;refine Rg.tk 7 rfl ok inv hS fun inv=>?_;refine Rg.tk 8 rfl ok inv hS fun inv=>?_;refine Rg.tk 9 rfl ok inv hS fun inv=>?_;refine Rg.tk 12 rfl ok inv hS fun inv=>?_;have BC:Below W.heap.size W W.drew:=(Below.refl _ _).drew;generalize W.drew=c0 at*;refine Rg.w2 10 15 rfl rfl inv (fun K' hK=>?_) fun K' hK=>?_
 ·(try simp only[zA,zB,zC]);go_simp;go_at_call 187;refine(rX (up:=up) (aO.below ru.1 BC) (aO.below ru.2 BC) (aO.below rn.1 BC) (aO.below rn.2 BC) (Sz.mono SU.1 (by omega)) (Sz.mono SU.2 (by omega)) (Sz.mono SN.1 (by omega)) (Sz.mono SN.2 (by omega))).mono ?_;rintro e w10 ⟨M10,Zq,rfl,L1,L2,B⟩;have D1:=And.intro L1 L2;have BC:=aB BC B;have KS:=KP.out w10 BC;refine Rg.st hK ?_ fun hS inv=>?_
  ·exact KS
  clear hK K';refine Rg.w2 11 15 rfl rfl inv (fun K' hK=>?_) fun K' hK=>?_
  ·(try simp only[zA,zB,zC]);go_simp;go_at_call 72;refine(bI 1 (by omega) (by omega) _).mono ?_;rintro e oG ⟨s11,a11,n11,c11,b11,m11,d11,rfl,L1,B⟩;have D2:=L1;have D1:=And.intro (aO.below D1.1 B) (aO.below D1.2 B);have BC:=aB BC B;have KS:=KP.out oG BC;refine Rg.st hK ?_ fun hS inv=>?_
   ·exact KS
   clear hK K';refine Rg.w2 13 15 rfl rfl inv (fun K' hK=>?_) fun K' hK=>?_
   ·(try simp only[zA,zB,zC]);go_simp;go_at_call 101;refine(fU D2 (aO.below rT BC) (Sz.mono Sz.one (by omega)) (Sz.mono SA (by omega)) AN).mono ?_;rintro e nX ⟨s13,DC,n13,c13,b13,m13,d13,rfl,L1,B⟩;have D3:=L1;have D1:=And.intro (aO.below D1.1 B) (aO.below D1.2 B);have BC:=aB BC B;have KS:=KP.out nX BC;refine Rg.st hK ?_ fun hS inv=>?_
    ·exact KS
    clear hK K';refine Rg.w2 14 15 rfl rfl inv (fun K' hK=>?_) fun K' hK=>?_
    ·(try simp only[zA,zB,zC]);go_simp;go_at_call 160;refine(dH (x:=bJ u nb up) (q:=1/q) (M':=⟨s13,DC,n13,c13,b13,m13,d13⟩) D1.1 D1.2 D3 (Sz.mono VZ.out.1 (by omega)) (Sz.mono VZ.out.2 (by omega)) (Sz.mono IZ.out (by omega))).mono ?_;rintro e sZ ⟨M14,bT,rfl,L1,L2,B⟩;have D4:=And.intro L1 L2;have BC:=aB BC B;have KS:=KP.out sZ BC;refine Rg.st hK ?_ fun hS inv=>?_
     ·exact KS
     clear hK K';refine Rg.w1 15 rfl inv fun K' hK=>?_;have BN:Below W.heap.size W (sZ.alloc (.cells #[.bool false,.slice none 0 0,.slice none 0 0,.bool false,.slice none 0 0,.slice none 0 0] 174)):=aB BC (ah _ _);(try simp only[zA,zB,zC]);go_simp;refine Rg.st hK ?_ fun hS inv=>?_
     ·exact KP.out _ BN
     clear hK K';refine Rg.wl rfl ?_;go_simp;have BF:Below W.heap.size W (sZ.alloc (.cells #[.bool M14.s,.slice M14.a M14.n M14.c,.slice M14.b M14.m M14.d,.bool bT.s,.slice bT.a bT.n bT.c,.slice bT.b bT.m bT.d] 174)):=aB BC (ah _ _);exact dO _ M14 bT _ _ _ _ _ _ _ _ _ _ _ _ _ _ _ _ (heap_alloc_new _ _) (aO.below D4.1 (ah _ _)) (aO.below D4.2 (ah _ _)) BF
    have BN:Below W.heap.size W (nX.alloc (.cells #[.bool false,.slice none 0 0,.slice none 0 0,.bool false,.slice none 0 0,.slice none 0 0] 174)):=aB BC (ah _ _);(try simp only[zA,zB,zC]);go_simp;refine Rg.st hK ?_ fun hS inv=>?_
    ·exact KP.out _ BN
    clear hK K';have GE:Hid (W.heap.size≤nX.heap.size):=BC.size;have XG:VB (nX.alloc (.cells #[.bool false,.slice none 0 0,.slice none 0 0,.bool false,.slice none 0 0,.slice none 0 0] 174)) nX.heap.size Nw.zero Nw.zero:=heap_alloc_new _ _;have D1:=And.intro (aO.below D1.1 (ah nX (.cells #[.bool false,.slice none 0 0,.slice none 0 0,.bool false,.slice none 0 0,.slice none 0 0] 174))) (aO.below D1.2 (ah nX (.cells #[.bool false,.slice none 0 0,.slice none 0 0,.bool false,.slice none 0 0,.slice none 0 0] 174)));have D3:=aO.below D3 (ah nX (.cells #[.bool false,.slice none 0 0,.slice none 0 0,.bool false,.slice none 0 0,.slice none 0 0] 174));have BC:=BN;generalize hq:nX.alloc (.cells #[.bool false,.slice none 0 0,.slice none 0 0,.bool false,.slice none 0 0,.slice none 0 0] 174)=a3 at*;generalize nX.heap.size=J8 at*;clear hq;refine Rg.w1 14 rfl inv fun K' hK=>?_;(try simp only[zA,zB,zC]);go_simp;go_at_call 160;refine(dH (x:=bJ u nb up) (q:=1/q) (M':=⟨s13,DC,n13,c13,b13,m13,d13⟩) D1.1 D1.2 D3 (Sz.mono VZ.out.1 (by omega)) (Sz.mono VZ.out.2 (by omega)) (Sz.mono IZ.out (by omega))).mono ?_;rintro e sZ ⟨M14,bT,rfl,L1,L2,B⟩;have D4:=And.intro L1 L2;have XG:=XG.later B XG.lt;have BC:=aB BC B;have KS:=KP.out sZ BC;refine Rg.st hK ?_ fun hS inv=>?_
    ·exact KS
    clear hK K';obtain⟨_,_,_,_,_,_,fz⟩:=XG.reads;have fz0:=fz 0;have iD:=fz 1;have jh:=fz 2;have fz3:=fz 3;have kC:=fz 4;have lD:=fz 5;have XG:=hid XG;clear fz;refine Rg.wl rfl ?_;go_simp;have BF:=cZ BC GE.out (.bool M14.s) (.slice M14.a M14.n M14.c) (.slice M14.b M14.m M14.d) (.bool bT.s) (.slice bT.a bT.n bT.c) (.slice bT.b bT.m bT.d);have LF:=XG.out.jG M14 bT;have XF:=XG.out.kL M14 bT;have R1:=RA.limb D4.1 LF;have R2:=RA.limb D4.2 LF;exact dO _ M14 bT _ _ _ _ _ _ _ _ _ _ _ _ _ _ _ _ XF R1 R2 BF
   have BN:Below W.heap.size W (oG.alloc (.cells #[.bool false,.slice none 0 0,.slice none 0 0,.bool false,.slice none 0 0,.slice none 0 0] 174)):=aB BC (ah _ _);(try simp only[zA,zB,zC]);go_simp;refine Rg.st hK ?_ fun hS inv=>?_
   ·exact KP.out _ BN
   clear hK K';have GE:Hid (W.heap.size≤oG.heap.size):=BC.size;have XG:VB (oG.alloc (.cells #[.bool false,.slice none 0 0,.slice none 0 0,.bool false,.slice none 0 0,.slice none 0 0] 174)) oG.heap.size Nw.zero Nw.zero:=heap_alloc_new _ _;have D1:=And.intro (aO.below D1.1 (ah oG (.cells #[.bool false,.slice none 0 0,.slice none 0 0,.bool false,.slice none 0 0,.slice none 0 0] 174))) (aO.below D1.2 (ah oG (.cells #[.bool false,.slice none 0 0,.slice none 0 0,.bool false,.slice none 0 0,.slice none 0 0] 174)));have D2:=aO.below D2 (ah oG (.cells #[.bool false,.slice none 0 0,.slice none 0 0,.bool false,.slice none 0 0,.slice none 0 0] 174));have BC:=BN;generalize hq:oG.alloc (.cells #[.bool false,.slice none 0 0,.slice none 0 0,.bool false,.slice none 0 0,.slice none 0 0] 174)=a2 at*;generalize oG.heap.size=J8 at*;clear hq;refine Rg.w1 13 rfl inv fun K' hK=>?_;(try simp only[zA,zB,zC]);go_simp;go_at_call 101;refine(fU D2 (aO.below rT BC) (Sz.mono Sz.one (by omega)) (Sz.mono SA (by omega)) AN).mono ?_;rintro e nX ⟨s13,DC,n13,c13,b13,m13,d13,rfl,L1,B⟩;have D3:=L1;have D1:=And.intro (aO.below D1.1 B) (aO.below D1.2 B);have XG:=XG.later B XG.lt;have BC:=aB BC B;have KS:=KP.out nX BC;refine Rg.st hK ?_ fun hS inv=>?_
   ·exact KS
   clear hK K';refine Rg.w1 14 rfl inv fun K' hK=>?_;(try simp only[zA,zB,zC]);go_simp;go_at_call 160;refine(dH (x:=bJ u nb up) (q:=1/q) (M':=⟨s13,DC,n13,c13,b13,m13,d13⟩) D1.1 D1.2 D3 (Sz.mono VZ.out.1 (by omega)) (Sz.mono VZ.out.2 (by omega)) (Sz.mono IZ.out (by omega))).mono ?_;rintro e sZ ⟨M14,bT,rfl,L1,L2,B⟩;have D4:=And.intro L1 L2;have XG:=XG.later B XG.lt;have BC:=aB BC B;have KS:=KP.out sZ BC;refine Rg.st hK ?_ fun hS inv=>?_
   ·exact KS
   clear hK K';obtain⟨_,_,_,_,_,_,fz⟩:=XG.reads;have fz0:=fz 0;have iD:=fz 1;have jh:=fz 2;have fz3:=fz 3;have kC:=fz 4;have lD:=fz 5;have XG:=hid XG;clear fz;refine Rg.wl rfl ?_;go_simp;have BF:=cZ BC GE.out (.bool M14.s) (.slice M14.a M14.n M14.c) (.slice M14.b M14.m M14.d) (.bool bT.s) (.slice bT.a bT.n bT.c) (.slice bT.b bT.m bT.d);have LF:=XG.out.jG M14 bT;have XF:=XG.out.kL M14 bT;have R1:=RA.limb D4.1 LF;have R2:=RA.limb D4.2 LF;exact dO _ M14 bT _ _ _ _ _ _ _ _ _ _ _ _ _ _ _ _ XF R1 R2 BF
  have BN:Below W.heap.size W (w10.alloc (.cells #[.bool false,.slice none 0 0,.slice none 0 0,.bool false,.slice none 0 0,.slice none 0 0] 174)):=aB BC (ah _ _);(try simp only[zA,zB,zC]);go_simp;refine Rg.st hK ?_ fun hS inv=>?_
  ·exact KP.out _ BN
  clear hK K';have GE:Hid (W.heap.size≤w10.heap.size):=BC.size;have XG:VB (w10.alloc (.cells #[.bool false,.slice none 0 0,.slice none 0 0,.bool false,.slice none 0 0,.slice none 0 0] 174)) w10.heap.size Nw.zero Nw.zero:=heap_alloc_new _ _;have D1:=And.intro (aO.below D1.1 (ah w10 (.cells #[.bool false,.slice none 0 0,.slice none 0 0,.bool false,.slice none 0 0,.slice none 0 0] 174))) (aO.below D1.2 (ah w10 (.cells #[.bool false,.slice none 0 0,.slice none 0 0,.bool false,.slice none 0 0,.slice none 0 0] 174)));have BC:=BN;generalize hq:w10.alloc (.cells #[.bool false,.slice none 0 0,.slice none 0 0,.bool false,.slice none 0 0,.slice none 0 0] 174)=a1 at*;generalize w10.heap.size=J8 at*;clear hq;refine Rg.w1 11 rfl inv fun K' hK=>?_;(try simp only[zA,zB,zC]);go_simp;go_at_call 72;refine(bI 1 (by omega) (by omega) _).mono ?_;rintro e oG ⟨s11,a11,n11,c11,b11,m11,d11,rfl,L1,B⟩;have D2:=L1;have D1:=And.intro (aO.below D1.1 B) (aO.below D1.2 B);have XG:=XG.later B XG.lt;have BC:=aB BC B;have KS:=KP.out oG BC;refine Rg.st hK ?_ fun hS inv=>?_
  ·exact KS
  clear hK K';refine Rg.w1 13 rfl inv fun K' hK=>?_;(try simp only[zA,zB,zC]);go_simp;go_at_call 101;refine(fU D2 (aO.below rT BC) (Sz.mono Sz.one (by omega)) (Sz.mono SA (by omega)) AN).mono ?_;rintro e nX ⟨s13,DC,n13,c13,b13,m13,d13,rfl,L1,B⟩;have D3:=L1;have D1:=And.intro (aO.below D1.1 B) (aO.below D1.2 B);have XG:=XG.later B XG.lt;have BC:=aB BC B;have KS:=KP.out nX BC;refine Rg.st hK ?_ fun hS inv=>?_
  ·exact KS
  clear hK K';refine Rg.w1 14 rfl inv fun K' hK=>?_;(try simp only[zA,zB,zC]);go_simp;go_at_call 160;refine(dH (x:=bJ u nb up) (q:=1/q) (M':=⟨s13,DC,n13,c13,b13,m13,d13⟩) D1.1 D1.2 D3 (Sz.mono VZ.out.1 (by omega)) (Sz.mono VZ.out.2 (by omega)) (Sz.mono IZ.out (by omega))).mono ?_;rintro e sZ ⟨M14,bT,rfl,L1,L2,B⟩;have D4:=And.intro L1 L2;have XG:=XG.later B XG.lt;have BC:=aB BC B;have KS:=KP.out sZ BC;refine Rg.st hK ?_ fun hS inv=>?_
  ·exact KS
  clear hK K';obtain⟨_,_,_,_,_,_,fz⟩:=XG.reads;have fz0:=fz 0;have iD:=fz 1;have jh:=fz 2;have fz3:=fz 3;have kC:=fz 4;have lD:=fz 5;have XG:=hid XG;clear fz;refine Rg.wl rfl ?_;go_simp;have BF:=cZ BC GE.out (.bool M14.s) (.slice M14.a M14.n M14.c) (.slice M14.b M14.m M14.d) (.bool bT.s) (.slice bT.a bT.n bT.c) (.slice bT.b bT.m bT.d);have LF:=XG.out.jG M14 bT;have XF:=XG.out.kL M14 bT;have R1:=RA.limb D4.1 LF;have R2:=RA.limb D4.2 LF;exact dO _ M14 bT _ _ _ _ _ _ _ _ _ _ _ _ _ _ _ _ XF R1 R2 BF
 have BN:Below W.heap.size W (c0.alloc (.cells #[.bool false,.slice none 0 0,.slice none 0 0,.bool false,.slice none 0 0,.slice none 0 0] 174)):=aB BC (ah _ _);(try simp only[zA,zB,zC]);go_simp;refine Rg.st hK ?_ fun hS inv=>?_
 ·exact KP.out _ BN
 clear hK K';have GE:Hid (W.heap.size≤c0.heap.size):=BC.size;have XG:VB (c0.alloc (.cells #[.bool false,.slice none 0 0,.slice none 0 0,.bool false,.slice none 0 0,.slice none 0 0] 174)) c0.heap.size Nw.zero Nw.zero:=heap_alloc_new _ _;have BC:=BN;generalize hq:c0.alloc (.cells #[.bool false,.slice none 0 0,.slice none 0 0,.bool false,.slice none 0 0,.slice none 0 0] 174)=a0 at*;generalize c0.heap.size=J8 at*;clear hq;refine Rg.w1 10 rfl inv fun K' hK=>?_;(try simp only[zA,zB,zC]);go_simp;go_at_call 187;refine(rX (up:=up) (aO.below ru.1 BC) (aO.below ru.2 BC) (aO.below rn.1 BC) (aO.below rn.2 BC) (Sz.mono SU.1 (by omega)) (Sz.mono SU.2 (by omega)) (Sz.mono SN.1 (by omega)) (Sz.mono SN.2 (by omega))).mono ?_;rintro e w10 ⟨M10,Zq,rfl,L1,L2,B⟩;have D1:=And.intro L1 L2;have XG:=XG.later B XG.lt;have BC:=aB BC B;have KS:=KP.out w10 BC;refine Rg.st hK ?_ fun hS inv=>?_
 ·exact KS
 clear hK K';refine Rg.w1 11 rfl inv fun K' hK=>?_;(try simp only[zA,zB,zC]);go_simp;go_at_call 72;refine(bI 1 (by omega) (by omega) _).mono ?_;rintro e oG ⟨s11,a11,n11,c11,b11,m11,d11,rfl,L1,B⟩;have D2:=L1;have D1:=And.intro (aO.below D1.1 B) (aO.below D1.2 B);have XG:=XG.later B XG.lt;have BC:=aB BC B;have KS:=KP.out oG BC;refine Rg.st hK ?_ fun hS inv=>?_
 ·exact KS
 clear hK K';refine Rg.w1 13 rfl inv fun K' hK=>?_;(try simp only[zA,zB,zC]);go_simp;go_at_call 101;refine(fU D2 (aO.below rT BC) (Sz.mono Sz.one (by omega)) (Sz.mono SA (by omega)) AN).mono ?_;rintro e nX ⟨s13,DC,n13,c13,b13,m13,d13,rfl,L1,B⟩;have D3:=L1;have D1:=And.intro (aO.below D1.1 B) (aO.below D1.2 B);have XG:=XG.later B XG.lt;have BC:=aB BC B;have KS:=KP.out nX BC;refine Rg.st hK ?_ fun hS inv=>?_
 ·exact KS
 clear hK K';refine Rg.w1 14 rfl inv fun K' hK=>?_;(try simp only[zA,zB,zC]);go_simp;go_at_call 160;refine(dH (x:=bJ u nb up) (q:=1/q) (M':=⟨s13,DC,n13,c13,b13,m13,d13⟩) D1.1 D1.2 D3 (Sz.mono VZ.out.1 (by omega)) (Sz.mono VZ.out.2 (by omega)) (Sz.mono IZ.out (by omega))).mono ?_;rintro e sZ ⟨M14,bT,rfl,L1,L2,B⟩;have D4:=And.intro L1 L2;have XG:=XG.later B XG.lt;have BC:=aB BC B;have KS:=KP.out sZ BC;refine Rg.st hK ?_ fun hS inv=>?_
 ·exact KS
 clear hK K';obtain⟨_,_,_,_,_,_,fz⟩:=XG.reads;have fz0:=fz 0;have iD:=fz 1;have jh:=fz 2;have fz3:=fz 3;have kC:=fz 4;have lD:=fz 5;have XG:=hid XG;clear fz;refine Rg.wl rfl ?_;go_simp;have BF:=cZ BC GE.out (.bool M14.s) (.slice M14.a M14.n M14.c) (.slice M14.b M14.m M14.d) (.bool bT.s) (.slice bT.a bT.n bT.c) (.slice bT.b bT.m bT.d);have LF:=XG.out.jG M14 bT;have XF:=XG.out.kL M14 bT;have R1:=RA.limb D4.1 LF;have R2:=RA.limb D4.2 LF;exact dO _ M14 bT _ _ _ _ _ _ _ _ _ _ _ _ _ _ _ _ XF R1 R2 BF
end Go.Proofs.YtijdglogadnbcaaGreat
namespace Go.Proofs.YtijdglogadnbcaaGreat
open Go.Proofs.Tryz
open Go
def gX:Code→Nat→Option Code
 | .cond (.tmp t) a b,k=>if t=k then some (.cond (.tmp t) a b)else match gX a k with | some c=>some c | none=>gX b k
 | .cond _ a b,k=>match gX a k with | some c=>some c | none=>gX b k
 | .seq a b,k=>match gX a k with | some c=>some c | none=>gX b k
 | .block _ a,k=>gX a k
 | .loop a,k=>gX a k
 | .scope a,k=>gX a k
 | _,_=>none
def condC (f:Func)(k:Nat):Code:=match f.body with | some c=>(gX c k).getD .skip | none=> .skip
end Go.Proofs.YtijdglogadnbcaaGreat
