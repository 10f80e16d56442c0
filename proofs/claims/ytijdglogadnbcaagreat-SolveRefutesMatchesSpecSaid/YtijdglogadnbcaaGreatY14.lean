/- Problem.move. Printed by genLh.py. -/
import Derived.Test.YtijdglogadnbcaaGreatY13
set_option linter.unusedVariables false
set_option linter.unusedSimpArgs false
set_option maxRecDepth 100000
set_option maxHeartbeats 40000000
namespace Go.Proofs.YtijdglogadnbcaaGreat
open Go.Proofs.Tryz
open Go.RowKit Nt Bl
def Own (L:Lay)(P:Pb)(w w':World):Prop:=∀b,b<w.heap.size→b≠L.now→b≠L.mY→b≠L.jw→(∀i,i<P.m→b≠L.line i)→w'.heap[b]? =w.heap[b]?
theorem Own.of_below {L:Lay}{P:Pb}{w w':World}(h:Below w.heap.size w w'):Own L P w w':=fun b hb _ _ _ _=>h.block b hb
theorem Own.below {L:Lay}{P:Pb}{w w1 w2:World}(h:Own L P w w1)(hs:w.heap.size≤w1.heap.size)(hb:Below w1.heap.size w1 w2):Own L P w w2:=fun b l a1 a2 a3 a4=>(hb.block b (Nat.lt_of_lt_of_le l hs)).trans (h b l a1 a2 a3 a4)
theorem Own.trans {L:Lay}{P:Pb}{w w1 w2:World}(h:Own L P w w1)(hs:w.heap.size≤w1.heap.size)(k:Own L P w1 w2):Own L P w w2:=fun b l a1 a2 a3 a4=>(k b (Nat.lt_of_lt_of_le l hs) a1 a2 a3 a4).trans (h b l a1 a2 a3 a4)
theorem Own.now {L:Lay}{P:Pb}{w w1 w2:World}{o:Nat}{vs:List Value}(h:Own L P w w1)(hw:Wr w1 w2 L.now o vs):Own L P w w2:=fun b l a1 a2 a3 a4=>(hw.jm b a1).trans (h b l a1 a2 a3 a4)
theorem Own.line {L:Lay}{P:Pb}{w w1 w2:World}{o i:Nat}{vs:List Value}(h:Own L P w w1)(hi:i<P.m)(hw:Wr w1 w2 (L.line i) o vs):Own L P w w2:=fun b l a1 a2 a3 a4=>(hw.jm b (a4 i hi)).trans (h b l a1 a2 a3 a4)
theorem rW.wr {ty:Nat}{w:World}{g N v:Nat}{f:Nat→V}(h:rW ty w g N f)(hv:v<N)(M S:Nw):Wr w (w.setCells g (v*6) (M.cs++S.cs)) g (v*6) (M.cs++S.cs):=by
 obtain⟨A,B,_,_,a0,a1,a2,a3,a4,a5⟩:=(h.at_ v hv).reads;refine dY w g _ _ fun j hj=>?_;have hj:j<6:=by simpa[Nw.cs]using hj
 rcases j with _ | _ | _ | _ | _ | _ | j
 ·rw[Nat.add_zero,a0];rfl
 ·rw[show v*6+(0+1)=v*6+1 from rfl,a1];rfl
 ·rw[show v*6+(0+1+1)=v*6+2 from rfl,a2];rfl
 ·rw[show v*6+(0+1+1+1)=v*6+3 from rfl,a3];rfl
 ·rw[show v*6+(0+1+1+1+1)=v*6+4 from rfl,a4];rfl
 ·rw[show v*6+(0+1+1+1+1+1)=v*6+5 from rfl,a5];rfl
 omega
def Pb.at_ (P:Pb)(c:Nat)(b:V)(i:Nat):Pb:={P with now:=P.oz c b i}
structure FQ (n0:Nat)(w:World)(L:Lay)(P:Pb)(c:Nat)(b:V)(M S:Nw)(i:Nat)(wr:World):Prop where
 at_:eY n0 wr L (Pb.at_ P c b i)
 vb:VB wr w.heap.size M S
 bl:Below n0 w wr
 lb:aQ w wr
 fr:Own L P w wr
theorem FQ.below {n0:Nat}{w:World}{L:Lay}{P:Pb}{c:Nat}{b:V}{M S:Nw}{i:Nat}{wr w':World}(h:FQ n0 w L P c b M S i wr)(hn:n0≤w.heap.size)(hb:Below wr.heap.size wr w'):FQ n0 w L P c b M S i w':=
 ⟨h.at_.below hb,h.vb.later hb h.vb.lt,Below.trans h.bl (hb.mono (Nat.le_trans hn h.bl.size)),h.lb.trans (aQ.of_below hb),h.fr.below h.bl.size hb⟩
theorem FQ.next {n0:Nat}{w:World}{L:Lay}{P:Pb}{c:Nat}{b:V}{M S:Nw}{i:Nat}{wr w':World}{A B:Nw}(h:FQ n0 w L P c b M S i wr)(hp:P.Pl)(hi:i<P.m)(hg:L.now<w.heap.size)(hz:P.T i c≠0)
  (hw:Wr wr w' L.now (P.basic i*6) (A.cs++B.cs))(hm:RA wr ((P.oz c b i (P.basic i)).add (V.mul (P.T i c) b)).m A)(hs:RA wr ((P.oz c b i (P.basic i)).add (V.mul (P.T i c) b)).s B):FQ n0 w L P c b M S (i+1) w':=by
 have bl:=hp.blt i hi;refine⟨(h.at_.OE (v:=P.basic i) bl hw hm hs).congr ?_,(hw.jm _ (by omega)).trans h.vb,hw.bel _ _ h.at_.ge.1 h.bl,h.lb.trans (h.at_.no.limb (v:=P.basic i) bl hw),h.fr.now hw⟩;unfold Pb.at_;congr 1;show(fun j=>if j=P.basic i then(P.oz c b i (P.basic i)).add (V.mul (P.T i c) b)else P.oz c b i j)=P.oz c b (i+1);funext j;simp only[Pb.oz,if_neg hz];by_cases e:j=P.basic i
 ·rw[if_pos e,if_pos e,e]
 rw[if_neg e,if_neg e]
theorem FQ.skip {n0:Nat}{w:World}{L:Lay}{P:Pb}{c:Nat}{b:V}{M S:Nw}{i:Nat}{wr:World}(h:FQ n0 w L P c b M S i wr)(hz:P.T i c=0):FQ n0 w L P c b M S (i+1) wr:=by refine⟨h.at_.congr ?_,h.vb,h.bl,h.lb,h.fr⟩;unfold Pb.at_;congr 1;simp only[Pb.oz,if_pos hz]
theorem FQ.zero {n0:Nat}{w W0:World}{L:Lay}{P:Pb}{c:Nat}{b:V}{M S A B:Nw}{w':World}(h:eY n0 W0 L P)(hp:P.Pl)(hc:c<P.n)(hvb:VB W0 w.heap.size M S)(hbl:Below n0 w W0)(hlb:aQ w W0)(hfr:Own L P w W0)(hg:L.now<w.heap.size)
  (hw:Wr W0 w' L.now (P.free c*6) (A.cs++B.cs))(hm:RA W0 ((P.now (P.free c)).add b).m A)(hs:RA W0 ((P.now (P.free c)).add b).s B):FQ n0 w L P c b M S 0 w':=by
 have bl:=hp.flt c hc;refine⟨(h.OE (v:=P.free c) bl hw hm hs).congr ?_,(hw.jm _ (by omega)).trans hvb,hw.bel _ _ h.ge.1 hbl,hlb.trans (h.no.limb (v:=P.free c) bl hw),hfr.now hw⟩;unfold Pb.at_;congr 1;funext j;simp only[Pb.oz];by_cases e:j=P.free c
 ·rw[if_pos e,if_pos e,e]
 rw[if_neg e,if_neg e]
def MvL (n0:Nat)(w:World)(L:Lay)(P:Pb)(c:Nat)(b:V)(M S:Nw)(v37:Value)(wr:World):Prop:=
 ∃i:Nat,i≤P.m∧v37= .int .i64 (i:Int)∧FQ n0 w L P c b M S i wr
theorem Pm {n0 c:Nat}{w:World}{L:Lay}{P:Pb}{b:V}{M S:Nw}(h:eY n0 w L P)(hp:P.Pl)(hs:uz P 1048576)(hc:c<P.n)(hm:RA w b.m M)(hsm:RA w b.s S)(z1:Sz b.m 16777216)(z2:Sz b.s 16777216):
  Calls prog 161 #[.pointer (some ⟨L.p,0,none⟩),.int .i64 (c:Int),.agg #[.bool M.s,.slice M.a M.n M.c,.slice M.b M.m M.d,.bool S.s,.slice S.a S.n S.c,.slice S.b S.m S.d]] w fun e w'=>e= .returned (.tuple #[])∧eY n0 w' L (P.mv c b)∧Below n0 w w'∧aQ w w'∧Own L P w w':=by
 have nm:=h.nm;have cp:=h.cp;obtain⟨N,hN⟩:∃N,P.n+P.m=N:=⟨_,rfl⟩;obtain⟨m,hm'⟩:∃m,P.m=m:=⟨_,rfl⟩;obtain⟨n,hn⟩:∃n,P.n=n:=⟨_,rfl⟩;have rH:n0≤w.heap.size:=Nat.le_of_lt (Nat.lt_of_le_of_lt h.ge.1 h.no.blk.lt);have HG:Hid (L.now<w.heap.size):=h.no.blk.lt;have JU:0<P.n:=by omega
 rw[hm']at nm cp;rw[hn]at nm cp;have HN:=hid hN;have HM:=hid hm';have jo:=hid hn;have PL:=hid hp;have SZ:=hid hs;have HC:=hid hc;have ZB:=hid (And.intro z1 z2);have HD:=hid (fun(W:World) (Q:Pb) (h:eY n0 W L Q) (e1:Q.n=P.n) (e2:Q.m=P.m)=>(show W.cell? ⟨L.p,3,none⟩=some (.slice (some ⟨L.now,0,none⟩) N N)∧W.cell? ⟨L.p,4,none⟩=some (.slice (some ⟨L.mY,0,none⟩) m L.qI)∧W.cell? ⟨L.p,5,none⟩=some (.slice (some ⟨L.jw,0,none⟩) n L.rY)∧W.cell? ⟨L.p,6,none⟩=some (.slice (some ⟨L.tab,0,none⟩) m L.tZ) from by have:=h.head;rw[e1,e2,hN,hm',hn,(h.fr (by rw[e1];exact JU)).1]at this;exact⟨this.2.2.2.1,this.2.2.2.2.1,this.2.2.2.2.2.1,this.2.2.2.2.2.2⟩))
 have B0:Hid (Below w.heap.size w (w.alloc (.cells #[.bool M.s,.slice M.a M.n M.c,.slice M.b M.m M.d,.bool S.s,.slice S.a S.n S.c,.slice S.b S.m S.d] 174))):=ah _ _;have X0:Hid (VB (w.alloc (.cells #[.bool M.s,.slice M.a M.n M.c,.slice M.b M.m M.d,.bool S.s,.slice S.a S.n S.c,.slice S.b S.m S.d] 174)) w.heap.size M S):=heap_alloc_new w _;have ug:=hid (h.below B0.out);have RB1:=hid (hm.below B0.out);have RB2:=hid (hsm.below B0.out);have RW1:=hid hm;have RW2:=hid hsm;obtain⟨v,hv⟩:∃v,P.free c=v:=⟨_,rfl⟩;have vN:v<N:=by rw[←hv,←hN];exact hp.flt c hc
 have HV:=hid hv;rw[hn]at hc;have c0:(0:Int)≤(c:Int):=by omega
 have c1:(c:Int)<(n:Int):=by omega
 have v0:(0:Int)≤(v:Int):=by omega
 have v1:(v:Int)<(N:Int):=by omega
 clear h hp hs hm hsm z1 z2 hN hm' hn hv JU;go_enter func161,ntmps161;go_upto_region 1 with fail
 generalize w.alloc (.cells #[.bool M.s,.slice M.a M.n M.c,.slice M.b M.m M.d,.bool S.s,.slice S.a S.n S.c,.slice S.b S.m S.d] 174)=W0 at*;obtain⟨q3,q4,q5,q6⟩:=HD.out W0 P ug.out rfl rfl;obtain⟨_,fr⟩:=ug.out.fr (by rw[jo.out];omega);have p:=fr.at_ c HC.out;rw[HV.out]at p;obtain⟨A,B,ra,rb,a0,a1,a2,a3,a4,a5⟩:=(ug.out.no.at_ v (by rw[HN.out];exact vN)).reads;obtain⟨u0,u1,u2,u3,u4,u5,_⟩:=X0.out.reads;have sn:=SZ.out.now v (by rw[HN.out];exact vN);have C:=hid (Cj (w:=W0.drew) (ra.below (Below.refl _ _).drew) (rb.below (Below.refl _ _).drew) (RB1.out.below (Below.refl _ _).drew) (RB2.out.below (Below.refl _ _).drew) (Sz.mono sn.1 (by omega)) (Sz.mono sn.2 (by omega)) (Sz.mono ZB.out.1 (by omega)) (Sz.mono ZB.out.2 (by omega)));clear fr ra rb sn;go_upto_region 2 with fail
 have KP:=hid (fun(W:World) (hB:Below W0.heap.size W0 W)=>(show W.cell? ⟨L.p,3,none⟩=some (.slice (some ⟨L.now,0,none⟩) N N)∧W.cell? ⟨w.heap.size,0,none⟩=some (.bool M.s)∧W.cell? ⟨w.heap.size,1,none⟩=some (.slice M.a M.n M.c)∧W.cell? ⟨w.heap.size,2,none⟩=some (.slice M.b M.m M.d)∧W.cell? ⟨w.heap.size,3,none⟩=some (.bool S.s)∧W.cell? ⟨w.heap.size,4,none⟩=some (.slice S.a S.n S.c)∧W.cell? ⟨w.heap.size,5,none⟩=some (.slice S.b S.m S.d)∧W.cell? ⟨L.now,v*6,none⟩=some (.bool A.s)∧W.cell? ⟨L.now,v*6+1,none⟩=some (.slice A.a A.n A.c)∧W.cell? ⟨L.now,v*6+2,none⟩=some (.slice A.b A.m A.d)∧W.cell? ⟨L.now,v*6+3,none⟩=some (.bool B.s)∧W.cell? ⟨L.now,v*6+4,none⟩=some (.slice B.a B.n B.c)∧W.cell? ⟨L.now,v*6+5,none⟩=some (.slice B.b B.m B.d) from⟨aj hB q3,aj hB u0,aj hB u1,aj hB u2,aj hB u3,aj hB u4,aj hB u5,aj hB a0,aj hB a1,aj hB a2,aj hB a3,aj hB a4,aj hB a5⟩));refine Rg.aH 15 [] (fun W=>W.cell? ⟨L.p,3,none⟩=some (.slice (some ⟨L.now,0,none⟩) N N)∧W.cell? ⟨w.heap.size,0,none⟩=some (.bool M.s)∧W.cell? ⟨w.heap.size,1,none⟩=some (.slice M.a M.n M.c)∧W.cell? ⟨w.heap.size,2,none⟩=some (.slice M.b M.m M.d)∧W.cell? ⟨w.heap.size,3,none⟩=some (.bool S.s)∧W.cell? ⟨w.heap.size,4,none⟩=some (.slice S.a S.n S.c)∧W.cell? ⟨w.heap.size,5,none⟩=some (.slice S.b S.m S.d)∧W.cell? ⟨L.now,v*6,none⟩=some (.bool A.s)∧W.cell? ⟨L.now,v*6+1,none⟩=some (.slice A.a A.n A.c)∧W.cell? ⟨L.now,v*6+2,none⟩=some (.slice A.b A.m A.d)∧W.cell? ⟨L.now,v*6+3,none⟩=some (.bool B.s)∧W.cell? ⟨L.now,v*6+4,none⟩=some (.slice B.a B.n B.c)∧W.cell? ⟨L.now,v*6+5,none⟩=some (.slice B.b B.m B.d)) (by kernel_rfl) (by kernel_rfl) ?_ (fun hS ok inv=>?_)
 ·exact⟨q3,u0,u1,u2,u3,u4,u5,a0,a1,a2,a3,a4,a5⟩
 refine Rg.tk 0 rfl ok inv hS fun inv=>?_;refine Rg.tk 1 rfl ok inv hS fun inv=>?_;refine Rg.tk 2 rfl ok inv hS fun inv=>?_;refine Rg.tk 3 rfl ok inv hS fun inv=>?_;refine Rg.tk 4 rfl ok inv hS fun inv=>?_;refine Rg.tk 5 rfl ok inv hS fun inv=>?_;refine Rg.tk 6 rfl ok inv hS fun inv=>?_;refine Rg.tk 7 rfl ok inv hS fun inv=>?_;refine Rg.tk 8 rfl ok inv hS fun inv=>?_;refine Rg.tk 9 rfl ok inv hS fun inv=>?_;refine Rg.tk 10 rfl ok inv hS fun inv=>?_;refine Rg.tk 11 rfl ok inv hS fun inv=>?_;refine Rg.tk 12 rfl ok inv hS fun inv=>?_;refine Rg.w1 13 rfl inv fun K' hK=>?_;go_simp;go_at_call 186;refine(C.out).mono ?_;rintro e w2 ⟨A2,sW,rfl,L1,L2,B2⟩;have B2:=aJ B2;have KS:=KP.out w2 B2;have K2:=ug.out.below B2;have f0:=K2.no.blk.free (v*6);have f1:=K2.no.blk.free (v*6+1);have f2:=K2.no.blk.free (v*6+2);have f3:=K2.no.blk.free (v*6+3);have f4:=K2.no.blk.free (v*6+4);have f5:=K2.no.blk.free (v*6+5);have K2:=hid K2;have X2:=hid (X0.out.later B2 X0.out.lt);have L1:=hid L1;have L2:=hid L2;have eX:=hid (aB B0.out B2);clear B2;refine Rg.st hK ?_ fun hS inv=>?_
 ·exact KS
 clear hK K';obtain⟨q3,u0,u1,u2,u3,u4,u5,a0,a1,a2,a3,a4,a5⟩:=hS;have hS:(fun W=>W.cell? ⟨L.p,3,none⟩=some (.slice (some ⟨L.now,0,none⟩) N N)∧W.cell? ⟨w.heap.size,0,none⟩=some (.bool M.s)∧W.cell? ⟨w.heap.size,1,none⟩=some (.slice M.a M.n M.c)∧W.cell? ⟨w.heap.size,2,none⟩=some (.slice M.b M.m M.d)∧W.cell? ⟨w.heap.size,3,none⟩=some (.bool S.s)∧W.cell? ⟨w.heap.size,4,none⟩=some (.slice S.a S.n S.c)∧W.cell? ⟨w.heap.size,5,none⟩=some (.slice S.b S.m S.d)∧W.cell? ⟨L.now,v*6,none⟩=some (.bool A.s)∧W.cell? ⟨L.now,v*6+1,none⟩=some (.slice A.a A.n A.c)∧W.cell? ⟨L.now,v*6+2,none⟩=some (.slice A.b A.m A.d)∧W.cell? ⟨L.now,v*6+3,none⟩=some (.bool B.s)∧W.cell? ⟨L.now,v*6+4,none⟩=some (.slice B.a B.n B.c)∧W.cell? ⟨L.now,v*6+5,none⟩=some (.slice B.b B.m B.d)) w2:=⟨q3,u0,u1,u2,u3,u4,u5,a0,a1,a2,a3,a4,a5⟩;refine Rg.tk 14 rfl ok inv hS fun inv=>?_;refine Rg.wl rfl ?_;go_simp;have I0:FQ n0 w L P c b M S 0 ((((((w2.setCell ⟨L.now,v*6,none⟩ (.bool A2.s)).setCell ⟨L.now,v*6+1,none⟩ (.slice A2.a A2.n A2.c)).setCell ⟨L.now,v*6+2,none⟩ (.slice A2.b A2.m A2.d)).setCell ⟨L.now,v*6+3,none⟩ (.bool sW.s)).setCell ⟨L.now,v*6+4,none⟩ (.slice sW.a sW.n sW.c)).setCell ⟨L.now,v*6+5,none⟩ (.slice sW.b sW.m sW.d)):=by have hw:=K2.out.no.wr (v:=v) (by rw[HN.out];exact vN) A2 sW;rw[←HV.out]at hw L1 L2;have:=FQ.zero K2.out PL.out HC.out X2.out (eX.out.mono rH) (aQ.of_below eX.out) (Own.of_below eX.out) HG.out hw L1.out L2.out;rw[HV.out]at this;exact this
 clear ok inv hS q3 q4 q5 q6 p a0 a1 a2 a3 a4 a5 u0 u1 u2 u3 u4 u5 f0 f1 f2 f3 f4 f5 KP C L1 L2 K2 X2 eX;generalize ((((((w2.setCell ⟨L.now,v*6,none⟩ (.bool A2.s)).setCell ⟨L.now,v*6+1,none⟩ (.slice A2.a A2.n A2.c)).setCell ⟨L.now,v*6+2,none⟩ (.slice A2.b A2.m A2.d)).setCell ⟨L.now,v*6+3,none⟩ (.bool sW.s)).setCell ⟨L.now,v*6+4,none⟩ (.slice sW.a sW.n sW.c)).setCell ⟨L.now,v*6+5,none⟩ (.slice sW.b sW.m sW.d))=W1 at*;obtain⟨q3,q4,q5,q6⟩:=HD.out W1 _ I0.at_ rfl rfl;have I0:=hid I0;go_wp2_with fail;go_loopw [7,8,37] (fun v7 v8 v37 wr=>MvL n0 w L P c b M S v37 wr) (fun _ _ v _=>m-(intOf v).toNat)
 case atStart=>exact⟨0,Nat.zero_le _,rfl,I0.out⟩
 clear I0;obtain⟨i,hi,rfl,hI⟩:=hrel;rw[HM.out]at hi;clear q3 q4 q5 q6;obtain⟨q3,q4,q5,q6⟩:=HD.out wr _ hI.at_ rfl rfl;have I:=hid hI;clear hI;by_cases hlt:i<m
 ·have hlt2:i<P.m:=by rw[HM.out];exact hlt
  have cn:c<P.n:=HC.out;obtain⟨la,li⟩:=I.out.at_.li (by show 0<P.n;omega) i hlt2;have ti:=I.out.at_.ta i hlt2;rw[la]at ti;have ti:wr.cell? ⟨L.tab,i,none⟩=some (.slice (some ⟨L.line i,0,none⟩) n n):=by rw[←jo.out];exact ti
  obtain⟨E,e0,e1,e2,rE⟩:=li.at_ c cn;have rE:RA wr (P.T i c) E:=rE;have SG:=dM rE;obtain⟨q,hq⟩:∃q,P.T i c=q:=⟨_,rfl⟩;rw[hq]at SG;have SG:=hid SG;have HQ:=hid hq;have i0:(0:Int)≤(i:Int):=by omega
  have i1:(i:Int)<(m:Int):=by omega
  clear la li rE hq;go_wp2_with fail;refine SG.out.mono ?_;rintro e w5 ⟨rfl,B5⟩;have I5:=hid (I.out.below rH B5);clear q3 q4 q5 q6 ti e0 e1 e2 B5 SG;by_cases z0:q=0
  ·have NX:=hid (I5.out.skip (by rw[HQ.out];exact z0));have zz:aV q=0:=aY.2 z0;rw[zz];clear z0 zz;go_wp2_with fail;go_roundw
   case rel=>exact⟨i+1,by rw[HM.out];omega,by go_num,NX.out⟩
   simp[intOf];omega
  obtain⟨z,hz⟩:∃z,aV q=z:=⟨_,rfl⟩;have zb:(z !=0)=true:=by simp;rw[←hz];exact fun k=>z0 (aY.1 k)
  rw[hz];have Z0:=hid (show P.T i c≠0 by rw[HQ.out];exact z0);clear hz z0;obtain⟨q3,q4,q5,q6⟩:=HD.out w5 _ I5.out.at_ rfl rfl;obtain⟨u0,u1,u2,u3,u4,u5,_⟩:=I5.out.vb.reads;obtain⟨la,li⟩:=I5.out.at_.li (by show 0<P.n;omega) i hlt2;obtain⟨E2,e0,e1,e2,rE⟩:=li.at_ c cn;have rE:RA w5 q E2:=by rw[←HQ.out];exact rE
  have pb:w5.cell? ⟨L.mY,i,none⟩=some (.int .i64 ((P.basic i:Nat):Int)):=I5.out.at_.ba.at_ i hlt2;have bN:P.basic i<N:=by rw[←HN.out];exact PL.out.blt i hlt2
  obtain⟨A,B,ra,rb,a0,a1,a2,a3,a4,a5⟩:=(I5.out.at_.no.at_ (P.basic i) (PL.out.blt i hlt2)).reads;have NB:=Pb.vU PL.out HC.out b i (by rw[HM.out];omega) i (Nat.le_refl _) hlt2;have ra2:RA w5 (P.oz c b i (P.basic i)).m A:=ra;have rb2:RA w5 (P.oz c b i (P.basic i)).s B:=rb;clear ra rb;have sn:=SZ.out.now (P.basic i) (PL.out.blt i hlt2);rw[←NB]at sn;obtain⟨x,hx⟩:∃x,P.oz c b i (P.basic i)=x:=⟨_,rfl⟩;rw[hx]at ra2 rb2 sn;have HX:=hid hx;obtain⟨v,hv⟩:∃v,P.basic i=v:=⟨_,rfl⟩;rw[hv]at pb bN a0 a1 a2 a3 a4 a5;have YK:=hid hv;have RX:=hid (And.intro ra2 rb2);have RE:=hid rE;have ST:=SZ.out.tab i c hlt2 cn;rw[HQ.out]at ST;have ST:=hid ST;have SN:=hid sn;have v0:(0:Int)≤(v:Int):=by omega
  have v1:(v:Int)<(N:Int):=by omega
  have LB5:=hid I5.out.lb;have C1:=hid (dH (w:=w5.drew) (x:=b) (q:=q) (M:=M) (S:=S) (M':=E2) ((RW1.out.limb LB5.out).below (Below.refl _ _).drew) ((RW2.out.limb LB5.out).below (Below.refl _ _).drew) (rE.below (Below.refl _ _).drew) (Sz.mono ZB.out.1 (by omega)) (Sz.mono ZB.out.2 (by omega)) (Sz.mono ST.out (by omega)));clear la li rE ra2 rb2 sn NB hx hv;go_upto_region 8 with fail
  have KP:=hid (fun(W:World) (hB:Below w5.heap.size w5 W)=>(show W.cell? ⟨L.p,3,none⟩=some (.slice (some ⟨L.now,0,none⟩) N N)∧W.cell? ⟨w.heap.size,0,none⟩=some (.bool M.s)∧W.cell? ⟨w.heap.size,1,none⟩=some (.slice M.a M.n M.c)∧W.cell? ⟨w.heap.size,2,none⟩=some (.slice M.b M.m M.d)∧W.cell? ⟨w.heap.size,3,none⟩=some (.bool S.s)∧W.cell? ⟨w.heap.size,4,none⟩=some (.slice S.a S.n S.c)∧W.cell? ⟨w.heap.size,5,none⟩=some (.slice S.b S.m S.d)∧W.cell? ⟨L.line i,c*3,none⟩=some (.bool E2.s)∧W.cell? ⟨L.line i,c*3+1,none⟩=some (.slice E2.a E2.n E2.c)∧W.cell? ⟨L.line i,c*3+2,none⟩=some (.slice E2.b E2.m E2.d)∧W.cell? ⟨L.now,v*6,none⟩=some (.bool A.s)∧W.cell? ⟨L.now,v*6+1,none⟩=some (.slice A.a A.n A.c)∧W.cell? ⟨L.now,v*6+2,none⟩=some (.slice A.b A.m A.d)∧W.cell? ⟨L.now,v*6+3,none⟩=some (.bool B.s)∧W.cell? ⟨L.now,v*6+4,none⟩=some (.slice B.a B.n B.c)∧W.cell? ⟨L.now,v*6+5,none⟩=some (.slice B.b B.m B.d) from⟨aj hB q3,aj hB u0,aj hB u1,aj hB u2,aj hB u3,aj hB u4,aj hB u5,aj hB e0,aj hB e1,aj hB e2,aj hB a0,aj hB a1,aj hB a2,aj hB a3,aj hB a4,aj hB a5⟩));refine Rg.aH 20 [] (fun W=>W.cell? ⟨L.p,3,none⟩=some (.slice (some ⟨L.now,0,none⟩) N N)∧W.cell? ⟨w.heap.size,0,none⟩=some (.bool M.s)∧W.cell? ⟨w.heap.size,1,none⟩=some (.slice M.a M.n M.c)∧W.cell? ⟨w.heap.size,2,none⟩=some (.slice M.b M.m M.d)∧W.cell? ⟨w.heap.size,3,none⟩=some (.bool S.s)∧W.cell? ⟨w.heap.size,4,none⟩=some (.slice S.a S.n S.c)∧W.cell? ⟨w.heap.size,5,none⟩=some (.slice S.b S.m S.d)∧W.cell? ⟨L.line i,c*3,none⟩=some (.bool E2.s)∧W.cell? ⟨L.line i,c*3+1,none⟩=some (.slice E2.a E2.n E2.c)∧W.cell? ⟨L.line i,c*3+2,none⟩=some (.slice E2.b E2.m E2.d)∧W.cell? ⟨L.now,v*6,none⟩=some (.bool A.s)∧W.cell? ⟨L.now,v*6+1,none⟩=some (.slice A.a A.n A.c)∧W.cell? ⟨L.now,v*6+2,none⟩=some (.slice A.b A.m A.d)∧W.cell? ⟨L.now,v*6+3,none⟩=some (.bool B.s)∧W.cell? ⟨L.now,v*6+4,none⟩=some (.slice B.a B.n B.c)∧W.cell? ⟨L.now,v*6+5,none⟩=some (.slice B.b B.m B.d)) (by kernel_rfl) (by kernel_rfl) ?_ (fun hS ok inv=>?_)
  ·exact⟨q3,u0,u1,u2,u3,u4,u5,e0,e1,e2,a0,a1,a2,a3,a4,a5⟩
  refine Rg.tk 0 rfl ok inv hS fun inv=>?_;refine Rg.tk 1 rfl ok inv hS fun inv=>?_;refine Rg.tk 2 rfl ok inv hS fun inv=>?_;refine Rg.tk 3 rfl ok inv hS fun inv=>?_;refine Rg.tk 4 rfl ok inv hS fun inv=>?_;refine Rg.tk 5 rfl ok inv hS fun inv=>?_;refine Rg.tk 6 rfl ok inv hS fun inv=>?_;refine Rg.tk 7 rfl ok inv hS fun inv=>?_;refine Rg.tk 8 rfl ok inv hS fun inv=>?_;refine Rg.tk 9 rfl ok inv hS fun inv=>?_;refine Rg.tk 10 rfl ok inv hS fun inv=>?_;refine Rg.tk 11 rfl ok inv hS fun inv=>?_;refine Rg.tk 12 rfl ok inv hS fun inv=>?_;refine Rg.tk 13 rfl ok inv hS fun inv=>?_;refine Rg.tk 14 rfl ok inv hS fun inv=>?_;refine Rg.tk 15 rfl ok inv hS fun inv=>?_;refine Rg.tk 16 rfl ok inv hS fun inv=>?_;refine Rg.w1 17 rfl inv fun K' hK=>?_;go_simp;go_at_call 160;refine(C1.out).mono ?_;rintro e w6 ⟨A6,B6',rfl,L1,L2,B6⟩;have B6:=aJ B6;have KS:=KP.out w6 B6;have C2:=hid (Cj (x:=x) (y:=V.mul q b) (M:=A) (S:=B) (RX.out.1.below B6) (RX.out.2.below B6) L1 L2 (Sz.mono SN.out.1 (by omega)) (Sz.mono SN.out.2 (by omega)) (Sz.mono (Sz.mul ST.out ZB.out.1) (by omega)) (Sz.mono (Sz.mul ST.out ZB.out.2) (by omega)));have B6:=hid B6;clear L1 L2;refine Rg.st hK ?_ fun hS inv=>?_
  ·exact KS
  clear hK K';refine Rg.w1 18 rfl inv fun K' hK=>?_;go_simp;go_at_call 186;refine(C2.out).mono ?_;rintro e w7 ⟨A7,WZ,rfl,L1,L2,B7⟩;have SY:=aB B6.out B7;have KS:=KP.out w7 SY;have I7:=I5.out.below rH SY;have f0:=I7.at_.no.blk.free (v*6);have f1:=I7.at_.no.blk.free (v*6+1);have f2:=I7.at_.no.blk.free (v*6+2);have f3:=I7.at_.no.blk.free (v*6+3);have f4:=I7.at_.no.blk.free (v*6+4);have f5:=I7.at_.no.blk.free (v*6+5);have I7:=hid I7;have L1:=hid L1;have L2:=hid L2;clear B7 SY;refine Rg.st hK ?_ fun hS inv=>?_
  ·exact KS
  clear hK K';obtain⟨q3,u0,u1,u2,u3,u4,u5,e0,e1,e2,a0,a1,a2,a3,a4,a5⟩:=hS;have hS:(fun W=>W.cell? ⟨L.p,3,none⟩=some (.slice (some ⟨L.now,0,none⟩) N N)∧W.cell? ⟨w.heap.size,0,none⟩=some (.bool M.s)∧W.cell? ⟨w.heap.size,1,none⟩=some (.slice M.a M.n M.c)∧W.cell? ⟨w.heap.size,2,none⟩=some (.slice M.b M.m M.d)∧W.cell? ⟨w.heap.size,3,none⟩=some (.bool S.s)∧W.cell? ⟨w.heap.size,4,none⟩=some (.slice S.a S.n S.c)∧W.cell? ⟨w.heap.size,5,none⟩=some (.slice S.b S.m S.d)∧W.cell? ⟨L.line i,c*3,none⟩=some (.bool E2.s)∧W.cell? ⟨L.line i,c*3+1,none⟩=some (.slice E2.a E2.n E2.c)∧W.cell? ⟨L.line i,c*3+2,none⟩=some (.slice E2.b E2.m E2.d)∧W.cell? ⟨L.now,v*6,none⟩=some (.bool A.s)∧W.cell? ⟨L.now,v*6+1,none⟩=some (.slice A.a A.n A.c)∧W.cell? ⟨L.now,v*6+2,none⟩=some (.slice A.b A.m A.d)∧W.cell? ⟨L.now,v*6+3,none⟩=some (.bool B.s)∧W.cell? ⟨L.now,v*6+4,none⟩=some (.slice B.a B.n B.c)∧W.cell? ⟨L.now,v*6+5,none⟩=some (.slice B.b B.m B.d)) w7:=⟨q3,u0,u1,u2,u3,u4,u5,e0,e1,e2,a0,a1,a2,a3,a4,a5⟩;refine Rg.tk 19 rfl ok inv hS fun inv=>?_;refine Rg.wl rfl ?_;go_simp;have NX:FQ n0 w L P c b M S (i+1) ((((((w7.setCell ⟨L.now,v*6,none⟩ (.bool A7.s)).setCell ⟨L.now,v*6+1,none⟩ (.slice A7.a A7.n A7.c)).setCell ⟨L.now,v*6+2,none⟩ (.slice A7.b A7.m A7.d)).setCell ⟨L.now,v*6+3,none⟩ (.bool WZ.s)).setCell ⟨L.now,v*6+4,none⟩ (.slice WZ.a WZ.n WZ.c)).setCell ⟨L.now,v*6+5,none⟩ (.slice WZ.b WZ.m WZ.d)):=by have hw:=I7.out.at_.no.wr (v:=v) (by rw[←YK.out];exact PL.out.blt i hlt2) A7 WZ;rw[←YK.out]at hw;have:=I7.out.next PL.out hlt2 HG.out Z0.out hw (by rw[HX.out,HQ.out];exact L1.out) (by rw[HX.out,HQ.out];exact L2.out);rw[YK.out]at this;exact this
  have NX:=hid NX;go_wp2_with fail;go_roundw
  case rel=>exact⟨i+1,by rw[HM.out];omega,by go_num,NX.out⟩
  simp[intOf];omega
 obtain rfl:m=i:=by omega
 have E:Hid (Pb.at_ P c b m=P.mv c b):=by show _=_;unfold Pb.at_ Pb.mv;rw[HM.out]
 go_wp2_with fail;exact bodyPost_end (v:= .tuple #[]) (by simp[results,results161,go_sem]) rfl ⟨rfl,I.out.at_.congr E.out,I.out.bl,I.out.lb,I.out.fr⟩
theorem eY.tabs {n0:Nat}{w:World}{L:Lay}{P:Pb}{T':Nat→Nat→Rat}(h:eY n0 w L P)(e:∀i k,i<P.m→k<P.n→P.T i k=T' i k):eY n0 w L {P with T:=T'}:=
 ⟨h.hd,h.lo,h.hi,h.no,h.ba,h.fr,h.tb,h.ta,fun q i hi=>⟨(h.li q i hi).1,(h.li q i hi).2.blk,fun k hk=>by have:=(h.li q i hi).2.at_ k hk;rw[e i k hi hk]at this;exact this⟩,h.inj,h.bf,h.ge,h.cp,h.nm⟩
theorem fE.wr {w:World}{g n k:Nat}{f:Nat→Rat}(h:fE w g n f)(hk:k<n)(M:Nw):Wr w (w.setCells g (k*3) M.cs) g (k*3) M.cs:=by
 obtain⟨A,a0,a1,a2,_⟩:=h.at_ k hk;refine dY w g _ _ fun j hj=>?_;have hj:j<3:=by simpa[Nw.cs]using hj
 rcases j with _ | _ | _ | j
 ·rw[Nat.add_zero,a0];rfl
 ·rw[show k*3+(0+1)=k*3+1 from rfl,a1];rfl
 ·rw[show k*3+(0+1+1)=k*3+2 from rfl,a2];rfl
 omega
def jF (P:Pb)(r c k:Nat):Rat:=if k=c then(P.T r c)⁻¹ else-(P.T r k*(P.T r c)⁻¹)
def oJ (P:Pb)(r c i k:Nat):Rat:=(if k=c then 0 else P.T i k)+P.T i c*jF P r c k
def st1 (P:Pb)(r c j i k:Nat):Rat:=if i=r∧k<j then jF P r c k else P.T i k
def st2 (P:Pb)(r c i0 i k:Nat):Rat:=if i=r then jF P r c k else if i<i0 then oJ P r c i k else P.T i k
def FU (P:Pb)(r c i0 j i k:Nat):Rat:=if i=r then jF P r c k else if i<i0 then oJ P r c i k else if i=i0 then(if k<j then oJ P r c i k else if k=c then 0 else P.T i k)else P.T i k
structure xg (n0:Nat)(w:World)(L:Lay)(P:Pb)(g:Nat)(Iv:Nw)(T:Nat→Nat→Rat)(wr:World):Prop where
 at_:eY n0 wr L {P with T:=T}
 nq:NQ wr g Iv
 bl:Below n0 w wr
 lb:aQ w wr
 gl:n0≤g
 fr:Own L P w wr
theorem xg.below {n0:Nat}{w:World}{L:Lay}{P:Pb}{g:Nat}{Iv:Nw}{T:Nat→Nat→Rat}{wr w':World}(h:xg n0 w L P g Iv T wr)(hb:Below wr.heap.size wr w'):xg n0 w L P g Iv T w':=
 ⟨h.at_.below hb,h.nq.later hb h.nq.lt,Below.trans h.bl (hb.mono (Nat.le_trans h.gl (Nat.le_of_lt h.nq.lt))),h.lb.trans (aQ.of_below hb),h.gl,h.fr.below h.bl.size hb⟩
theorem xg.line {n0:Nat}{w:World}{L:Lay}{P:Pb}{g:Nat}{Iv M:Nw}{T T':Nat→Nat→Rat}{wr w':World}{i k:Nat}{x:Rat}(h:xg n0 w L P g Iv T wr)(hi:i<P.m)(hk:k<P.n)(hg:L.line i≠g)
  (hw:Wr wr w' (L.line i) (k*3) M.cs)(hm:RA wr x M)(e:∀i' k',i'<P.m→k'<P.n→(if i'=i then(if k'=k then x else T i k')else T i' k')=T' i' k'):xg n0 w L P g Iv T' w':=
 ⟨(h.at_.UJ (i:=i) (k:=k) hi hk hw hm).tabs e,(hw.jm _ hg.symm).trans h.nq,hw.bel _ _ (h.at_.ge.2.2.2 i hi) h.bl,h.lb.trans ((h.at_.li (by show 0<P.n;omega) i hi).2.limb hk hw),h.gl,h.fr.line hi hw⟩
theorem xg.tabs {n0:Nat}{w:World}{L:Lay}{P:Pb}{g:Nat}{Iv:Nw}{T T':Nat→Nat→Rat}{wr:World}(h:xg n0 w L P g Iv T wr)(e:∀i k,i<P.m→k<P.n→T i k=T' i k):xg n0 w L P g Iv T' wr:=
 ⟨h.at_.tabs (P:={P with T:=T}) e,h.nq,h.bl,h.lb,h.gl,h.fr⟩
theorem CU {P:Pb}{r c j:Nat}(i' k':Nat):(if i'=r then(if k'=j then jF P r c j else st1 P r c j r k')else st1 P r c j i' k')=st1 P r c (j+1) i' k':=by
 unfold st1;by_cases e:i'=r
 ·subst e;by_cases q:k'=j
  ·subst q;simp
  by_cases l:k'<j
  ·simp[q,l,show k'<j+1 by omega]
  simp[q,l,show ¬k'<j+1 by omega]
 simp[e]
theorem UZ {P:Pb}{r c:Nat}(i k:Nat)(hk:k<P.n):st1 P r c P.n i k=st2 P r c 0 i k:=by
 unfold st1 st2;by_cases e:i=r
 ·simp[e,hk]
 simp[e]
theorem CV {P:Pb}{r c i0:Nat}(h:i0=r∨P.T i0 c=0)(i k:Nat):st2 P r c i0 i k=st2 P r c (i0+1) i k:=by
 unfold st2;by_cases e:i=r
 ·simp[e]
 by_cases q:i=i0
 ·subst q;have z:P.T i c=0:=h.resolve_left e;simp only[if_neg e,Nat.lt_irrefl,if_false,show i<i+1 by omega,if_true];unfold oJ;by_cases kc:k=c
  ·subst kc;rw[z];simp;grind
  simp only[if_neg kc,z];grind
 by_cases l:i<i0
 ·simp[e,l,show i<i0+1 by omega]
 simp[e,l,show ¬i<i0+1 by omega]
theorem Pn {P:Pb}{r c i0:Nat}(hr:i0≠r)(i' k':Nat):(if i'=i0 then(if k'=c then 0 else st2 P r c i0 i0 k')else st2 P r c i0 i' k')=FU P r c i0 0 i' k':=by
 unfold st2 FU;by_cases e:i'=i0
 ·subst e;simp[hr]
 by_cases q:i'=r
 ·simp[e,q];intro h;exact absurd h.symm hr
 simp[e,q]
theorem Po {P:Pb}{r c i0 j:Nat}(hr:i0≠r)(i' k':Nat):(if i'=i0 then(if k'=j then oJ P r c i0 j else FU P r c i0 j i0 k')else FU P r c i0 j i' k')=FU P r c i0 (j+1) i' k':=by
 unfold FU;by_cases e:i'=i0
 ·subst e;by_cases q:k'=j
  ·subst q;simp[hr]
  by_cases l:k'<j
  ·simp[hr,q,l,show k'<j+1 by omega]
  simp[hr,q,l,show ¬k'<j+1 by omega]
 simp[e]
theorem U7 {P:Pb}{r c i0:Nat}(i k:Nat)(hk:k<P.n):FU P r c i0 P.n i k=st2 P r c (i0+1) i k:=by
 unfold FU st2;by_cases e:i=r
 ·simp[e]
 by_cases q:i=i0
 ·subst q;simp[e,hk]
 by_cases l:i<i0
 ·simp[e,l,show i<i0+1 by omega]
 simp[e,l,q,show ¬i<i0+1 by omega]
end Go.Proofs.YtijdglogadnbcaaGreat
