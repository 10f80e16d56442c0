/- Raising a column: sizes, blocks of ends. No program. -/
import Derived.Test.YtijdglogadnbcaaGreatY15
set_option linter.unusedVariables false
set_option linter.unusedSimpArgs false
set_option maxRecDepth 100000
set_option maxHeartbeats 40000000
namespace Go.Proofs.YtijdglogadnbcaaGreat
open Go.RowKit Nt Bl
theorem vZ {e a:V}{up:Bool}{K:Nat}(h1:Sz e.m K∧Sz e.s K)(h2:Sz a.m K∧Sz a.s K):Sz (bJ e a up).m (2*K+1)∧Sz (bJ e a up).s (2*K+1):=by
 unfold bJ
 cases up with
 | true=>exact⟨Sz.sub h1.1 h2.1,Sz.sub h1.2 h2.2⟩
 | false=>exact⟨Sz.sub h2.1 h1.1,Sz.sub h2.2 h1.2⟩
theorem Ij {q:Rat}{K:Nat}(h:Sz q K):Sz (dR q) K:=by
 unfold dR;split
 ·exact h.neg
 exact h
theorem Ik {q:Rat}(h:q≠0):dR q≠0:=by
 unfold dR;split
 ·intro e;exact h (by grind)
 exact h
theorem yA {P:Pb}{g c i:Nat}{rs:Bool}{far:V}(hp:P.Pl)(hs:uz P 1048576)(hc:c<P.n)(hi:i<P.m)(h:P.stop g c rs i=some far):
  P.T i c≠0∧Sz far.m 4194304∧Sz far.s 4194304:=by
 unfold Pb.stop at h;split at h
 ·simp at h
 rename_i hz;have hz0:P.T i c≠0:=fun e=>hz (Or.inl e);refine⟨hz0,?_⟩;dsimp only at h;split at h
 ·simp at h
 rename_i e he;simp only[Option.some.injEq]at h;subst h;have hb:=hp.blt i hi;have se:Sz e.m 1048576∧Sz e.s 1048576:=by
  split at he
  ·exact hs.high _ e hb he
  exact hs.low _ e hb he
 have d:=vZ (up:=decide (0<aV (P.T i c))==rs) se (hs.now _ hb);have r:=Sz.inv (Ij (hs.tab i c hi hc)) (Ik hz0);exact⟨Sz.mono (Sz.mul r d.1) (by omega),Sz.mono (Sz.mul r d.2) (by omega)⟩
theorem qL {P:Pb}{g c:Nat}{rs:Bool}(hp:P.Pl)(hs:uz P 1048576)(hc:c<P.n):∀i,i≤P.m→∀l b,P.lW g c rs i=some (l,b)→
  Sz l.m 4194304∧Sz l.s 4194304∧∀r,b=some r→r<i∧P.T r c≠0
 | 0,_,l,b,h=>by
  unfold Pb.lW at h;rw[Option.map_eq_some_iff]at h;obtain⟨e,he,hx⟩:=h;simp only[Prod.mk.injEq]at hx;obtain⟨rfl,rfl⟩:=hx;have hb:=hp.flt c hc;have se:Sz e.m 1048576∧Sz e.s 1048576:=by
   split at he
   ·exact hs.high _ e hb he
   exact hs.low _ e hb he
  have d:=vZ (up:=rs) se (hs.now _ hb);exact⟨Sz.mono d.1 (by omega),Sz.mono d.2 (by omega),fun r hr=>by simp at hr⟩
 | i+1,hi,l,b,h=>by
  have ih:=qL (g:=g) (rs:=rs) hp hs hc i (by omega);unfold Pb.lW at h;split at h
  ·obtain⟨a,b',k⟩:=ih l b h;exact⟨a,b',fun r hr=>⟨by have:=(k r hr).1;omega,(k r hr).2⟩⟩
  rename_i far hst;obtain⟨z,s1,s2⟩:=yA hp hs hc (by omega) hst;have new:∀r,(some i:Option Nat)=some r→r<i+1∧P.T r c≠0:=fun r hr=>by simp only[Option.some.injEq]at hr;subst hr;exact⟨by omega,z⟩
  split at h
  ·simp only[Option.some.injEq,Prod.mk.injEq]at h;obtain⟨rfl,rfl⟩:=h;exact⟨s1,s2,new⟩
  rename_i l' b' hpre;split at h
  ·simp only[Option.some.injEq,Prod.mk.injEq]at h;obtain⟨rfl,rfl⟩:=h;obtain⟨a,b',k⟩:=ih _ _ hpre;exact⟨a,b',fun r hr=>⟨by have:=(k r hr).1;omega,(k r hr).2⟩⟩
  simp only[Option.some.injEq,Prod.mk.injEq]at h;obtain⟨rfl,rfl⟩:=h;exact⟨s1,s2,new⟩
def E7 (w:World)(g o:Nat)(is:Bool)(M S:Nw):Prop:=w.cell? ⟨g,o,none⟩=some (.bool is)∧w.cell? ⟨g,o+1,none⟩=some (.bool M.s)∧w.cell? ⟨g,o+2,none⟩=some (.slice M.a M.n M.c)∧w.cell? ⟨g,o+3,none⟩=some (.slice M.b M.m M.d)∧
 w.cell? ⟨g,o+4,none⟩=some (.bool S.s)∧w.cell? ⟨g,o+5,none⟩=some (.slice S.a S.n S.c)∧w.cell? ⟨g,o+6,none⟩=some (.slice S.b S.m S.d)
structure EV (w:World)(e:Option V)(is:Bool)(M S:Nw):Prop where
 Xa:is=e.isSome
 at_:∀v,e=some v→RA w v.m M∧RA w v.s S
theorem EV.below {w w':World}{e:Option V}{is:Bool}{M S:Nw}(h:EV w e is M S)(hb:Below w.heap.size w w'):EV w' e is M S:=
 ⟨h.Xa,fun v hv=>⟨(h.at_ v hv).1.below hb,(h.at_ v hv).2.below hb⟩⟩
theorem wZ.r7 {w:World}{g o:Nat}{e:Option V}(h:wZ w g o e):∃is M S,EV w e is M S∧E7 w g o is M S:=by
 cases e with
 | none=>
  obtain⟨a,M,S,b,c,d,e,f,i⟩:=h
  exact⟨false,M,S,⟨rfl,fun v hv=>by simp at hv⟩,a,b,c,d,e,f,i⟩
 | some v=>
  obtain⟨b0,M,S,r3,r4,b1,b2,b3,b4,b5,b6⟩:=h.jE
  exact⟨true,M,S,⟨rfl,fun u hu=>by simp only[Option.some.injEq]at hu;subst hu;exact⟨r3,r4⟩⟩,b0,b1,b2,b3,b4,b5,b6⟩
def EB (w:World)(g:Nat)(is:Bool)(M S:Nw):Prop:=w.heap[g]? =some (.cells #[.bool is,.bool M.s,.slice M.a M.n M.c,.slice M.b M.m M.d,.bool S.s,.slice S.a S.n S.c,.slice S.b S.m S.d] 222 (0,0))
theorem EB.reads {w:World}{g:Nat}{is:Bool}{M S:Nw}(h:EB w g is M S):
  w.cell? ⟨g,0,none⟩=some (.bool is)∧w.cell? ⟨g,1,none⟩=some (.bool M.s)∧w.cell? ⟨g,2,none⟩=some (.slice M.a M.n M.c)∧w.cell? ⟨g,3,none⟩=some (.slice M.b M.m M.d)∧
   w.cell? ⟨g,4,none⟩=some (.bool S.s)∧w.cell? ⟨g,5,none⟩=some (.slice S.a S.n S.c)∧w.cell? ⟨g,6,none⟩=some (.slice S.b S.m S.d)∧∀i,w.frozen? ⟨g,i,none⟩=false:=by
 refine⟨?_,?_,?_,?_,?_,?_,?_,fun i=>?_⟩
 ·rw[cell_of_row w g 0 _ _ _ h];rfl
 ·rw[cell_of_row w g 1 _ _ _ h];rfl
 ·rw[cell_of_row w g 2 _ _ _ h];rfl
 ·rw[cell_of_row w g 3 _ _ _ h];rfl
 ·rw[cell_of_row w g 4 _ _ _ h];rfl
 ·rw[cell_of_row w g 5 _ _ _ h];rfl
 ·rw[cell_of_row w g 6 _ _ _ h];rfl
 unfold EB at h;simp[World.frozen?,h]
theorem EB.later {k g:Nat}{w w':World}{is:Bool}{M S:Nw}(h:EB w g is M S)(hb:Below k w w')(hg:g<k):EB w' g is M S:=(hb.block g hg).trans h
theorem EB.lt {w:World}{g:Nat}{is:Bool}{M S:Nw}(h:EB w g is M S):g<w.heap.size:=(Array.getElem?_eq_some_iff.1 h).1
theorem EB.aaF {w:World}{g:Nat}{Zb:Bool}{M0 S0:Nw}(h:EB w g Zb M0 S0)(is:Bool)(M S:Nw):
  EB (((((((w.setCell ⟨g,0,none⟩ (.bool is)).setCell ⟨g,1,none⟩ (.bool M.s)).setCell ⟨g,2,none⟩ (.slice M.a M.n M.c)).setCell ⟨g,3,none⟩ (.slice M.b M.m M.d)).setCell ⟨g,4,none⟩ (.bool S.s)).setCell ⟨g,5,none⟩ (.slice S.a S.n S.c)).setCell ⟨g,6,none⟩ (.slice S.b S.m S.d)) g is M S:=by have e1:=heap_setCell_same w g 0 _ _ (.bool is) h;simp only[List.setIfInBounds_toArray,List.set_cons_zero,List.set_cons_succ]at e1;have e2:=heap_setCell_same _ g 1 _ _ (.bool M.s) e1;simp only[List.setIfInBounds_toArray,List.set_cons_zero,List.set_cons_succ]at e2;have e3:=heap_setCell_same _ g 2 _ _ (.slice M.a M.n M.c) e2;simp only[List.setIfInBounds_toArray,List.set_cons_zero,List.set_cons_succ]at e3;have e4:=heap_setCell_same _ g 3 _ _ (.slice M.b M.m M.d) e3;simp only[List.setIfInBounds_toArray,List.set_cons_zero,List.set_cons_succ]at e4;have e5:=heap_setCell_same _ g 4 _ _ (.bool S.s) e4;simp only[List.setIfInBounds_toArray,List.set_cons_zero,List.set_cons_succ]at e5;have e6:=heap_setCell_same _ g 5 _ _ (.slice S.a S.n S.c) e5;simp only[List.setIfInBounds_toArray,List.set_cons_zero,List.set_cons_succ]at e6;have e9:=heap_setCell_same _ g 6 _ _ (.slice S.b S.m S.d) e6;simp only[List.setIfInBounds_toArray,List.set_cons_zero,List.set_cons_succ]at e9;exact e9
theorem wu {w0 w:World}{k g:Nat}(h:Below k w0 w)(hg:k≤g)(a b c d e f i:Value):
  Below k w0 (((((((w.setCell ⟨g,0,none⟩ a).setCell ⟨g,1,none⟩ b).setCell ⟨g,2,none⟩ c).setCell ⟨g,3,none⟩ d).setCell ⟨g,4,none⟩ e).setCell ⟨g,5,none⟩ f).setCell ⟨g,6,none⟩ i):=
 ((((((h.setCell hg _).setCell hg _).setCell hg _).setCell hg _).setCell hg _).setCell hg _).setCell hg _
theorem cZ {w0 w:World}{k g:Nat}(h:Below k w0 w)(hg:k≤g)(a b c d e f:Value):
  Below k w0 ((((((w.setCell ⟨g,0,none⟩ a).setCell ⟨g,1,none⟩ b).setCell ⟨g,2,none⟩ c).setCell ⟨g,3,none⟩ d).setCell ⟨g,4,none⟩ e).setCell ⟨g,5,none⟩ f):=
 (((((h.setCell hg _).setCell hg _).setCell hg _).setCell hg _).setCell hg _).setCell hg _
theorem VB.kL {w:World}{g:Nat}{M0 S0:Nw}(h:VB w g M0 S0)(M S:Nw):
  VB ((((((w.setCell ⟨g,0,none⟩ (.bool M.s)).setCell ⟨g,1,none⟩ (.slice M.a M.n M.c)).setCell ⟨g,2,none⟩ (.slice M.b M.m M.d)).setCell ⟨g,3,none⟩ (.bool S.s)).setCell ⟨g,4,none⟩ (.slice S.a S.n S.c)).setCell ⟨g,5,none⟩ (.slice S.b S.m S.d)) g M S:=by have e2:=heap_setCell_same w g 0 _ _ (.bool M.s) h;simp only[List.setIfInBounds_toArray,List.set_cons_zero,List.set_cons_succ]at e2;have e3:=heap_setCell_same _ g 1 _ _ (.slice M.a M.n M.c) e2;simp only[List.setIfInBounds_toArray,List.set_cons_zero,List.set_cons_succ]at e3;have e4:=heap_setCell_same _ g 2 _ _ (.slice M.b M.m M.d) e3;simp only[List.setIfInBounds_toArray,List.set_cons_zero,List.set_cons_succ]at e4;have e5:=heap_setCell_same _ g 3 _ _ (.bool S.s) e4;simp only[List.setIfInBounds_toArray,List.set_cons_zero,List.set_cons_succ]at e5;have e6:=heap_setCell_same _ g 4 _ _ (.slice S.a S.n S.c) e5;simp only[List.setIfInBounds_toArray,List.set_cons_zero,List.set_cons_succ]at e6;have e9:=heap_setCell_same _ g 5 _ _ (.slice S.b S.m S.d) e6;simp only[List.setIfInBounds_toArray,List.set_cons_zero,List.set_cons_succ]at e9;exact e9
theorem VB.jG {w:World}{g:Nat}{M0 S0:Nw}(h:VB w g M0 S0)(M S:Nw):
  aQ w ((((((w.setCell ⟨g,0,none⟩ (.bool M.s)).setCell ⟨g,1,none⟩ (.slice M.a M.n M.c)).setCell ⟨g,2,none⟩ (.slice M.b M.m M.d)).setCell ⟨g,3,none⟩ (.bool S.s)).setCell ⟨g,4,none⟩ (.slice S.a S.n S.c)).setCell ⟨g,5,none⟩ (.slice S.b S.m S.d)):=
 by have k:=h.limb (h.wr (M:=M) (S:=S));simpa[Nw.cs,World.setCells]using k
theorem EB.wr {w:World}{g:Nat}{Zb:Bool}{M0 S0:Nw}(h:EB w g Zb M0 S0)(is:Bool)(M S:Nw):Wr w (w.setCells g 0 (.bool is::(M.cs++S.cs))) g 0 (.bool is::(M.cs++S.cs)):=by
 obtain⟨a0,a1,a2,a3,a4,a5,a6,_⟩:=h.reads;refine dY w g _ _ fun j hj=>?_;have hj:j<7:=by simpa[Nw.cs]using hj
 rcases j with _ | _ | _ | _ | _ | _ | _ | j
 ·rw[Nat.add_zero,a0];rfl
 ·rw[show(0+(0+1):Nat)=1 from rfl,a1];rfl
 ·rw[show(0+(0+1+1):Nat)=2 from rfl,a2];rfl
 ·rw[show(0+(0+1+1+1):Nat)=3 from rfl,a3];rfl
 ·rw[show(0+(0+1+1+1+1):Nat)=4 from rfl,a4];rfl
 ·rw[show(0+(0+1+1+1+1+1):Nat)=5 from rfl,a5];rfl
 ·rw[show(0+(0+1+1+1+1+1+1):Nat)=6 from rfl,a6];rfl
 omega
theorem EB.limb {w w':World}{g:Nat}{Zb is:Bool}{M0 S0 M S:Nw}(h:EB w g Zb M0 S0)(hw:Wr w w' g 0 (.bool is::(M.cs++S.cs))):aQ w w':=by
 obtain⟨a0,a1,a2,a3,a4,a5,a6,_⟩:=h.reads;refine hw.limb fun j x hj=>?_;have hj:j<7:=by simpa[Nw.cs]using hj
 rcases j with _ | _ | _ | _ | _ | _ | _ | j
 ·rw[Nat.add_zero,a0];simp
 ·rw[show(0+(0+1):Nat)=1 from rfl,a1];simp
 ·rw[show(0+(0+1+1):Nat)=2 from rfl,a2];simp
 ·rw[show(0+(0+1+1+1):Nat)=3 from rfl,a3];simp
 ·rw[show(0+(0+1+1+1+1):Nat)=4 from rfl,a4];simp
 ·rw[show(0+(0+1+1+1+1+1):Nat)=5 from rfl,a5];simp
 ·rw[show(0+(0+1+1+1+1+1+1):Nat)=6 from rfl,a6];simp
 omega
theorem EB.Il {w:World}{g:Nat}{Zb:Bool}{M0 S0:Nw}(h:EB w g Zb M0 S0)(is:Bool)(M S:Nw):
  aQ w (((((((w.setCell ⟨g,0,none⟩ (.bool is)).setCell ⟨g,1,none⟩ (.bool M.s)).setCell ⟨g,2,none⟩ (.slice M.a M.n M.c)).setCell ⟨g,3,none⟩ (.slice M.b M.m M.d)).setCell ⟨g,4,none⟩ (.bool S.s)).setCell ⟨g,5,none⟩ (.slice S.a S.n S.c)).setCell ⟨g,6,none⟩ (.slice S.b S.m S.d)):=by have k:=h.limb (h.wr is M S);simpa[Nw.cs,World.setCells]using k
theorem NQ.wr {w:World}{g:Nat}{M0:Nw}(h:NQ w g M0)(M:Nw):Wr w (w.setCells g 0 M.cs) g 0 M.cs:=by
 obtain⟨a0,a1,a2,_⟩:=h.reads;refine dY w g _ _ fun j hj=>?_;have hj:j<3:=by simpa[Nw.cs]using hj
 rcases j with _ | _ | _ | j
 ·rw[Nat.add_zero,a0];rfl
 ·rw[show(0+(0+1):Nat)=1 from rfl,a1];rfl
 ·rw[show(0+(0+1+1):Nat)=2 from rfl,a2];rfl
 omega
theorem NQ.oH {w:World}{g:Nat}{M0:Nw}(h:NQ w g M0)(M:Nw):aQ w (((w.setCell ⟨g,0,none⟩ (.bool M.s)).setCell ⟨g,1,none⟩ (.slice M.a M.n M.c)).setCell ⟨g,2,none⟩ (.slice M.b M.m M.d)):=by
 have k:aQ w (w.setCells g 0 M.cs):=by
  obtain⟨a0,a1,a2,_⟩:=h.reads;refine(h.wr M).limb fun j x hj=>?_;have hj:j<3:=by simpa[Nw.cs]using hj
  rcases j with _ | _ | _ | j
  ·rw[Nat.add_zero,a0];simp
  ·rw[show(0+(0+1):Nat)=1 from rfl,a1];simp
  ·rw[show(0+(0+1+1):Nat)=2 from rfl,a2];simp
  omega
 simpa[Nw.cs,World.setCells]using k
theorem NQ.gy {w:World}{g:Nat}{M0:Nw}(h:NQ w g M0)(M:Nw):NQ (((w.setCell ⟨g,0,none⟩ (.bool M.s)).setCell ⟨g,1,none⟩ (.slice M.a M.n M.c)).setCell ⟨g,2,none⟩ (.slice M.b M.m M.d)) g M:=by have e1:=heap_setCell_same w g 0 _ _ (.bool M.s) h;simp only[List.setIfInBounds_toArray,List.set_cons_zero,List.set_cons_succ]at e1;have e2:=heap_setCell_same _ g 1 _ _ (.slice M.a M.n M.c) e1;simp only[List.setIfInBounds_toArray,List.set_cons_zero,List.set_cons_succ]at e2;have e9:=heap_setCell_same _ g 2 _ _ (.slice M.b M.m M.d) e2;simp only[List.setIfInBounds_toArray,List.set_cons_zero,List.set_cons_succ]at e9;exact e9
theorem iL {P:Pb}{g c i:Nat}{rs:Bool}(h:P.stop g c rs i=none):P.lW g c rs (i+1)=P.lW g c rs i:=by
 conv=>lhs;unfold Pb.lW
 rw[h]
theorem CX {P:Pb}{g c i:Nat}{rs:Bool}{far:V}(h:P.stop g c rs i=some far)(h0:P.lW g c rs i=none):P.lW g c rs (i+1)=some (far,some i):=by
 conv=>lhs;unfold Pb.lW
 rw[h,h0]
theorem yB {P:Pb}{g c i:Nat}{rs:Bool}{far l:V}{b:Option Nat}(h:P.stop g c rs i=some far)(h0:P.lW g c rs i=some (l,b)):P.lW g c rs (i+1)=if P.after i (jd far l) b then some (l,b)else some (far,some i):=by
 conv=>lhs;unfold Pb.lW
 rw[h,h0]
theorem qM {P:Pb}{g c i:Nat}{rs up:Bool}(hz:P.T i c≠0)(hg:i≠g)(hu:(decide (0<aV (P.T i c))==rs)=up):
  P.stop g c rs i=(if up then P.high (P.basic i)else P.low (P.basic i)).map fun e=>V.mul (1/dR (P.T i c)) (bJ e (P.now (P.basic i)) up):=by unfold Pb.stop;rw[if_neg (by intro h;rcases h with h | h;exact hz h;exact hg h)];dsimp only;rw[hu];split<;>rename_i e<;>rw[e]<;>rfl
def Bl.Pb.Py (P:Pb)(c:Nat)(b:V):Option Nat→Pb
 | none=>P.mv c b
 | some r=>(P.mv c b).pivot r c
theorem Io (P:Pb)(g c:Nat):P.rz g c=(P.lW g c (P.rising g c) P.m).map fun x=>P.Py c (if P.rising g c then x.1 else V.sub ⟨0,0⟩ x.1) x.2:=by unfold Pb.rz;rfl
theorem nS {P:Pb}{g c i:Nat}{rs:Bool}(h:P.T i c=0∨i=g):P.stop g c rs i=none:=by unfold Pb.stop;rw[if_pos h]
theorem aaG {w:World}{g k:Nat}(hk:k≠g)(a b c d e f:Value):(((((((w.setCell ⟨g,0,none⟩ a).setCell ⟨g,1,none⟩ b).setCell ⟨g,2,none⟩ c).setCell ⟨g,3,none⟩ d).setCell ⟨g,4,none⟩ e).setCell ⟨g,5,none⟩ f)).heap[k]? =w.heap[k]?:=
 heap_setCells_other hk [a,b,c,d,e,f] 0 w
end Go.Proofs.YtijdglogadnbcaaGreat
namespace Go.Proofs.YtijdglogadnbcaaGreat.Bl
def cd (b:Nat):Nat→(Nat→Nat)→Nat
 | 0,_=>0
 | n+1,f=>cd b n f+f n*b^n
theorem CY {b:Nat}:∀{n:Nat} {f:Nat→Nat},(∀j,j<n→f j<b)→cd b n f<b^n
 | 0,_,_=>by simp[cd]
 | n+1,f,h=>by have ih:=CY (n:=n) (f:=f) fun j hj=>h j (by omega);have h2:=h n (by omega);show cd b n f+f n*b^n<b^(n+1);have:(f n+1)*b^n≤b*b^n:=Nat.mul_le_mul_right _ h2;rw[Nat.add_mul,Nat.one_mul]at this;rw[Nat.pow_succ,Nat.mul_comm (b^n) b];omega
theorem FV {b:Nat}:∀{n:Nat} {f g:Nat→Nat},(∀j,j<n→f j<b)→(∀j,j<n→g j<b)→cd b n f=cd b n g→∀j,j<n→f j=g j
 | 0,_,_,_,_,_,j,hj=>by omega
 | n+1,f,g,hf,hg,e,j,hj=>by
  have lf:=CY (n:=n) (f:=f) fun j hj=>hf j (by omega);have lg:=CY (n:=n) (f:=g) fun j hj=>hg j (by omega);have e:cd b n f+f n*b^n=cd b n g+g n*b^n:=e;have e1:f n=g n:=by
   have:=congrArg (fun x=>x/b^n) e;have p:0<b^n:=by omega
   rwa[Nat.add_mul_div_right _ _ p,Nat.add_mul_div_right _ _ p,Nat.div_eq_of_lt lf,Nat.div_eq_of_lt lg,Nat.zero_add,Nat.zero_add]at this
  rw[e1]at e;have e2:cd b n f=cd b n g:=by omega
  by_cases q:j=n
  ·rw[q];exact e1
  exact FV (fun j hj=>hf j (by omega)) (fun j hj=>hg j (by omega)) e2 j (by omega)
def C9 (b p j:Nat):Nat:=p/b^j%b
theorem FW (b p:Nat):∀n,cd b n (C9 b p)=p%b^n
 | 0=>by simp[cd,Nat.mod_one]
 | n+1=>by show cd b n (C9 b p)+C9 b p n*b^n=_;rw[FW b p n,Nat.mod_pow_succ,Nat.mul_comm];rfl
theorem FX:∀(K M:Nat) (f:Nat→Nat),(∀i,i<M→f i<K)→K<M→∃i j,i<j∧j<M∧f i=f j
 | 0,M,f,h,hm=>by have:=h 0 hm;omega
 | K+1,M,f,h,hm=>by
  obtain⟨M',rfl⟩:∃M',M=M'+1:=⟨M-1,by omega⟩;by_cases e:∃i,i<M'∧f i=f M'
  ·obtain⟨i,hi,hf⟩:=e;exact⟨i,M',hi,by omega,hf⟩
  have ne:∀i,i<M'→f i≠f M':=fun i hi hf=>e ⟨i,hi,hf⟩;obtain⟨i,j,hij,hj,hf⟩:=FX K M' (fun i=>if f i=K then f M' else f i) (fun i hi=>by show(if f i=K then f M' else f i)<K;have h1:=h i (by omega);have h2:=h M' (by omega);have h3:=ne i hi;split<;>omega) (by omega)
  have n1:=ne i (by omega);have n2:=ne j hj;refine⟨i,j,hij,by omega,?_⟩;split at hf<;>split at hf<;>omega
def si:Nat→(Nat→Int)→Int
 | 0,_=>0
 | n+1,f=>si n f+f n
def nrm:Nat→(Nat→Int)→Nat
 | 0,_=>0
 | n+1,f=>nrm n f+(f n).natAbs
theorem wB {c x:Nat→Int}{H:Nat}:∀{n:Nat},(∀j,j<n→(x j).natAbs≤H)→(si n fun j=>c j*x j).natAbs≤nrm n c*H
 | 0,_=>by simp[si]
 | n+1,h=>by have ih:=wB (c:=c) (x:=x) (n:=n) fun j hj=>h j (by omega);have h2:=h n (by omega);show((si n fun j=>c j*x j)+c n*x n).natAbs≤(nrm n c+(c n).natAbs)*H;have a:=Int.natAbs_add_le (si n fun j=>c j*x j) (c n*x n);rw[Int.natAbs_mul]at a;have b:=Nat.mul_le_mul_left (c n).natAbs h2;rw[Nat.add_mul];omega
theorem Pz (c x y:Nat→Int):∀n,(si n fun j=>c j*(x j-y j))=(si n fun j=>c j*x j)-si n fun j=>c j*y j
 | 0=>by simp[si]
 | n+1=>by show(si n fun j=>c j*(x j-y j))+c n*(x n-y n)=((si n fun j=>c j*x j)+c n*x n)-((si n fun j=>c j*y j)+c n*y n);rw[Pz c x y n,Int.mul_sub];omega
theorem Dc (M R H:Nat)(hR:1≤R)(hH:H=(2*R)^M):(2*R*H+1)^M<(H+1)^(M+1):=by
 have h1:2*R*H+1≤2*R*(H+1):=by rw[Nat.mul_add];omega
 have h2:=Nat.pow_le_pow_left h1 M;rw[Nat.mul_pow,←hH]at h2;have h3:(H+1)^(M+1)=H*(H+1)^M+(H+1)^M:=by rw[Nat.pow_succ,Nat.mul_comm,Nat.add_mul,Nat.one_mul]
 have h4:0<(H+1)^M:=Nat.pow_pos (by omega);omega
theorem PE (M R:Nat)(hR:1≤R)(c:Nat→Nat→Int)(hc:∀e,e<M→nrm (M+1) (c e)≤R):
  ∃x:Nat→Int,(∃j,j<M+1∧x j≠0)∧(∀j,j<M+1→(x j).natAbs≤(2*R)^M)∧∀e,e<M→(si (M+1) fun j=>c e j*x j)=0:=by
 obtain⟨H,hH⟩:∃H,H=(2*R)^M:=⟨_,rfl⟩;have room:=Dc M R H hR hH;rw[←hH];have dl:∀p j,C9 (H+1) p j≤H:=fun p j=>by have:=Nat.mod_lt (p/(H+1)^j) (show 0<H+1 by omega);unfold C9;omega
 have lb:∀p e,e<M→(si (M+1) fun j=>c e j*((C9 (H+1) p j:Nat):Int)).natAbs≤R*H:=fun p e he=>by
  have:=wB (c:=c e) (x:=fun j=>((C9 (H+1) p j:Nat):Int)) (H:=H) (n:=M+1) fun j _=>by simpa using dl p j
  exact Nat.le_trans this (Nat.mul_le_mul_right _ (hc e he))
 have vb:∀p e,e<M→((si (M+1) fun j=>c e j*((C9 (H+1) p j:Nat):Int))+((R*H:Nat):Int)).toNat<2*R*H+1:=fun p e he=>by have:=lb p e he;rw[Nat.mul_assoc];omega
 obtain⟨p,p',hlt,hM,hf⟩:=FX ((2*R*H+1)^M) ((H+1)^(M+1)) (fun p=>cd (2*R*H+1) M fun e=>((si (M+1) fun j=>c e j*((C9 (H+1) p j:Nat):Int))+((R*H:Nat):Int)).toNat)
  (fun p _=>CY fun e he=>vb p e he) room
 have same:=FV (fun e he=>vb p e he) (fun e he=>vb p' e he) hf;refine⟨fun j=>((C9 (H+1) p' j:Nat):Int)-((C9 (H+1) p j:Nat):Int),?_,fun j _=>?_,fun e he=>?_⟩
 ·refine Classical.byContradiction fun hn=>?_;have al:∀j,j<M+1→C9 (H+1) p' j=C9 (H+1) p j:=fun j hj=>Classical.byContradiction fun q=>hn ⟨j,hj,by show _-_≠(0:Int);omega⟩;have e1:=FW (H+1) p (M+1);have e2:=FW (H+1) p' (M+1);rw[Nat.mod_eq_of_lt (by omega)]at e1 e2;have cg:∀n,n≤M+1→cd (H+1) n (C9 (H+1) p')=cd (H+1) n (C9 (H+1) p):=by
   intro n;induction n with
   | zero=>intro _;rfl
   | succ n ih=>intro hn;show _+_*_=_+_*_;rw[ih (by omega),al n (by omega)]
  rw[cg (M+1) (Nat.le_refl _)]at e2;omega
 ·have h1:=dl p j;have h2:=dl p' j;show(((C9 (H+1) p' j:Nat):Int)-((C9 (H+1) p j:Nat):Int)).natAbs≤H;omega
 have s:=same e he;have l1:=lb p e he;have l2:=lb p' e he;rw[Pz (c e)];omega
theorem cast_mul (a b:Int):((a*b:Int):Rat)=(a:Rat)*(b:Rat):=Rat.intCast_mul a b
theorem cast_add (a b:Int):((a+b:Int):Rat)=(a:Rat)+(b:Rat):=Rat.intCast_add a b
theorem Ip (c x:Nat→Int):∀n,(sm n fun j=>(c j:Rat)*(x j:Rat))=((si n fun j=>c j*x j:Int):Rat)
 | 0=>by simp[sm,si]
 | n+1=>by show(sm n fun j=>(c j:Rat)*(x j:Rat))+(c n:Rat)*(x n:Rat)=(((si n fun j=>c j*x j)+c n*x n:Int):Rat);rw[Ip c x n,cast_add,cast_mul]
def Fr (x:Rat)(B:Nat):Prop:=∃p q:Int,q≠0∧x*(q:Rat)=(p:Rat)∧p.natAbs≤B∧q.natAbs≤B
theorem Fr.bound {x:Rat}{B:Nat}(h:Fr x B):x.num.natAbs≤B∧x.den≤B:=by
 obtain⟨p,q,hq,e,hp,hqb⟩:=h;have e2:x.num*q=p*(x.den:Int):=by
  have d0:(x.den:Rat)≠0:=by have:=x.den_nz;exact_mod_cast this
  have nx:x*(x.den:Rat)=(x.num:Rat):=by have h:=Rat.num_divInt_den x;rw[Rat.divInt_eq_div]at h;have k:=Rat.div_mul_cancel (a:=(x.num:Rat)) d0;rw[show(((x.den:Nat):Int):Rat)=(x.den:Rat) from rfl]at h;rwa[h]at k
  have:((x.num*q:Int):Rat)=((p*(x.den:Int):Int):Rat):=by rw[cast_mul,cast_mul,←nx,←e];show x*(x.den:Rat)*(q:Rat)=x*(q:Rat)*(((x.den:Nat):Int):Rat);rw[show(((x.den:Nat):Int):Rat)=(x.den:Rat) from rfl];grind
  exact_mod_cast this
 have e3:x.num.natAbs*q.natAbs=p.natAbs*x.den:=by have:=congrArg Int.natAbs e2;rwa[Int.natAbs_mul,Int.natAbs_mul,Int.natAbs_natCast]at this
 have cp:=x.reduced;have d1:x.den∣q.natAbs:=(Nat.Coprime.symm cp).dvd_of_dvd_mul_left ⟨p.natAbs,by rw[e3,Nat.mul_comm]⟩;have q0:0<q.natAbs:=by omega
 refine⟨?_,Nat.le_trans (Nat.le_of_dvd q0 d1) hqb⟩;by_cases p0:p.natAbs=0
 ·rw[p0,Nat.zero_mul]at e3;rcases Nat.mul_eq_zero.1 e3 with h | h
  ·omega
  omega
 have d2:x.num.natAbs∣p.natAbs:=cp.dvd_of_dvd_mul_right ⟨q.natAbs,e3.symm⟩;exact Nat.le_trans (Nat.le_of_dvd (by omega) d2) hp
structure Xb (P Q:Pb):Prop where
 n:Q.n=P.n
 m:Q.m=P.m
 low:Q.low=P.low
 high:Q.high=P.high
 tw:∀y,Q.TW y↔P.TW y
theorem Xb.refl (P:Pb):Xb P P:=⟨rfl,rfl,rfl,rfl,fun _=>Iff.rfl⟩
structure Fm (P:Pb)(R:Nat)(D:Nat→Nat)(a:Nat→Nat→Int):Prop where
 r1:1≤R
 d1:∀v,v<P.n+P.m→1≤D v∧D v≤R
 nr:∀v,v<P.n+P.m→nrm P.n (a v)≤R
 fm:∃f:Nat→Nat,(∀j,j<P.n→f j<P.n+P.m)∧(∀y,P.TW y→∀v,v<P.n+P.m→(D v:Rat)*y v=sm P.n fun j=>(a v j:Rat)*y (f j))∧∀x:Nat→Rat,∃y,P.TW y∧∀j,j<P.n→y (f j)=x j
 ends:∀v e,v<P.n+P.m→(P.low v=some e∨P.high v=some e)→∃bm bs:Int,(D v:Rat)*e.m=(bm:Rat)∧(D v:Rat)*e.s=(bs:Rat)∧nrm P.n (a v)+bm.natAbs≤R∧nrm P.n (a v)+bs.natAbs≤R
theorem Iq {Q:Pb}(hp:Q.Pl){y:Nat→Rat}(ht:Q.TW y)(h0:∀k,k<Q.n→y (Q.free k)=0):∀v,v<Q.n+Q.m→y v=0:=by
 intro v hv;rcases hp.cover v hv with⟨i,hi,rfl⟩ | ⟨k,hk,rfl⟩
 ·rw[ht i hi];exact jY fun k hk=>by rw[h0 k hk];grind
 exact h0 k hk
theorem Fm.small {P:Pb}{R:Nat}{D:Nat→Nat}{a:Nat→Nat→Int}(h:Fm P R D a){f:Nat→Nat}(hf:∀y,P.TW y→∀v,v<P.n+P.m→(D v:Rat)*y v=sm P.n fun j=>(a v j:Rat)*y (f j)){x:Nat→Int}{y:Nat→Rat}{H:Nat}(ht:P.TW y)(hy:∀j,j<P.n→y (f j)=(x j:Rat))(hx:∀j,j<P.n→(x j).natAbs≤H){v:Nat}(hv:v<P.n+P.m):
  ∃z:Int,(D v:Rat)*y v=(z:Rat)∧z=(si P.n fun j=>a v j*x j)∧z.natAbs≤R*H:=by refine⟨_,?_,rfl,Nat.le_trans (wB hx) (Nat.mul_le_mul_right _ (h.nr v hv))⟩;rw[hf y ht v hv,←Ip];exact dw fun j hj=>by rw[hy j hj]
theorem Fm.tab {P Q:Pb}{R:Nat}{D:Nat→Nat}{a:Nat→Nat→Int}(h:Fm P R D a)(q:Xb P Q)(hp:Q.Pl){i k:Nat}(hi:i<P.m)(hk:k<P.n):Fr (Q.T i k) (R*(2*R)^P.n*R):=by
 obtain⟨M,hM⟩:∃M,P.n=M+1:=⟨P.n-1,by omega⟩;have en:=q.n;have em:=q.m;have fl:∀k',k'<P.n→Q.free k'<P.n+P.m:=fun k' hk'=>by rw[←en,←em];exact hp.flt k' (by omega)
 have bl:Q.basic i<P.n+P.m:=by rw[←en,←em];exact hp.blt i (by omega)
 have ix:∀e,e<M→(if e<k then e else e+1)<P.n:=fun e he=>by split<;>omega
 obtain⟨x,⟨j0,hj0,hx0⟩,hxb,hxe⟩:=PE M R h.r1 (fun e=>a (Q.free (if e<k then e else e+1))) fun e he=>by rw[←hM];exact h.nr _ (fl _ (ix e he))
 rw[←hM]at hj0 hxb hxe;obtain⟨f,ff,hf,mkx⟩:=h.fm;obtain⟨y,ty,hy⟩:=mkx fun j=>(x j:Rat);have tq:=(q.tw y).2 ty;have others:∀k',k'<P.n→k'≠k→y (Q.free k')=0:=fun k' hk' hne=>by
  obtain⟨z,hz,ez,_⟩:=h.small hf ty hy hxb (fl k' hk');have ze:z=0:=by
   rw[ez];by_cases l:k'<k
   ·have:=hxe k' (by omega);simp only[if_pos l]at this;exact this
   have:=hxe (k'-1) (by omega);rw[if_neg (show ¬k'-1<k by omega),show k'-1+1=k' from by omega]at this;exact this
  rw[ze]at hz;have d:=(h.d1 _ (fl k' hk')).1;have d0:(D (Q.free k'):Rat)≠0:=fun e=>by have:D (Q.free k')=0:=(by exact_mod_cast e);omega
  have:(D (Q.free k'):Rat)*y (Q.free k')=0:=by simpa using hz
  rcases Rat.mul_eq_zero.1 this with e | e
  ·exact absurd e d0
  exact e
 have nz:y (Q.free k)≠0:=fun e=>by
  have:=Iq hp tq (fun k' hk'=>by
   by_cases c:k'=k
   ·rw[c];exact e
   exact others k' (by omega) c) (f j0) (by have:=ff j0 hj0;omega)
  rw[hy j0 hj0]at this;exact hx0 (by exact_mod_cast this)
 have row:y (Q.basic i)=Q.T i k*y (Q.free k):=by rw[tq i (by omega),en];exact lK (f:=fun k'=>Q.T i k'*y (Q.free k')) hk fun k' hk' hne=>by rw[others k' hk' hne];grind
 obtain⟨zb,hzb,_,lzb⟩:=h.small hf ty hy hxb bl;obtain⟨zf,hzf,_,lzf⟩:=h.small hf ty hy hxb (fl k hk);have db:=h.d1 _ bl;have df:=h.d1 _ (fl k hk);have df0:(D (Q.free k):Rat)≠0:=fun e=>by have:D (Q.free k)=0:=(by exact_mod_cast e);omega
 have zf0:zf≠0:=fun e=>by
  rw[e]at hzf;have:(D (Q.free k):Rat)*y (Q.free k)=0:=by simpa using hzf
  rcases Rat.mul_eq_zero.1 this with e | e
  ·exact df0 e
  exact nz e
 have mono:(2*R)^M≤(2*R)^P.n:=Nat.pow_le_pow_right (by have:=h.r1;omega) (by omega);have b1:∀z:Int,∀d:Nat,z.natAbs≤R*(2*R)^M→d≤R→(z*(d:Int)).natAbs≤R*(2*R)^P.n*R:=fun z d hz hd=>by rw[Int.natAbs_mul,Int.natAbs_natCast];exact Nat.mul_le_mul (Nat.le_trans hz (Nat.mul_le_mul_left _ mono)) hd
 refine⟨zb*(D (Q.free k):Int),zf*(D (Q.basic i):Int),?_,?_,b1 _ _ lzb df.2,b1 _ _ lzf db.2⟩
 ·intro e;rcases Int.mul_eq_zero.1 e with e | e
  ·exact zf0 e
  omega
 rw[cast_mul,cast_mul,←hzb,←hzf];show Q.T i k*((D (Q.free k):Rat)*y (Q.free k)*(D (Q.basic i):Rat))=(D (Q.basic i):Rat)*y (Q.basic i)*(D (Q.free k):Rat);rw[row];grind
theorem U9 {Q:Pb}{y u:Nat→Rat}(hy:Q.TW y)(hu:Q.TW u)(t:Rat):Q.TW fun v=>y v-t*u v:=by
 intro i hi;show y (Q.basic i)-t*u (Q.basic i)=_;rw[hy i hi,hu i hi];have e:∀k,Q.T i k*(y (Q.free k)-t*u (Q.free k))=Q.T i k*y (Q.free k)+(-t)*(Q.T i k*u (Q.free k)):=fun k=>by grind
 rw[show(sm Q.n fun k=>Q.T i k*(y (Q.free k)-t*u (Q.free k)))=sm Q.n fun k=>Q.T i k*y (Q.free k)+(-t)*(Q.T i k*u (Q.free k)) from dw fun k _=>e k,rU,rV];grind
theorem Fm.part {P Q:Pb}{R:Nat}{D:Nat→Nat}{a:Nat→Nat→Int}(h:Fm P R D a)(q:Xb P Q)(hp:Q.Pl){u:Nat→Rat}(tu:Q.TW u)
  (hb:∀k,k<P.n→∃b:Int,(D (Q.free k):Rat)*u (Q.free k)=(b:Rat)∧nrm P.n (a (Q.free k))+b.natAbs≤R){v:Nat}(hv:v<P.n+P.m):Fr (u v) (R*(2*R)^P.n*R):=by
 have en:=q.n;have em:=q.m;have fl:∀k',k'<P.n→Q.free k'<P.n+P.m:=fun k' hk'=>by rw[←en,←em];exact hp.flt k' (by omega)
 obtain⟨b,hb⟩:∃b:Nat→Int,∀k,k<P.n→(D (Q.free k):Rat)*u (Q.free k)=(b k:Rat)∧nrm P.n (a (Q.free k))+(b k).natAbs≤R:=
  ⟨fun k=>if hk:k<P.n then(hb k hk).choose else 0,fun k hk=>by simp only[dif_pos hk];exact(hb k hk).choose_spec⟩
 have nc:∀(f g:Nat→Int) (n:Nat),(∀j,j<n→f j=g j)→nrm n f=nrm n g:=by
  intro f g n;induction n with
  | zero=>intro _;rfl
  | succ n ih=>intro hh;show _+_=_+_;rw[ih fun j hj=>hh j (by omega),hh n (by omega)]
 have sc:∀(f g:Nat→Int) (n:Nat),(∀j,j<n→f j=g j)→si n f=si n g:=by
  intro f g n;induction n with
  | zero=>intro _;rfl
  | succ n ih=>intro hh;show _+_=_+_;rw[ih fun j hj=>hh j (by omega),hh n (by omega)]
 obtain⟨x,⟨j0,hj0,hx0⟩,hxb,hxe⟩:=PE P.n R h.r1 (fun e j=>if j<P.n then a (Q.free e) j else-b e) fun e he=>by show nrm P.n _+_≤R;rw[nc _ (a (Q.free e)) P.n fun j hj=>if_pos hj];simp only[Nat.lt_irrefl,if_false,Int.natAbs_neg];exact(hb e he).2
 obtain⟨f,ff,hf,mkx⟩:=h.fm;obtain⟨y,ty,hy⟩:=mkx fun j=>(x j:Rat);have tq:=(q.tw y).2 ty;have aaH:∀j,j<P.n→(x j).natAbs≤(2*R)^P.n:=fun j hj=>hxb j (by omega);obtain⟨t,ht⟩:∃t,x P.n=t:=⟨_,rfl⟩;have eqs:∀k,k<P.n→y (Q.free k)=(t:Rat)*u (Q.free k):=fun k hk=>by
  obtain⟨z,hz,ez,_⟩:=h.small hf ty hy aaH (fl k hk);have:=hxe k hk;have this:(si P.n fun j=>(if j<P.n then a (Q.free k) j else-b k)*x j)+(if P.n<P.n then a (Q.free k) P.n else-b k)*x P.n=0:=this;rw[sc _ (fun j=>a (Q.free k) j*x j) P.n fun j hj=>by rw[if_pos hj],←ez,ht]at this;simp only[Nat.lt_irrefl,if_false]at this;have zt:z=b k*t:=by rw[Int.neg_mul]at this;omega
  have d:=(h.d1 _ (fl k hk)).1;have d0:(D (Q.free k):Rat)≠0:=fun e=>by have:D (Q.free k)=0:=(by exact_mod_cast e);omega
  rw[zt,cast_mul,←(hb k hk).1]at hz;have:(D (Q.free k):Rat)*(y (Q.free k)-(t:Rat)*u (Q.free k))=0:=by grind
  rcases Rat.mul_eq_zero.1 this with e | e
  ·exact absurd e d0
  grind
 have all:∀v,v<P.n+P.m→y v-(t:Rat)*u v=0:=fun v hv=>by exact Iq (y:=fun v=>y v-(t:Rat)*u v) hp (U9 tq tu _) (fun k hk=>by rw[eqs k (by omega)];exact Rat.sub_self) v (by omega)
 have t0:t≠0:=fun e=>by
  subst e;by_cases c:j0=P.n
  ·rw[c]at hx0;exact hx0 ht
  have:=all (f j0) (ff j0 (by omega));rw[hy j0 (by omega)]at this;have:(x j0:Rat)=0:=by simp at this;grind
  exact hx0 (by exact_mod_cast this)
 obtain⟨z,hz,ez,lz⟩:=h.small hf ty hy aaH hv;have d:=h.d1 _ hv;have tb:t.natAbs≤(2*R)^P.n:=by rw[←ht];exact hxb _ (by omega)
 refine⟨z,t*(D v:Int),?_,?_,Nat.le_trans lz (Nat.le_mul_of_pos_right _ h.r1),?_⟩
 ·intro e;rcases Int.mul_eq_zero.1 e with e | e
  ·exact t0 e
  omega
 ·rw[cast_mul,←hz];have:=all v hv;show u v*((t:Rat)*(D v:Rat))=_;have e:y v=(t:Rat)*u v:=by grind
  rw[e];grind
 rw[Int.natAbs_mul,Int.natAbs_natCast];refine Nat.mul_le_mul (Nat.le_trans tb (Nat.le_mul_of_pos_left _ h.r1)) d.2
def Pb.Ends (P:Pb):Prop:=∀k,k<P.n→P.low (P.free k)=some (P.now (P.free k))∨P.high (P.free k)=some (P.now (P.free k))∨P.now (P.free k)=⟨0,0⟩
theorem Fm.now {P Q:Pb}{R:Nat}{D:Nat→Nat}{a:Nat→Nat→Int}(h:Fm P R D a)(q:Xb P Q)(hp:Q.Pl)(tv:Q.TV Q.now)(he:Q.Ends){v:Nat}(hv:v<P.n+P.m):Fr (Q.now v).m (R*(2*R)^P.n*R)∧Fr (Q.now v).s (R*(2*R)^P.n*R):=by
 have fl:∀k',k'<P.n→Q.free k'<P.n+P.m:=fun k' hk'=>by rw[←q.n,←q.m];exact hp.flt k' (by rw[q.n];exact hk')
 have en:∀k,k<P.n→∃bm bs:Int,(D (Q.free k):Rat)*(Q.now (Q.free k)).m=(bm:Rat)∧(D (Q.free k):Rat)*(Q.now (Q.free k)).s=(bs:Rat)∧nrm P.n (a (Q.free k))+bm.natAbs≤R∧nrm P.n (a (Q.free k))+bs.natAbs≤R:=fun k hk=>by
  rcases he k (by rw[q.n];exact hk)with e | e | e
  ·exact h.ends _ _ (fl k hk) (Or.inl (by rw[←q.low];exact e))
  ·exact h.ends _ _ (fl k hk) (Or.inr (by rw[←q.high];exact e))
  rw[e];exact⟨0,0,by simp,by simp,by simpa using h.nr _ (fl k hk),by simpa using h.nr _ (fl k hk)⟩
 exact⟨h.part (u:=fun v=>(Q.now v).m) q hp tv.1 (fun k hk=>by obtain⟨bm,bs,e1,e2,e3,e4⟩:=en k hk;exact⟨bm,e1,e3⟩) hv,
  h.part (u:=fun v=>(Q.now v).s) q hp tv.2 (fun k hk=>by obtain⟨bm,bs,e1,e2,e3,e4⟩:=en k hk;exact⟨bs,e2,e4⟩) hv⟩
end Go.Proofs.YtijdglogadnbcaaGreat.Bl
namespace Go.Proofs.YtijdglogadnbcaaGreat.Bl
open Go.RowKit Nt
def Pb.own (P:Pb)(c:Nat)(rs:Bool):Option V:=(if rs then P.high (P.free c)else P.low (P.free c)).map fun e=>bJ e (P.now (P.free c)) rs
def Pb.RzI (P:Pb)(g c:Nat)(rs:Bool)(i:Nat):Option (V×Option Nat)→Prop
 | none=>P.own c rs=none∧∀k,k<i→P.stop g c rs k=none
 | some (l,b)=>(∀d,P.own c rs=some d→l.le d)∧(∀k d,k<i→P.stop g c rs k=some d→l.le d)∧
   match b with
   | none=>P.own c rs=some l
   | some r=>r<i∧P.stop g c rs r=some l∧∀k,k<i→P.stop g c rs k=some l→P.basic r≤P.basic k
theorem Pb.rZ (P:Pb)(g c:Nat)(rs:Bool):∀i,P.RzI g c rs i (P.lW g c rs i)
 | 0=>by
  unfold Pb.lW
  cases e:(if rs then P.high (P.free c)else P.low (P.free c))with
  | none=>exact⟨by unfold Pb.own;rw[e];rfl,fun k hk=>by omega⟩
  | some u=>
   have o:P.own c rs=some (bJ u (P.now (P.free c)) rs):=by unfold Pb.own;rw[e];rfl
   exact⟨fun d hd=>by rw[o]at hd;cases hd;exact V.le_refl _,fun k d hk=>by omega,o⟩
 | i+1=>by
  have ih:=P.rZ g c rs i
  cases hs:P.stop g c rs i with
  | none=>
   rw[iL hs]
   cases hx:P.lW g c rs i with
   | none=>
    rw[hx]at ih
    exact⟨ih.1,fun k hk=>by
     rcases Nat.lt_succ_iff_lt_or_eq.1 hk with q | q
     ·exact ih.2 k q
     ·subst q;exact hs⟩
   | some x=>
    obtain⟨l,b⟩:=x
    rw[hx]at ih
    obtain⟨a1,a2,a3⟩:=ih
    refine⟨a1,fun k d hk hd=>?_,?_⟩
    ·rcases Nat.lt_succ_iff_lt_or_eq.1 hk with q | q
     ·exact a2 k d q hd
     ·subst q;rw[hs]at hd;simp at hd
    ·cases b with
     | none=>exact a3
     | some r=>
      refine⟨by have:=a3.1;omega,a3.2.1,fun k hk hd=>?_⟩
      rcases Nat.lt_succ_iff_lt_or_eq.1 hk with q | q
      ·exact a3.2.2 k q hd
      ·subst q;rw[hs]at hd;simp at hd
  | some far=>
   cases hx:P.lW g c rs i with
   | none=>
    rw[CX hs hx]
    rw[hx]at ih
    refine⟨fun d hd=>by rw[ih.1]at hd;simp at hd,fun k d hk hd=>?_,by omega,hs,fun k hk hd=>?_⟩
    ·rcases Nat.lt_succ_iff_lt_or_eq.1 hk with q | q
     ·rw[ih.2 k q]at hd;simp at hd
     ·subst q;rw[hs]at hd;cases hd;exact V.le_refl _
    ·rcases Nat.lt_succ_iff_lt_or_eq.1 hk with q | q
     ·rw[ih.2 k q]at hd;simp at hd
     ·subst q;exact Nat.le_refl _
   | some x=>
    obtain⟨l,b⟩:=x
    rw[yB hs hx]
    rw[hx]at ih
    obtain⟨a1,a2,a3⟩:=ih
    cases FY:P.after i (jd far l) b with
    | true=>
     simp only[if_true]
     have lf:l.le far:=by
      refine V.not_lt.1 fun k=>?_
      have neg:=qH.2 k
      cases b with
      | none=>simp only[Pb.after,Bool.or_eq_true,decide_eq_true_iff,beq_iff_eq]at FY;omega
      | some r=>simp only[Pb.after,Bool.or_eq_true,Bool.and_eq_true,decide_eq_true_iff,beq_iff_eq]at FY;omega
     refine⟨a1,fun k d hk hd=>?_,?_⟩
     ·rcases Nat.lt_succ_iff_lt_or_eq.1 hk with q | q
      ·exact a2 k d q hd
      ·subst q;rw[hs]at hd;cases hd;exact lf
     ·cases b with
      | none=>exact a3
      | some r=>
       refine⟨by have:=a3.1;omega,a3.2.1,fun k hk hd=>?_⟩
       rcases Nat.lt_succ_iff_lt_or_eq.1 hk with q | q
       ·exact a3.2.2 k q hd
       ·subst q
        rw[hs]at hd
        cases hd
        simp only[Pb.after,Bool.or_eq_true,Bool.and_eq_true,decide_eq_true_iff,beq_iff_eq]at FY
        rcases FY with h | h
        ·exact absurd (nN.1 h) (V.lt_irrefl _)
        ·omega
    | false=>
     simp only[Bool.false_eq_true,if_false]
     have fl:far.le l:=by
      refine V.not_lt.1 fun k=>?_
      have pos:=nN.2 k
      cases b with
      | none=>simp only[Pb.after,Bool.or_eq_false_iff,decide_eq_false_iff_not]at FY;omega
      | some r=>simp only[Pb.after,Bool.or_eq_false_iff,decide_eq_false_iff_not]at FY;omega
     refine⟨fun d hd=>V.le_trans fl (a1 d hd),fun k d hk hd=>?_,by omega,hs,fun k hk hd=>?_⟩
     ·rcases Nat.lt_succ_iff_lt_or_eq.1 hk with q | q
      ·exact V.le_trans fl (a2 k d q hd)
      ·subst q;rw[hs]at hd;cases hd;exact V.le_refl _
     ·rcases Nat.lt_succ_iff_lt_or_eq.1 hk with q | q
      ·have e:far=l:=V.le_antisymm fl (a2 k far q hd)
       subst e
       cases b with
       | none=>
        simp only[Pb.after,Bool.or_eq_false_iff,decide_eq_false_iff_not,beq_eq_false_iff_ne]at FY
        have:jd far far=0:=by
         have h1:¬jd far far<0:=fun h=>V.lt_irrefl _ (qH.1 h)
         have h2:¬ 0<jd far far:=fun h=>V.lt_irrefl _ (nN.1 h)
         omega
        exact absurd this FY.2
       | some r=>
        have:=a3.2.2 k q hd
        have z:jd far far=0:=by
         have h1:¬jd far far<0:=fun h=>V.lt_irrefl _ (qH.1 h)
         have h2:¬ 0<jd far far:=fun h=>V.lt_irrefl _ (nN.1 h)
         omega
        rw[z]at FY
        simp[Pb.after]at FY
        omega
      ·subst q;exact Nat.le_refl _
structure Top (P0:Pb)(g:Nat)(P:Pb):Prop where
 kin:Xb P0 P
 ok:P.Ok
 all:∀v,v<P.n+P.m→yu P.low P.high v (P.now v)
 en:P.Ends
 gm:g<P.m
 bg:P.basic g=P.n+P.m-1
 gl:P.low (P.n+P.m-1)=none
 gh:P.high (P.n+P.m-1)=none
def sg (rs:Bool):Rat:=if rs then 1 else-1
theorem aaI (rs:Bool):sg rs*sg rs=1:=by cases rs<;>simp[sg]<;>grind
theorem aaJ (rs:Bool)(l:V):(if rs then l else V.sub ⟨0,0⟩ l)=V.mul (sg rs) l:=by
 cases rs with
 | true=>simp[sg,V.mul]
 | false=>simp[sg,V.mul,V.sub];constructor<;>grind
def V.pos (a:V):Prop:=(⟨0,0⟩:V).le a
theorem uq {q:Rat}:q.num<0↔q<0:=by
 have:= @Rat.num_nonneg q;constructor<;>intro h
 ·have k:¬ 0≤q:=fun k=>by have:=this.2 k;omega
  grind
 have k:¬ 0≤q.num:=fun k=>by have:=this.1 k;grind
 omega
theorem jH {q:Rat}(h:q≠0):0<dR q:=by
 unfold dR;split
 ·rename_i k;have:=uq.1 k;grind
 rename_i k;have:¬q<0:=fun e=>k (uq.2 e);grind
theorem way {q:Rat}(h:q≠0)(rs:Bool):q*sg rs=dR q*sg (decide (0<aV q)==rs):=by
 have e:decide (0<aV q)=decide (0<q):=by rw[decide_eq_decide];exact dZ
 rw[e];have n:= @uq q;by_cases p:0<q
 ·have:¬q.num<0:=fun k=>by have:=n.1 k;grind
  unfold dR;rw[if_neg this]
  cases rs<;>simp[sg,p]
 have:q.num<0:=n.2 (by grind);unfold dR;rw[if_pos this]
 cases rs<;>simp[sg,p]<;>grind
theorem PO (e a:V)(up:Bool):bJ e a up=V.mul (sg up) (e.sub a):=by
 cases up with
 | true=>simp[bJ,sg,V.mul,V.sub]
 | false=>simp[bJ,sg,V.mul,V.sub];constructor<;>grind
theorem Ir {lo hi:Option V}{x d:V}{up:Bool}(h1:∀l,lo=some l→l.le x)(h2:∀h,hi=some h→x.le h)(dp:d.pos)(hd:∀e,(if up then hi else lo)=some e→d.le (bJ e x up)):
  (∀l,lo=some l→l.le (x.add (V.mul (sg up) d)))∧∀h,hi=some h→(x.add (V.mul (sg up) d)).le h:=by
 cases up with
 | true=>
  simp only[if_true]at hd
  refine⟨fun l hl=>?_,fun h hh=>?_⟩
  ·have:=h1 l hl;unfold V.pos V.le at*;unfold V.add V.mul sg;simp only[if_true];grind
  ·have:=hd h hh;unfold V.le bJ V.sub at this;unfold V.le V.add V.mul sg;simp only[if_true]at*;grind
 | false=>
  simp only[Bool.false_eq_true,if_false]at hd
  refine⟨fun l hl=>?_,fun h hh=>?_⟩
  ·have:=hd l hl;unfold V.le bJ V.sub at this;unfold V.le V.add V.mul sg;simp only[Bool.false_eq_true,if_false]at*;grind
  ·have:=h2 h hh;unfold V.pos V.le at*;unfold V.add V.mul sg;simp only[Bool.false_eq_true,if_false];grind
end Go.Proofs.YtijdglogadnbcaaGreat.Bl
