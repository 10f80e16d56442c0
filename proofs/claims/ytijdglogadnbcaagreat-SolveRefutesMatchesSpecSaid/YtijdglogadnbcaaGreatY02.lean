/- slices.Clone of limbs, nat.plus, nat.Add, nat.Sub. -/
import Derived.Test.YtijdglogadnbcaaGreatY01
import Derived.Deep.RegionHeld3
set_option linter.unusedVariables false
set_option linter.unusedSimpArgs false
set_option maxRecDepth 100000
set_option maxHeartbeats 40000000
namespace Go.Proofs.YtijdglogadnbcaaGreat
open Go.Proofs.Tryz
open Go.RowKit Nt
theorem Bj {l:List Nat}(h:Lm l):gV l=l.take (gV l).length:=by
 induction l with
 | nil=>unfold gV;rw[show vl []=0 from rfl,aA];rfl
 | cons x l ih=>
  have h2:Lm l:=fun y hy=>h y (List.mem_cons_of_mem _ hy)
  rw[mJ (h x List.mem_cons_self)]
  split
  ·rfl
  ·rw[List.length_cons,List.take_succ_cons,←ih h2]
theorem vC {l:List Nat}(h:Lm l):(gV l).length≤l.length:=by have:=congrArg List.length (Bj h);rw[List.length_take]at this;omega
theorem bW.trim {w:World}{l:List Nat}{a:Option Addr}{n c:Nat}(h:bW w l a n c):bW w (aC (vl l)) a (gV l).length c:=by
 have e:=Bj h.lm;have le:=vC h.lm;refine⟨fun hne=>?_,rfl,?_,h.cap,bD _⟩
 ·have hl:l≠[]:=by intro q;apply hne;rw[q];exact aA
  obtain⟨b,o,rfl,d⟩:=h.at_ hl;refine⟨b,o,rfl,fun i hi=>?_⟩;have hi:i<(gV l).length:=hi;rw[d i (by omega)];show _=some (Value.int .u32 (((gV l).getD i 0:Nat):Int));rw[e];simp only[List.getD_eq_getElem?_getD,List.getElem?_take,if_pos hi]
 have:=h.len;have:=h.le;omega
theorem iw {w:World}{l:List Nat}{a:Option Addr}{n c:Nat}(h:bW w l a n c):
  Calls prog 141 #[.slice a n c] w fun e w'=>e= .returned (.slice a (gV l).length c)∧w=w':=
 Oa h.at_ h.len h.le h.cap h.lm
def iy (w:World)(x:Nat)(e:Ending)(w':World):Prop:=∃a n c,e= .returned (.slice a n c)∧bW w' (aC x) a n c∧Below w.heap.size w w'
def WM (w:World)(g:Nat)(la lb:List Nat)(n:Nat)(c k:Value)(wr:World):Prop:=
 ∃(j:Nat) (ds:List Nat) (cc:Nat),j≤n∧k= .int .i64 (j:Int)∧c= .int .u64 (cc:Int)∧iF la lb j ds cc∧UB wr g (ds++(la++[0]).drop j)∧Below w.heap.size w wr
theorem set_mid {ds l:List Nat}{j v:Nat}(h:ds.length=j)(hl:j<l.length):(ds++l.drop j).set j v=(ds++[v])++l.drop (j+1):=by subst h;rw[List.set_append_right _ _ (Nat.le_refl _),Nat.sub_self,List.drop_eq_getElem_cons hl,List.set_cons_zero,List.append_assoc];rfl
theorem jD {ds l:List Nat}{j:Nat}(h:ds.length=j)(hl:j<l.length):(ds++l.drop j).getD j 0=l.getD j 0:=by subst h;rw[List.getD_eq_getElem?_getD,List.getElem?_append_right (Nat.le_refl _),Nat.sub_self,List.getElem?_drop,Nat.add_zero,←List.getD_eq_getElem?_getD]
theorem vF (l:List Nat)(j:Nat):(l++[0]).getD j 0=l.getD j 0:=by
 simp only[List.getD_eq_getElem?_getD];by_cases h:j<l.length
 ·rw[List.getElem?_append_left h]
 rw[List.getElem?_append_right (by omega),List.getElem?_eq_none (l:=l) (by omega)];by_cases e:j-l.length=0
 ·rw[e];rfl
 rw[List.getElem?_eq_none (by simp;omega)]
theorem sU (la:List Nat):splice (dU (List.replicate (la.length+1) 0)) 0 (dU la)=dU (la++[0]):=by unfold splice dU;simp
theorem EJ:(prog.info? 111).map (·.size)=some 1:=by kernel_rfl
theorem qx (l:List Nat):∀v∈dU l,v.oneCell'=true:=by intro v hv;obtain⟨x,_,rfl⟩:=List.mem_map.1 hv;rfl
theorem below_grown {w w1:World}(h:w.grownBy w1 none):Below w.heap.size w w1:=⟨h.os,h.tape,h.output,h.size,fun k hk=>h.block k hk (by simp)⟩
theorem jX {w1:World}{g n:Nat}(h:w1.ownsRow 0 111 1 (.slice (some ⟨g,0,none⟩) n n) n (madeCells (Value.int .u32 0).cells (n*1)).toList):UB w1 g (List.replicate n 0):=by rw[Oh]at h;exact UB.YE (c:=0) h
theorem bW.src {w:World}{l:List Nat}{a:Option Addr}{n c:Nat}(h:bW w l a n c){w1:World}(hb:Below w.heap.size w w1)(h0:0<(dU l).length):
  ∃ad,a=some ad∧∀j v,(dU l)[j]? =some v→w1.cell? (ad.add j)=some v:=by
 rw[bG]at h0;obtain⟨b0,o0,rfl,d⟩:=h.at_ (by intro e;rw[e]at h0;simp at h0);refine⟨_,rfl,fun j v hj=>?_⟩;have hj2:j<l.length:=by have:=(List.getElem?_eq_some_iff.1 hj).1;rwa[bG]at this
 rw[qw l hj2]at hj;rw[Addr.add_lit,←hj];exact aj hb (d j hj2)
theorem WM.step {w wr:World}{g n j cc s:Nat}{la lb ds:List Nat}(hla:Lm la)(hlb:Lm lb)(hn:(la++[0]).length=n)(hj:j<n)(I:iF la lb j ds cc)(U:UB wr g (ds++(la++[0]).drop j))(B:Below w.heap.size w wr)(hg:w.heap.size≤g)(hs:s=cc+la.getD j 0+lb.getD j 0):
  WM w g la lb n (.int .u64 ((s:Int)/4294967296)) (.int .i64 ((j:Int)+1)) (wr.setCell ⟨g,j,none⟩ (.int .u32 ((s:Int)%4294967296))):=by refine⟨j+1,ds++[s%4294967296],s/4294967296,by omega,by go_num,by go_num,by rw[hs];exact I.step hla hlb,?_,B.setCell hg _⟩;have:=U.set j (s%4294967296);rw[set_mid I.len (by omega)]at this;rw[show((s:Int)%4294967296)=((s%4294967296:Nat):Int) from by omega];exact this
theorem iy.fG {w wr:World}{l:List Nat}{a:Option Addr}{n c x:Nat}(h:bW wr l a n c)(hb:Below w.heap.size w wr)(hx:vl l=x):iy w x (.returned (.slice a (gV l).length c)) wr:=
 ⟨a,_,c,rfl,by rw[←hx];exact h.trim,hb⟩
theorem Us {w:World}{la lb:List Nat}{a b:Option Addr}{na nb ca cb:Nat}(ha:bW w la a na ca)(hb:bW w lb b nb cb)(hge:¬na<nb)(hsz:na≤1099511627776)(oh:nb≤1099511627776):
  Calls prog 189 #[.slice a na ca,.slice b nb cb] w (iy w (vl la+vl lb)):=by
 have A:=hid ha;have B:=hid hb;clear ha hb;obtain⟨i0,hi0,hz0,hz1,hz2⟩:=info_parts jr;have abZ:(nb:Int)≤(na:Int):=by omega
 go_enter func189,ntmps189;go_wp2_with (first
  | (at_make;refine wpList_make_full _ rfl _ _ 23 rfl 0 111 i0 (.int .u32 0) 1 underlying23 hi0 hz0 hz1 .i64 .i64 _ _ (na+1) rfl rfl (by omega) (by omega) (by rw[hz2];omega) (by unfold maxLen;omega) (Nat.zero_le _) ?_;intro w1 hown1 hg1;have U1:=hid (jX hown1);have B1:=hid (below_grown hg1);clear hown1 hg1)
  | (refine wpList_copy_splice (o:=⟨some 21,_,_,_,_,_⟩) rfl (.tmp 19) (.tmp 20) 23 23 rfl 111 underlying23 EJ (some ⟨w.heap.size,0,none⟩) a (na+1) (na+1) na ca rfl rfl w.heap.size 0 (dU (List.replicate (na+1) 0)) 111 U1.out (dU la) (by rw[bG,A.out.len];exact(Nat.min_eq_left (by omega)).symm) (fun h0=>⟨rfl,A.out.src B1.out h0⟩) (by rw[bG,bG,List.length_replicate,A.out.len];omega) (qx la) w.heap.size w B1.out (Nat.le_refl _) ?_;intro w2 HG2 hb2;have B2:=hid hb2;clear hb2))
 have U2:Hid (UB w2 w.heap.size (la++[0])):=by show UB _ _ _;have:=HG2.out;rw[←A.out.len,sU]at this;exact this
 clear HG2 U1 B1;have hlen:Hid ((la++[0]).length=na+1):=by show _=_;rw[List.length_append,A.out.len];rfl
 go_loopw [6,24] (fun c k wr=>WM w w.heap.size la lb (na+1) c k wr) (fun _ k _=>na+1-(intOf k).toNat)
 case atStart=>exact⟨0,[],0,Nat.zero_le _,rfl,rfl,iF.nil la lb,U2.out,B2.out⟩
 obtain⟨j,ds,cc,hj,rfl,rfl,hI,hU,hB⟩:=hrel;have I:=hid hI;have U:=hid hU;have BR:=hid hB;clear hI hU hB;by_cases hlt:j<na+1
 ·have p1:=U.out.cell (i:=j) (by rw[List.length_append,I.out.len,List.length_drop,hlen.out];omega);rw[jD I.out.len (by rw[hlen.out];exact hlt),vF]at p1;have f1:=U.out.free j;obtain⟨x,hx⟩:∃x,la.getD j 0=x:=⟨_,rfl⟩;obtain⟨y,hy⟩:∃y,lb.getD j 0=y:=⟨_,rfl⟩;have xb:x<4294967296:=by rw[←hx];exact ak A.out.lm j
  have yb:y<4294967296:=by rw[←hy];exact ak B.out.lm j
  have cb:=I.out.c1;rw[hx]at p1;have HX:=hid hx;have HY:=hid hy;clear hx hy;by_cases hjb:j<nb
  ·obtain⟨b2,o2,rfl,d2⟩:=B.out.at_ (by intro e;have:=B.out.len;rw[e]at this;simp at this;omega);have p2:=aj BR.out (d2 j (by rw[B.out.len];exact hjb));rw[HY.out]at p2;clear d2;go_wp2_with fail;go_roundw
   case rel=>rw[show(cc:Int)+(x:Int)+(y:Int)=((cc+x+y:Nat):Int) from by omega];exact WM.step A.out.lm B.out.lm hlen.out hlt I.out U.out BR.out (Nat.le_refl _) (by rw[HX.out,HY.out])
   simp[intOf];omega
  have Y0:Hid (y=0):=by show _=_;rw[←HY.out,List.getD_eq_getElem?_getD,List.getElem?_eq_none (by rw[B.out.len];omega)];rfl
  have hjb2:(nb:Int)≤(j:Int):=by omega
  go_wp2_with fail;go_roundw
  case rel=>rw[show(cc:Int)+(x:Int)=((cc+x:Nat):Int) from by omega];exact WM.step A.out.lm B.out.lm hlen.out hlt I.out U.out BR.out (Nat.le_refl _) (by rw[HX.out,HY.out,Y0.out,Nat.add_zero])
  simp[intOf];omega
 obtain rfl:j=na+1:=by omega
 have D:Hid (ds++(la++[0]).drop (na+1)=ds):=by show _=_;rw[List.drop_of_length_le (by rw[hlen.out];exact Nat.le_refl _),List.append_nil]
 have L:Hid (bW wr ds (some ⟨w.heap.size,0,none⟩) (na+1) (na+1)):=⟨(D.out▸U.out).at_,I.out.len,Nat.le_refl _,by omega,I.out.lm⟩;have V:Hid (vl ds=vl la+vl lb):=by show _=_;have:=(I.out.done (by rw[A.out.len];omega) (by rw[B.out.len];omega) (by rw[←A.out.len];exact Bf A.out.lm B.out.lm (by rw[A.out.len,B.out.len];omega))).2;exact this
 go_wp2_with (go_at_call 141;refine(iw L.out).mono ?_;rintro e w' ⟨rfl,rfl⟩);go_ret;exact iy.fG L.out BR.out V.out
theorem Ut {w:World}{la lb:List Nat}{a b:Option Addr}{na nb ca cb:Nat}(ha:bW w la a na ca)(hb:bW w lb b nb cb)(hge:na<nb)(hsz:na≤1099511627776)(oh:nb≤1099511627776):
  Calls prog 189 #[.slice a na ca,.slice b nb cb] w (iy w (vl la+vl lb)):=by
 have A:=hid ha;have B:=hid hb;clear ha hb;obtain⟨i0,hi0,hz0,hz1,hz2⟩:=info_parts jr;have abZ:(na:Int)<(nb:Int):=by omega
 go_enter func189,ntmps189;go_wp2_with (first
  | (at_make;refine wpList_make_full _ rfl _ _ 23 rfl 0 111 i0 (.int .u32 0) 1 underlying23 hi0 hz0 hz1 .i64 .i64 _ _ (nb+1) rfl rfl (by omega) (by omega) (by rw[hz2];omega) (by unfold maxLen;omega) (Nat.zero_le _) ?_;intro w1 hown1 hg1;have U1:=hid (jX hown1);have B1:=hid (below_grown hg1);clear hown1 hg1)
  | (refine wpList_copy_splice (o:=⟨some 21,_,_,_,_,_⟩) rfl (.tmp 19) (.tmp 20) 23 23 rfl 111 underlying23 EJ (some ⟨w.heap.size,0,none⟩) b (nb+1) (nb+1) nb cb rfl rfl w.heap.size 0 (dU (List.replicate (nb+1) 0)) 111 U1.out (dU lb) (by rw[bG,B.out.len];exact(Nat.min_eq_left (by omega)).symm) (fun h0=>⟨rfl,B.out.src B1.out h0⟩) (by rw[bG,bG,List.length_replicate,B.out.len];omega) (qx lb) w.heap.size w B1.out (Nat.le_refl _) ?_;intro w2 HG2 hb2;have B2:=hid hb2;clear hb2))
 have U2:Hid (UB w2 w.heap.size (lb++[0])):=by show UB _ _ _;have:=HG2.out;rw[←B.out.len,sU]at this;exact this
 clear HG2 U1 B1;have hlen:Hid ((lb++[0]).length=nb+1):=by show _=_;rw[List.length_append,B.out.len];rfl
 go_loopw [6,24] (fun c k wr=>WM w w.heap.size lb la (nb+1) c k wr) (fun _ k _=>nb+1-(intOf k).toNat)
 case atStart=>exact⟨0,[],0,Nat.zero_le _,rfl,rfl,iF.nil lb la,U2.out,B2.out⟩
 obtain⟨j,ds,cc,hj,rfl,rfl,hI,hU,hB⟩:=hrel;have I:=hid hI;have U:=hid hU;have BR:=hid hB;clear hI hU hB;by_cases hlt:j<nb+1
 ·have p1:=U.out.cell (i:=j) (by rw[List.length_append,I.out.len,List.length_drop,hlen.out];omega);rw[jD I.out.len (by rw[hlen.out];exact hlt),vF]at p1;have f1:=U.out.free j;obtain⟨x,hx⟩:∃x,lb.getD j 0=x:=⟨_,rfl⟩;obtain⟨y,hy⟩:∃y,la.getD j 0=y:=⟨_,rfl⟩;have xb:x<4294967296:=by rw[←hx];exact ak B.out.lm j
  have yb:y<4294967296:=by rw[←hy];exact ak A.out.lm j
  have cb:=I.out.c1;rw[hx]at p1;have HX:=hid hx;have HY:=hid hy;clear hx hy;by_cases hjb:j<na
  ·obtain⟨b2,o2,rfl,d2⟩:=A.out.at_ (by intro e;have:=A.out.len;rw[e]at this;simp at this;omega);have p2:=aj BR.out (d2 j (by rw[A.out.len];exact hjb));rw[HY.out]at p2;clear d2;go_wp2_with fail;go_roundw
   case rel=>rw[show(cc:Int)+(x:Int)+(y:Int)=((cc+x+y:Nat):Int) from by omega];exact WM.step B.out.lm A.out.lm hlen.out hlt I.out U.out BR.out (Nat.le_refl _) (by rw[HX.out,HY.out])
   simp[intOf];omega
  have Y0:Hid (y=0):=by show _=_;rw[←HY.out,List.getD_eq_getElem?_getD,List.getElem?_eq_none (by rw[A.out.len];omega)];rfl
  have hjb2:(na:Int)≤(j:Int):=by omega
  go_wp2_with fail;go_roundw
  case rel=>rw[show(cc:Int)+(x:Int)=((cc+x:Nat):Int) from by omega];exact WM.step B.out.lm A.out.lm hlen.out hlt I.out U.out BR.out (Nat.le_refl _) (by rw[HX.out,HY.out,Y0.out,Nat.add_zero])
  simp[intOf];omega
 obtain rfl:j=nb+1:=by omega
 have D:Hid (ds++(lb++[0]).drop (nb+1)=ds):=by show _=_;rw[List.drop_of_length_le (by rw[hlen.out];exact Nat.le_refl _),List.append_nil]
 have L:Hid (bW wr ds (some ⟨w.heap.size,0,none⟩) (nb+1) (nb+1)):=⟨(D.out▸U.out).at_,I.out.len,Nat.le_refl _,by omega,I.out.lm⟩;have V:Hid (vl ds=vl la+vl lb):=by show _=_;have:=(I.out.done (by rw[B.out.len];omega) (by rw[A.out.len];omega) (by rw[←B.out.len];exact Bf B.out.lm A.out.lm (by rw[B.out.len,A.out.len];omega))).2;rw[Nat.add_comm];exact this
 go_wp2_with (go_at_call 141;refine(iw L.out).mono ?_;rintro e w' ⟨rfl,rfl⟩);go_ret;exact iy.fG L.out BR.out V.out
theorem Bo {w:World}{la lb:List Nat}{a b:Option Addr}{na nb ca cb:Nat}(ha:bW w la a na ca)(hb:bW w lb b nb cb)(hsz:na≤1099511627776)(oh:nb≤1099511627776):
  Calls prog 189 #[.slice a na ca,.slice b nb cb] w (iy w (vl la+vl lb)):=by
 by_cases h:na<nb
 ·exact Ut ha hb h hsz oh
 exact Us ha hb h hsz oh
def MuO (w:World)(g:Nat)(la lb:List Nat)(na n:Nat)(i:Value)(wr:World):Prop:=
 ∃(k:Nat) (out:List Nat),k≤na∧i= .int .i64 (k:Int)∧eG la lb n k 0 out 0∧UB wr g out∧Below w.heap.size w wr
def MuN (w:World)(g:Nat)(la lb:List Nat)(n i nb:Nat)(c k:Value)(wr:World):Prop:=
 ∃(j cc:Nat) (out:List Nat),j≤nb∧k= .int .i64 (j:Int)∧c= .int .u64 (cc:Int)∧eG la lb n i j out cc∧UB wr g out∧Below w.heap.size w wr
theorem MuN.step {w wr:World}{g n i j nb cc s:Nat}{la lb out:List Nat}(hla:Lm la)(hlb:Lm lb)(hn:lb.length=nb)(hj:j<nb)(hin:i+j<n)(M:eG la lb n i j out cc)(U:UB wr g out)(B:Below w.heap.size w wr)(hg:w.heap.size≤g)
  (hs:s=cc+la.getD i 0*lb.getD j 0+out.getD (i+j) 0):
  MuN w g la lb n i nb (.int .u64 ((s:Int)/4294967296)) (.int .i64 ((j:Int)+1)) (wr.setCell ⟨g,i+j,none⟩ (.int .u32 ((s:Int)%4294967296))):=by refine⟨j+1,s/4294967296,out.set (i+j) (s%4294967296),by omega,by go_num,by go_num,by rw[hs];exact M.step hla hlb (by omega) hin,?_,B.setCell hg _⟩;have:=U.set (i+j) (s%4294967296);rw[show((s:Int)%4294967296)=((s%4294967296:Nat):Int) from by omega];exact this
theorem mul_any {w:World}{la lb:List Nat}{a b:Option Addr}{na nb ca cb:Nat}(ha:bW w la a na ca)(hb:bW w lb b nb cb)(hsz:na≤1099511627776)(oh:nb≤1099511627776):
  Calls prog 99 #[.slice a na ca,.slice b nb cb] w (iy w (vl la*vl lb)):=by
 have A:=hid ha;have B:=hid hb;have hcb:=hb.cap;have hlb:=hb.le;have hca:=ha.cap;have Le:=ha.le;clear ha hb;obtain⟨i0,hi0,hz0,hz1,hz2⟩:=info_parts jr;go_enter func99,ntmps99;go_wp2_with (at_make;refine wpList_make_full _ rfl _ _ 23 rfl 0 111 i0 (.int .u32 0) 1 underlying23 hi0 hz0 hz1 .i64 .i64 _ _ (na+nb) rfl rfl (by omega) (by omega) (by rw[hz2];omega) (by unfold maxLen;omega) (Nat.zero_le _) ?_;intro w1 hown1 hg1;have U1:=hid (jX hown1);have B1:=hid (below_grown hg1);clear hown1 hg1);go_loopw [19] (fun i wr=>MuO w w.heap.size la lb na (na+nb) i wr) (fun i _=>na-(intOf i).toNat)
 case atStart=>exact⟨0,_,Nat.zero_le _,rfl,eG.nil,U1.out,B1.out⟩
 obtain⟨i,out,hi,rfl,hM,hU,hB⟩:=hrel;have M:=hid hM;have U:=hid hU;have BR:=hid hB;clear hM hU hB;by_cases hlt:i<na
 ·obtain⟨b1,o1,rfl,d1⟩:=A.out.at_ (by intro e;have:=A.out.len;rw[e]at this;simp at this;omega);have p1:=aj BR.out (d1 i (by rw[A.out.len];exact hlt));clear d1;obtain⟨x,hx⟩:∃x,la.getD i 0=x:=⟨_,rfl⟩;have xb:x<4294967296:=by rw[←hx];exact ak A.out.lm i
  rw[hx]at p1;have HX:=hid hx;clear hx;obtain⟨wo,rfl⟩:∃wo:World,wo=wr:=⟨_,rfl⟩;go_wp2_with fail;go_loopw [8,26] (fun c k wr=>MuN w w.heap.size la lb (na+nb) i nb c k wr) (fun _ k _=>nb-(intOf k).toNat)
  case atStart=>exact⟨0,0,out,Nat.zero_le _,rfl,rfl,M.out,U.out,BR.out⟩
  obtain⟨j,cc,tJ,hj,rfl,rfl,hM2,Lh,hB2⟩:=hrel;have M2:=hid hM2;have U2:=hid Lh;have B2:=hid hB2;have c1:=hM2.c1;clear hM2 Lh hB2;by_cases hjb:j<nb
  ·obtain⟨b2,o2,rfl,d2⟩:=B.out.at_ (by intro e;have:=B.out.len;rw[e]at this;simp at this;omega);have p2:=aj B2.out (d2 j (by rw[B.out.len];exact hjb));clear d2;have p3:=U2.out.cell (i:=i+j) (by rw[M2.out.len];omega);have f3:=U2.out.free (i+j);obtain⟨y,hy⟩:∃y,lb.getD j 0=y:=⟨_,rfl⟩;obtain⟨z,hz⟩:∃z,tJ.getD (i+j) 0=z:=⟨_,rfl⟩;have yb:y<4294967296:=by rw[←hy];exact ak B.out.lm j
   have zb:z<4294967296:=by rw[←hz];exact ak M2.out.lm (i+j)
   rw[hy]at p2;rw[hz]at p3;have HY:=hid hy;have HZ:=hid hz;clear hy hz;have cp:=(nG xb yb zb c1).1;go_wp2_with fail;go_roundw
   case rel=>rw[show(cc:Int)+((x:Int)*(y:Int)+(z:Int))=((cc+x*y+z:Nat):Int) from by rw[Int.natCast_add,Int.natCast_add,Int.natCast_mul,Int.add_assoc]];exact MuN.step A.out.lm B.out.lm B.out.len hjb (by omega) M2.out U2.out B2.out (Nat.le_refl _) (by rw[HX.out,HY.out,HZ.out])
   simp[intOf];omega
  obtain rfl:j=nb:=by omega
  have p3:=U2.out.cell (i:=i+j) (by rw[M2.out.len];omega);have f3:=U2.out.free (i+j);go_wp2_with fail;go_roundw
  case rel=>exact⟨i+1,tJ.set (i+j) cc,by omega,by go_num,by have:=M2.out;rw[←B.out.len]at this⊢;exact this.next (by omega),U2.out.set (i+j) cc,B2.out.setCell (Nat.le_refl _) _⟩
  simp[intOf];omega
 obtain rfl:i=na:=by omega
 have L:Hid (bW wr out (some ⟨w.heap.size,0,none⟩) (i+nb) (i+nb)):=⟨U.out.at_,M.out.len,Nat.le_refl _,by omega,M.out.lm⟩;have V:Hid (vl out=vl la*vl lb):=by have:=M.out;rw[←A.out.len]at this;exact this.done
 go_wp2_with (go_at_call 141;refine(iw L.out).mono ?_;rintro e w' ⟨rfl,rfl⟩);go_ret;exact iy.fG L.out BR.out V.out
def UO (w:World)(g:Nat)(l:List Nat):Prop:=∃rest:List Value,w.heap[g]? =some (.cells (dU l++rest).toArray 111 (0,0))
theorem UO.cell {w:World}{g:Nat}{l:List Nat}(h:UO w g l){i:Nat}(hi:i<l.length):w.cell? ⟨g,i,none⟩=some (.int .u32 ((l.getD i 0:Nat):Int)):=by obtain⟨r,h⟩:=h;rw[cell_of_row w g i _ _ _ h,List.getElem?_toArray,List.getElem?_append_left (by rw[bG];exact hi)];exact qw l hi
theorem UO.free {w:World}{g:Nat}{l:List Nat}(h:UO w g l)(i:Nat):w.frozen? ⟨g,i,none⟩=false:=by obtain⟨r,h⟩:=h;simp[World.frozen?,h]
theorem UO.set {w:World}{g:Nat}{l:List Nat}(h:UO w g l){i:Nat}(hi:i<l.length)(x:Nat):UO (w.setCell ⟨g,i,none⟩ (.int .u32 ((x:Nat):Int))) g (l.set i x):=by
 obtain⟨r,h⟩:=h;refine⟨r,?_⟩;rw[heap_setCell_same w g i _ _ _ h];have:(dU l++r).set i (.int .u32 (x:Int))=dU (l.set i x)++r:=by rw[List.set_append_left _ _ (by rw[bG];exact hi)];simp[dU,List.map_set]
 simp[this]
theorem UO.at_ {w:World}{g:Nat}{l:List Nat}(h:UO w g l):EI w l (some ⟨g,0,none⟩):=fun _=>⟨g,0,rfl,fun i hi=>by rw[Nat.zero_add];exact h.cell hi⟩
def EM (w:World)(l:List Nat)(n:Nat)(e:Ending)(w':World):Prop:=
 ∃a c,e= .returned (.slice a n c)∧bW w' l a n c∧Below w.heap.size w w'∧(0<n→∃g,a=some ⟨g,0,none⟩∧w.heap.size≤g∧UO w' g l)
theorem EO (w:World)(c:Nat):Calls prog 124 #[.slice none 0 c] w (EM w [] 0):=by have he:=fun(w:World)=>Lib.run_eql_slice_nil (P:=prog) w 23 111 none 0 c 0 0 underlying23;go_enter func124,ntmps124;go_wp2_with fail;go_ret;exact⟨none,0,rfl,⟨fun h=>absurd rfl h,rfl,Nat.le_refl _,by omega,fun x hx=>by simp at hx⟩,Below.refl _ _,fun h=>by omega⟩
theorem JB (w:World):(w.alloc (.cells #[] 111)).ownsRow w.heap.size 111 1 (.slice (some ⟨w.heap.size,0,none⟩) 0 0) 0 []:=
 World.ownsRow_made w #[] 0 (Nat.le_refl _) (by unfold maxLen;omega) rfl
theorem JC {w:World}{b g n c:Nat}{l:List Nat}(hl:l.length=n)(h:w.ownsRow b 111 1 (.slice (some ⟨g,0,none⟩) n c) n (dU l)):UO w g l∧b≤g∧n≤c∧c≤9223372036854775807:=by
 rcases h.2 with⟨q,_⟩ | ⟨g',cap,cur,q,hb,hg,hc,hm,hs,ht⟩
 ·simp at q
 simp only[Value.slice.injEq,Option.some.injEq,Addr.mk.injEq]at q;obtain⟨⟨rfl,_,_⟩,_,rfl⟩:=q;refine⟨⟨cur.toList.drop n,?_⟩,hb,hc,hm⟩;rw[hg];congr 2;rw[Nat.mul_one]at ht;rw[←ht,List.take_append_drop]
theorem ET {w:World}{l:List Nat}{ad:Addr}{n c:Nat}(h:bW w l (some ad) n c)(hsz:n≤1099511627776):Calls prog 124 #[.slice (some ad) n c] w (EM w l n):=by
 have H:=hid h;clear h;have B0:Hid (Below w.heap.size w (w.alloc (.cells #[] 111))):=(Below.refl _ _).alloc (Nat.le_refl _) _;have NW:Hid (∀j v,(dU l)[j]? =some v→(w.alloc (.cells #[] 111)).cell? (ad.add j)=some v):=by
  intro j v hj;have h0:0<(dU l).length:=by have:=(List.getElem?_eq_some_iff.1 hj).1;omega
  obtain⟨ad',e,f⟩:=H.out.src B0.out h0;obtain rfl:=Option.some.inj e;exact f j v hj
 obtain⟨i0,hi0,hz0,hz1,hz2⟩:=info_parts jr;have he:=fun(w:World)=>Lib.run_eql_slice_nil (P:=prog) w 23 111 (some ad) n c 0 0 underlying23;go_enter func124,ntmps124;go_wp2_with (at_builtin;refine wpList_append_own _ rfl _ _ 23 rfl w.heap.size 111 i0 (.int .u32 0) 1 4 underlying23 hi0 hz0 hz1 hz2 rfl (by omega) (.slice (some ⟨w.heap.size,0,none⟩) 0 0) 0 [] rfl (JB w) ad n c (dU l) rfl (by rw[bG,H.out.len,Nat.mul_one]) NW.out (qx l) (by unfold maxLen;omega) (by omega) (by simp) ?_;intro v' w1 hown1 hgrow1 hnil1;have OW:=hid hown1;simp only[Nat.zero_add,List.nil_append]at OW;have GR:=hid hgrow1;have NI:=hid hnil1;clear hown1 hgrow1 hnil1);go_ret;obtain⟨g,cap,rfl⟩:∃g cap,v'= .slice (some ⟨g,0,none⟩) n cap:=by
  rcases OW.out.2 with⟨h1,h2⟩ | ⟨g,cap,cur,h1,h2,h3,_⟩
  ·have:=NI.out.1 h1;simp at this
  exact⟨g,cap,h1⟩
 obtain⟨U,hg,hc,hm⟩:=JC H.out.len OW.out;refine⟨some ⟨g,0,none⟩,cap,rfl,⟨U.at_,H.out.len,hc,hm,H.out.lm⟩,?_,fun _=>⟨g,rfl,hg,U⟩⟩;refine⟨GR.out.os,GR.out.tape,GR.out.output,Nat.le_trans (by simp) GR.out.size,fun k hk=>?_⟩;rw[GR.out.block k (by simp;omega) (by simp[Value.ownBlock];omega)];exact Below.heap_alloc w _ k hk
theorem clone_any {w:World}{l:List Nat}{a:Option Addr}{n c:Nat}(h:bW w l a n c)(hsz:n≤1099511627776):Calls prog 124 #[.slice a n c] w (EM w l n):=by
 cases a with
 | none=>
  have e:l=[]:=Classical.byContradiction fun hne=>by obtain⟨b,o,e,_⟩:=h.at_ hne;simp at e
  have:=h.len
  subst e
  obtain rfl:n=0:=by simpa using this.symm
  exact EO w c
 | some ad=>exact ET h hsz
def SbL (w:World)(g:Nat)(la lb:List Nat)(n:Nat)(r k:Value)(wr:World):Prop:=
 ∃(j:Nat) (ds:List Nat) (cc:Nat),j≤n∧k= .int .i64 (j:Int)∧r= .int .u64 (cc:Int)∧jB la lb j ds cc∧UO wr g (ds++la.drop j)∧Below w.heap.size w wr
theorem SbL.step {w wr:World}{g n j r x y:Nat}{W:Int}{la lb ds:List Nat}(hn:la.length=n)(hj:j<n)(I:jB la lb j ds r)(U:UO wr g (ds++la.drop j))(B:Below w.heap.size w wr)(hg:w.heap.size≤g)
  (hx:la.getD j 0=x)(hy:lb.getD j 0=y)(xb:x<4294967296)(yb:y<4294967296)(hW:W=((x:Int)-(r:Int)-(y:Int))%18446744073709551616):
  SbL w g la lb n (.int .u64 (bits .and .u64 (W/4294967296) 1)) (.int .i64 ((j:Int)+1)) (wr.setCell ⟨g,j,none⟩ (.int .u32 (W%4294967296))):=by
 have r1:=I.r1;have fin:∀d r':Nat,d<4294967296→r'≤1→x+r'*4294967296=d+y+r→W%4294967296=(d:Int)→bits .and .u64 (W/4294967296) 1=(r':Int)→
   SbL w g la lb n (.int .u64 (bits .and .u64 (W/4294967296) 1)) (.int .i64 ((j:Int)+1)) (wr.setCell ⟨g,j,none⟩ (.int .u32 (W%4294967296))):=by
  intro d r' hd hr he e1 e2
  rw[e1,e2]
  refine⟨j+1,ds++[d],r',by omega,by go_num,rfl,I.step hd hr (by rw[hx,hy];exact he),?_,B.setCell hg _⟩
  have:=U.set (i:=j) (by rw[List.length_append,I.len,List.length_drop];omega) d
  rwa[set_mid I.len (by omega)]at this
 by_cases h:y+r≤x
 ·have e:W/4294967296=0:=by omega
  exact fin (x-y-r) 0 (by omega) (by omega) (by omega) (by omega) (by rw[e];decide)
 have e:W/4294967296=4294967295:=by omega
 exact fin (x+4294967296-y-r) 1 (by omega) (by omega) (by omega) (by omega) (by rw[e];decide)
theorem Hq {w:World}{la lb:List Nat}{a b:Option Addr}{na nb ca cb:Nat}(ha:bW w la a na ca)(hb:bW w lb b nb cb)(hsz:na≤1099511627776)(oh:nb≤na)(h0:0<na)(hle:vl lb≤vl la):
  Calls prog 174 #[.slice a na ca,.slice b nb cb] w (iy w (vl la-vl lb)):=by
 have A:=hid ha;have B:=hid hb;have hcb:=hb.cap;have hlb:=hb.le;clear ha hb;go_enter func174,ntmps174;go_wp2_with (go_at_call 124;refine(clone_any A.out hsz).mono ?_;rintro e w1 ⟨a1,c1,rfl,L1,B1,G1⟩;obtain⟨g,rfl,hg,U1⟩:=G1 h0;have L1:=hid L1;have B1:=hid B1;have U1:=hid U1;clear G1);have hc1:=L1.out.cap;have hl1:=L1.out.le;go_loopw [6,13] (fun c k wr=>SbL w g la lb na c k wr) (fun _ k _=>na-(intOf k).toNat)
 case atStart=>exact⟨0,[],0,Nat.zero_le _,rfl,rfl,jB.nil la lb,U1.out,B1.out⟩
 obtain⟨j,ds,r,hj,rfl,rfl,hI,hU,hB⟩:=hrel;have I:=hid hI;have U:=hid hU;have BR:=hid hB;clear hI hU hB;by_cases hlt:j<na
 ·have p1:=U.out.cell (i:=j) (by rw[List.length_append,I.out.len,List.length_drop,A.out.len];omega);rw[jD I.out.len (by rw[A.out.len];exact hlt)]at p1;have f1:=U.out.free j;obtain⟨x,hx⟩:∃x,la.getD j 0=x:=⟨_,rfl⟩;obtain⟨y,hy⟩:∃y,lb.getD j 0=y:=⟨_,rfl⟩;have xb:x<4294967296:=by rw[←hx];exact ak A.out.lm j
  have yb:y<4294967296:=by rw[←hy];exact ak B.out.lm j
  have r1:=I.out.r1;rw[hx]at p1;have HX:=hid hx;have HY:=hid hy;clear hx hy;by_cases hjb:j<nb
  ·obtain⟨b2,o2,rfl,d2⟩:=B.out.at_ (by intro e;have:=B.out.len;rw[e]at this;simp at this;omega);have p2:=aj BR.out (d2 j (by rw[B.out.len];exact hjb));rw[HY.out]at p2;clear d2;go_wp2_with fail;go_roundw
   case rel=>exact SbL.step A.out.len hlt I.out U.out BR.out hg HX.out HY.out xb yb (by rw[IntKind.wrap_u64,IntKind.wrap_u64];omega)
   simp[intOf];omega
  have Y0:Hid (y=0):=by show _=_;rw[←HY.out,List.getD_eq_getElem?_getD,List.getElem?_eq_none (by rw[B.out.len];omega)];rfl
  have hjb2:(nb:Int)≤(j:Int):=by omega
  go_wp2_with fail;go_roundw
  case rel=>exact SbL.step A.out.len hlt I.out U.out BR.out hg HX.out HY.out xb yb (by rw[IntKind.wrap_u64,Y0.out];simp)
  simp[intOf];omega
 obtain rfl:j=na:=by omega
 have D:Hid (ds++la.drop j=ds):=by show _=_;rw[List.drop_of_length_le (by rw[A.out.len];exact Nat.le_refl _),List.append_nil]
 have L:Hid (bW wr ds (some ⟨g,0,none⟩) j c1):=⟨(D.out▸U.out).at_,I.out.len,hl1,hc1,I.out.lm⟩;have V:Hid (vl ds=vl la-vl lb):=(I.out.done (by rw[A.out.len];exact Nat.le_refl _) (by rw[B.out.len];exact oh) hle).2;go_wp2_with (go_at_call 141;refine(iw L.out).mono ?_;rintro e w' ⟨rfl,rfl⟩);go_ret;exact iy.fG L.out BR.out V.out
theorem ab1 (a b:Nat)(ha:a<18446744073709551616)(hb:b<18446744073709551616):bits .or .u64 (a:Int) (b:Int)=((a|||b:Nat):Int):=
 (bits_nat .u64 64 (by decide) wraps_u64 a b ha hb).2
theorem YF (a b:Nat)(ha:a<4294967296)(hb:b<4294967296):bits .or .u32 (a:Int) (b:Int)=((a|||b:Nat):Int):=
 (bits_nat .u32 32 (by decide) wraps_u32 a b ha hb).2
theorem EU (r x:Nat)(hr:r<4294967296)(hx:x<4294967296):bits .or .u64 ((r:Int)*4294967296) (x:Int)=((r*4294967296+x:Nat):Int):=by rw[show(r:Int)*4294967296=((r*4294967296:Nat):Int) from by omega,ab1 _ _ (by omega) (by omega)];congr 1;have:=vk (s:=32) (x:=x) (m:=r) (by omega);rw[Nat.or_comm,show r*4294967296=2^32*r from by omega,this];omega
def DsL (w:World)(g:Nat)(la:List Nat)(d n:Nat)(rest i:Value)(wr:World):Prop:=
 ∃(k:Nat) (out:List Nat) (r:Nat),k≤n∧i= .int .i64 ((k:Int)-1)∧rest= .int .u64 (r:Int)∧Uj la d k out r∧UB wr g out∧Below w.heap.size w wr
def YG (w:World)(x d:Nat)(e:Ending)(w':World):Prop:=
 ∃a n c,e= .returned (.tuple #[.slice a n c,.int .u32 ((x%d:Nat):Int)])∧bW w' (aC (x/d)) a n c∧Below w.heap.size w w'
theorem yZ {w:World}{la:List Nat}{a:Option Addr}{na ca d:Nat}(ha:bW w la a na ca)(hsz:na≤1099511627776)(hd:0<d)(hd2:d<4294967296):
  Calls prog 136 #[.slice a na ca,.int .u32 (d:Int)] w (YG w (vl la) d):=by
 have A:=hid ha;have hca:=ha.cap;have Le:=ha.le;clear ha;obtain⟨i0,hi0,hz0,hz1,hz2⟩:=info_parts jr;go_enter func136,ntmps136;go_wp2_with (at_make;refine wpList_make_full _ rfl _ _ 23 rfl 0 111 i0 (.int .u32 0) 1 underlying23 hi0 hz0 hz1 .i64 .i64 _ _ na rfl rfl (by omega) (by omega) (by rw[hz2];omega) (by unfold maxLen;omega) (Nat.zero_le _) ?_;intro w1 hown1 hg1;have U1:=hid (jX hown1);have B1:=hid (below_grown hg1);clear hown1 hg1);go_loopw [7,8] (fun r i wr=>DsL w w.heap.size la d na r i wr) (fun _ i _=>(intOf i+1).toNat)
 case atStart=>exact⟨na,_,0,Nat.le_refl _,rfl,rfl,by have:=Uj.nil (a:=la) hd;rwa[A.out.len]at this,U1.out,B1.out⟩
 obtain⟨k,out,r,hk,rfl,rfl,hD,hU,hB⟩:=hrel;have D:=hid hD;have U:=hid hU;have BR:=hid hB;have rlt:=hD.lt;clear hD hU hB;by_cases h0:k=0
 ·subst h0;have L:Hid (bW wr out (some ⟨w.heap.size,0,none⟩) na na):=⟨U.out.at_,by rw[D.out.len,A.out.len],Nat.le_refl _,by omega,D.out.lm⟩;have V:=hid D.out.done;go_wp2_with (go_at_call 141;refine(iw L.out).mono ?_;rintro e w' ⟨rfl,rfl⟩);go_ret2;exact⟨_,_,_,by rw[V.out.2];rfl,by rw[←V.out.1];exact L.out.trim,BR.out⟩
 obtain⟨m,rfl⟩:∃m,k=m+1:=⟨k-1,by omega⟩;have e1:((m+1:Nat):Int)-1=(m:Int):=by omega
 rw[e1];clear e1;obtain⟨b1,o1,rfl,d1⟩:=A.out.at_ (by intro e;have:=A.out.len;rw[e]at this;simp at this;omega);have p1:=aj BR.out (d1 m (by rw[A.out.len];omega));clear d1;obtain⟨x,hx⟩:∃x,la.getD m 0=x:=⟨_,rfl⟩;have xb:x<4294967296:=by rw[←hx];exact ak A.out.lm m
 rw[hx]at p1;have HX:=hid hx;clear hx;have p3:=U.out.cell (i:=m) (by rw[D.out.len,A.out.len];omega);have f3:=U.out.free m;have hnz:((d:Int)==0)=false:=by simp;omega
 obtain⟨t,ht⟩:∃t,r*4294967296+x=t:=⟨_,rfl⟩;have hor:=EU r x (by omega) xb;rw[ht]at hor;have tb:(t:Int)≤18446744073709551615:=by omega
 have ft:=Hf A.out.lm (i:=m) rlt hd2;rw[HX.out,ht]at ft;have FT:=hid ft;have HT:=hid ht;clear ht ft;have hd3:(1:Int)≤(d:Int):=by omega
 go_wp2_with fail;go_roundw
 case rel=>
  have e1:(t:Int)%(d:Int)=((t%d:Nat):Int):=rfl;have e2:IntKind.u64.wrap ((t:Int)/(d:Int))%4294967296=((t/d:Nat):Int):=by have h2:=FT.out.2;obtain⟨q,hq⟩:∃q,t/d=q:=⟨_,rfl⟩;rw[show(t:Int)/(d:Int)=((t/d:Nat):Int) from rfl,hq,IntKind.wrap_u64];rw[hq]at h2;omega
  rw[e1,e2];refine⟨m,out.set m (t/d),t%d,by omega,rfl,rfl,?_,U.out.set m _,BR.out.setCell (Nat.le_refl _) _⟩;have:=D.out.step A.out.lm (by rw[A.out.len];omega) hd2;rwa[HX.out,HT.out]at this
 simp[intOf]
def ShL (w:World)(g:Nat)(la:List Nat)(s k n:Nat)(i:Value)(wr:World):Prop:=
 ∃(j:Nat) (out:List Nat),j≤n∧i= .int .i64 (j:Int)∧Uk la s k j out∧UB wr g out∧Below w.heap.size w wr
theorem Hr {w:World}{la:List Nat}{a:Option Addr}{na ca s:Nat}(ha:bW w la a na ca)(hsz:na≤1099511627776)(hs:s<32)(h0:0<na):
  Calls prog 138 #[.slice a na ca,.int .i64 (s:Int)] w (iy w (vl la*2^s)):=by
 have A:=hid ha;have hca:=ha.cap;have Le:=ha.le;clear ha;obtain⟨i0,hi0,hz0,hz1,hz2⟩:=info_parts jr;have q1:(s:Int)/32=0:=by omega
 have q2:(s:Int)%32=(s:Int):=by omega
 have hnz:((na:Int)==0)=false:=by simp;omega
 go_enter func138,ntmps138;go_wp2_with (at_make;refine wpList_make_full _ rfl _ _ 23 rfl 0 111 i0 (.int .u32 0) 1 underlying23 hi0 hz0 hz1 .i64 .i64 _ _ (na+1) rfl rfl (by omega) (by omega) (by rw[hz2];omega) (by unfold maxLen;omega) (Nat.zero_le _) ?_;intro w1 hown1 hg1;have U1:=hid (jX hown1);have B1:=hid (below_grown hg1);clear hown1 hg1);go_loopw [21] (fun i wr=>ShL w w.heap.size la s 0 na i wr) (fun i _=>na-(intOf i).toNat)
 case atStart=>exact⟨0,_,Nat.zero_le _,rfl,by have:=Uk.nil la s 0;exact this,by rw[A.out.len];exact U1.out,B1.out⟩
 obtain⟨i,out,hi,rfl,hS,hU,hB⟩:=hrel;have S:=hid hS;have U:=hid hU;have BR:=hid hB;clear hS hU hB;by_cases hlt:i<na
 ·obtain⟨b1,o1,rfl,d1⟩:=A.out.at_ (by intro e;have:=A.out.len;rw[e]at this;simp at this;omega);have p1:=aj BR.out (d1 i (by rw[A.out.len];exact hlt));clear d1;obtain⟨x,hx⟩:∃x,la.getD i 0=x:=⟨_,rfl⟩;have xb:x<4294967296:=by rw[←hx];exact ak A.out.lm i
  rw[hx]at p1;have HX:=hid hx;clear hx;have p2:=U.out.cell (i:=i) (by rw[S.out.len,A.out.len];omega);have f2:=U.out.free i;have p3:=U.out.cell (i:=i+1) (by rw[S.out.len,A.out.len];omega);have f3:=U.out.free (i+1);obtain⟨u,hu⟩:∃u,out.getD i 0=u:=⟨_,rfl⟩;obtain⟨v,hv⟩:∃v,out.getD (i+1) 0=v:=⟨_,rfl⟩;rw[hu]at p2;rw[hv]at p3;have ub:u<4294967296:=by rw[←hu];exact ak S.out.lm i
  have V0:Hid (v=0):=by show _=_;rw[←hv];exact S.out.zero (i+1) (by omega) (by rw[A.out.len];omega)
  have HU:=hid hu;clear hu hv;go_wp2_with fail;go_roundw
  case rel=>
   have pw:x*2^s<18446744073709551616:=by have a1:2^s≤2^31:=Nat.pow_le_pow_right (by omega) (by omega);have a2:x*2^s≤4294967295*2^31:=Nat.mul_le_mul (by omega) a1;omega
   have e0:IntKind.u64.wrap ((x:Int)*2^s)=((x*2^s:Nat):Int):=by rw[show(x:Int)*2^s=((x*2^s:Nat):Int) from by rw[Int.natCast_mul,Int.natCast_pow];rfl];exact wraps_u64 _ (by omega) (by omega)
   have e1:bits .or .u32 (u:Int) (IntKind.u64.wrap ((x:Int)*2^s)%4294967296)=((u|||x*2^s%4294967296:Nat):Int):=by rw[e0,show((x*2^s:Nat):Int)%4294967296=((x*2^s%4294967296:Nat):Int) from rfl];exact YF _ _ ub (Nat.mod_lt _ (by omega))
   have e2:bits .or .u32 (v:Int) (IntKind.u64.wrap ((x:Int)*2^s)/4294967296%4294967296)=((0|||x*2^s/4294967296:Nat):Int):=by rw[V0.out,e0,show((x*2^s:Nat):Int)/4294967296%4294967296=((x*2^s/4294967296:Nat):Int) from by omega];exact YF _ _ (by omega) (by omega)
   rw[e1,e2];refine⟨i+1,_,by omega,by go_num,?_,(U.out.set i _).set (i+1) _,(BR.out.setCell (Nat.le_refl _) _).setCell (Nat.le_refl _) _⟩;have:=S.out.step A.out.lm hs (by rw[A.out.len];exact hlt);simp only[Nat.add_zero]at this;rwa[HX.out,HU.out]at this
  simp[intOf];omega
 obtain rfl:i=na:=by omega
 have L:Hid (bW wr out (some ⟨w.heap.size,0,none⟩) (i+1) (i+1)):=⟨U.out.at_,by rw[S.out.len,A.out.len],Nat.le_refl _,by omega,S.out.lm⟩;have V:Hid (vl out=vl la*2^s):=by have:=S.out;rw[←A.out.len]at this;have:=this.done;rwa[Nat.mul_zero,Nat.zero_add]at this
 go_wp2_with (go_at_call 141;refine(iw L.out).mono ?_;rintro e w' ⟨rfl,rfl⟩);go_ret;exact iy.fG L.out BR.out V.out
theorem Below.over {a b c:World}(h:Below a.heap.size a b)(hs:a.heap.size≤b.heap.size)(k:Below b.heap.size b c):Below a.heap.size a c:=h.trans (k.mono hs)
theorem Bq (t s:Nat):(t:Int)/2^s%4294967296=((t/2^s%4294967296:Nat):Int):=by rw[Int.natCast_emod,Int.natCast_ediv,Int.natCast_pow];rfl
def SrL (w:World)(g:Nat)(la:List Nat)(s n:Nat)(i:Value)(wr:World):Prop:=
 ∃(j:Nat),j≤n∧i= .int .i64 (j:Int)∧UB wr g ((shr s la).take j++(List.replicate n 0).drop j)∧Below w.heap.size w wr
def EW (w:World)(x:Nat)(e:Ending)(w':World):Prop:=
 ∃a n c b,e= .returned (.tuple #[.slice a n c,.bool b])∧bW w' (aC x) a n c∧Below w.heap.size w w'
theorem Oi {w:World}{c s:Nat}{a:Option Addr}(hs:s<32)(hc:c≤9223372036854775807):
  Calls prog 140 #[.slice a 0 c,.int .i64 (s:Int)] w (EW w 0):=by
 have q1:(s:Int)/32=0:=by omega
 go_enter func140,ntmps140;go_wp2_with fail;go_ret2;exact⟨none,0,0,true,rfl,⟨fun h=>absurd aA h,by rw[aA];rfl,Nat.le_refl _,by omega,bD 0⟩,Below.refl _ _⟩
theorem nJ (w:World)(a:Option Addr){c:Nat}(hc:c≤9223372036854775807):bW w [] a 0 c:=⟨fun h=>absurd rfl h,rfl,Nat.zero_le _,hc,fun x hx=>by simp at hx⟩
theorem Oj (w:World)(a:Option Addr){c:Nat}(hc:c≤9223372036854775807):Calls prog 141 #[.slice a 0 c] w fun e w'=>e= .returned (.slice a 0 c)∧w=w':=by refine(iw (nJ w a hc)).mono ?_;rintro e w' ⟨rfl,rfl⟩;refine⟨?_,rfl⟩;unfold gV;rw[show vl []=0 from rfl,aA];rfl
def aau (w:World)(e:Ending)(w':World):Prop:=∃a c,c≤9223372036854775807∧e= .returned (.slice a 0 c)∧Below w.heap.size w w'
theorem clone_nil (w:World)(a:Option Addr){c:Nat}(hc:c≤9223372036854775807):Calls prog 124 #[.slice a 0 c] w (aau w):=by refine(clone_any (nJ w a hc) (by omega)).mono ?_;rintro e w' ⟨a2,c2,rfl,L,B,_⟩;exact⟨a2,c2,L.cap,rfl,B⟩
theorem Ol {w:World}{la:List Nat}{a:Option Addr}{na ca s:Nat}(ha:bW w la a na ca)(hsz:na≤1099511627776)(hs:s<32)(h0:0<na):
  Calls prog 140 #[.slice a na ca,.int .i64 (s:Int)] w (EW w (vl la/2^s)):=by
 have A:=hid ha;have hca:=ha.cap;have Le:=ha.le;obtain⟨b1,o1,rfl,d1⟩:=ha.at_ (by intro e;have:=ha.len;rw[e]at this;simp at this;omega);have p0:=d1 0 (by rw[ha.len];exact h0);rw[Nat.add_zero]at p0;have D1:=hid d1;clear d1;obtain⟨x0,hx0⟩:∃x,la.getD 0 0=x:=⟨_,rfl⟩;rw[hx0]at p0;clear ha hx0;obtain⟨i0,hi0,hz0,hz1,hz2⟩:=info_parts jr;have q1:(s:Int)/32=0:=by omega
 have q2:(s:Int)%32=(s:Int):=by omega
 have h0i:(0:Int)<(na:Int):=by omega
 have q3:(s:Int).tmod 32=(s:Int):=by rw[Int.tmod_eq_emod_of_nonneg (by omega)];omega
 have q4:(0:Int)≤(s:Int):=by omega
 have q5:(s:Int)≤64:=by omega
 go_enter func140,ntmps140;go_wp2_with fail;go_region_held3 (fun W=>W.cell? ⟨b1,o1,none⟩=some (.int .u32 (x0:Int))∧Below w.heap.size w W)
  (first
   | exact⟨p0,(Below.refl _ _).drew⟩
   | exact⟨y0,y1⟩
   | go_keep)
  (first
   | (go_at_call 124;refine(clone_nil _ _ hca).mono ?_;rintro e w2 ⟨a2,c2,hc2,rfl,hb2⟩;have y0:w2.cell? ⟨b1,o1,none⟩=some (.int .u32 (x0:Int)):=aj hb2 p0;have y1:Below w.heap.size w w2:=Below.over (Below.refl _ _).drew (Nat.le_refl _) hb2)
   | (go_at_call 141;refine(Oj _ _ hc2).mono ?_;rintro e w2 ⟨rfl,rfl⟩))
 go_wp2_with (at_make;refine wpList_make_full _ rfl _ _ 23 rfl 0 111 i0 (.int .u32 0) 1 underlying23 hi0 hz0 hz1 .i64 .i64 _ _ na rfl rfl (by omega) (by omega) (by rw[hz2];omega) (by unfold maxLen;omega) (Nat.zero_le _) ?_;intro w1 hown1 hg1;have U1:=hid (jX hown1);have B1:=hid (below_grown hg1);clear hown1 hg1);have B2:Hid (Below w.heap.size w w1):=aB y1 B1.out;have hg:Hid (w.heap.size≤w2.heap.size):=y1.size;clear y0 hb2 p0;have Y1:=hid y1;clear y1;go_loopw [44] (fun i wr=>SrL w w2.heap.size la s na i wr) (fun i _=>na-(intOf i).toNat)
 case atStart=>exact⟨0,Nat.zero_le _,rfl,U1.out,B2.out⟩
 obtain⟨j,hj,rfl,hU,hB⟩:=hrel;have U:=hid hU;have BR:=hid hB;clear hU hB;by_cases hlt:j<na
 ·have p1:=aj BR.out (D1.out j (by rw[A.out.len];exact hlt));obtain⟨x,hx⟩:∃x,la.getD j 0=x:=⟨_,rfl⟩;have xb:x<4294967296:=by rw[←hx];exact ak A.out.lm j
  rw[hx]at p1;have HX:=hid hx;clear hx;have SL:Hid (((shr s la).take j).length=j):=by show _=_;rw[List.length_take,oO,A.out.len];omega
  have p3:=U.out.cell (i:=j) (by rw[List.length_append,SL.out,List.length_drop,List.length_replicate];omega);have f3:=U.out.free j;obtain⟨u,hu⟩:∃u,((shr s la).take j++(List.replicate na 0).drop j).getD j 0=u:=⟨_,rfl⟩;rw[hu]at p3;clear hu;have fin:Hid (∀t:Nat,t=x+4294967296*la.getD (j+1) 0→∀v:Int,v=((t/2^s%4294967296:Nat):Int)→SrL w w2.heap.size la s na (.int .i64 ((j:Int)+1)) (wr.setCell ⟨w2.heap.size,j,none⟩ (.int .u32 v))):=by intro t ht v hv;subst hv;refine⟨j+1,by omega,by go_num,?_,BR.out.setCell hg.out _⟩;have:=U.out.set j (t/2^s%4294967296);rw[set_mid SL.out (by rw[List.length_replicate];exact hlt)]at this;rw[kT (by rw[oO,A.out.len];exact hlt),Oe s la (by rw[A.out.len];exact hlt),HX.out,←ht];exact this
  by_cases hj2:j+1<na
  ·have p2:=aj BR.out (D1.out (j+1) (by rw[A.out.len];exact hj2));obtain⟨z,hz⟩:∃z,la.getD (j+1) 0=z:=⟨_,rfl⟩;have zb:z<4294967296:=by rw[←hz];exact ak A.out.lm (j+1)
   rw[hz]at p2;have HZ:=hid hz;clear hz;obtain⟨t,ht⟩:∃t,x+4294967296*z=t:=⟨_,rfl⟩;have hor:bits .or .u64 (x:Int) ((z:Int)*4294967296)=(t:Int):=by rw[u64_or32 _ _ (by omega) (by omega) (by omega) (by omega) (by omega)];omega
   have tb:t<18446744073709551616:=by omega
   have HT:=hid ht;clear ht;go_wp2_with fail;go_roundw
   case rel=>exact fin.out t (by rw[HZ.out,HT.out]) _ (Bq t s)
   simp[intOf];omega
  have Z0:Hid (la.getD (j+1) 0=0):=by show _=_;rw[List.getD_eq_getElem?_getD,List.getElem?_eq_none (by rw[A.out.len];omega)];rfl
  have hj3:(na:Int)≤(j:Int)+1:=by omega
  go_wp2_with fail;go_roundw
  case rel=>exact fin.out x (by rw[Z0.out];omega) _ (Bq x s)
  simp[intOf];omega
 obtain rfl:j=na:=by omega
 have SL:Hid ((shr s la).length=j):=by show _=_;rw[oO,A.out.len]
 have D:Hid ((shr s la).take j++(List.replicate j 0).drop j=shr s la):=by show _=_;rw[List.drop_of_length_le (by simp),List.append_nil,List.take_of_length_le (by rw[SL.out];exact Nat.le_refl _)]
 have L:Hid (bW wr (shr s la) (some ⟨w2.heap.size,0,none⟩) j j):=⟨(D.out▸U.out).at_,SL.out,Nat.le_refl _,by omega,YB s la⟩;have V:Hid (vl (shr s la)=vl la/2^s):=YC hs A.out.lm;go_wp2_with (go_at_call 141;refine(iw L.out).mono ?_;rintro e w' ⟨rfl,rfl⟩);go_ret2;exact⟨_,_,_,_,rfl,by rw[←V.out];exact L.out.trim,BR.out⟩
theorem Uu {w:World}{la:List Nat}{a:Option Addr}{na ca s:Nat}(ha:bW w la a na ca)(hsz:na≤1099511627776)(hs:s<32):
  Calls prog 140 #[.slice a na ca,.int .i64 (s:Int)] w (EW w (vl la/2^s)):=by
 by_cases h:na=0
 ·subst h;have e:la=[]:=List.length_eq_zero_iff.1 ha.len;subst e;have:=Oi (w:=w) (a:=a) hs ha.cap;simpa[vl]using this
 exact Ol ha hsz hs (by omega)
end Go.Proofs.YtijdglogadnbcaaGreat
