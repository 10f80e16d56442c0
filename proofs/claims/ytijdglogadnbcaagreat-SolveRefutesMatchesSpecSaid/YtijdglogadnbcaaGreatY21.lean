/- The reference's natOf. -/
import Derived.Test.YtijdglogadnbcaaGreatY20
import Derived.Test.YtijdglogadnbcaaGreatProg
import Derived.Laws.BitsLemmas
import Derived.Shelf.Bits.Mul64
set_option linter.unusedVariables false
set_option linter.unusedSimpArgs false
set_option maxRecDepth 100000
set_option maxHeartbeats 40000000
namespace Go.Proofs.YtijdglogadnbcaaGreat
open Go.Proofs.Tryz
open Go.RowKit
theorem info3:(prog.info? 3).map (fun i=>(i.zero,i.size,i.bytes))=some (some (.int .i64 0),1,8):=by kernel_rfl
def dW (l:List Nat):List Value:=l.map fun x=>Value.int .i64 ((x:Nat):Int)
theorem Dl (l:List Nat){i:Nat}(h:i<l.length):(dW l)[i]? =some (.int .i64 ((l.getD i 0:Nat):Int)):=by unfold dW;rw[List.getElem?_map,List.getElem?_eq_getElem h,List.getD_eq_getElem?_getD,List.getElem?_eq_getElem h];rfl
theorem lF {w:World}{b n:Nat}{v:Value}{l:List Nat}(hl:Nh.Lm l)(hn:l.length=n)(h:w.ownsRow b 3 1 v n (dW l)):∃a c,v= .slice a n c∧HAt w l a n c:=by
 rcases h.2 with⟨rfl,h0⟩ | ⟨g,cap,cur,rfl,_,hg,hc,hm,_,ht⟩
 ·subst h0;have e:l=[]:=List.length_eq_zero_iff.1 hn;subst e;exact⟨none,0,rfl,fun q=>absurd rfl q,rfl,Nat.le_refl _,by omega,fun x hx=>by simp at hx⟩
 refine⟨some ⟨g,0,none⟩,cap,rfl,fun _=>⟨g,0,rfl,fun i hi=>?_⟩,hn,hc,hm,hl⟩;have:=h.cells (g:=g) rfl i _ (Dl l hi);rw[Addr.add_lit]at this;exact this
def dV (w:World)(x:Nat)(e:Ending)(w':World):Prop:=∃a n c,e= .returned (.slice a n c)∧HAt w' (Nh.aC x) a n c∧Below w.heap.size w w'
theorem Nh.JZ {l:List Nat}(h:Nh.Lm l):Nh.gV l=l.take (Nh.gV l).length:=by
 induction l with
 | nil=>unfold Nh.gV;rw[show Nh.vl []=0 from rfl,Nh.aA];rfl
 | cons x l ih=>
  have h2:Nh.Lm l:=fun y hy=>h y (List.mem_cons_of_mem _ hy)
  rw[Nh.mJ (h x List.mem_cons_self)]
  split
  ·rfl
  ·rw[List.length_cons,List.take_succ_cons,←ih h2]
theorem HAt.trim {w:World}{l:List Nat}{a:Option Addr}{n c:Nat}(h:HAt w l a n c):HAt w (Nh.aC (Nh.vl l)) a (Nh.gV l).length c:=by
 have e:=Nh.JZ h.lm;have le:(Nh.gV l).length≤l.length:=by have:=congrArg List.length e;rw[List.length_take]at this;omega
 refine⟨fun hne=>?_,rfl,?_,h.cap,Nh.bD _⟩
 ·have hl:l≠[]:=by intro q;apply hne;rw[q];exact Nh.aA
  obtain⟨b,o,rfl,d⟩:=h.at_ hl;refine⟨b,o,rfl,fun i hi=>?_⟩;have hi:i<(Nh.gV l).length:=hi;rw[d i (by omega)];show _=some (Value.int .i64 (((Nh.gV l).getD i 0:Nat):Int));rw[e];simp only[List.getD_eq_getElem?_getD,List.getElem?_take,if_pos hi]
 have:=h.len;have:=h.le;omega
theorem dV.fG {w wr:World}{l:List Nat}{a:Option Addr}{n c x:Nat}(h:HAt wr l a n c)(hb:Below w.heap.size w wr)(hx:Nh.vl l=x):dV w x (.returned (.slice a (Nh.gV l).length c)) wr:=
 ⟨a,_,c,rfl,by rw[←hx];exact h.trim,hb⟩
theorem WC (x:Nat)(h:x<4294967296):bits .and .u32 (x:Int) 65535=((x%65536:Nat):Int):=by have:=(bits_nat .u32 32 (by decide) wraps_u32 x 65535 (by omega) (by decide)).1;rw[show(65535:Int)=((65535:Nat):Int) from rfl,this];congr 1;exact Nat.and_two_pow_sub_one_eq_mod x 16
def NoL (w:World)(l:List Nat)(v i:Value)(wr:World):Prop:=
 ∃k:Nat,k≤l.length∧i= .int .i64 (k:Int)∧wr.ownsRow w.heap.size 3 1 v (2*k) (dW (Nh.nh (l.take k)))∧Below w.heap.size w wr
theorem sD {w:World}{l:List Nat}{a:Option Addr}{n c:Nat}(h:bW w l a n c)(hsz:n≤1099511627776):Calls prog 89 #[.slice a n c] w (dV w (Nt.vl l)):=by
 have H:=hid h;have hn:=hid h.len;clear h;obtain⟨i0,hi0,hz0,hz1,hz2⟩:=info_parts info3;go_enter func89,ntmps89;go_wp2_with fail;go_loopw [3,8] (fun v i wr=>NoL w l v i wr) (fun _ i _=>n-(intOf i).toNat)
 case atStart=>exact⟨0,Nat.zero_le _,rfl,World.ownsRow_nil _ _ _ _,Below.refl _ _⟩
 obtain⟨k,hk,rfl,hO,hB⟩:=hrel;have O:=hid hO;have BR:=hid hB;clear hO hB;rw[hn.out]at hk;by_cases hlt:k<n
 ·obtain⟨b,o,rfl,d⟩:=H.out.at_ (by intro e;have:=hn.out;rw[e]at this;simp at this;omega);have p:=aj BR.out (d k (by rw[hn.out];exact hlt));clear d;obtain⟨x,hx⟩:∃x,l.getD k 0=x:=⟨_,rfl⟩;have xb:x<4294967296:=by rw[←hx];exact Nt.ak H.out.lm k
  rw[hx]at p;have TK:Hid (l.take (k+1)=l.take k++[x]):=by show _=_;rw[←hx];exact kT (by rw[hn.out];exact hlt)
  clear hx;have a16:=WC x xb;obtain⟨y,hy⟩:∃y,x%65536=y:=⟨_,rfl⟩;obtain⟨z,hz⟩:∃z,x/65536=z:=⟨_,rfl⟩;rw[hy]at a16;have d16:(x:Int)/65536=(z:Int):=by omega
  have yb:y<65536:=by omega
  have zb:z<65536:=by omega
  have HY:=hid hy;have HZ:=hid hz;clear hy hz;have O2:=hid (O.out.alloc (.cells #[.int .i64 (y:Int),.int .i64 (z:Int)] 3));have NC:Hid (∀j u,[Value.int .i64 (y:Int),Value.int .i64 (z:Int)][j]? =some u→(wr.alloc (.cells #[.int .i64 (y:Int),.int .i64 (z:Int)] 3)).cell? ((⟨wr.heap.size,0,none⟩:Addr).add j)=some u):=by intro j u hu;rw[Addr.add_lit,Nat.zero_add,cell_of_row _ wr.heap.size j _ _ _ (heap_alloc_new wr (.cells #[.int .i64 (y:Int),.int .i64 (z:Int)] 3))];rcases j with _ | _ | j<;>simp at hu⊢ <;>exact hu
  have BA:Hid (Below wr.heap.size wr (wr.alloc (.cells #[.int .i64 (y:Int),.int .i64 (z:Int)] 3))):=(Below.refl _ _).alloc (Nat.le_refl _) _;have NX:Hid (dW (Nh.nh (l.take k))++[Value.int .i64 (y:Int),Value.int .i64 (z:Int)]=dW (Nh.nh (l.take (k+1)))):=by show _=_;rw[TK.out,Nh.xU];unfold dW;rw[List.map_append];simp only[Nh.nh,List.map_cons,List.map_nil,HY.out,HZ.out]
  go_wp2_with (at_builtin;refine wpList_append_own _ rfl _ _ 76 rfl w.heap.size 3 i0 (.int .i64 0) 1 8 underlying76 hi0 hz0 hz1 hz2 rfl (by omega) u3 (2*k) _ rfl O2.out ⟨wr.heap.size,0,none⟩ 2 2 [.int .i64 (y:Int),.int .i64 (z:Int)] rfl rfl NC.out (by intro u hu;simp at hu;rcases hu with rfl | rfl<;>rfl) (by unfold maxLen;omega) (by omega) (by have:=BR.out.size;simp;omega) ?_;intro v' w1 hown1 hgrow1 hnil1;rw[NX.out]at hown1;have OW:=hid hown1;have GR:=hid hgrow1;clear hown1 hgrow1 hnil1);have LT:=hid O2.out.lt;have BF:Hid (Below w.heap.size w w1):=by refine⟨GR.out.os.trans (BA.out.os.trans BR.out.os),GR.out.tape.trans (BA.out.tape.trans BR.out.tape),GR.out.output.trans (BA.out.output.trans BR.out.output),Nat.le_trans BR.out.size (Nat.le_trans BA.out.size GR.out.size),fun q hq=>?_⟩;rw[GR.out.block q (Nat.lt_of_lt_of_le hq (Nat.le_trans BR.out.size BA.out.size)) (fun e=>by have:=(LT.out q e.symm).1;omega)];exact(BA.out.block q (Nat.lt_of_lt_of_le hq BR.out.size)).trans (BR.out.block q hq)
  go_roundw
  case rel=>exact⟨k+1,by rw[hn.out];omega,by go_num,by rw[show 2*(k+1)=2*k+2 from by omega];exact OW.out,BF.out⟩
  simp[intOf];omega
 obtain rfl:n=k:=by omega
 have O3:Hid (wr.ownsRow w.heap.size 3 1 u3 (2*n) (dW (Nh.nh l))):=by have:=O.out;rwa[List.take_of_length_le (by rw[hn.out];exact Nat.le_refl _)]at this
 obtain⟨a2,c2,rfl,L2⟩:=lF (Nh.WE H.out.lm) (by rw[Nh.xW,hn.out]) O3.out;have L2:=hid L2;have V:Hid (Nh.vl (Nh.nh l)=Nt.vl l):=Nh.WG l;go_wp2_with fail;refine(dL L2.out).mono ?_;rintro e w' ⟨rfl,rfl⟩;go_wp2_with fail;go_ret;exact dV.fG L2.out BR.out V.out
end Go.Proofs.YtijdglogadnbcaaGreat
namespace Go.Proofs.YtijdglogadnbcaaGreat
open Go.Proofs.Tryz
open Go.RowKit Nt Bl
def xC (P:Pb)(r:Nat):Nat→List Nat
 | 0=>[]
 | k+1=>if P.n≤P.free k∧P.T r k≠0 then xC P r k++[P.free k-P.n]else xC P r k
def Bl.Pb.tight (P:Pb)(r:Nat):List Nat:=xC P r P.n
def Dn (l:List Nat):List Value:=l.map fun(x:Nat)=> .int .i64 ((x:Nat):Int)
theorem IW (P:Pb)(r:Nat):∀k,(xC P r k).length≤k
 | 0=>Nat.le_refl _
 | k+1=>by
  have:=IW P r k;unfold xC;split
  ·rw[List.length_append];simp;omega
  omega
theorem J4 (l:List Nat)(x:Nat):Dn (l++[x])=Dn l++[.int .i64 (x:Int)]:=by simp[Dn]
theorem own_below {w w':World}{base e size n:Nat}{v:Value}{xs:List Value}(h:w.ownsRow base e size v n xs)(hb:Below w.heap.size w w'):w'.ownsRow base e size v n xs:=
 h.kept (Dj hb none) (by cases v.ownBlock with
  | none=>exact Or.inl rfl
  | some _=>exact Or.inr (by simp))
def TgL (w:World)(P:Pb)(r:Nat)(v4 v23:Value)(wr:World):Prop:=
 ∃k:Nat,k≤P.n∧v23= .int .i64 (k:Int)∧Below w.heap.size w wr∧wr.ownsRow w.heap.size 3 1 v4 (xC P r k).length (Dn (xC P r k))
theorem J5 {n0 r:Nat}{w:World}{L:Lay}{P:Pb}(h:eY n0 w L P)(hp:P.Pl)(hr:dI P.basic (P.n+P.m-1) P.m=some r):
  Calls prog 123 #[.pointer (some ⟨L.p,0,none⟩)] w fun e w'=>∃v,e= .returned v∧w'.ownsRow w.heap.size 3 1 v (P.tight r).length (Dn (P.tight r))∧Below w.heap.size w w':=by
 have nm:=h.nm;have cp:=h.cp;obtain⟨v,hN⟩:∃v,P.n+P.m=v+1:=⟨P.n+P.m-1,by omega⟩;obtain⟨m,hm⟩:∃m,P.m=m:=⟨_,rfl⟩;obtain⟨n,hn⟩:∃n,P.n=n:=⟨_,rfl⟩;rw[hm,hn]at nm;rw[hm,hn]at cp;have HN:=hid hN;have HM:=hid hm;have jo:=hid hn;have PL:=hid hp;have vv:v≤200:=by omega
 have vI0:(0:Int)≤(v:Int):=by omega
 have vI1:(v:Int)<((v+1:Nat):Int):=by omega
 have rM:r<m:=by rw[←hm];exact(wG hr).1
 have rI0:(0:Int)≤(r:Int):=by omega
 have rI1:(r:Int)<(m:Int):=by omega
 have IX:=yD (v:=v) (h.below (Below.refl w.heap.size w).drew).ba h.cp.1 h.cp.2.1;rw[hN,Nat.add_sub_cancel]at hr;rw[hr,hm,show je (some r)=(r:Int) from rfl]at IX;have IX:=hid IX;have AT:=hid h;obtain⟨q0,q1,q2,q3,q4,q5,q6⟩:=h.head;rw[hn]at q0 q5;rw[hN]at q1 q2 q3;rw[hm]at q4 q6;clear h hp hN hm hn hr;have KP:=hid (fun(W:World) (hB:Below w.heap.size w W)=>(show W.cell? ⟨L.p,3,none⟩=some (.slice (some ⟨L.now,0,none⟩) (v+1) (v+1))∧W.cell? ⟨L.p,4,none⟩=some (.slice (some ⟨L.mY,0,none⟩) m L.qI) from⟨aj hB q3,aj hB q4⟩));have HW:Hid (IntKind.i64.wrap (v:Int)=(v:Int)):=IntWalk.i64_in _ (by omega);go_enter func123,ntmps123;go_upto_region 1 with fail
 go_region_held3 (fun W=>W.cell? ⟨L.p,3,none⟩=some (.slice (some ⟨L.now,0,none⟩) (v+1) (v+1))∧W.cell? ⟨L.p,4,none⟩=some (.slice (some ⟨L.mY,0,none⟩) m L.qI))
   (first
    | with_reducible exact⟨q3,q4⟩
    | with_reducible exact KS
    | go_keep)
   ((go_at_call 148;rw[HW.out];((with_reducible refine IX.out.mono ?_));go_loud (rintro e w2 ⟨rfl,rfl⟩;have KS:=KP.out w.drew (Below.refl _ _).drew)))
 have A0:=hid (AT.out.below (Below.refl w.heap.size w).drew);have J0:Hid (TgL w P r (.slice none 0 0) (.int .i64 0) w.drew):=⟨0,Nat.zero_le _,rfl,(Below.refl _ _).drew,World.ownsRow_nil _ _ _ _⟩;have HD:=hid (fun(W:World) (h:eY n0 W L P)=>(show W.cell? ⟨L.p,0,none⟩=some (.int .i64 (n:Int))∧W.cell? ⟨L.p,5,none⟩=some (.slice L.JL n L.rY)∧W.cell? ⟨L.p,6,none⟩=some (.slice (some ⟨L.tab,0,none⟩) m L.tZ) from by have:=h.head;rw[jo.out,HM.out]at this;exact⟨this.1,this.2.2.2.2.2.1,this.2.2.2.2.2.2⟩))
 obtain⟨i3,hi3,pV,pW,hz32⟩:=info_parts info3;clear q0 q1 q2 q3 q4 q5 q6;obtain⟨q0,q5,q6⟩:=HD.out _ A0.out;go_wp2_with fail;go_loopw [4,23] (fun v4 v23 wr=>TgL w P r v4 v23 wr) (fun _ x _=>n-(intOf x).toNat)
 case atStart=>exact J0.out
 clear q0 q5 q6 A0 J0;obtain⟨k,hk,rfl,hB,hO⟩:=hrel;rw[jo.out]at hk;have A:=hid (AT.out.below hB);have BR:=hid hB;have OW:=hid hO;clear hB hO;obtain⟨q0,q5,q6⟩:=HD.out _ A.out;by_cases hlt:k<n
 ·have n0':0<P.n:=by have:=jo.out;omega
  have kP:k<P.n:=by have:=jo.out;omega
  obtain⟨x,hx⟩:∃x,P.free k=x:=⟨_,rfl⟩;have xN:x<300:=by have:=PL.out.flt k kP;have:=HN.out;omega
  have pf:=(A.out.fr n0').2.at_ k kP;rw[hx]at pf;have HX:=hid hx;rw[(A.out.fr n0').1]at q5;rw[(A.out.fr n0').1];have k0:(0:Int)≤(k:Int):=by omega
  have k1:(k:Int)<(n:Int):=by omega
  have x0:(0:Int)≤(x:Int):=by omega
  have x1:(x:Int)<300:=by omega
  clear hx;by_cases xn:x<n
  ·have T1:Hid (xC P r (k+1)=xC P r k):=by show _=_;rw[xC,if_neg];rw[HX.out,jo.out];omega
   have x2:¬(n:Int)≤(x:Int):=by omega
   clear xn;go_wp2_with fail;go_roundw
   case rel=>exact⟨k+1,by rw[jo.out];omega,by go_num,BR.out,by rw[T1.out];exact OW.out⟩
   simp[intOf];omega
  have x2:(n:Int)≤(x:Int):=by omega
  obtain⟨d,rfl⟩:∃d,x=n+d:=⟨x-n,by omega⟩;have rP:r<P.m:=by have:=HM.out;omega
  obtain⟨la,li⟩:=A.out.li n0' r rP;have ta:=A.out.ta r rP;rw[la,jo.out]at ta;obtain⟨E,e0,e1,e2,rE⟩:=li.at_ k kP;obtain⟨z,hz⟩:∃z,aV (P.T r k)=z:=⟨_,rfl⟩;have SG:=dM rE;rw[hz]at SG;have SG:=hid SG;have HZ:=hid hz;clear la li rE hz xn;by_cases z0:z=0
  ·have T1:Hid (xC P r (k+1)=xC P r k):=by show _=_;rw[xC,if_neg];intro h;exact h.2 (aY.1 (by rw[HZ.out];exact z0))
   have zb:(z !=0)=false:=by simp[z0]
   clear z0;go_wp2_with (go_at_call 92;refine SG.out.mono ?_;rintro e w2 ⟨rfl,B2⟩;have BR:=hid (aB BR.out B2);have OW:=hid (own_below OW.out B2));go_roundw
   case rel=>exact⟨k+1,by rw[jo.out];omega,by go_num,BR.out,by rw[T1.out];exact OW.out⟩
   simp[intOf];omega
  have T1:Hid (xC P r (k+1)=xC P r k++[d]):=by show _=_;rw[xC,if_pos ⟨by rw[HX.out,jo.out];omega,fun h=>z0 (by rw[←HZ.out];exact aY.2 h)⟩,HX.out,jo.out,Nat.add_sub_cancel_left]
  have zb:(z !=0)=true:=by simp[z0]
  clear z0;have DE:Hid ((n:Int)+(d:Int)-(n:Int)=(d:Int)):=by show _=_;omega
  go_wp2_with (first
   | (go_at_call 92;refine SG.out.mono ?_;rintro e w2 ⟨rfl,B2⟩;have A2:=hid (A.out.below B2);have Yf:=hid (aB BR.out B2);have OW2:=hid (own_below OW.out B2);clear q0 q5 q6 e0 e1 e2 ta pf SG A BR OW B2;obtain⟨q0,q5,q6⟩:=HD.out _ A2.out;have FN:Hid ((w2.alloc (.cells #[.int .i64 ((n:Int)+(d:Int)-(n:Int))] 3)).heap[w2.heap.size]? =some (.cells #[.int .i64 ((n:Int)+(d:Int)-(n:Int))] 3 (0,0))):=heap_alloc_new _ _;have OA:Hid ((w2.alloc (.cells #[.int .i64 ((n:Int)+(d:Int)-(n:Int))] 3)).ownsRow w.heap.size 3 1 u4 (xC P r k).length (Dn (xC P r k))):=OW2.out.alloc _;have BA:=hid (aB Yf.out (ah w2 (.cells #[.int .i64 ((n:Int)+(d:Int)-(n:Int))] 3)));have LE:=IW P r k)
   | (at_builtin;refine wpList_append_own _ rfl _ _ 75 rfl w.heap.size 3 i3 _ 1 8 underlying75 hi3 pV pW hz32 rfl (by omega) _ (xC P r k).length (Dn (xC P r k)) rfl OA.out ⟨w2.heap.size,0,none⟩ 1 1 [.int .i64 ((n:Int)+(d:Int)-(n:Int))] rfl rfl (World.news_of_block FN.out) (by intro u hu;simp at hu;subst hu;rfl) (by unfold maxLen;omega) (by omega) BA.out.size ?_;intro v5 w5 Af hg5 MI;have O5:=hid Af;have B5:=hid (fH BA.out OA.out BA.out.size hg5);clear Af hg5 MI))
  go_roundw
  case rel=>exact⟨k+1,by rw[jo.out];omega,by go_num,B5.out,by rw[T1.out,J4,List.length_append];have o:=O5.out;rw[DE.out]at o;exact o⟩
  simp[intOf];omega
 obtain rfl:n=k:=by omega
 have E:Hid (xC P r n=P.tight r):=by show _=_;rw[←jo.out];rfl
 go_wp2_with fail;go_ret;exact⟨_,rfl,by rw[←E.out];exact OW.out,BR.out⟩
def jq (l:List (Nat×Rat)):Nat→Nat→Rat
 | 0,_=>0
 | i+1,j=>if j=(cq l i).1 then(cq l i).2 else jq l i j
def fA (l:List (Nat×Rat)):Nat→Rat:=jq l l.length
def Rl.ln (R:Rl):Ln:=⟨fA R.cs,R.rel,R.bd⟩
def dP (l:List Rl):List Ln:=l.map Rl.ln
theorem ku (l:List Rl):(dP l).length=l.length:=List.length_map ..
theorem uF {l:List Rl}{i:Nat}(h:i<l.length):(dP l)[i]? =some (rq l i).ln:=by unfold dP rq;rw[List.getElem?_map,List.getD_eq_getElem?_getD,List.getElem?_eq_getElem h];rfl
def kQ (l:List Rl)(gl:List (Nat×Rat)):List Rl:=l++[⟨gl,0,0⟩]
theorem aaM {l:List Rl}{gl:List (Nat×Rat)}{n i:Nat}(h:i<l.length+1):(cO (dP l) n (fA gl)).T i=fA (rq (kQ l gl) i).cs:=by
 funext k;show(match(dP l)[i]? with | some r=>r.co k | none=>fA gl k)=_;by_cases e:i<l.length
 ·rw[uF e];unfold kQ;rw[iM e];rfl
 obtain rfl:i=l.length:=by omega
 rw[List.getElem?_eq_none (by rw[ku];omega)];unfold kQ;rw[uD]
theorem Qe {l:List Rl}{gl:List (Nat×Rat)}{n i:Nat}(h:i<l.length):(cO (dP l) n (fA gl)).high (n+i)=some ⟨(rq l i).bd,if(rq l i).rel=2 then-1 else 0⟩:=by show(if n+i<n then none else((dP l)[n+i-n]?).map Ln.hi)=_;rw[if_neg (by omega),show n+i-n=i from by omega,uF h];rfl
theorem IY {l:List Rl}{gl:List (Nat×Rat)}{n i:Nat}(h:i<l.length):(cO (dP l) n (fA gl)).low (n+i)=if(rq l i).rel=1∨(rq l i).rel=2 then none else some ⟨(rq l i).bd,0⟩:=by show(if n+i<n then none else((dP l)[n+i-n]?).bind Ln.lo)=_;rw[if_neg (by omega),show n+i-n=i from by omega,uF h];rfl
theorem Dp {l:List Rl}{gl:List (Nat×Rat)}{n v:Nat}(h:v<n∨n+l.length≤v):(cO (dP l) n (fA gl)).high v=none:=by
 show(if v<n then none else((dP l)[v-n]?).map Ln.hi)=_;by_cases c:v<n
 ·rw[if_pos c]
 rw[if_neg c,List.getElem?_eq_none (by rw[ku];omega)];rfl
theorem I4 {l:List Rl}{gl:List (Nat×Rat)}{n v:Nat}(h:v<n∨n+l.length≤v):(cO (dP l) n (fA gl)).low v=none:=by
 show(if v<n then none else((dP l)[v-n]?).bind Ln.lo)=_;by_cases c:v<n
 ·rw[if_pos c]
 rw[if_neg c,List.getElem?_eq_none (by rw[ku];omega)];rfl
def hiT (P:Pb)(i v:Nat):Option V:=if v<P.n+i then P.high v else none
def sF (P:Pb)(i v:Nat):Option V:=if v<P.n+i then P.low v else none
theorem Qg (P:Pb)(i:Nat):(fun j=>if j=P.n+i then P.high (P.n+i)else hiT P i j)=hiT P (i+1):=by
 funext j;unfold hiT;by_cases e:j=P.n+i
 ·rw[if_pos e,if_pos (by omega),e]
 rw[if_neg e];by_cases c:j<P.n+i
 ·rw[if_pos c,if_pos (by omega)]
 rw[if_neg c,if_neg (by omega)]
theorem Qh (P:Pb)(i:Nat):(fun j=>if j=P.n+i then P.low (P.n+i)else sF P i j)=sF P (i+1):=by
 funext j;unfold sF;by_cases e:j=P.n+i
 ·rw[if_pos e,if_pos (by omega),e]
 rw[if_neg e];by_cases c:j<P.n+i
 ·rw[if_pos c,if_pos (by omega)]
 rw[if_neg c,if_neg (by omega)]
theorem Qi {P:Pb}{i:Nat}(h:P.high (P.n+i)=none):hiT P (i+1)=hiT P i:=by
 funext j;unfold hiT;by_cases c:j<P.n+i
 ·rw[if_pos c,if_pos (by omega)]
 rw[if_neg c];by_cases e:j=P.n+i
 ·rw[if_pos (by omega),e,h]
 rw[if_neg (by omega)]
theorem Dq {P:Pb}{i:Nat}(h:P.low (P.n+i)=none):sF P (i+1)=sF P i:=by
 funext j;unfold sF;by_cases c:j<P.n+i
 ·rw[if_pos c,if_pos (by omega)]
 rw[if_neg c];by_cases e:j=P.n+i
 ·rw[if_pos (by omega),e,h]
 rw[if_neg (by omega)]
theorem Laid.line {w:World}{g n:Nat}{M:Nw}{q:Rat}(h:Laid w g 25 M.cs n n)(r:RA w q M):fE w g n (fun _=>q):=
 ⟨h.blk,fun k hk=>⟨M,by have:=h.cell (j:=0) hk (by simp[Nw.cs]);simpa[Nw.cs]using this,by have:=h.cell (j:=1) hk (by simp[Nw.cs]);simpa[Nw.cs]using this,by have:=h.cell (j:=2) hk (by simp[Nw.cs]);simpa[Nw.cs]using this,r⟩⟩
theorem Laid.ab9 {w:World}{g n:Nat}{M S:Nw}{x:V}(h:Laid w g 174 (M.cs++S.cs) n n)(r:RA w x.m M)(s:RA w x.s S):rW 174 w g n (fun _=>x):=
 ⟨h.blk,fun k hk=>⟨⟨M,by have:=h.cell (j:=0) hk (by simp[Nw.cs]);simpa[Nw.cs]using this,by have:=h.cell (j:=1) hk (by simp[Nw.cs]);simpa[Nw.cs]using this,by have:=h.cell (j:=2) hk (by simp[Nw.cs]);simpa[Nw.cs]using this,r⟩,
  ⟨S,by have:=h.cell (j:=3) hk (by simp[Nw.cs]);simpa[Nw.cs]using this,by have:=h.cell (j:=4) hk (by simp[Nw.cs]);simpa[Nw.cs,Nat.add_assoc]using this,by have:=h.cell (j:=5) hk (by simp[Nw.cs]);simpa[Nw.cs,Nat.add_assoc]using this,s⟩⟩⟩
def Z0 (p low high now n N:Nat)(T:Nat→Nat→Rat):Gi:=⟨p,low,high,now,n,N,.slice none 0 0,.slice none 0 0,.slice none 0 0,.slice none 0 0,.slice none 0 0,.slice none 0 0,0,0,0,0,fun _=>0,fun _=>none,fun _=>none,T⟩
theorem Qj {n0:Nat}{w:World}{p low high now n N:Nat}{T:Nat→Nat→Rat}{M S:Nw}(hd:w.heap[p]? =some (.cells #[.int .i64 (n:Int),.slice (some ⟨low,0,none⟩) N N,.slice (some ⟨high,0,none⟩) N N,.slice (some ⟨now,0,none⟩) N N,.slice none 0 0,.slice none 0 0,.slice none 0 0] 219 (0,0)))
  (hl:lV 222 w low N (fun _=>none)) (hh:lV 222 w high N (fun _=>none)) (hn:Laid w now 174 (M.cs++S.cs) N N) (r:RA w 0 M) (s:RA w 0 S) (lh:low≠high) (g0:n0≤p) (g1:n0≤low) (g2:n0≤high) (g3:n0≤now):Pt n0 w (Z0 p low high now n N T):=
 ⟨hd,hl,hh,hn.ab9 (x:=⟨0,0⟩) r s,Ow.nil _ _ _ _,Ow.nil _ _ _ _,Ow.nil _ _ _ _,fun k hk=>absurd hk (Nat.not_lt_zero _),fun k j hk=>absurd hk (Nat.not_lt_zero _),lh,fun g hg=>by simp[Z0,Value.ownBlock]at hg,g0,g1,g2,g3,fun k hk=>absurd hk (Nat.not_lt_zero _)⟩
theorem Ow.some {w:World}{base e size n:Nat}{v:Value}{xs:List Value}(h:Ow w base e size v n xs)(hn:0<n):∃g cap,v= .slice (some ⟨g,0,none⟩) n cap∧base≤g∧n≤cap∧cap≤9223372036854775807∧dh w g e∧∀j u,xs[j]? =some u→w.cell? ⟨g,j,none⟩=some u:=by
 rcases h.own.2 with⟨_,e0⟩ | ⟨g,cap,cur,rfl,hb,hgg,hc,hm,_⟩
 ·omega
 refine⟨g,cap,rfl,hb,hc,hm,⟨_,hgg⟩,fun j u hu=>?_⟩;have:=h.own.cells (g:=g) rfl j u hu;rwa[Gf,Nat.zero_add]at this
theorem Dt {a k j:Nat}(h:j<k):(ints a k)[j]? =some (.int .i64 ((a+j:Nat):Int)):=by simp[ints,h]
theorem Vf {line:Nat→Nat}{n k j:Nat}(h:j<k):(qY line n k)[j]? =some (.slice (some ⟨line j,0,none⟩) n n):=by simp[qY,h]
theorem Pt.done {n0:Nat}{w:World}{Z:Gi}{P:Pb}(h:Pt n0 w Z)(h1:Z.hb=Z.bv∧Z.hf=Z.fv∧Z.ht=Z.tv)(h2:Z.ib=P.m∧Z.it=P.m∧Z.nl=P.m∧Z.nf=P.n)(hn:Z.n=P.n)(hN:Z.N=P.n+P.m)(hm:0<P.m)(b64:P.n≤64∧P.m≤64)
  (hlo:∀v,v<P.n+P.m→Z.lo v=P.low v)(hhi:∀v,v<P.n+P.m→Z.hi v=P.high v)(hno:∀v,P.now v=⟨0,0⟩)(hba:∀i,P.basic i=P.n+i)(hfr:∀k,P.free k=k)(hT:∀i,i<P.m→Z.T i=P.T i):∃L,L.p=Z.p∧eY n0 w L P:=by
 obtain⟨k1,k2,k3⟩:=h1;obtain⟨i1,i2,i3,i4⟩:=h2;have bo:=h.bo;have fo:=h.fo;have lN:=h.lN;rw[i1,hn]at bo;rw[i4]at fo;rw[i2,hn]at lN;obtain⟨gb,cb,eb,b1,b2,b3,b4,b5⟩:=bo.some hm;obtain⟨gt,ct,et,t1,t2,t3,t4,t5⟩:=lN.some hm;obtain⟨fa,fc,gf,ef,f1,f2,f3,f4,f5⟩:∃fa fc gf,Z.fv= .slice fa P.n fc∧P.n≤fc∧fc≤9223372036854775807∧n0≤gf∧gb≠gf∧(0<P.n→fa=Option.some ⟨gf,0,none⟩∧tY w gf P.n P.free):=by
  by_cases z:0<P.n
  ·obtain⟨g,c,e,e1,e2,e3,e4,e5⟩:=fo.some z;refine⟨_,c,g,e,e2,e3,e1,fun q=>?_,fun _=>⟨rfl,e4,fun i hi=>?_⟩⟩
   ·subst q;exact h.bf gb (by rw[eb];rfl) (by rw[e];rfl)
   rw[hfr,e5 i _ (Dt hi),Nat.zero_add]
  have zn:P.n=0:=by omega
  have pb:gb≠Z.p:=(b4.ne h.pb (by decide));rcases fo.own.2 with⟨e,_⟩ | ⟨g,cap,cur,e,hb,hgg,hc,hmx,_⟩
  ·exact⟨none,0,Z.p,by rw[e,zn],by omega,by omega,h.ge.1,pb,fun q=>absurd q z⟩
  exact⟨_,cap,Z.p,e,hc,hmx,h.ge.1,pb,fun q=>absurd q z⟩
 refine⟨⟨Z.p,Z.low,Z.high,Z.now,gb,gt,gf,fa,cb,fc,ct,Z.line,fun i=>Option.some ⟨Z.line i,0,none⟩⟩,rfl,?_⟩;have hd:=h.hd;rw[k1,k2,k3,eb,ef,et,hn,hN]at hd;have hlr:=h.lo;have hhr:=h.hi;have hnr:=h.no;rw[hN]at hlr hhr hnr;refine⟨hd,⟨hlr.blk,fun v hv=>by rw[←hlo v hv];exact hlr.at_ v hv⟩,⟨hhr.blk,fun v hv=>by rw[←hhi v hv];exact hhr.at_ v hv⟩,⟨hnr.blk,fun v hv=>by rw[hno];exact hnr.at_ v hv⟩,⟨b4,fun i hi=>?_⟩,f5,t4,fun i hi=>t5 i _ (Vf hi),fun _ i hi=>⟨rfl,?_⟩,fun i j hi hj hne=>h.inj i j (by omega) (by omega) hne,f4,⟨h.ge.2.2.2.1,b1,f3,fun i hi=>h.ge.2.2.2.2 i (by omega)⟩,⟨b2,b3,f1,f2,t2,t3⟩,b64.1,b64.2,hm⟩
 ·rw[hba];exact b5 i _ (Dt hi)
 have:=h.li i (by omega);rw[hT i hi,hn]at this;exact this
end Go.Proofs.YtijdglogadnbcaaGreat
namespace Go.Proofs.YtijdglogadnbcaaGreat.Rg
open Go.Proofs.Tryz
open Go
variable {P:Program} {ops:Array Oper} {md:Region.Mode} {Q:Exit→Act→World→Prop} {S:World→Prop} {n:Nat}
theorem J6 {k l m:Nat}{o p q:Oper}{f:Nat}{listed:Array Bool}{a:Act}{w:World}(hr:Region.ready .any ops listed=[k,l,m])(ho:ops[k]? =some o) (hp:ops[l]? =some p) (hq:ops[m]? =some q) (hk:k<n) (hl:l<n) (hm0:m<n) (inv:HeadInv .any ops n listed)
  (hw:Region.wanted o (yielded ops a.tmps)=true) (hw':Region.wanted p (yielded ops a.tmps)=true) (hw2:Region.wanted q (yielded ops a.tmps)=true)
  (h:∀K':Act→World→Prop,Shut (∀a w,S w→(S w→HeadInv .any ops n (listed.setIfInBounds k true)→kN P .any ops Q n S f (listed.setIfInBounds k true) a w)→K' a w)→Oper.wp P o a w K' Q)
  (h':∀K':Act→World→Prop,Shut (∀a w,S w→(S w→HeadInv .any ops n (listed.setIfInBounds l true)→kN P .any ops Q n S f (listed.setIfInBounds l true) a w)→K' a w)→Oper.wp P p a w K' Q)
  (h2:∀K':Act→World→Prop,Shut (∀a w,S w→(S w→HeadInv .any ops n (listed.setIfInBounds m true)→kN P .any ops Q n S f (listed.setIfInBounds m true) a w)→K' a w)→Oper.wp P q a w K' Q):
  kN P .any ops Q n S (f+1) listed a w:=by
 have hm:k∈Region.ready .any ops listed:=by rw[hr];simp
 have hm':l∈Region.ready .any ops listed:=by rw[hr];simp
 have hm2:m∈Region.ready .any ops listed:=by rw[hr];simp
 refine⟨fun e=>by rw[hr]at e;simp at e,fun i hi=>?_⟩;rw[hr]at hi;simp only[List.mem_cons,List.not_mem_nil,or_false]at hi;rcases hi with rfl | rfl | rfl
 ·refine wpOp_step ho fun K' hK=>?_;rw[if_pos hw];exact h K' fun a w hS hW=>hK a w ⟨fun _=>hS,hW hS (inv.set hm hk)⟩
 ·refine wpOp_step hp fun K' hK=>?_;rw[if_pos hw'];exact h' K' fun a w hS hW=>hK a w ⟨fun _=>hS,hW hS (inv.set hm' hl)⟩
 refine wpOp_step hq fun K' hK=>?_;rw[if_pos hw2];exact h2 K' fun a w hS hW=>hK a w ⟨fun _=>hS,hW hS (inv.set hm2 hm0)⟩
end Go.Proofs.YtijdglogadnbcaaGreat.Rg
namespace Go.Proofs.YtijdglogadnbcaaGreat
open Go.Proofs.Tryz
open Go
def iU:Code→Nat→Option Code
 | .region id ops d,k=>if id=k then some (.region id ops d)else none
 | .seq a b,k=>match iU a k with | some c=>some c | none=>iU b k
 | .cond _ a b,k=>match iU a k with | some c=>some c | none=>iU b k
 | .block _ a,k=>iU a k
 | .loop a,k=>iU a k
 | .scope a,k=>iU a k
 | _,_=>none
def iI (f:Func)(k:Nat):Code:=match f.body with | some c=>(iU c k).getD .skip | none=> .skip
def Only (K:Act→World→Prop):Exit→Act→World→Prop
 | .normal,a,w=>K a w
 | _,_,_=>False
theorem dK {P:Program}{s:Code}{K:Act→World→Prop}{Q:Exit→Act→World→Prop}{a:Act}{w:World}(h:s.wp P (Only K) a w)(hk:∀a w,K a w→Q .normal a w):s.wp P Q a w:=
 Code.wp_mono (fun e a w k=>by cases e<;>first | exact hk _ _ k | exact(k:False).elim) h
end Go.Proofs.YtijdglogadnbcaaGreat
namespace Go.Proofs
open Go.Shelf
def Tryz.lays212_ren:Go.Shelf.Ren:=⟨fun | 212=>182 | 263=>201 | 264=>202 | n=>n,fun | 51=>111 | 46=>181 | 53=>169 | 146=>256 | 148=>258 | n=>n,fun | n=>n⟩
theorem Tryz.lays212:Go.Proofs.Lays.n212 prog Tryz.lays212_ren:={
 mixed:=by kernel_rfl
 f212:=func182.trans (congrArg some (by kernel_rfl))
 f263:=func201.trans (congrArg some (by kernel_rfl))
 f264:=func202.trans (congrArg some (by kernel_rfl))
 t46:=underlying181
 a46:=isAgg181
 z46:=sizeOf181
 v46:=zeroValue181
 t51:=underlying111
 a51:=isAgg111
 z51:=sizeOf111
 v51:=zeroValue111
 t53:=underlying169
 a53:=isAgg169
 z53:=sizeOf169
 v53:=zeroValue169
 t146:=underlying256
 a146:=isAgg256
 z146:=sizeOf256
 v146:=zeroValue256
 t148:=underlying258
 a148:=isAgg258
 z148:=sizeOf258
 v148:=zeroValue258}
theorem Tryz.bits_Mul (x y:Nat)(hx:x<18446744073709551616)(hy:y<18446744073709551616)(w:World):
  Calls prog 182 #[.int .u64 x,.int .u64 y] w fun e w'=>e= .returned (.tuple #[.int .u64 ((x*y/18446744073709551616:Nat):Int),.int .u64 ((x*y%18446744073709551616:Nat):Int)])∧w'=w:=Any.bits_Mul Tryz.lays212 x y hx hy w
end Go.Proofs
