/- solve.rowsFault and the reference's RefuteFault. -/
import Derived.Test.YtijdglogadnbcaaGreatY39
set_option linter.unusedVariables false
set_option linter.unusedSimpArgs false
set_option maxRecDepth 100000
set_option maxHeartbeats 40000000
namespace Go.Proofs.YtijdglogadnbcaaGreat
open Go.Proofs.Tryz
open Go.RowKit Nt Bl
def dX (u:Int)(l:List Rw):Nat→Int
 | 0=>0
 | k+1=>if dX u l k≠0 then dX u l k else bV u (aX l k).rel (aX l k).l (aX l k).B
def eP (u:Int)(l:List Rw):Int:=if u<0∨24<u then 1 else if 40<l.length then 3 else dX u l l.length
theorem sO {u:Int}{l:List Rw}{k n:Nat}(h0:dX u l k=0)(h:bV u (aX l k).rel (aX l k).l (aX l k).B≠0)(hn:k<n):dX u l n=bV u (aX l k).rel (aX l k).l (aX l k).B:=by
 obtain⟨d,rfl⟩:∃d,n=k+1+d:=⟨n-k-1,by omega⟩;clear hn;induction d with
 | zero=>show(if dX u l k≠0 then _ else _)=_;rw[if_neg (by rw[h0];simp)]
 | succ d ih=>
  show(if dX u l (k+1+d)≠0 then dX u l (k+1+d)else _)=_
  rw[if_pos (by rw[ih];exact h),ih]
theorem sQ {u:Int}{l:List Rw}{k:Nat}(h0:dX u l k=0)(h:bV u (aX l k).rel (aX l k).l (aX l k).B=0):dX u l (k+1)=0:=by show(if dX u l k≠0 then _ else _)=_;rw[if_neg (by rw[h0];simp)];exact h
def RsL (w:World)(u:Int)(l:List Rw)(i:Value)(wr:World):Prop:=∃k:Nat,k≤l.length∧i= .int .i64 (k:Int)∧dX u l k=0∧Below w.heap.size w wr
theorem wS {w:World}{l:List Rw}{ra:Option Addr}{k cc:Nat}{u:Int}(h:lT w l ra)(hk:l.length=k)(hc:k≤cc)(hc2:cc≤9223372036854775807):
  Calls prog 90 #[.slice ra k cc,.int .i64 u] w (bP w (eP u l)):=by
 have H0:=hid h;have HK:=hid hk;have E:Hid (eP u l=if u<0∨24<u then 1 else if 40<k then 3 else dX u l k):=by show _=_;unfold eP;rw[hk]
 obtain⟨Q,hQ⟩:∃Q:Ending→World→Prop,Q=bP w (eP u l):=⟨_,rfl⟩;rw[←hQ];have HQ:=hid hQ;clear h hk hQ;go_enter func90,ntmps90;by_cases c1:u<0
 ·go_wp2_with fail;rw[HQ.out];exact⟨by(rw[E.out,if_pos (Or.inl c1)])<;>rfl,Below.refl _ _⟩
 by_cases c2:24<u
 ·go_wp2_with fail;rw[HQ.out];exact⟨by(rw[E.out,if_pos (Or.inr c2)])<;>rfl,Below.refl _ _⟩
 by_cases c3:(40:Int)<(k:Int)
 ·go_wp2_with fail;rw[HQ.out];exact⟨by(rw[E.out,if_neg (by omega),if_pos (by omega)])<;>rfl,Below.refl _ _⟩
 have E2:Hid (eP u l=dX u l k):=by show _=_;rw[E.out,if_neg (by omega),if_neg (by omega)]
 clear E;go_wp2_with fail;go_loopw [21] (fun v wr=>RsL w u l v wr) (fun v _=>k-(intOf v).toNat)
 case atStart=>exact⟨0,Nat.zero_le _,rfl,rfl,Below.refl _ _⟩
 obtain⟨i,hi,rfl,hz0,hB⟩:=hrel;have Z0:=hid hz0;have BJ:=hid hB;rw[HK.out]at hi;clear hz0 hB;by_cases hlt:i<k
 ·obtain⟨g,o,ca,nc,N,rfl,q5,p0,p1,p2,p3,p4⟩:=H0.out.row (i:=i) (by rw[HK.out];exact hlt);have p0:=aj BJ.out p0;have p1:=aj BJ.out p1;have p2:=aj BJ.out p2;have p3:=aj BJ.out p3;have p4:=aj BJ.out p4;have ST:=hid (fun(h:bV u (aX l i).rel (aX l i).l (aX l i).B≠0)=>(sO Z0.out h hlt));have NX:=hid (fun(h:bV u (aX l i).rel (aX l i).l (aX l i).B=0)=>(sQ Z0.out h));have Bd:=hid (q5.below BJ.out);clear q5;obtain⟨R,hRR⟩:∃R,aX l i=R:=⟨_,rfl⟩;rw[hRR]at p0 p1 p2 Bd ST NX;clear hRR;have i0:(0:Int)≤(i:Int):=by omega
  have i1:(i:Int)<(k:Int):=by omega
  obtain⟨z,hz⟩:∃z,bV u R.rel R.l R.B=z:=⟨_,rfl⟩;have qX:=ah wr (.cells #[.slice ca R.l.length nc,.int .i64 R.rel,.bool R.B.neg,.slice N.a N.n N.c,.slice N.b N.m N.d] 27);have X1:Hid (iH (wr.alloc (.cells #[.slice ca R.l.length nc,.int .i64 R.rel,.bool R.B.neg,.slice N.a N.n N.c,.slice N.b N.m N.d] 27)) wr.heap.size #[.slice ca R.l.length nc,.int .i64 R.rel,.bool R.B.neg,.slice N.a N.n N.c,.slice N.b N.m N.d]):=heap_alloc_new _ _;have C:=yS (u:=u) (rel:=R.rel) (Bd.out.co.below qX) (Bd.out.bd.below qX) rfl Bd.out.le Bd.out.cap;rw[hz]at C ST NX;have C:=hid C;have B2:=hid (aB BJ.out qX);clear qX hz;go_upto_region 8 with fail
  generalize wr.alloc (.cells #[.slice ca R.l.length nc,.int .i64 R.rel,.bool R.B.neg,.slice N.a N.n N.c,.slice N.b N.m N.d] 27)=W at*;obtain⟨g2,hg2⟩:∃g,wr.heap.size=g:=⟨_,rfl⟩;rw[hg2]at X1⊢;clear hg2 p0 p1 p2 p3 p4;obtain⟨u0,u1,u2,u3,u4,_⟩:=X1.out.reads;by_cases hz0:z=0
  ·subst hz0;have N2:=hid (NX.out rfl);clear ST NX;go_wp2_with (go_at_call 14;refine C.out.mono ?_;rintro e w2 ⟨rfl,hB2⟩;have B3:=hid (aB B2.out hB2);clear hB2 u0 u1 u2 u3 u4);go_roundw
   case rel=>exact⟨i+1,by rw[HK.out];omega,by go_num,N2.out,B3.out⟩
   simp[intOf];omega
  have S2:=hid (ST.out hz0);clear ST NX;go_wp2_with (go_at_call 14;refine C.out.mono ?_;rintro e w2 ⟨rfl,hB2⟩;have B3:=hid (aB B2.out hB2);clear hB2 u0 u1 u2 u3 u4);rw[HQ.out];exact⟨by(rw[E2.out,S2.out])<;>rfl,B3.out⟩
 obtain rfl:k=i:=by omega
 go_wp2_with fail;rw[HQ.out];exact⟨by(rw[E2.out,Z0.out])<;>rfl,BJ.out⟩
theorem wU {w:World}{l:List Rw}{ra:Option Addr}{k cc:Nat}{u:Int}(h:lT w l ra)(hk:l.length=k)(hc:k≤cc)(hc2:cc≤9223372036854775807):
  Calls prog 46 #[.slice ra k cc,.int .i64 u] w (bP w (eP u l)):=by
 have H0:=hid h;have HK:=hid hk;have E:Hid (eP u l=if u<0∨24<u then 1 else if 40<k then 3 else dX u l k):=by show _=_;unfold eP;rw[hk]
 obtain⟨Q,hQ⟩:∃Q:Ending→World→Prop,Q=bP w (eP u l):=⟨_,rfl⟩;rw[←hQ];have HQ:=hid hQ;clear h hk hQ;go_enter func46,ntmps46;by_cases c1:u<0
 ·go_wp2_with fail;rw[HQ.out];exact⟨by(rw[E.out,if_pos (Or.inl c1)])<;>rfl,Below.refl _ _⟩
 by_cases c2:24<u
 ·go_wp2_with fail;rw[HQ.out];exact⟨by(rw[E.out,if_pos (Or.inr c2)])<;>rfl,Below.refl _ _⟩
 by_cases c3:(40:Int)<(k:Int)
 ·go_wp2_with fail;rw[HQ.out];exact⟨by(rw[E.out,if_neg (by omega),if_pos (by omega)])<;>rfl,Below.refl _ _⟩
 have E2:Hid (eP u l=dX u l k):=by show _=_;rw[E.out,if_neg (by omega),if_neg (by omega)]
 clear E;go_wp2_with fail;go_loopw [5] (fun v wr=>RsL w u l v wr) (fun v _=>k-(intOf v).toNat)
 case atStart=>exact⟨0,Nat.zero_le _,rfl,rfl,Below.refl _ _⟩
 obtain⟨i,hi,rfl,hz0,hB⟩:=hrel;have Z0:=hid hz0;have BJ:=hid hB;rw[HK.out]at hi;clear hz0 hB;by_cases hlt:i<k
 ·obtain⟨g,o,ca,nc,N,rfl,q5,p0,p1,p2,p3,p4⟩:=H0.out.row (i:=i) (by rw[HK.out];exact hlt);have p0:=aj BJ.out p0;have p1:=aj BJ.out p1;have p2:=aj BJ.out p2;have p3:=aj BJ.out p3;have p4:=aj BJ.out p4;have ST:=hid (fun(h:bV u (aX l i).rel (aX l i).l (aX l i).B≠0)=>(sO Z0.out h hlt));have NX:=hid (fun(h:bV u (aX l i).rel (aX l i).l (aX l i).B=0)=>(sQ Z0.out h));have Bd:=hid (q5.below BJ.out);clear q5;obtain⟨R,hRR⟩:∃R,aX l i=R:=⟨_,rfl⟩;rw[hRR]at p0 p1 p2 Bd ST NX;clear hRR;have i0:(0:Int)≤(i:Int):=by omega
  have i1:(i:Int)<(k:Int):=by omega
  obtain⟨z,hz⟩:∃z,bV u R.rel R.l R.B=z:=⟨_,rfl⟩;have C:=Na (u:=u) (rel:=R.rel) Bd.out.co Bd.out.bd rfl Bd.out.le Bd.out.cap;rw[hz]at C ST NX;have C:=hid C;clear hz;by_cases hz0:z=0
  ·subst hz0;have N2:=hid (NX.out rfl);clear ST NX;go_wp2_with (go_at_call 15;refine C.out.mono ?_;rintro e w2 ⟨rfl,hB2⟩;have B3:=hid (aB BJ.out hB2);clear hB2 p0 p1 p2 p3 p4);go_roundw
   case rel=>exact⟨i+1,by rw[HK.out];omega,by go_num,N2.out,B3.out⟩
   simp[intOf];omega
  have S2:=hid (ST.out hz0);clear ST NX;go_wp2_with (go_at_call 15;refine C.out.mono ?_;rintro e w2 ⟨rfl,hB2⟩;have B3:=hid (aB BJ.out hB2);clear hB2 p0 p1 p2 p3 p4);rw[HQ.out];exact⟨by(rw[E2.out,S2.out])<;>rfl,B3.out⟩
 obtain rfl:k=i:=by omega
 go_wp2_with fail;rw[HQ.out];exact⟨by(rw[E2.out,Z0.out])<;>rfl,BJ.out⟩
def N3 (w:World)(k:Nat)(a:Option Addr):Prop:=∀ad,a=some ad→k≤ad.block∧dh w ad.block 3
theorem N3.nil (w:World)(k:Nat):N3 w k none:=fun ad h=>by cases h
theorem N3.below {w w':World}{k:Nat}{a:Option Addr}(h:N3 w k a)(hb:Below w.heap.size w w'):N3 w' k a:=fun ad e=>⟨(h ad e).1,(h ad e).2.keep (hb.block _ (h ad e).2.lt)⟩
theorem N3.mono {w:World}{k j:Nat}{a:Option Addr}(h:N3 w k a)(hj:j≤k):N3 w j a:=fun ad e=>⟨Nat.le_trans hj (h ad e).1,(h ad e).2⟩
theorem N3.gy {w:World}{k:Nat}{a:Option Addr}(h:N3 w k a)(g:Nat)(x y z:Value):N3 (((w.setCell ⟨g,0,none⟩ x).setCell ⟨g,1,none⟩ y).setCell ⟨g,2,none⟩ z) k a:=fun ad e=>⟨(h ad e).1,dh.setCell (dh.setCell (dh.setCell (h ad e).2 g 0 x) g 1 y) g 2 z⟩
def yL (w:World)(x:Nat)(e:Ending)(w':World):Prop:=∃a n c,e= .returned (.slice a n c)∧HAt w' (Nh.aC x) a n c∧N3 w' w.heap.size a∧Below w.heap.size w w'
def uw (w:World)(q:Rat)(e:Ending)(w':World):Prop:=
  ∃s a n c b m d,e= .returned (.agg #[.bool s,.slice a n c,.slice b m d])∧HR w' q s a n c b m d∧N3 w' w.heap.size a∧N3 w' w.heap.size b∧Below w.heap.size w w'
theorem uG {w:World}{b n:Nat}{v:Value}{l:List Nat}(hl:Nh.Lm l)(hn:l.length=n)(h:w.ownsRow b 3 1 v n (dW l)):∃a c,v= .slice a n c∧HAt w l a n c∧N3 w b a:=by
  obtain⟨a,c,e,k⟩:=lF hl hn h;refine⟨a,c,e,k,fun ad q=>?_⟩;rcases h.2 with⟨rfl,h0⟩ | ⟨g,cap,cur,rfl,hb,hg,_⟩
  · injection e with e1;rw[←e1]at q;cases q
  · injection e with e1
    rw[←e1]at q
    injection q with q
    subst q
    exact⟨hb,⟨_,hg⟩⟩
theorem Yv {w:World}{l:List Nat}{a:Option Addr}{n c:Nat}(h:bW w l a n c)(hsz:n≤1099511627776):Calls prog 89 #[.slice a n c] w (yL w (Nt.vl l)):=by
 have H:=hid h;have hn:=hid h.len;clear h;obtain⟨i0,hi0,hz0,hz1,hz2⟩:=info_parts info3;go_enter func89,ntmps89;go_wp2_with fail;go_loopw [3,8] (fun v i wr=>NoL w l v i wr) (fun _ i _=>n-(intOf i).toNat)
 case atStart=>exact⟨0,Nat.zero_le _,rfl,World.ownsRow_nil _ _ _ _,Below.refl _ _⟩
 obtain⟨k,hk,rfl,hO,hB⟩:=hrel;have O:=hid hO;have BR:=hid hB;clear hO hB;rw[hn.out]at hk;by_cases hlt:k<n
 ·obtain⟨b,o,rfl,d⟩:=H.out.at_ (by intro e;have:=hn.out;rw[e]at this;simp at this;omega);have p:=aj BR.out (d k (by rw[hn.out];exact hlt));clear d;obtain⟨x,hx⟩:∃x,l.getD k 0=x:=⟨_,rfl⟩;have xb:x<4294967296:=by rw[←hx];exact Nt.ak H.out.lm k
  rw[hx]at p;have TK:Hid (l.take (k+1)=l.take k++[x]):=by show _=_;rw[←hx];exact kT (by rw[hn.out];exact hlt)
  clear hx;have a16:=WC x xb;obtain⟨y,hy⟩:∃y,x%65536=y:=⟨_,rfl⟩;obtain⟨z,hz⟩:∃z,x/65536=z:=⟨_,rfl⟩;rw[hy]at a16;have d16:(x:Int)/65536=(z:Int):=by omega
  have yb:y<65536:=by omega
  have zb:z<65536:=by omega
  have HY:=hid hy;have HZ:=hid hz;clear hy hz;have O2:=hid (O.out.alloc (.cells #[.int .i64 (y:Int),.int .i64 (z:Int)] 3));have NC:Hid (∀j u,[Value.int .i64 (y:Int),Value.int .i64 (z:Int)][j]? =some u→(wr.alloc (.cells #[.int .i64 (y:Int),.int .i64 (z:Int)] 3)).cell? ((⟨wr.heap.size,0,none⟩:Addr).add j)=some u):=by intro j u hu;rw[Addr.add_lit,Nat.zero_add,cell_of_row _ wr.heap.size j _ _ _ (heap_alloc_new wr (.cells #[.int .i64 (y:Int),.int .i64 (z:Int)] 3))];rcases j with _ | _ | j<;>simp at hu⊢ <;>exact hu
  have BA:Hid (Below wr.heap.size wr (wr.alloc (.cells #[.int .i64 (y:Int),.int .i64 (z:Int)] 3))):=(Below.refl _ _).alloc (Nat.le_refl _) _;have NX:Hid (dW (Nh.nh (l.take k))++[Value.int .i64 (y:Int),Value.int .i64 (z:Int)]=dW (Nh.nh (l.take (k+1)))):=by show _=_;rw[TK.out,Nh.xU];unfold dW;rw[List.map_append];simp only[Nh.nh,List.map_cons,List.map_nil,HY.out,HZ.out]
  go_wp2_with (at_builtin;refine wpList_append_own _ rfl _ _ 76 rfl w.heap.size 3 i0 (.int .i64 0) 1 8 underlying76 hi0 hz0 hz1 hz2 rfl (by omega) u3 (2*k) _ rfl O2.out ⟨wr.heap.size,0,none⟩ 2 2 [.int .i64 (y:Int),.int .i64 (z:Int)] rfl rfl NC.out (by intro u hu;simp at hu;rcases hu with rfl | rfl<;>rfl) (by unfold maxLen;omega) (by omega) (by have:=BR.out.size;simp;omega) ?_;intro v' w1 hown1 hgrow1 hnil1;rw[NX.out]at hown1;have OW:=hid hown1;have GR:=hid hgrow1;clear hown1 hgrow1 hnil1);have LT:=hid O2.out.lt;have BF:Hid (Below w.heap.size w w1):=by refine⟨GR.out.os.trans (BA.out.os.trans BR.out.os),GR.out.tape.trans (BA.out.tape.trans BR.out.tape),GR.out.output.trans (BA.out.output.trans BR.out.output),Nat.le_trans BR.out.size (Nat.le_trans BA.out.size GR.out.size),fun q hq=>?_⟩;rw[GR.out.block q (Nat.lt_of_lt_of_le hq (Nat.le_trans BR.out.size BA.out.size)) (fun e=>by have:=(LT.out q e.symm).1;omega)];exact(BA.out.block q (Nat.lt_of_lt_of_le hq BR.out.size)).trans (BR.out.block q hq)
  go_roundw
  case rel=>exact⟨k+1,by rw[hn.out];omega,by go_num,by rw[show 2*(k+1)=2*k+2 from by omega];exact OW.out,BF.out⟩
  simp[intOf];omega
 obtain rfl:n=k:=by omega
 have O3:Hid (wr.ownsRow w.heap.size 3 1 u3 (2*n) (dW (Nh.nh l))):=by have:=O.out;rwa[List.take_of_length_le (by rw[hn.out];exact Nat.le_refl _)]at this
 obtain⟨a2,c2,rfl,L2,N2⟩:=uG (Nh.WE H.out.lm) (by rw[Nh.xW,hn.out]) O3.out;have L2:=hid L2;have N2:=hid N2;have V:Hid (Nh.vl (Nh.nh l)=Nt.vl l):=Nh.WG l;go_wp2_with fail;refine(dL L2.out).mono ?_;rintro e w' ⟨rfl,rfl⟩;go_wp2_with fail;go_ret;exact⟨a2,_,c2,rfl,by rw[←V.out];exact L2.out.trim,N2.out,BR.out⟩
theorem xX {w:World}{x:Nat}{l:List Nat}{a:Option Addr}{n c:Nat}(h:bW w l a n c)(hsz:n≤1099511627776)(hx:vl l=x):Calls prog 89 #[.slice a n c] w (yL w x):=by have:=Yv h hsz;rw[hx]at this;exact this
theorem Yw {w:World}{R:Raw}{a b:Option Addr}{n c m d:Nat}(h:dG w R a n c b m d)(h0:aP R=0):
  Calls prog 42 #[.agg #[.bool R.neg,.slice a n c,.slice b m d]] w (uw w (bF R)):=by
 obtain⟨f1,f2,f3,_,_,f6,f7⟩:=gG h.num.lm h.den.lm h0;have F1:=hid f1;have F2:=hid f2;have F3:=hid f3;rw[h.num.len]at f6;rw[h.den.len]at f7;have B0:Hid (Below w.heap.size w ((w.alloc (.cells #[.bool R.neg,.slice a n c,.slice b m d] 25)).alloc (.cells #[.bool false,.slice none 0 0,.slice none 0 0] 78))):=(ah _ _).alloc (by simp) _;have S0:Hid (((w.alloc (.cells #[.bool R.neg,.slice a n c,.slice b m d] 25)).alloc (.cells #[.bool false,.slice none 0 0,.slice none 0 0] 78)).heap.size=w.heap.size+2):=by show _=_;simp
 have X1:Hid (NB ((w.alloc (.cells #[.bool R.neg,.slice a n c,.slice b m d] 25)).alloc (.cells #[.bool false,.slice none 0 0,.slice none 0 0] 78)) w.heap.size R.neg a n c b m d):=by show NB _ _ _ _ _ _ _ _ _;unfold NB;rw[Below.heap_alloc _ _ _ (by simp)];exact heap_alloc_new w _
 have X2:Hid (NR ((w.alloc (.cells #[.bool R.neg,.slice a n c,.slice b m d] 25)).alloc (.cells #[.bool false,.slice none 0 0,.slice none 0 0] 78)) (w.heap.size+1) false none 0 0 none 0 0):=by have:=heap_alloc_new (w.alloc (.cells #[.bool R.neg,.slice a n c,.slice b m d] 25)) (.cells #[.bool false,.slice none 0 0,.slice none 0 0] 78);rwa[show(w.alloc (.cells #[.bool R.neg,.slice a n c,.slice b m d] 25)).heap.size=w.heap.size+1 from by simp]at this
 have LN:=hid (h.num.below B0.out);have LD:=hid (h.den.below B0.out);obtain⟨neg,hneg⟩:∃s,R.neg=s:=⟨_,rfl⟩;rw[hneg]at B0 X1 X2 S0 LN LD F3⊢;clear h h0 f1 f2 f3 hneg;go_enter func42,ntmps42;go_upto_region 1 with fail
 generalize (w.alloc (.cells #[.bool neg,.slice a n c,.slice b m d] 25)).alloc (.cells #[.bool false,.slice none 0 0,.slice none 0 0] 78)=W0 at*;obtain⟨u0,u1,u2,_⟩:=X1.out.reads;have N1:=hid (xX (w:=W0.drew) (LN.out.below (Below.refl _ _).drew) (by omega) F1.out.symm);go_region_held3 (fun W=>W.cell? ⟨w.heap.size,0,none⟩=some (.bool neg)∧W.cell? ⟨w.heap.size,1,none⟩=some (.slice a n c)∧W.cell? ⟨w.heap.size,2,none⟩=some (.slice b m d))
  (first
   | exact⟨u0,u1,u2⟩
   | exact⟨v0,v1,v2⟩
   | exact⟨x0,x1,x2⟩
   | exact⟨y0,y1,y2⟩
   | go_keep)
  (first
   | (go_at_call 89;((with_reducible refine N1.out.mono ?_));go_loud (rintro e w2 ⟨a2,n2,c2,rfl,L2,NA,B2⟩;have B2:=aJ B2;have K2:NB w2 w.heap.size neg a n c b m d:=X1.out.later B2 X1.out.lt;obtain⟨v0,v1,v2,_⟩:=K2.reads;have K2:=hid K2;have R2:=hid (X2.out.later B2 X2.out.lt);have L2:=hid L2;have NA:=hid NA;have N2:=hid (xX (LD.out.below B2) (by omega) F2.out.symm);have eX:=hid (aB B0.out B2);clear B2))
   | (go_at_call 89;((with_reducible refine N2.out.mono ?_));go_loud (rintro e w3 ⟨a3,n3,c3,rfl,L3,Yx,B3⟩;have K3:NB w3 w.heap.size neg a n c b m d:=K2.out.later B3 K2.out.lt;obtain⟨x0,x1,x2,_⟩:=K3.reads;have R3:=R2.out.later B3 R2.out.lt;obtain⟨z0,z1,z2,f⟩:=R3.reads;have f0:=f 0;have f1:=f 1;have f2:=f 2;have Eh:=R3.lt;have y:=K3;have K3:=hid K3;have R3:=hid R3;have M2:=hid (L2.out.below B3);have L3:=hid L3;have NA2:=hid (NA.out.below B3);have Yx:=hid Yx;have SZ2:=hid eX.out.size;have fC:=hid (aB eX.out B3);clear B3 f)))
 go_wp2_with fail;exact bodyPost_ret (v:= .agg #[.bool neg,.slice a2 n2 c2,.slice a3 n3 c3]) (by simp[results,results42,go_sem,z0,z1,z2]) rfl ⟨neg,a2,n2,c2,a3,n3,c3,rfl,⟨F3.out,M2.out.fV R3.out (ay _ _ _ _ _),L3.out.fV R3.out (ay _ _ _ _ _)⟩,(NA2.out.mono (by simpa using B0.out.size)).gy _ _ _ _,(Yx.out.mono SZ2.out).gy _ _ _ _,aG fC.out _ (by omega) _ _ _⟩
end Go.Proofs.YtijdglogadnbcaaGreat
namespace Go.Proofs.YtijdglogadnbcaaGreat
open Go.Proofs.Tryz
open Go.RowKit
theorem XT {w:World}{g:Nat}{l:List Nat}(h:HB w g l):dh w g 3:=⟨_,h⟩
theorem Ld {w:World}{g k:Nat}{l:List Nat}(h:HB w g l)(hk:k≤g):N3 w k (some ⟨g,0,none⟩):=fun ad e=>by injection e with e;subst e;exact⟨hk,XT h⟩
theorem XU {w:World}{la lb:List Nat}{a b:Option Addr}{na nb ca cb:Nat}(ha:HAt w la a na ca)(hb:HAt w lb b nb cb)(hsz:na≤1099511627776)(oh:nb≤1099511627776):
  Calls prog 84 #[.slice a na ca,.slice b nb cb] w (yL w (Nh.vl la*Nh.vl lb)):=by
 have A:=hid ha;have B:=hid hb;have hcb:=hb.cap;have hlb:=hb.le;have hca:=ha.cap;have Le:=ha.le;clear ha hb;obtain⟨i0,hi0,hz0,hz1,hz2⟩:=info_parts info3;go_enter func84,ntmps84;go_wp2_with (at_make;refine wpList_make_full _ rfl _ _ 76 rfl 0 3 i0 (.int .i64 0) 1 underlying76 hi0 hz0 hz1 .i64 .i64 _ _ (na+nb+1) rfl rfl (by omega) (by omega) (by rw[hz2];omega) (by unfold maxLen;omega) (Nat.zero_le _) ?_;intro w1 hown1 hg1;have U1:=hid (uj hown1);have B1:=hid (below_grown hg1);clear hown1 hg1);go_loopw [19] (fun i wr=>HmO w w.heap.size la lb na (na+nb+1) i wr) (fun i _=>na-(intOf i).toNat)
 case atStart=>exact⟨0,_,Nat.zero_le _,rfl,Nh.eG.nil,U1.out,B1.out⟩
 obtain⟨i,out,hi,rfl,hM,hU,hB⟩:=hrel;have M:=hid hM;have U:=hid hU;have BR:=hid hB;clear hM hU hB;by_cases hlt:i<na
 ·obtain⟨b1,o1,rfl,d1⟩:=A.out.at_ (by intro e;have:=A.out.len;rw[e]at this;simp at this;omega);have DA:=hid (d1 i (by rw[A.out.len];exact hlt));clear d1;obtain⟨x,hx⟩:∃x,la.getD i 0=x:=⟨_,rfl⟩;have xb:x<65536:=by rw[←hx];exact Nh.ak A.out.lm i
  rw[hx]at DA;have HX:=hid hx;clear hx;obtain⟨wo,rfl⟩:∃wo:World,wo=wr:=⟨_,rfl⟩;go_wp2_with fail;go_loopw [7,8] (fun c k wr=>KN w w.heap.size la lb (na+nb+1) i nb c k wr) (fun _ k _=>nb+1-(intOf k).toNat)
  case atStart=>exact⟨0,0,out,Nat.zero_le _,rfl,rfl,by omega,fun _=>M.out,fun e=>by omega,U.out,BR.out⟩
  obtain⟨j,cc,tJ,hj,rfl,rfl,c1,hM2,hE2,Lh,hB2⟩:=hrel;have U2:=hid Lh;have B2:=hid hB2;clear Lh hB2;by_cases hgo:j<nb∨0<cc
  ·have jn:j≤nb:=by
    rcases hgo with e | e
    ·omega
    refine Classical.byContradiction fun q=>?_;have:=(hE2 (by omega)).1;omega
   have M2:=hid (hM2 jn);clear hM2 hE2;have p2:=aj B2.out DA.out;have p3:=U2.out.cell (i:=i+j) (by rw[M2.out.len];omega);have f3:=U2.out.free (i+j);obtain⟨y,hy⟩:∃y,lb.getD j 0=y:=⟨_,rfl⟩;obtain⟨z,hz⟩:∃z,tJ.getD (i+j) 0=z:=⟨_,rfl⟩;have yb:y<65536:=by rw[←hy];exact Nh.ak B.out.lm j
   have zb:z<65536:=by rw[←hz];exact Nh.ak M2.out.lm (i+j)
   have DG:=bC (w:=wr.drew) ((B.out.below B2.out).below (Below.refl _ _).drew) j (by omega);rw[hy]at DG;have DG:=hid DG;rw[hz]at p3;have HY:=hid hy;have HZ:=hid hz;clear hy hz;have cp:=Nh.nG xb yb zb c1;obtain⟨s,hs⟩:∃s,cc+x*y+z=s:=⟨_,rfl⟩;rw[hs]at cp;obtain⟨xy,hxy⟩:∃xy,x*y=xy:=⟨_,rfl⟩;rw[hxy]at hs;have w1':IntKind.i64.wrap ((x:Int)*(y:Int))=(xy:Int):=by rw[←Int.natCast_mul,hxy];exact IntWalk.i64_in _ (by omega)
   have w2':IntKind.i64.wrap ((z:Int)+(xy:Int))=(z:Int)+(xy:Int):=IntWalk.i64_in _ (by omega);have w3':IntKind.i64.wrap ((z:Int)+(xy:Int)+(cc:Int))=(s:Int):=by rw[IntWalk.i64_in _ (by omega)];omega
   obtain⟨ij,hij⟩:∃ij,i+j=ij:=⟨_,rfl⟩;have w4':IntKind.i64.wrap ((i:Int)+(j:Int))=(ij:Int):=by rw[IntWalk.i64_in _ (by omega)];omega
   have p4:Hid (wr.cell? ⟨w.heap.size,ij,none⟩=some (.int .i64 (z:Int))):=by rw[←hij];exact p3
   have IJ:=hid hij;rw[←hxy]at hs;have HS:=hid hs;have ST:Hid (KN w w.heap.size la lb (na+nb+1) i nb (.int .i64 ((s:Int)/65536)) (.int .i64 ((j:Int)+1)) (wr.drew.setCell ⟨w.heap.size,i+j,none⟩ (.int .i64 ((s:Int)%65536)))):=by
    have UD:HB wr.drew w.heap.size tJ:=U2.out;have BD:Below w.heap.size w wr.drew:=B2.out.drew;by_cases q:j<nb
    ·exact KN.step A.out.lm B.out.lm B.out.len q (by omega) M2.out UD BD (Nat.le_refl _) (by rw[HX.out,HY.out,HZ.out,HS.out])
    obtain rfl:j=nb:=by omega
    have y0:y=0:=by rw[←HY.out,List.getD_eq_getElem?_getD,List.getElem?_eq_none (by rw[B.out.len];omega)];rfl
    have z0:z=0:=by rw[←HZ.out];exact M2.out.zero _ (by rw[B.out.len];omega) (by omega)
    have sc:s=cc:=by rw[←HS.out,y0,z0];simp
    rw[sc];exact KN.last B.out.len (by omega) M2.out UD BD (Nat.le_refl _)
   have s0:(0:Int)≤(s:Int):=by omega
   have s1:(s:Int)≤9223372036854775807:=by omega
   clear hs hxy cp M2 HY HZ HS hij;go_upto_region 7 with fail
   go_cut [29] (fun v W=>v= .bool true∧W=wr)
   case first=>
    by_cases q:j<nb
    ·have q1:(j:Int)<(nb:Int):=by omega
     clear w1' w2' w3' w4' hgo;go_wp2_with fail;go_meet
     case rel=>exact⟨rfl,rfl⟩
    have q1:(nb:Int)≤(j:Int):=by omega
    have q2:0<cc:=by omega
    have q3:decide (0<cc)=true:=decide_eq_true q2;clear w1' w2' w3' w4' hgo;go_wp2_with fail;go_meet
    case rel=>exact⟨rfl,rfl⟩
   obtain⟨rfl,rfl⟩:=hcut;clear hgo;have k1:(0:Int)≤(ij:Int):=by omega
   have k2:(ij:Int)<(na:Int)+(nb:Int)+1:=by have:=IJ.out;omega
   have p4:=p4.out;have k3:(0:Int)≤(i:Int):=by omega
   have k4:(i:Int)<(na:Int):=by omega
   go_upto_region 9 with fail
   go_region_held3 (fun W=>W.cell? ⟨w.heap.size,ij,none⟩=some (.int .i64 (z:Int))∧W.cell? ⟨b1,o1+i,none⟩=some (.int .i64 (x:Int)))
    (first
     | exact⟨p4,p2⟩
     | go_keep)
    ((go_at_call 127;((with_reducible refine DG.out.mono ?_));rintro e w2 ⟨rfl,rfl⟩))
   clear w1' w2' w3' w4' k1 k2 k3 k4 DG p4;have p3:wc.drew.cell? ⟨w.heap.size,i+j,none⟩=some (.int .i64 (z:Int)):=p3;have f3:wc.drew.frozen? ⟨w.heap.size,i+j,none⟩=false:=f3;go_wp2_with fail;go_roundw
   case rel=>exact ST.out
   simp[intOf];omega
  have j0:nb≤j:=by omega
  have c0:cc=0:=by omega
  have NX:Hid (Nh.eG la lb (na+nb+1) (i+1) 0 tJ 0):=by
   by_cases q:j=nb
   ·have:=hM2 (by omega);rw[c0,q,←B.out.len]at this;have h2:=this.rest;rw[B.out.len]at h2;exact h2
   exact(hE2 (by omega)).2
  subst c0;clear hM2 hE2 hgo;go_wp2_with fail;go_roundw
  case rel=>exact⟨i+1,tJ,by omega,by go_num,NX.out,U2.out,B2.out⟩
  simp[intOf];omega
 obtain rfl:na=i:=by omega
 have V:Hid (Nh.vl out=Nh.vl la*Nh.vl lb):=by have:=M.out;rw[←A.out.len]at this;exact this.done
 have L2:Hid (HAt wr out (some ⟨w.heap.size,0,none⟩) (na+nb+1) (na+nb+1)):=⟨U.out.at_,M.out.len,Nat.le_refl _,by omega,M.out.lm⟩;go_wp2_with fail;refine(dL L2.out).mono ?_;rintro e w' ⟨rfl,rfl⟩;go_wp2_with fail;go_ret;exact⟨_,_,_,rfl,by have:=L2.out.trim;rwa[V.out]at this,Ld U.out (Nat.le_refl _),BR.out⟩
theorem XY {w:World}{la lb:List Nat}{a b:Option Addr}{n c m d:Nat}(ha:HAt w la a n c)(hb:HAt w lb b m d)(hn:n≤1099511627776)(hm:m≤1099511627776):
    Calls prog 170 #[.slice a n c,.slice b m d] w (yL w (Nh.vl la+Nh.vl lb)):=by
  have A:=hid ha;have B:=hid hb;obtain⟨mx,hmx⟩:∃mx,max n m=mx:=⟨_,rfl⟩;have nM:n≤mx:=by omega
  have mM:m≤mx:=by omega
  have MX:Hid (mx=n∨mx=m):=by show _∨_;omega
  have mb:mx≤1099511627776:=by omega
  have LN:=hid ha.len;have LM:=hid hb.len;clear ha hb hmx;obtain⟨i0,hi0,hz0,hz1,hz2⟩:=info_parts info3;go_enter func170,ntmps170;go_wp2_with fail;go_loopw [5,6,7] (fun v ca i wr=>Gu w la lb mx v ca i wr) (fun _ _ i _=>mx+1-(intOf i).toNat)
  case atStart=>exact⟨0,[],0,Nat.zero_le _,fun _=>rfl,rfl,rfl,Nh.iF.nil la lb,World.ownsRow_nil _ _ _ _,Below.refl _ _⟩
  obtain⟨k,ds,cc,hk,hz,rfl,rfl,hI,hO,hB⟩:=hrel;have I:=hid hI;have O:=hid hO;have BR:=hid hB;have c1:=hI.c1;clear hI hO hB;by_cases hlt:k<n∨k<m∨0<cc
  · have kM:k≤mx:=by
      refine Classical.byContradiction fun q=>?_
      have:=hz (by omega);omega
    obtain⟨x,hx⟩:∃x,la.getD k 0=x:=⟨_,rfl⟩
    obtain⟨y,hy⟩:∃y,lb.getD k 0=y:=⟨_,rfl⟩
    have xb:x<65536:=by rw[←hx];exact Nh.ak A.out.lm k
    have yb:y<65536:=by rw[←hy];exact Nh.ak B.out.lm k
    have D1:=bC (w:=wr) (A.out.below BR.out) k (by omega)
    have D2:=bC (w:=wr) (B.out.below BR.out) k (by omega)
    rw[hx]at D1
    rw[hy]at D2
    have D1:=hid D1;have D2:=hid D2
    have HX:Hid (cc+x+y=cc+la.getD k 0+lb.getD k 0):=by show _=_;rw[hx,hy]
    have HZ:Hid (k=mx→(cc+x+y)/65536=0):=fun e=>by
      have e1:la.getD k 0=0:=by rw[List.getD_eq_getElem?_getD,List.getElem?_eq_none (by rw[LN.out];omega)];rfl
      have e2:lb.getD k 0=0:=by rw[List.getD_eq_getElem?_getD,List.getElem?_eq_none (by rw[LM.out];omega)];rfl
      omega
    obtain⟨s,hs⟩:∃s,cc+x+y=s:=⟨_,rfl⟩
    rw[hs]at HX HZ
    have w1':IntKind.i64.wrap ((x:Int)+(y:Int))=(x:Int)+(y:Int):=IntWalk.i64_in _ (by omega)
    have w2':IntKind.i64.wrap ((x:Int)+(y:Int)+(cc:Int))=(s:Int):=by rw[IntWalk.i64_in _ (by omega)];omega
    have sb:s<262144:=by omega
    have s0:(0:Int)≤(s:Int):=by omega
    have k0:(0:Int)≤(k:Int):=by omega
    have O2:=hid (O.out.alloc (.cells #[.int .i64 ((s:Int)%65536)] 3))
    have F3:Hid ((wr.alloc (.cells #[.int .i64 ((s:Int)%65536)] 3)).heap[wr.heap.size]? =some (.cells #[.int .i64 ((s:Int)%65536)] 3 (0,0))):=heap_alloc_new _ _
    have kk:Hid (k≤mx):=kM
    clear hx hy hs xb yb hz
    rcases hlt with h1 | h1
    · have b1:(k:Int)<(n:Int):=by omega
      clear h1
      go_wp2_with (first
        | (go_at_call 127;with_reducible refine D1.out.mono ?_;rintro e w2 ⟨rfl,rfl⟩)
        | (go_at_call 127;with_reducible refine D2.out.mono ?_;rintro e w2 ⟨rfl,rfl⟩)
        | (at_builtin;refine wpList_append_own _ rfl _ _ 76 rfl w.heap.size 3 i0 (.int .i64 0) 1 8 underlying76 hi0 hz0 hz1 hz2 rfl (by omega) u5 k _ rfl O2.out ⟨wr.heap.size,0,none⟩ 1 1 [.int .i64 ((s:Int)%65536)] rfl rfl (World.news_of_block F3.out) (by intro u hu;simp at hu;rw[hu];rfl) (by unfold maxLen;omega) (by omega) (by have:=BR.out.size;simp;omega) ?_;intro v' w1 hown1 hgrow1 hnil1;have OW:=hid hown1;have GR:=hid hgrow1;clear hown1 hgrow1 hnil1))
      go_roundw
      case rel=>exact Gu.next kk.out HZ.out A.out.lm B.out.lm I.out HX.out BR.out O.out _ OW.out GR.out
      case measure=>simp[intOf];omega
    · by_cases h2:k<n
      · have b1:(k:Int)<(n:Int):=by omega
        clear h1
        go_wp2_with (first
          | (go_at_call 127;with_reducible refine D1.out.mono ?_;rintro e w2 ⟨rfl,rfl⟩)
          | (go_at_call 127;with_reducible refine D2.out.mono ?_;rintro e w2 ⟨rfl,rfl⟩)
          | (at_builtin;refine wpList_append_own _ rfl _ _ 76 rfl w.heap.size 3 i0 (.int .i64 0) 1 8 underlying76 hi0 hz0 hz1 hz2 rfl (by omega) u5 k _ rfl O2.out ⟨wr.heap.size,0,none⟩ 1 1 [.int .i64 ((s:Int)%65536)] rfl rfl (World.news_of_block F3.out) (by intro u hu;simp at hu;rw[hu];rfl) (by unfold maxLen;omega) (by omega) (by have:=BR.out.size;simp;omega) ?_;intro v' w1 hown1 hgrow1 hnil1;have OW:=hid hown1;have GR:=hid hgrow1;clear hown1 hgrow1 hnil1))
        go_roundw
        case rel=>exact Gu.next kk.out HZ.out A.out.lm B.out.lm I.out HX.out BR.out O.out _ OW.out GR.out
        case measure=>simp[intOf];omega
      · have b1:¬(k:Int)<(n:Int):=by omega
        rcases h1 with h1 | h1
        · have b2:(k:Int)<(m:Int):=by omega
          clear h1 h2
          go_wp2_with (first
            | (go_at_call 127;with_reducible refine D1.out.mono ?_;rintro e w2 ⟨rfl,rfl⟩)
            | (go_at_call 127;with_reducible refine D2.out.mono ?_;rintro e w2 ⟨rfl,rfl⟩)
            | (at_builtin;refine wpList_append_own _ rfl _ _ 76 rfl w.heap.size 3 i0 (.int .i64 0) 1 8 underlying76 hi0 hz0 hz1 hz2 rfl (by omega) u5 k _ rfl O2.out ⟨wr.heap.size,0,none⟩ 1 1 [.int .i64 ((s:Int)%65536)] rfl rfl (World.news_of_block F3.out) (by intro u hu;simp at hu;rw[hu];rfl) (by unfold maxLen;omega) (by omega) (by have:=BR.out.size;simp;omega) ?_;intro v' w1 hown1 hgrow1 hnil1;have OW:=hid hown1;have GR:=hid hgrow1;clear hown1 hgrow1 hnil1))
          go_roundw
          case rel=>exact Gu.next kk.out HZ.out A.out.lm B.out.lm I.out HX.out BR.out O.out _ OW.out GR.out
          case measure=>simp[intOf];omega
        · by_cases h3:k<m
          · have b2:(k:Int)<(m:Int):=by omega
            clear h1 h2 h3
            go_wp2_with (first
              | (go_at_call 127;with_reducible refine D1.out.mono ?_;rintro e w2 ⟨rfl,rfl⟩)
              | (go_at_call 127;with_reducible refine D2.out.mono ?_;rintro e w2 ⟨rfl,rfl⟩)
              | (at_builtin;refine wpList_append_own _ rfl _ _ 76 rfl w.heap.size 3 i0 (.int .i64 0) 1 8 underlying76 hi0 hz0 hz1 hz2 rfl (by omega) u5 k _ rfl O2.out ⟨wr.heap.size,0,none⟩ 1 1 [.int .i64 ((s:Int)%65536)] rfl rfl (World.news_of_block F3.out) (by intro u hu;simp at hu;rw[hu];rfl) (by unfold maxLen;omega) (by omega) (by have:=BR.out.size;simp;omega) ?_;intro v' w1 hown1 hgrow1 hnil1;have OW:=hid hown1;have GR:=hid hgrow1;clear hown1 hgrow1 hnil1))
            go_roundw
            case rel=>exact Gu.next kk.out HZ.out A.out.lm B.out.lm I.out HX.out BR.out O.out _ OW.out GR.out
            case measure=>simp[intOf];omega
          · have b2:¬(k:Int)<(m:Int):=by omega
            have b3:(cc:Int)>0:=by omega
            clear h1 h2 h3
            go_wp2_with (first
              | (go_at_call 127;with_reducible refine D1.out.mono ?_;rintro e w2 ⟨rfl,rfl⟩)
              | (go_at_call 127;with_reducible refine D2.out.mono ?_;rintro e w2 ⟨rfl,rfl⟩)
              | (at_builtin;refine wpList_append_own _ rfl _ _ 76 rfl w.heap.size 3 i0 (.int .i64 0) 1 8 underlying76 hi0 hz0 hz1 hz2 rfl (by omega) u5 k _ rfl O2.out ⟨wr.heap.size,0,none⟩ 1 1 [.int .i64 ((s:Int)%65536)] rfl rfl (World.news_of_block F3.out) (by intro u hu;simp at hu;rw[hu];rfl) (by unfold maxLen;omega) (by omega) (by have:=BR.out.size;simp;omega) ?_;intro v' w1 hown1 hgrow1 hnil1;have OW:=hid hown1;have GR:=hid hgrow1;clear hown1 hgrow1 hnil1))
            go_roundw
            case rel=>exact Gu.next kk.out HZ.out A.out.lm B.out.lm I.out HX.out BR.out O.out _ OW.out GR.out
            case measure=>simp[intOf];omega
  · have b1:¬(k:Int)<(n:Int):=by omega
    have b2:¬(k:Int)<(m:Int):=by omega
    obtain rfl:cc=0:=by omega
    have DN:=hid (I.out.aad (by rw[LN.out];omega) (by rw[LM.out];omega))
    obtain⟨a2,c2,rfl,L2,T2⟩:=uG I.out.lm I.out.len O.out
    have L2:=hid L2;have T2:=hid T2
    clear hlt
    go_wp2_with fail
    refine(dL L2.out).mono ?_
    rintro e w' ⟨rfl,rfl⟩
    go_wp2_with fail
    go_ret
    exact⟨_,_,_,rfl,by have:=L2.out.trim;rwa[DN.out]at this,T2.out,BR.out⟩
theorem Lj {w:World}{A B:Nat}{a b:Option Addr}{n c m d:Nat}(ha:HAt w (Nh.aC A) a n c)(hb:HAt w (Nh.aC B) b m d)(hB:0<B)(hn:n≤67108864)(hm:m≤67108864):
    Calls prog 188 #[.slice a n c,.slice b m d] w fun e w'=>∃a1 n1 c1 a2 n2 c2,e= .returned (.tuple #[.slice a1 n1 c1,.slice a2 n2 c2])∧HAt w' (Nh.aC (A/B)) a1 n1 c1∧N3 w' w.heap.size a1∧Below w.heap.size w w':=by
  have HA:=hid ha;have HBb:=hid hb;have BP:=hid hB;have hc1:=ha.cap;have hc2:=ha.le;have AL:Hid (A<65536^n):=by show _<_;have:=Nh.dD (Nh.bD A);rwa[Nh.au,ha.len]at this
  have BL:Hid (Nh.aU A≤16*n):=by show _≤_;rw[Nh.jR,Nat.pow_mul];exact AL.out
  have blb:Nh.aU A≤1073741824:=by have:=BL.out;omega
  obtain⟨z,hz⟩:∃z,Nh.aU A=z:=⟨_,rfl⟩;have LN:=lX (w:=w) ha (by omega);have HZ:=hid hz;clear ha hb hB;obtain⟨i0,hi0,hz0,hz1,hz2⟩:=info_parts info3;go_enter func188,ntmps188;clear LN;rw[hz]at blb;clear hz;go_upto_region 3 with(at_make;refine wpList_make_full _ rfl _ _ 76 rfl 0 3 i0 (.int .i64 0) 1 underlying76 hi0 hz0 hz1 .i64 .i64 _ _ n rfl rfl (by omega) (by omega) (by rw[hz2];omega) (by unfold maxLen;omega) (Nat.zero_le _) ?_;intro w1 hown1 hg1;have U1:=hid (uj hown1);have B1:=hid (below_grown hg1);clear hown1 hg1)
  obtain⟨g,hg⟩:∃g,w.heap.size=g:=⟨_,rfl⟩;have HG:Hid (w.heap.size=g):=hg;rw[hg]at U1⊢;clear hg;have LN:=lX (w:=w1) (HA.out.below B1.out) (by omega);rw[HZ.out]at LN;have LN:=hid LN;go_wp2_with (go_at_call 95;refine LN.out.mono ?_;rintro e w2 ⟨rfl,rfl⟩);go_loopw [7,8] (fun v7 v8 wr=>DbL w A B n g v7 v8 wr) (fun _ v _=>(intOf v+1).toNat)
  case atStart=>exact⟨z,_,0,none,0,0,Nat.le_of_eq HZ.out.symm,by go_num,Nh.tK.start (by have:=Nh.pK A;rwa[HZ.out]at this),U1.out,rfl,⟨fun q=>absurd Nh.aA q,by rw[Nh.aA];rfl,Nat.le_refl _,by omega,Nh.bD _⟩,B1.out⟩
  clear U1 B1 LN;obtain⟨k,q,r,a',n',c',hk,rfl,hI,hU,rfl,hR,hBw⟩:=hrel;have I:=hid hI;have U:=hid hU;have R:=hid hR;have BW:=hid hBw;have R0:Hid (r<B∨k=Nh.aU A):=by
    by_cases e:k=Nh.aU A
    · exact Or.inr e
    · exact Or.inl (by rw[hI.rem];exact Nat.mod_lt _ BP.out)
  clear hI hU hR hBw;rcases k with _ | i
  · obtain⟨d1,d2⟩:=I.out.done
    have HQ:HAt wr q (some ⟨g,0,none⟩) n n:=⟨U.out.at_,I.out.len,Nat.le_refl _,by omega,I.out.lm⟩
    have HQT:=HQ.trim
    rw[d1]at HQT
    have HR:=R.out
    rw[d2]at HR
    have HQT:=hid HQT;have HR:=hid HR
    go_wp2_with (go_at_call 128;refine(dL HQ).mono ?_;rintro e w3 ⟨rfl,rfl⟩)
    refine bodyPost_ret (v:= .tuple #[.slice (some ⟨g,0,none⟩) (Nh.gV q).length n,.slice a' n' c']) (by simp[results,results188,go_sem]) rfl ?_
    exact⟨_,_,_,_,_,_,rfl,HQT.out,Ld U.out (Nat.le_of_eq HG.out),BW.out⟩
  · have e1:((i+1:Nat):Int)-1=(i:Int):=by omega
    rw[e1]
    clear e1
    have rB:Hid (r<B):=by show _<_;rw[I.out.rem];exact Nat.mod_lt _ BP.out
    have iz:i<z:=by have:=HZ.out;omega
    have i0:(0:Int)≤(i:Int):=by omega
    have n'm:n'≤m:=by
      have:=Nh.aK (Nat.le_of_lt rB.out)
      rwa[R.out.len,HBb.out.len]at this
    have SM:Hid (∀y,y<2*B+2→(Nh.aC y).length≤m+1):=fun y hy=>Nh.bn (by
      have:=Nh.dD (Nh.bD B)
      rw[Nh.au,HBb.out.len]at this
      have:=BP.out
      rw[Nat.pow_succ];omega)
    have C1:=hid (Jl R.out (by omega))
    obtain⟨b',hb'⟩:∃b',A/2^i%2=b':=⟨_,rfl⟩
    have b2:b'<2:=by omega
    have HB':=hid hb'
    clear hb'
    go_upto_region 7 with(go_at_call 168;refine C1.out.mono ?_;rintro e w2 ⟨a2,n2,c2,rfl,L2,B2⟩;have R2:=hid L2;have U2:=hid ((B2.block g (HB.lt U.out)).trans U.out);have Ai:=hid (aB BW.out B2);clear L2 B2 C1)
    have C2:=Ll (HA.out.below Ai.out) i (by omega)
    rw[Nh.au,HB'.out]at C2
    have C2:=hid C2
    have n2b:n2≤m+1:=by rw[←R2.out.len];exact SM.out _ (by have:=rB.out;omega)
    go_upto_if 24 with(go_at_call 165;refine C2.out.mono ?_;rintro e w3 ⟨rfl,rfl⟩)
    refine dK (XZ R2.out b2 (by omega) fun a3 n3 c3 x25 V4 x27 w3 hR hB=>?_) (fun _ _ h=>h)
    have R3:=hid hR
    have U3:=hid ((hB.block g (HB.lt U2.out)).trans U2.out)
    have Ed:=hid (aB Ai.out hB)
    have n3b:n3≤m+1:=by rw[←R3.out.len];exact SM.out _ (by have:=rB.out;omega)
    clear hR hB R2 U2 Ai C2
    obtain⟨t,ht⟩:∃t,2*r+b'=t:=⟨_,rfl⟩
    rw[ht]at R3
    obtain⟨u,hu⟩:∃u,bU t B=u:=⟨_,rfl⟩
    have C3:=hid (gW R3.out (HBb.out.below Ed.out) hu)
    by_cases hle:B≤t
    · have u0:u≥0:=by
        rw[←hu];unfold bU;rw[if_neg (by omega)]
        split<;>omega
      have P:=I.out.put BP.out HB'.out.symm (by rw[ht];exact hle) (by have:=BL.out;have:=HZ.out;omega)
      rw[ht]at P
      have P:=hid P
      have HT:=hid ht
      have D9:=hid hle
      clear hu hle ht
      have C4:=hid (Aj R3.out (HBb.out.below Ed.out) (by omega) D9.out)
      go_upto_region 11 with(first
        | (go_at_call 85;refine C3.out.mono ?_;rintro e w4 ⟨rfl,rfl⟩)
        | (go_at_call 167;refine C4.out.mono ?_;rintro e w5 ⟨a5,n5,c5,rfl,L5,B5,NW⟩;have R5:=hid L5;have U5:=hid ((B5.block g (HB.lt U3.out)).trans U3.out);have Lp:=hid (aB Ed.out B5);have NW:=hid (fun b o s e=>Nat.ne_of_gt (Nat.lt_of_lt_of_le (HB.lt U3.out) (NW b o s e)));clear L5 B5))
      obtain⟨kq,hkq⟩:∃kq,i/16=kq:=⟨_,rfl⟩
      obtain⟨s,hs⟩:∃s,i%16=s:=⟨_,rfl⟩
      have q1:(i:Int)/16=(kq:Int):=by omega
      have q2:(i:Int)%16=(s:Int):=by omega
      have q3:(i:Int).tmod 16=(s:Int):=by rw[Int.tmod_eq_emod_of_nonneg i0];exact q2
      have s16:s<16:=by omega
      have sz0:(0:Int)≤(s:Int):=by omega
      have sz1:(s:Int)<64:=by omega
      have kn:kq<n:=by have:=BL.out;have:=HZ.out;omega
      have wk:IntKind.i64.wrap (kq:Int)=(kq:Int):=IntWalk.i64_in _ (by omega)
      have kz0:(0:Int)≤(kq:Int):=by omega
      have kz1:(kq:Int)<(n:Int):=by omega
      have p0:=HB.cell U5.out (i:=kq) (by rw[I.out.len];exact kn)
      have pz:=HB.free U5.out kq
      obtain⟨y,hy⟩:∃y,q.getD kq 0=y:=⟨_,rfl⟩
      rw[hy]at p0
      rw[hkq,hs,hy]at P
      have yb:y<65536:=by rw[←hy];exact Nh.ak I.out.lm _
      clear hkq hs hy
      refine Rg.aH 10 [] (fun W'=>W'.cell? ⟨g,kq,none⟩=some (.int .i64 (y:Int))) (by kernel_rfl) (by kernel_rfl) ?_ (fun hS ok inv=>?_)
      · exact p0
      refine Rg.tk 0 rfl ok inv hS fun inv=>?_
      refine Rg.tk 1 rfl ok inv hS fun inv=>?_
      refine Rg.tk 2 rfl ok inv hS fun inv=>?_
      refine Rg.tk 3 rfl ok inv hS fun inv=>?_
      refine Rg.tk 4 rfl ok inv hS fun inv=>?_
      refine Rg.tk 5 rfl ok inv hS fun inv=>?_
      refine Rg.tk 6 rfl ok inv hS fun inv=>?_
      refine Rg.tk 7 rfl ok inv hS fun inv=>?_
      refine Rg.tk 8 rfl ok inv hS fun inv=>?_
      refine Rg.tk 9 rfl ok inv hS fun inv=>?_
      refine Rg.wl rfl ?_
      go_simp
      have OR:bits .or .i64 (y:Int) (IntKind.i64.wrap (2^s))=((y|||2^s:Nat):Int):=by
        have a1:2^s≤32768:=Nat.le_trans (Nat.pow_le_pow_right (by omega) (by omega:s≤15)) (by decide)
        rw[show((2:Int)^s)=((2^s:Nat):Int) from by rw[Int.natCast_pow];rfl]
        generalize 2^s=P2 at a1⊢
        rw[IntWalk.i64_in _ (by omega)]
        exact(bits_nat .i64 63 (by decide) uH y P2 (by omega) (by omega)).2
      rw[OR]
      have U6:=hid (HB.set U5.out kq (y|||2^s))
      have O6:=fun c (hc:c≠g)=>heap_setCell_other w5 ⟨g,kq,none⟩ c (.int .i64 ((y|||2^s:Nat):Int)) hc
      have R6:=hid (R5.out.off NW.out O6)
      have uI:=hid (Lp.out.setCell (p:=⟨g,kq,none⟩) (Nat.le_of_eq HG.out) (.int .i64 ((y|||2^s:Nat):Int)))
      have R6:=hid (R6.out.below (Below.refl _ _).drew)
      have uI:=hid uI.out.drew
      go_wp2_with fail
      go_roundw
      case rel=>exact⟨i,q.set kq (y|||2^s),t-B,a5,n5,c5,by have:=HZ.out;omega,by go_num,P.out,U6.out,rfl,R6.out,uI.out⟩
      case measure=>first | (simp[intOf];done) | (simp[intOf];omega)
    · have u0:¬u≥0:=by rw[←hu];unfold bU;rw[if_pos (by omega)];omega
      have P:=I.out.skip BP.out HB'.out.symm (by rw[ht];omega)
      rw[ht]at P
      have P:=hid P
      clear hu hle ht
      go_wp2_with (go_at_call 85;refine C3.out.mono ?_;rintro e w4 ⟨rfl,rfl⟩)
      go_roundw
      case rel=>exact⟨i,q,t,a3,n3,c3,by have:=HZ.out;omega,by go_num,P.out,U3.out,rfl,R3.out,Ed.out⟩
      case measure=>first | (simp[intOf];done) | (simp[intOf];omega)
end Go.Proofs.YtijdglogadnbcaaGreat
