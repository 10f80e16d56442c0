/- The reference's ShlNat. -/
import Derived.Test.YtijdglogadnbcaaGreatY31
import Derived.Deep.LoopGhost
set_option linter.unusedVariables false
set_option linter.unusedSimpArgs false
set_option maxRecDepth 100000
set_option maxHeartbeats 40000000
namespace Go.Proofs.YtijdglogadnbcaaGreat
open Go.Proofs.Tryz
open Go.RowKit
structure Q7 (la:List Nat)(q s k:Nat)(out:List Nat)(cc:Nat):Prop where
 len:out.length=q+k
 lm:Nh.Lm out
 cb:cc<2^s
 eq:Nh.vl out+cc*65536^(q+k)=65536^q*(2^s*Nh.vl (la.take k))
theorem Q7.nil (la:List Nat)(q s:Nat):Q7 la q s 0 (List.replicate q 0) 0:=by
 have z:∀m,Nh.vl (List.replicate m 0)=0:=fun m=>by induction m with | zero=>rfl | succ m ih=>simp[List.replicate_succ,Nh.vl,ih]
 exact⟨by simp,fun x hx=>by rw[List.mem_replicate]at hx;omega,Nat.two_pow_pos s,by rw[z];simp[Nh.vl]⟩
theorem Q7.step {la:List Nat}(h:Nh.Lm la){q s k cc t:Nat}{out:List Nat}(I:Q7 la q s k out cc)(ht:t=la.getD k 0*2^s+cc):Q7 la q s (k+1) (out++[t%65536]) (t/65536):=by
 have hx:=Nh.ak h k;have hc:=I.cb;refine⟨by rw[List.length_append,I.len];rfl,Nh.fZ I.lm (Nat.mod_lt _ (by omega)),?_,?_⟩
 ·refine Nat.div_lt_of_lt_mul ?_;have:(la.getD k 0+1)*2^s≤65536*2^s:=Nat.mul_le_mul_right _ hx;rw[Nat.add_mul]at this;omega
 rw[Nh.fJ,I.len,Nh.aF,show q+(k+1)=(q+k)+1 from by omega,Nat.pow_succ];have e:=Nh.iV (65536^(q+k)) t;have e1:=I.eq;have e2:65536^q*(2^s*(Nh.vl (la.take k)+65536^k*la.getD k 0))=65536^q*(2^s*Nh.vl (la.take k))+65536^(q+k)*(la.getD k 0*2^s):=by rw[Nat.mul_add,Nat.mul_add,Nat.pow_add];congr 1;simp only[Nat.mul_assoc,Nat.mul_left_comm,Nat.mul_comm]
 have e3:65536^(q+k)*t=65536^(q+k)*(la.getD k 0*2^s)+cc*65536^(q+k):=by rw[ht,Nat.mul_add,Nat.mul_comm cc]
 rw[e2,←e1];omega
theorem Q7.done {la:List Nat}{q s cc:Nat}{out:List Nat}(I:Q7 la q s la.length out cc):Nh.vl (out++[cc])=Nh.vl la*2^(16*q+s):=by have e:=I.eq;rw[List.take_of_length_le (Nat.le_refl _)]at e;rw[Nh.fJ,I.len,Nat.mul_comm (65536^(q+la.length)),e,Nat.pow_add,Nat.pow_mul,show(2:Nat)^16=65536 from by decide];simp only[Nat.mul_assoc,Nat.mul_left_comm,Nat.mul_comm]
theorem Ku {x cc s:Nat}(hx:x<65536)(hs:s<16)(hc:cc<2^s):bits .or .i64 (wrap64 ((x:Int)*2^s)) (cc:Int)=((x*2^s+cc:Nat):Int)∧x*2^s+cc<4294967296:=by
 have a1:2^s≤2^15:=Nat.pow_le_pow_right (by omega) (by omega);have a2:x*2^s≤65535*2^15:=Nat.mul_le_mul (by omega) a1;have e0:wrap64 ((x:Int)*2^s)=((x*2^s:Nat):Int):=by rw[show(x:Int)*2^s=((x*2^s:Nat):Int) from by rw[Int.natCast_mul,Int.natCast_pow];rfl];generalize x*2^s=y at*;simp only[wrap64];omega
 refine⟨?_,by omega⟩;rw[e0,(bits_nat .i64 63 (by decide) uH (x*2^s) cc (by omega) (by omega)).2];congr 1;have:=Nt.vk (s:=s) (x:=cc) (m:=x) hc;rw[Nat.or_comm,Nat.mul_comm x,this,Nat.add_comm]
def ShO (w:World)(la:List Nat)(q s n:Nat)(v ca i:Value)(wr:World):Prop:=
 ∃(k:Nat) (out:List Nat) (cc:Nat),k≤n∧i= .int .i64 (k:Int)∧ca= .int .i64 (cc:Int)∧Q7 la q s k out cc∧wr.ownsRow w.heap.size 3 1 v (q+k) (dW out)∧Below w.heap.size w wr
theorem lS {w wd w1:World}{v:Value}{k:Nat}{xs:List Value}(o:Obj)(B:Below w.heap.size w wd)(O:wd.ownsRow w.heap.size 3 1 v k xs)(G:(wd.alloc o).grownBy w1 v.ownBlock):Below w.heap.size w w1:=by have BA:Below wd.heap.size wd (wd.alloc o):=(Below.refl _ _).alloc (Nat.le_refl _) _;refine⟨G.os.trans (BA.os.trans B.os),G.tape.trans (BA.tape.trans B.tape),G.output.trans (BA.output.trans B.output),Nat.le_trans B.size (Nat.le_trans BA.size G.size),fun q hq=>?_⟩;rw[G.block q (Nat.lt_of_lt_of_le hq (Nat.le_trans B.size BA.size)) (fun e=>by have:=(O.lt q e.symm).1;omega)];exact(BA.block q (Nat.lt_of_lt_of_le hq B.size)).trans (B.block q hq)
theorem sH (l:List Nat)(d:Nat):dW l++[Value.int .i64 (d:Int)]=dW (l++[d]):=by simp[dW]
theorem Q8 (n:Nat):(madeCells (Value.int .i64 0).cells (n*1)).toList=dW (List.replicate n 0):=by simp only[madeCells,dW,Value.cells,Nat.mul_one];refine List.ext_getElem (by simp) fun i h1 h2=>?_;simp[Nat.mod_one]
theorem Kv {w:World}{la:List Nat}{a:Option Addr}{n c nn q s:Nat}(ha:HAt w la a n c)(h0:0<n)(hsz:n≤1073741824)(hnn:nn≤1073741824)(hq:nn/16=q)(hs:nn%16=s):
  Calls prog 168 #[.slice a n c,.int .i64 (nn:Int)] w (dV w (Nh.vl la*2^nn)):=by
 have A:=hid ha;have hn:=hid ha.len;have h1:=ha.cap;have h2:=ha.le;have nz:((n:Int)==0)=false:=by simp;omega
 have NN:Hid (nn=16*q+s):=by show _=_;omega
 have q1:(nn:Int)/16=(q:Int):=by omega
 have q2:(nn:Int)%16=(s:Int):=by omega
 have sb:s<16:=by omega
 have qb:q≤1073741824:=by omega
 clear ha hq hs;obtain⟨i0,hi0,hz0,hz1,hz2⟩:=info_parts info3;go_enter func168,ntmps168;go_wp2_with (at_make;refine wpList_make_full _ rfl _ _ 76 rfl w.heap.size 3 i0 (.int .i64 0) 1 underlying76 hi0 hz0 hz1 .i64 .i64 _ _ q rfl rfl (by omega) (by omega) (by rw[hz2];omega) (by unfold maxLen;omega) (Nat.le_refl _) ?_;intro w1 hown1 hg1;rw[Q8]at hown1;have U1:=hid hown1;have B1:=hid (below_grown hg1);clear hown1 hg1);go_loopw [5,6,18] (fun v ca i wr=>ShO w la q s n v ca i wr) (fun _ _ i _=>n-(intOf i).toNat)
 case atStart=>exact⟨0,_,0,Nat.zero_le _,rfl,rfl,Q7.nil la q s,U1.out,B1.out⟩
 obtain⟨k,out,cc,hk,rfl,rfl,hI,hO,hB⟩:=hrel;have I:=hid hI;have O:=hid hO;have BR:=hid hB;have cb:=hI.cb;clear hI hO hB;by_cases hlt:k<n
 ·obtain⟨b1,o1,rfl,dd⟩:=A.out.at_ (by intro e;have:=hn.out;rw[e]at this;simp at this;omega);have p:=aj BR.out (dd k (by rw[hn.out];exact hlt));obtain⟨x,hx⟩:∃x,la.getD k 0=x:=⟨_,rfl⟩;have xb:x<65536:=by rw[←hx];exact Nh.ak A.out.lm k
  rw[hx]at p;have HX:=hid hx;have CB:=hid cb;clear hx cb;obtain⟨SF0,tb⟩:=Ku xb sb CB.out;obtain⟨t,ht⟩:∃t,x*2^s+cc=t:=⟨_,rfl⟩;rw[ht]at SF0 tb;have SF:=hid SF0;clear SF0;obtain⟨e,he⟩:∃e,t%65536=e:=⟨_,rfl⟩;obtain⟨f,hf⟩:∃f,t/65536=f:=⟨_,rfl⟩;have d1:=hid (show(t:Int)%65536=(e:Int) by omega);have d2:=hid (show(t:Int)/65536=(f:Int) by omega);have NX:=hid (I.out.step A.out.lm (t:=t) (by rw[HX.out,ht]));rw[he,hf]at NX;have O2:=hid (O.out.alloc (.cells #[.int .i64 (e:Int)] 3));have LB:Hid (q+k+1≤maxLen∧(q+k+1)*8≤140737488355328):=⟨by unfold maxLen;omega,by omega⟩;have LS:Hid (w.heap.size≤(wr.alloc (.cells #[.int .i64 (e:Int)] 3)).heap.size):=by have:=BR.out.size;show _≤_;simp;omega
  have t0:(0:Int)≤(t:Int):=by omega
  have t1:(t:Int)≤9223372036854775807:=by omega
  clear ht he hf tb;go_upto_region 8 with fail
  clear p dd;go_cut [9] (fun v W=>v= .int .i64 (t:Int)∧W=wr)
  case first=>
   go_wp2_with fail;go_meet
   case rel=>exact⟨by rw[SF.out],rfl⟩
  case rest=>
  obtain⟨rfl,rfl⟩:=hcut;clear SF q2;have d1:=d1.out;go_wp2_with (at_builtin;refine wpList_append_own _ rfl _ _ 76 rfl w.heap.size 3 i0 (.int .i64 0) 1 8 underlying76 hi0 hz0 hz1 hz2 rfl (by omega) u5 (q+k) _ rfl O2.out ⟨wc.heap.size,0,none⟩ 1 1 [.int .i64 (e:Int)] rfl rfl (dB wc e) (by intro u hu;simp at hu;rw[hu];rfl) LB.out.1 LB.out.2 LS.out ?_;intro v' w1 hown1 hgrow1 hnil1;rw[sH]at hown1;have OW:=hid hown1;have GR:=hid hgrow1;clear hown1 hgrow1 hnil1);go_roundw
  case rel=>exact⟨k+1,out++[e],f,by omega,by go_num,by rw[d2.out],NX.out,OW.out,lS _ BR.out O.out GR.out⟩
  simp[intOf];omega
 obtain rfl:n=k:=by omega
 have I2:Hid (Q7 la q s la.length out cc):=by show Q7 _ _ _ _ _ _;rw[hn.out];exact I.out
 have DN:Hid (Nh.vl (out++[cc])=Nh.vl la*2^nn):=by show _=_;rw[I2.out.done,NN.out]
 have ccb:cc<65536:=Nat.lt_of_lt_of_le cb (Nat.le_trans (Nat.pow_le_pow_right (by omega) (show s≤16 by omega)) (by decide));have O2:=hid (O.out.alloc (.cells #[.int .i64 (cc:Int)] 3));have LL:Hid ((out++[cc]).length=q+n+1):=by show _=_;rw[List.length_append,I.out.len];rfl
 have LM:=hid (Nh.fZ I.out.lm ccb);clear cb;go_wp2_with (at_builtin;refine wpList_append_own _ rfl _ _ 76 rfl w.heap.size 3 i0 (.int .i64 0) 1 8 underlying76 hi0 hz0 hz1 hz2 rfl (by omega) u5 (q+n) _ rfl O2.out ⟨wr.heap.size,0,none⟩ 1 1 [.int .i64 (cc:Int)] rfl rfl (dB wr cc) (by intro u hu;simp at hu;rw[hu];rfl) (by unfold maxLen;omega) (by omega) (by have:=BR.out.size;simp;omega) ?_;intro v' w1 hown1 hgrow1 hnil1;rw[sH]at hown1;have OW:=hid hown1;have GR:=hid hgrow1;clear hown1 hgrow1 hnil1);have BF:=hid (lS _ BR.out O.out GR.out);obtain⟨a2,c2,rfl,L2⟩:=lF LM.out LL.out OW.out;have L2:=hid L2;refine(dL L2.out).mono ?_;rintro e w' ⟨rfl,rfl⟩;go_wp2_with fail;go_ret;exact dV.fG L2.out BF.out DN.out
theorem Ba {y:Nat}(hy:y<65536):bits .and .i64 (y:Int) 1=((y%2:Nat):Int):=by have e1:=(bits_nat .i64 63 (by decide) uH y 1 (by omega) (by decide)).1;rw[Nat.and_one_is_mod]at e1;exact e1
theorem Q9 {w:World}{l:List Nat}{a:Option Addr}{n c:Nat}(h:HAt w l a n c):
  Calls prog 165 #[.slice a n c,.int .i64 0] w fun e w'=>e= .returned (.int .i64 ((Nh.vl l%2:Nat):Int))∧w=w':=by
 have D:=bC h 0 (by omega);obtain⟨x,hx⟩:∃x,l.getD 0 0=x:=⟨_,rfl⟩;have xb:x<65536:=by rw[←hx];exact Nh.ak h.lm 0
 have E:Hid (Nh.vl l%2=x%2):=by show _=_;rw[←Nh.Hu,hx]
 rw[hx]at D;have D:=hid D;have A1:=hid (Ba xb);clear h hx;go_enter func165,ntmps165;go_wp2_with fail;refine D.out.mono ?_;rintro e w' ⟨rfl,rfl⟩;go_wp2_with fail;go_ret;exact⟨by rw[E.out,←A1.out];rfl,rfl⟩
structure yJ (w:World)(G N p q t:Nat)(a:Option Addr)(n c:Nat)(b:Option Addr)(m d:Nat)(wr:World):Prop where
 A:HAt wr (Nh.aC p) a n c
 B:HAt wr (Nh.aC q) b m d
 g:Nat.gcd p q*2^t=G
 p0:0<p
 q0:0<q
 n1:n≤N
 m1:m≤N
 t1:t≤16*N
 gb:G<2^(16*N)
 bl:Below w.heap.size w wr
theorem yJ.both {w wr w1 w2:World}{G N p q t n c m d n' c' m' d':Nat}{a b a' b':Option Addr}(I:yJ w G N p q t a n c b m d wr)(e1:p%2=0)(e2:q%2=0)
  (h1:HAt w1 (Nh.aC (p/2)) a' n' c')(b1:Below wr.heap.size wr w1)(h2:HAt w2 (Nh.aC (q/2)) b' m' d')(b2:Below w1.heap.size w1 w2):yJ w G N (p/2) (q/2) (t+1) a' n' c' b' m' d' w2:=by
 have p0:=I.p0;have q0:=I.q0;have l1:=Nh.aK (Nat.div_le_self p 2);have l2:=Nh.aK (Nat.div_le_self q 2);rw[h1.len,I.A.len]at l1;rw[h2.len,I.B.len]at l2;have g2:Nat.gcd (p/2) (q/2)*2^(t+1)=G:=by
  rw[←I.g];have:Nat.gcd p q=2*Nat.gcd (p/2) (q/2):=by rw[←Nh.wX];congr 1<;>omega
  rw[this,Nat.pow_succ];simp only[Nat.mul_assoc,Nat.mul_left_comm,Nat.mul_comm]
 have t2:t+1≤16*N:=by
  have gp:0<Nat.gcd (p/2) (q/2):=Nat.gcd_pos_of_pos_left _ (by omega);have h:2^(t+1)≤G:=by rw[←g2];exact Nat.le_mul_of_pos_left _ gp
  exact Nat.le_of_lt ((Nat.pow_lt_pow_iff_right (by omega)).1 (Nat.lt_of_le_of_lt h I.gb))
 exact⟨h1.below b2,h2,g2,by omega,by omega,Nat.le_trans l1 I.n1,Nat.le_trans l2 I.m1,t2,I.gb,Below.over (aB I.bl b1) (Nat.le_trans I.bl.size b1.size) b2⟩
theorem yJ.left {w wr w1:World}{G N p q t n c m d n' c':Nat}{a b a':Option Addr}(I:yJ w G N p q t a n c b m d wr)(e1:p%2=0)(e2:q%2=1)
  (h1:HAt w1 (Nh.aC (p/2)) a' n' c')(b1:Below wr.heap.size wr w1):yJ w G N (p/2) q t a' n' c' b m d w1:=by
 have p0:=I.p0;have l1:=Nh.aK (Nat.div_le_self p 2);rw[h1.len,I.A.len]at l1;have g2:Nat.gcd (p/2) q=Nat.gcd p q:=by rw[←Nh.oI e2];congr 1;omega
 exact⟨h1,I.B.below b1,by rw[g2];exact I.g,by omega,I.q0,Nat.le_trans l1 I.n1,I.m1,I.t1,I.gb,aB I.bl b1⟩
theorem yJ.right {w wr w1:World}{G N p q t n c m d m' d':Nat}{a b b':Option Addr}(I:yJ w G N p q t a n c b m d wr)(e1:q%2=0)(e2:p%2=1)
  (h1:HAt w1 (Nh.aC (q/2)) b' m' d')(b1:Below wr.heap.size wr w1):yJ w G N p (q/2) t a n c b' m' d' w1:=by
 have q0:=I.q0;have l1:=Nh.aK (Nat.div_le_self q 2);rw[h1.len,I.B.len]at l1;have g2:Nat.gcd p (q/2)=Nat.gcd p q:=by rw[←Nh.vG e2];congr 1;omega
 exact⟨I.A.below b1,h1,by rw[g2];exact I.g,I.p0,by omega,I.n1,Nat.le_trans l1 I.m1,I.t1,I.gb,aB I.bl b1⟩
theorem yJ.swap {w wr:World}{G N p q t n c m d:Nat}{a b:Option Addr}(I:yJ w G N p q t a n c b m d wr):yJ w G N q p t b m d a n c wr:=
 ⟨I.B,I.A,by rw[Nat.gcd_comm];exact I.g,I.q0,I.p0,I.m1,I.n1,I.t1,I.gb,I.bl⟩
theorem yJ.ends {w wr:World}{G N p q t n c m d:Nat}{a b:Option Addr}(I:yJ w G N p q t a n c b m d wr)(h:p=q):q*2^t=G:=by have:=I.g;rw[h,Nat.gcd_self]at this;exact this
def GdA (w:World)(G N k:Nat)(v0 v1 v2:Value)(wr:World):Prop:=
 ∃(p q t:Nat) (a:Option Addr) (n c:Nat) (b:Option Addr) (m d:Nat),v0= .slice a n c∧v1= .slice b m d∧v2= .int .i64 (t:Int)∧p≤k∧yJ w G N p q t a n c b m d wr
def GdO (w:World)(G N k:Nat)(tw:Nat)(v0 v1:Value)(wr:World):Prop:=
 ∃(p q:Nat) (a:Option Addr) (n c:Nat) (b:Option Addr) (m d:Nat),v0= .slice a n c∧v1= .slice b m d∧p+q≤k∧HAt wr (Nh.aC p) a n c∧(p=0→HAt wr (Nh.aC q) b m d∧q≠0∧q*2^tw=G∧m≤N∧Below w.heap.size w wr)∧(p≠0→(p%2=0→q%2=1)∧yJ w G N p q tw a n c b m d wr)
def GdL (w:World)(G N k tw s:Nat)(b:Option Addr)(q m d:Nat)(v0:Value)(wr:World):Prop:=
 ∃(p:Nat) (a:Option Addr) (n c:Nat),v0= .slice a n c∧p≤k∧p+q≤s∧(p%2=0→q%2=1)∧yJ w G N p q tw a n c b m d wr
def GdR (w:World)(G N k tw s:Nat)(a:Option Addr)(p n c:Nat)(v1:Value)(wr:World):Prop:=
 ∃(q:Nat) (b:Option Addr) (m d:Nat),v1= .slice b m d∧q≤k∧p+q≤s∧yJ w G N p q tw a n c b m d wr
theorem ji {w:World}{x:Nat}{a:Option Addr}{n c:Nat}(h:HAt w (Nh.aC x) a n c){z:Nat}(hz:x%2=z):
  Calls prog 165 #[.slice a n c,.int .i64 0] w fun e w'=>e= .returned (.int .i64 (z:Int))∧w=w':=by have:=Q9 h;rw[Nh.au,hz]at this;exact this
theorem nY {w:World}{x:Nat}{a:Option Addr}{n c:Nat}(h:HAt w (Nh.aC x) a n c)(hsz:n≤1099511627776):Calls prog 166 #[.slice a n c] w (dV w (x/2)):=by have:=QW h hsz;rw[Nh.au]at this;exact this
theorem gW {w:World}{x y:Nat}{a b:Option Addr}{n c m d:Nat}(ha:HAt w (Nh.aC x) a n c)(hb:HAt w (Nh.aC y) b m d){z:Int}(hz:bU x y=z):
  Calls prog 85 #[.slice a n c,.slice b m d] w fun e w'=>e= .returned (.int .i64 z)∧w=w':=by have:=Qd ha hb;rw[Nh.au,Nh.au,hz]at this;exact this
theorem Jg {w:World}{x y:Nat}{a b:Option Addr}{n c m d:Nat}(ha:HAt w (Nh.aC x) a n c)(hb:HAt w (Nh.aC y) b m d)(hsz:n≤1099511627776)(hle:y≤x):
  Calls prog 167 #[.slice a n c,.slice b m d] w (dV w (x-y)):=by have:=QY ha hb (by have:=Nh.aK hle;rw[ha.len,hb.len]at this;exact this) hsz (by rw[Nh.au,Nh.au];exact hle);rw[Nh.au,Nh.au]at this;exact this
theorem G7 {w:World}{x t:Nat}{a:Option Addr}{n c:Nat}(ha:HAt w (Nh.aC x) a n c)(h0:x≠0)(hsz:n≤1073741824)(ht:t≤1073741824):
  Calls prog 168 #[.slice a n c,.int .i64 (t:Int)] w (dV w (x*2^t)):=by
 have hn:0<n:=by
  rw[←ha.len];rcases Nat.eq_zero_or_pos (Nh.aC x).length with e | e
  ·have:=Nh.au x;rw[List.length_eq_zero_iff.1 e]at this;exact absurd this.symm h0
  exact e
 have:=Kv ha hn hsz ht rfl rfl;rw[Nh.au]at this;exact this
theorem dF {w:World}{x:Nat}{a:Option Addr}{n c:Nat}(h:HAt w (Nh.aC x) a n c):n=0↔x=0:=by
 rw[←h.len];constructor
 ·intro e;have:=Nh.au x;rw[List.length_eq_zero_iff.1 e]at this;exact this.symm
 rintro rfl;rw[Nh.aA];rfl
theorem yJ.sub {w wr w1:World}{G N p q t n c m d n' c':Nat}{a b a':Option Addr}(I:yJ w G N p q t a n c b m d wr)(hle:q≤p)(oq:q%2=1)
  (h1:HAt w1 (Nh.aC (p-q)) a' n' c')(b1:Below wr.heap.size wr w1):GdO w G N p t (.slice a' n' c') (.slice b m d) w1:=by have l1:=Nh.aK (Nat.sub_le p q);rw[h1.len,I.A.len]at l1;refine⟨p-q,q,a',n',c',b,m,d,rfl,rfl,by omega,h1,fun e=>⟨I.B.below b1,by have:=I.q0;omega,I.ends (by omega),I.m1,aB I.bl b1⟩,fun e=>⟨fun _=>oq,?_⟩⟩;exact⟨h1,I.B.below b1,by rw[Nh.Ux hle];exact I.g,by omega,I.q0,Nat.le_trans l1 I.n1,I.m1,I.t1,I.gb,aB I.bl b1⟩
theorem Gv {w:World}{x y N:Nat}{a b:Option Addr}{n c m d:Nat}(ha:HAt w (Nh.aC x) a n c)(hb:HAt w (Nh.aC y) b m d)(x0:0<x)(y0:0<y)(hn:n≤N)(hm:m≤N)(hN:N≤67108864):
  Calls prog 126 #[.slice a n c,.slice b m d] w (dV w (Nat.gcd x y)):=by
 have nz:((n:Int)==0)=false:=by simp;exact fun e=>by have:=(dF ha).1 e;omega
 have mz:((m:Int)==0)=false:=by simp;exact fun e=>by have:=(dF hb).1 e;omega
 obtain⟨G,hG⟩:∃G,Nat.gcd x y=G:=⟨_,rfl⟩;have S:Hid (GdA w G N x (.slice a n c) (.slice b m d) (.int .i64 0) w):=by
  refine⟨x,y,0,a,n,c,b,m,d,rfl,rfl,rfl,Nat.le_refl _,ha,hb,by rw[Nat.pow_zero,Nat.mul_one];exact hG,x0,y0,hn,hm,by omega,?_,Below.refl _ _⟩;have h1:=Nh.dD (Nh.bD x);rw[Nh.au,ha.len]at h1;have h2:G≤x:=by rw[←hG];exact Nat.gcd_le_left y x0
  have h3:65536^n≤2^(16*N):=by rw[Nat.pow_mul];exact Nat.pow_le_pow_right (by decide) hn
  exact Nat.lt_of_le_of_lt h2 (Nat.lt_of_lt_of_le h1 h3)
 rw[hG];clear ha hb x0 y0 hn hm hG;go_enter func126,ntmps126;go_wp2_with fail;clear nz mz;go_loopg [0,1,5] x (fun k v0 v1 v2 wr=>GdA w G N k v0 v1 v2 wr)
 case atStart=>exact S.out
 obtain⟨p,q,t,a,n,c,b,m,d,rfl,rfl,rfl,hk,hI⟩:=hrel;have I:=hid hI;have n1:=hI.n1;have m1:=hI.m1;have t1:=hI.t1;have p0:=hI.p0;clear hI;by_cases hb2:p%2=0∧q%2=0
 ·obtain⟨e1,e2⟩:=hb2;have C1:=hid (ji I.out.A e1);have C2:=hid (ji I.out.B e2);have C3:=hid (nY I.out.A (by omega));have E:=hid e1;have E':=hid e2;clear e1 e2;obtain⟨wo,rfl⟩:∃wo:World,wo=wr:=⟨_,rfl⟩;go_wp2_with fail;refine C1.out.mono ?_;rintro e w' ⟨rfl,rfl⟩;go_wp2_with fail;refine C2.out.mono ?_;rintro e w' ⟨rfl,rfl⟩;go_wp2_with fail;refine C3.out.mono ?_;rintro e w3 ⟨a3,n3,c3,rfl,L3,B3⟩;have L3:=hid L3;have B3:=hid B3;have C4:=hid (nY (I.out.B.below B3.out) (by omega));go_wp2_with fail;refine C4.out.mono ?_;rintro e w4 ⟨a4,n4,c4,rfl,L4,B4⟩;have L4:=hid L4;have B4:=hid B4;go_wp2_with fail;go_roundg (p/2)
  case rel=>exact⟨p/2,q/2,t+1,a3,n3,c3,a4,n4,c4,rfl,rfl,by go_num,Nat.le_refl _,I.out.both E.out E'.out L3.out B3.out L4.out B4.out⟩
  omega
 have ODD:Hid (p%2=0→q%2=1):=fun e=>by omega
 obtain⟨z1,hz1⟩:∃z,p%2=z:=⟨_,rfl⟩;obtain⟨z2,hz2⟩:∃z,q%2=z:=⟨_,rfl⟩;have C1:=hid (ji I.out.A hz1);have C2:=hid (ji I.out.B hz2);have zz:¬(z1=0∧z2=0):=by omega
 clear hb2 hz1 hz2;obtain⟨wo,hwo⟩:∃wo:World,wo=wr:=⟨_,rfl⟩;go_upto_region 6 with fail
 go_cut [22] (fun v W=>v= .bool false∧W=wr)
 case first=>
  by_cases q1:z1=0
  ·have q2:((z2:Int)==0)=false:=by simp;omega
   subst q1;clear zz;go_wp2_with fail;refine C1.out.mono ?_;rintro e w' ⟨rfl,rfl⟩;go_wp2_with fail;refine C2.out.mono ?_;rintro e w' ⟨rfl,rfl⟩;go_wp2_with fail;go_meet
   case rel=>exact⟨rfl,rfl⟩
  have q2:((z1:Int)==0)=false:=by simp;omega
  clear zz;go_wp2_with fail;refine C1.out.mono ?_;rintro e w' ⟨rfl,rfl⟩;go_wp2_with fail;go_meet
  case rel=>exact⟨rfl,rfl⟩
 obtain⟨rfl,rfl⟩:=hcut;clear C1 C2 zz hwo;have SO:Hid (GdO w G N (p+q) t (.slice a n c) (.slice b m d) wc):=⟨p,q,a,n,c,b,m,d,rfl,rfl,Nat.le_refl _,I.out.A,fun e=>by omega,fun _=>⟨ODD.out,I.out⟩⟩;have tb:t≤1073741824:=by omega
 clear I ODD n1 m1 t1 p0 hk S;go_wp2_with fail;go_loopg [0,1] (p+q) (fun k v0 v1 wr=>GdO w G N k t v0 v1 wr)
 case atStart=>exact SO.out
 clear SO;obtain⟨p,q,a,n,c,b,m,d,rfl,rfl,hk,hA,hz,hnz⟩:=hrel;by_cases p0:p=0
 ·obtain⟨hB,q0,hG,hm,hbl⟩:=hz p0;have n0:n=0:=(dF hA).2 p0;have BL:=hid hbl;have HG:=hid hG;have C:=hid (G7 hB q0 (by omega) tb);subst n0;clear hA hz hnz hB hG hbl p0;go_wp2_with fail;refine C.out.mono ?_;rintro e w2 ⟨a2,n2,c2,rfl,L2,B2⟩;have L2:=hid L2;have B2:=hid B2;go_wp2_with fail;go_ret;exact⟨a2,n2,c2,rfl,by rw[←HG.out];exact L2.out,aB BL.out B2.out⟩
 obtain⟨hodd,hI⟩:=hnz p0;have n0:0<n:=by have:=(dF hA).1;omega
 have n0':decide (0<n)=true:=decide_eq_true n0;have SL:Hid (GdL w G N p t (p+q) b q m d (.slice a n c) wr):=⟨p,a,n,c,rfl,Nat.le_refl _,Nat.le_refl _,hodd,hI⟩;clear hA hz hnz hodd hI p0;go_wp2_with fail;go_loopg [0] p (fun k v0 wr=>GdL w G N k t (p+q) b q m d v0 wr)
 case atStart=>exact SL.out
 clear SL n0 n0';obtain⟨p1,a,n,c,rfl,hk1,hs,hodd,hI⟩:=hrel;have I:=hid hI;have ODD:=hid hodd;have n1:=hI.n1;have m1:=hI.m1;have p0:=hI.p0;clear hI hodd;by_cases e1:p1%2=0
 ·have e2:=ODD.out e1;have C1:=hid (ji I.out.A e1);have C3:=hid (nY I.out.A (by omega));have E:=hid e1;have E':=hid e2;clear e1 e2;go_wp2_with fail;refine C1.out.mono ?_;rintro e w' ⟨rfl,rfl⟩;go_wp2_with fail;refine C3.out.mono ?_;rintro e w3 ⟨a3,n3,c3,rfl,L3,B3⟩;have L3:=hid L3;have B3:=hid B3;go_wp2_with fail;go_roundg (p1/2)
  case rel=>exact⟨p1/2,a3,n3,c3,rfl,Nat.le_refl _,by omega,fun _=>E'.out,I.out.left E.out E'.out L3.out B3.out⟩
  omega
 have e1:p1%2=1:=by omega
 have C1:=hid (ji I.out.A e1);have SR:Hid (GdR w G N q t (p+q) a p1 n c (.slice b m d) wr):=⟨q,b,m,d,rfl,Nat.le_refl _,hs,I.out⟩;have OP:=hid e1;clear e1 I ODD hs;go_wp2_with fail;refine C1.out.mono ?_;rintro e w' ⟨rfl,rfl⟩;clear C1;go_wp2_with fail;go_loopg [1] q (fun k v1 wr=>GdR w G N k t (p+q) a p1 n c v1 wr)
 case atStart=>exact SR.out
 clear SR;obtain⟨q1,b,m,d,rfl,hk2,hs,hI⟩:=hrel;have I:=hid hI;have m1:=hI.m1;have q0:=hI.q0;clear hI;by_cases e1:q1%2=0
 ·have C1:=hid (ji I.out.B e1);have C3:=hid (nY I.out.B (by omega));have E:=hid e1;clear e1;go_wp2_with fail;refine C1.out.mono ?_;rintro e w' ⟨rfl,rfl⟩;go_wp2_with fail;refine C3.out.mono ?_;rintro e w3 ⟨a3,n3,c3,rfl,L3,B3⟩;have L3:=hid L3;have B3:=hid B3;go_wp2_with fail;go_roundg (q1/2)
  case rel=>exact⟨q1/2,a3,n3,c3,rfl,Nat.le_refl _,by omega,I.out.right E.out OP.out L3.out B3.out⟩
  omega
 have e1:q1%2=1:=by omega
 have C1:=hid (ji I.out.B e1);have OQ:=hid e1;clear e1;by_cases hlt:p1<q1
 ·have C2:=hid (gW I.out.A I.out.B (z:= -1) (by unfold bU;rw[if_pos hlt]));have C3:=hid (Jg I.out.B I.out.A (by omega) (Nat.le_of_lt hlt));go_wp2_with fail;refine C1.out.mono ?_;rintro e w' ⟨rfl,rfl⟩;go_wp2_with fail;refine C2.out.mono ?_;rintro e w' ⟨rfl,rfl⟩;go_wp2_with fail;refine C3.out.mono ?_;rintro e w3 ⟨a3,n3,c3,rfl,L3,B3⟩;have L3:=hid L3;have B3:=hid B3;go_wp2_with fail;go_roundg q1
  case rel=>exact I.out.swap.sub (Nat.le_of_lt hlt) OP.out L3.out B3.out
  omega
 obtain⟨z,hz,hz0⟩:∃z:Int,bU p1 q1=z∧0≤z:=⟨_,rfl,by unfold bU;rw[if_neg hlt];split<;>omega⟩;have C2:=hid (gW I.out.A I.out.B hz);have C3:=hid (Jg I.out.A I.out.B (by omega) (by omega));clear hz;go_wp2_with fail;refine C1.out.mono ?_;rintro e w' ⟨rfl,rfl⟩;go_wp2_with fail;refine C2.out.mono ?_;rintro e w' ⟨rfl,rfl⟩;go_wp2_with fail;refine C3.out.mono ?_;rintro e w3 ⟨a3,n3,c3,rfl,L3,B3⟩;have L3:=hid L3;have B3:=hid B3;go_wp2_with fail;go_roundg p1
 case rel=>exact I.out.sub (by omega) OQ.out L3.out B3.out
 omega
theorem Rf {x k:Nat}(hl:(Nh.aC x).length=k+1):Nh.aU x=16*k+Nh.aU ((Nh.aC x).getD k 0):=by
 have e:=Nh.AZ (Nh.aC x) k;rw[Nh.au,List.drop_of_length_le (by omega)]at e;have t0:(Nh.aC x).getD k 0≠0:=by
  rcases Nh.vg x with q | q
  ·rw[q]at hl;simp at hl
  intro h;apply q;rw[List.getLast?_eq_getElem?,hl,Nat.add_sub_cancel,List.getElem?_eq_getElem (by omega)];rw[List.getD_eq_getElem?_getD,List.getElem?_eq_getElem (by omega)]at h;simpa using h
 have lo:=Nh.lG (Nh.bD x) k;have pw:65536^k=2^(16*k):=by rw[Nat.pow_mul]
 rw[pw]at e lo;generalize Nh.vl ((Nh.aC x).take k)=l at*;generalize (Nh.aC x).getD k 0=t at*;have:x=l+2^(16*k)*t:=by rw[e];simp[Nh.vl]
 rw[this];exact Nh.Bv t0 lo
def LnL (B:Nat)(v i:Value):Prop:=∃(x n:Nat),v= .int .i64 (n:Int)∧i= .int .i64 (x:Int)∧n+Nh.aU x=B∧x<65536
theorem lX {w:World}{x:Nat}{a:Option Addr}{n c:Nat}(h:HAt w (Nh.aC x) a n c)(hsz:n≤1099511627776):
  Calls prog 95 #[.slice a n c] w fun e w'=>e= .returned (.int .i64 ((Nh.aU x:Nat):Int))∧w=w':=by
 have hc:=h.cap;have hle:=h.le;by_cases h0:n=0
 ·have E:Hid (Nh.aU x=0):=by show _=_;rw[(dF h).1 h0];rfl
  clear h;subst h0;go_enter func95,ntmps95;go_wp2_with fail;go_ret;exact⟨by rw[E.out];rfl,rfl⟩
 obtain⟨k,rfl⟩:∃k,n=k+1:=⟨n-1,by omega⟩;obtain⟨b,o,rfl,d⟩:=h.at_ (by intro e;have:=h.len;rw[e]at this;simp at this);have p:=d k (by rw[h.len];omega);have tb:=Rf h.len;obtain⟨t,ht⟩:∃t,(Nh.aC x).getD k 0=t:=⟨_,rfl⟩;have t1:t<65536:=by rw[←ht];exact Nh.ak (Nh.bD x) k
 rw[ht]at p tb;obtain⟨B,hB⟩:∃B,Nh.aU x=B:=⟨_,rfl⟩;have bt:Nh.aU t≤16:=Nh.jR.2 (by omega);have Bb:B≤17592186044432:=by omega
 have TB:Hid (16*k+Nh.aU t=B):=by show _=_;rw[←hB,tb]
 rw[hB];clear h d h0 ht hB tb bt;have wm:IntKind.i64.wrap (16*(k:Int))=16*(k:Int):=IntWalk.i64_in _ (by omega);go_enter func95,ntmps95;go_wp2_with fail;go_loop [3,4] (fun v i=>LnL B v i) (fun _ i=>(intOf i).toNat)
 case atStart=>exact⟨t,16*k,by go_num,rfl,TB.out,t1⟩
 obtain⟨y,m,rfl,rfl,hb,hy⟩:=hrel;have HB:=hid hb;have mB:m≤B:=by omega
 clear hb;by_cases y0:y=0
 ·have E:Hid (m=B):=by show _=_;have:=HB.out;rw[y0]at this;exact this
  subst y0;go_wp2_with fail;go_ret;exact⟨by rw[E.out];rfl,rfl⟩
 have H2:Hid (m+1+Nh.aU (y/2)=B):=by show _=_;have:=HB.out;rw[Nh.yg y0]at this;omega
 go_wp2_with fail;go_round
 case rel=>exact⟨y/2,m+1,by go_num,by go_num,H2.out,by omega⟩
 simp[intOf];omega
theorem Nh.Yt {l:List Nat}(h:Nh.Lm l)(i:Nat):Nh.vl l/2^i%2=l.getD (i/16) 0/2^(i%16)%2:=by
 obtain⟨k,hk⟩:∃k,i/16=k:=⟨_,rfl⟩;obtain⟨s,hs⟩:∃s,i%16=s:=⟨_,rfl⟩;have s16:s<16:=by omega
 have e:i=16*k+s:=by omega
 rw[hk,hs,e,Nh.AZ l k,Nat.pow_add,←Nat.div_div_eq_div_mul,show(2:Nat)^(16*k)=65536^k from by rw[Nat.pow_mul],Nat.add_mul_div_left _ _ (Nat.pow_pos (by omega)),Nat.div_eq_of_lt (Nh.lG h k),Nat.zero_add];rw[show(65536:Nat)=2^s*(2*2^(16-s-1)) from by rw[show 2*2^(16-s-1)=2^(16-s) from by rw[←Nat.pow_succ'];congr 1;omega,←Nat.pow_add,show s+(16-s)=16 from by omega]]
 rw[Nat.mul_assoc,Nat.add_mul_div_left _ _ (Nat.pow_pos (by omega)),Nat.mul_assoc,Nat.add_mul_mod_self_left]
theorem Ll {w:World}{l:List Nat}{a:Option Addr}{n c:Nat}(h:HAt w l a n c)(i:Nat)(hi:i≤1099511627776000):
  Calls prog 165 #[.slice a n c,.int .i64 (i:Int)] w fun e w'=>e= .returned (.int .i64 ((Nh.vl l/2^i%2:Nat):Int))∧w=w':=by
 have D:=bC h (i/16) (by omega);have E:=hid (Nh.Yt h.lm i);obtain⟨x,hx⟩:∃x,l.getD (i/16) 0=x:=⟨_,rfl⟩;have xb:x<65536:=by rw[←hx];exact Nh.ak h.lm _
 obtain⟨k,hk⟩:∃k,i/16=k:=⟨_,rfl⟩;obtain⟨s,hs⟩:∃s,i%16=s:=⟨_,rfl⟩;rw[hx,hs]at E;rw[hx,hk]at D;have D:=hid D;have q1:(i:Int)/16=(k:Int):=by omega
 have q2:(i:Int)%16=(s:Int):=by omega
 have s16:s<16:=by omega
 have i0:(0:Int)≤(i:Int):=by omega
 clear h hx hk hs;go_enter func165,ntmps165;go_wp2_with fail;refine D.out.mono ?_;rintro e w' ⟨rfl,rfl⟩;go_wp2_with fail;go_ret;have A1:=Ba (y:=x/2^s) (Nat.lt_of_le_of_lt (Nat.div_le_self _ _) xb);rw[Int.natCast_ediv,Int.natCast_pow]at A1;exact⟨by rw[E.out,←A1];rfl,rfl⟩
end Go.Proofs.YtijdglogadnbcaaGreat
namespace Go.Proofs.YtijdglogadnbcaaGreat.Nh
open Go.Proofs.Tryz
structure tK (A B n i:Nat)(q:List Nat)(r:Nat):Prop where
 len:q.length=n
 lm:Lm q
 rem:r=A/2^i%B
 quo:vl q=A/2^i/B*2^i
theorem tK.start {A B n k:Nat}(h:A<2^k):tK A B n k (List.replicate n 0) 0:=by
 have z:vl (List.replicate n 0)=0:=by
  induction n with
  | zero=>rfl
  | succ n ih=>rw[List.replicate_succ];show 0+65536*vl _=0;rw[ih]
 refine⟨by simp,fun x hx=>by rw[List.eq_of_mem_replicate hx];omega,?_,?_⟩
 ·rw[Nat.div_eq_of_lt h];simp
 rw[z,Nat.div_eq_of_lt h];simp
theorem Bc (A i:Nat):A/2^i=2*(A/2^(i+1))+A/2^i%2:=by rw[Nat.pow_succ,←Nat.div_div_eq_div_mul];omega
theorem GZ (Q B R b:Nat)(hB:0<B)(hR:R<B)(hb:b<2):(2*(Q*B+R)+b)/B=2*Q+(if B≤2*R+b then 1 else 0)∧(2*(Q*B+R)+b)%B=if B≤2*R+b then 2*R+b-B else 2*R+b:=by
 have e:2*(Q*B+R)+b=B*(2*Q)+(2*R+b):=by rw[Nat.mul_add,Nat.add_assoc,←Nat.mul_assoc,Nat.mul_comm (2*Q) B]
 rw[e,Nat.mul_add_div hB,Nat.mul_add_mod];split
 ·rename_i h;refine⟨?_,?_⟩
  ·congr 1;rw[show 2*R+b=B*1+(2*R+b-B) from by omega,Nat.mul_add_div hB,Nat.div_eq_of_lt (by omega)]
  rw[show 2*R+b=B*1+(2*R+b-B) from by omega,Nat.mul_add_mod,Nat.mod_eq_of_lt (by omega)];omega
 rename_i h;exact⟨by rw[Nat.div_eq_of_lt (by omega)],Nat.mod_eq_of_lt (by omega)⟩
theorem tK.skip {A B n i r b:Nat}{q:List Nat}(h:tK A B n (i+1) q r)(hB:0<B)(hb:b=A/2^i%2)(hlt:2*r+b<B):tK A B n i q (2*r+b):=by
 have rB:r<B:=by rw[h.rem];exact Nat.mod_lt _ hB
 have e:=Bc A i;have d:=Nat.div_add_mod (A/2^(i+1)) B;rw[←h.rem]at d;obtain⟨t1,t2⟩:=GZ (A/2^(i+1)/B) B r b hB rB (by omega);rw[if_neg (by omega)]at t1 t2;have e2:A/2^i=2*(A/2^(i+1)/B*B+r)+b:=by rw[e,←hb,Nat.mul_comm (A/2^(i+1)/B) B,d]
 refine⟨h.len,h.lm,by rw[e2,t2],?_⟩;rw[e2,t1,h.quo,Nat.pow_succ,Nat.add_zero,Nat.mul_comm (2^i) 2,←Nat.mul_assoc,Nat.mul_comm _ 2]
theorem MV {q:List Nat}(hq:Lm q){i Q:Nat}(h:vl q=Q*2^(i+1)):q.getD (i/16) 0%2^(i%16+1)=0:=by
 obtain⟨k,hk⟩:∃k,i/16=k:=⟨_,rfl⟩;obtain⟨s,hs⟩:∃s,i%16=s:=⟨_,rfl⟩;have s16:s<16:=by omega
 have e:i=16*k+s:=by omega
 rw[hk,hs];rw[e,AZ q k,Nat.add_assoc,Nat.pow_add,show(2:Nat)^(16*k)=65536^k from by rw[Nat.pow_mul]]at h;have lo:=lG hq k;obtain⟨x,hx⟩:∃x,vl (q.take k)=x:=⟨_,rfl⟩;obtain⟨d,hd⟩:∃d,q.getD k 0=d:=⟨_,rfl⟩;obtain⟨t,ht⟩:∃t,vl (q.drop (k+1))=t:=⟨_,rfl⟩;rw[hx]at h lo;rw[hd,ht]at h;rw[hd];have P:0<65536^k:=Nat.pow_pos (by omega);obtain⟨p,hp⟩:∃p,65536^k=p:=⟨_,rfl⟩;rw[hp]at h lo P;have h2:x+p*(d+65536*t)=p*(Q*2^(s+1)):=by rw[h,Nat.mul_left_comm]
 have m1:=congrArg (· %p) h2;simp only[Nat.add_mul_mod_self_left,Nat.mul_mod_right]at m1;rw[Nat.mod_eq_of_lt lo]at m1;rw[m1,Nat.zero_add]at h2;have h3:=Nat.eq_of_mul_eq_mul_left P h2;have e16:(65536:Nat)=2^(s+1)*2^(15-s):=by rw[←Nat.pow_add,show s+1+(15-s)=16 from by omega]
 have m2:(d+65536*t)%2^(s+1)=Q*2^(s+1)%2^(s+1):=congrArg (· %2^(s+1)) h3;rw[e16,Nat.mul_assoc,Nat.add_mul_mod_self_left,Nat.mul_mod_left]at m2;exact m2
theorem Yu {d s:Nat}(h:d%2^(s+1)=0):d|||2^s=d+2^s:=by obtain⟨e,rfl⟩:=Nat.dvd_of_mod_eq_zero h;rw[←Nat.two_pow_add_eq_or_of_lt (Nat.pow_lt_pow_right (by omega) (Nat.lt_succ_self s))]
theorem tK.put {A B n i r b:Nat}{q:List Nat}(h:tK A B n (i+1) q r)(hB:0<B)(hb:b=A/2^i%2)(hle:B≤2*r+b)(hi:i/16<n):
  tK A B n i (q.set (i/16) (q.getD (i/16) 0|||2^(i%16))) (2*r+b-B):=by
 have rB:r<B:=by rw[h.rem];exact Nat.mod_lt _ hB
 have e:=Bc A i;have d:=Nat.div_add_mod (A/2^(i+1)) B;rw[←h.rem]at d;obtain⟨t1,t2⟩:=GZ (A/2^(i+1)/B) B r b hB rB (by omega);rw[if_pos hle]at t1 t2;have e2:A/2^i=2*(A/2^(i+1)/B*B+r)+b:=by rw[e,←hb,Nat.mul_comm (A/2^(i+1)/B) B,d]
 have lz:=MV h.lm h.quo;have oa:=Yu lz;have db:=ak h.lm (i/16);have lt:q.getD (i/16) 0|||2^(i%16)<65536:=Nat.or_lt_two_pow (n:=16) db (by exact Nat.lt_of_lt_of_le (Nat.pow_lt_pow_right (by omega) (Nat.mod_lt i (by omega:0<16))) (Nat.le_refl _))
 refine⟨by simp[h.len],kF h.lm lt,by rw[e2,t2],?_⟩;have v:=lH (l:=q) (i:=i/16) (x:=q.getD (i/16) 0|||2^(i%16)) (by rw[h.len];exact hi);rw[oa,Nat.mul_add]at v;rw[oa];have p2:65536^(i/16)*2^(i%16)=2^i:=by rw[show(65536:Nat)=2^16 from rfl,←Nat.pow_mul,←Nat.pow_add,Nat.div_add_mod]
 rw[p2,h.quo]at v;rw[e2,t1,Nat.add_mul,Nat.one_mul];have e3:A/2^(i+1)/B*2^(i+1)=2*(A/2^(i+1)/B)*2^i:=by rw[Nat.pow_succ,Nat.mul_comm (2^i) 2,←Nat.mul_assoc,Nat.mul_comm _ 2]
 omega
theorem tK.done {A B n r:Nat}{q:List Nat}(h:tK A B n 0 q r):vl q=A/B∧r=A%B:=by have q1:=h.quo;have q2:=h.rem;rw[Nat.pow_zero,Nat.div_one]at q1 q2;exact⟨by rw[q1,Nat.mul_one],q2⟩
end Go.Proofs.YtijdglogadnbcaaGreat.Nh
namespace Go.Proofs.YtijdglogadnbcaaGreat
open Go.Proofs.Tryz
open Go.RowKit
theorem Uc {w:World}{base e size n:Nat}{v:Value}{xs:List Value}(h:w.ownsRow base e size v n xs):∀a m c,v= .slice a m c→∀b o s,a=some ⟨b,o,s⟩→base≤b:=by
 rintro a m c rfl b o s rfl;rcases h.2 with⟨e,_⟩ | ⟨g,cap,cur,hv,hb,_⟩
 ·simp at e
 simp only[Value.slice.injEq,Option.some.injEq,Addr.mk.injEq]at hv;omega
theorem MW {w:World}{la lb:List Nat}{a b:Option Addr}{n c m d:Nat}(ha:HAt w la a n c)(hb:HAt w lb b m d)(hmn:m≤n)(hsz:n≤1099511627776)(hle:Nh.vl lb≤Nh.vl la):
  Calls prog 167 #[.slice a n c,.slice b m d] w fun e w'=>∃a n c,e= .returned (.slice a n c)∧HAt w' (Nh.aC (Nh.vl la-Nh.vl lb)) a n c∧Below w.heap.size w w'∧∀b o s,a=some ⟨b,o,s⟩→w.heap.size≤b:=by
 have A:=hid ha;have B:=hid hb;have hn:=hid ha.len;have h1:=ha.cap;have h2:=ha.le;have D9:=hid hle;clear ha hb hle;obtain⟨i0,hi0,hz0,hz1,hz2⟩:=info_parts info3;go_enter func167,ntmps167;go_wp2_with fail;go_loopw [5,6,11] (fun v bo i wr=>Ls w la lb n v bo i wr) (fun _ _ i _=>n-(intOf i).toNat)
 case atStart=>exact⟨0,[],0,Nat.zero_le _,rfl,rfl,Nh.jB.nil la lb,World.ownsRow_nil _ _ _ _,Below.refl _ _⟩
 obtain⟨k,ds,r,hk,rfl,rfl,hI,hO,hB⟩:=hrel;have I:=hid hI;have O:=hid hO;have BR:=hid hB;have r1:=hI.r1;clear hI hO hB;by_cases hlt:k<n
 ·obtain⟨b1,o1,rfl,dd⟩:=A.out.at_ (by intro e;have:=hn.out;rw[e]at this;simp at this;omega);have p:=aj BR.out (dd k (by rw[hn.out];exact hlt));clear dd;obtain⟨x,hx⟩:∃x,la.getD k 0=x:=⟨_,rfl⟩;obtain⟨y,hy⟩:∃y,lb.getD k 0=y:=⟨_,rfl⟩;have xb:x<65536:=by rw[←hx];exact Nh.ak A.out.lm k
  have yb:y<65536:=by rw[←hy];exact Nh.ak B.out.lm k
  rw[hx]at p;have DG:=bC (w:=wr.drew) ((B.out.below BR.out).below (Below.refl _ _).drew) k (by omega);rw[hy]at DG;have DG:=hid DG;have HX:=hid hx;have HY:=hid hy;have OD:Hid ((wr.drew).ownsRow w.heap.size 3 1 u5 k (dW ds)):=O.out;have BD:Hid (Below w.heap.size w wr.drew):=BR.out.drew;have w1':IntKind.i64.wrap ((x:Int)-(y:Int))=(x:Int)-(y:Int):=IntWalk.i64_in _ (by omega);have w2':IntKind.i64.wrap ((x:Int)-(y:Int)-(r:Int))=(x:Int)-(y:Int)-(r:Int):=IntWalk.i64_in _ (by omega);have wk0:(0:Int)≤(k:Int):=by omega
  have wk1:(k:Int)<(n:Int):=by omega
  clear hx hy O BR;go_wp2_with fail;go_region_held3 (fun W=>W.cell? ⟨b1,o1+k,none⟩=some (.int .i64 (x:Int)))
   (first
    | exact p
    | go_keep)
   ((go_at_call 127;refine DG.out.mono ?_;rintro e w2 ⟨rfl,rfl⟩))
  clear p DG w1' w2';generalize wr.drew=wd at*;by_cases hb:y+r≤x
  ·obtain⟨e,he⟩:∃e,x-y-r=e:=⟨_,rfl⟩;have ei:(x:Int)-(y:Int)-(r:Int)=(e:Int):=by omega
   have e0:(0:Int)≤(e:Int):=by omega
   have O2:=hid (OD.out.alloc (.cells #[.int .i64 (e:Int)] 3));have EB:Hid (e<65536∧x+0*65536=e+y+r):=⟨by omega,by omega⟩;clear he hb;go_wp2_with (at_builtin;refine wpList_append_own _ rfl _ _ 76 rfl w.heap.size 3 i0 (.int .i64 0) 1 8 underlying76 hi0 hz0 hz1 hz2 rfl (by omega) u5 k _ rfl O2.out ⟨wd.heap.size,0,none⟩ 1 1 [.int .i64 (e:Int)] rfl rfl (dB wd e) (by intro u hu;simp at hu;rw[hu];rfl) (by unfold maxLen;omega) (by omega) (by have:=BD.out.size;simp;omega) ?_;intro v' w1 hown1 hgrow1 hnil1;have OW:=hid hown1;have GR:=hid hgrow1;clear hown1 hgrow1 hnil1);go_roundw
   case rel=>exact Ls.next hlt I.out EB.out.1 (r':=0) (by omega) (by rw[HX.out,HY.out];exact EB.out.2) BD.out OD.out _ OW.out GR.out
   simp[intOf];omega
  obtain⟨e,he⟩:∃e,x+65536-y-r=e:=⟨_,rfl⟩;obtain⟨f,hf⟩:∃f:Int,(x:Int)-(y:Int)-(r:Int)=f:=⟨_,rfl⟩;have aae:f<0:=by omega
  have ei:f+65536=(e:Int):=by omega
  have e0:(0:Int)≤(e:Int):=by omega
  have O2:=hid (OD.out.alloc (.cells #[.int .i64 (e:Int)] 3));have EB:Hid (e<65536∧x+1*65536=e+y+r):=⟨by omega,by omega⟩;clear he hb;go_wp2_with (at_builtin;refine wpList_append_own _ rfl _ _ 76 rfl w.heap.size 3 i0 (.int .i64 0) 1 8 underlying76 hi0 hz0 hz1 hz2 rfl (by omega) u5 k _ rfl O2.out ⟨wd.heap.size,0,none⟩ 1 1 [.int .i64 (e:Int)] rfl rfl (dB wd e) (by intro u hu;simp at hu;rw[hu];rfl) (by unfold maxLen;omega) (by omega) (by have:=BD.out.size;simp;omega) ?_;intro v' w1 hown1 hgrow1 hnil1;have OW:=hid hown1;have GR:=hid hgrow1;clear hown1 hgrow1 hnil1);go_roundw
  case rel=>exact Ls.next hlt I.out EB.out.1 (r':=1) (by omega) (by rw[HX.out,HY.out];exact EB.out.2) BD.out OD.out _ OW.out GR.out
  simp[intOf];omega
 obtain rfl:n=k:=by omega
 have DN:=hid (I.out.done (by rw[hn.out];exact Nat.le_refl _) (by rw[B.out.len];exact hmn) D9.out);have NW:=Uc O.out;obtain⟨a2,c2,rfl,L2⟩:=lF I.out.lm I.out.len O.out;have NW:=hid (NW _ _ _ rfl);have L2:=hid L2;go_wp2_with fail;refine(dL L2.out).mono ?_;rintro e w' ⟨rfl,rfl⟩;go_wp2_with fail;go_ret;have T:=L2.out.trim;rw[DN.out.2]at T;exact⟨_,_,_,rfl,T,BR.out,NW.out⟩
theorem Aj {w:World}{x y:Nat}{a b:Option Addr}{n c m d:Nat}(ha:HAt w (Nh.aC x) a n c)(hb:HAt w (Nh.aC y) b m d)(hsz:n≤1099511627776)(hle:y≤x):
  Calls prog 167 #[.slice a n c,.slice b m d] w fun e w'=>∃a n c,e= .returned (.slice a n c)∧HAt w' (Nh.aC (x-y)) a n c∧Below w.heap.size w w'∧∀b o s,a=some ⟨b,o,s⟩→w.heap.size≤b:=by have:=MW ha hb (by have:=Nh.aK hle;rw[ha.len,hb.len]at this;exact this) hsz (by rw[Nh.au,Nh.au];exact hle);rw[Nh.au,Nh.au]at this;exact this
theorem HAt.off {w w':World}{l:List Nat}{a:Option Addr}{n c g:Nat}(h:HAt w l a n c)(hg:∀b o s,a=some ⟨b,o,s⟩→b≠g)(hw:∀b,b≠g→w'.heap[b]? =w.heap[b]?):HAt w' l a n c:=
 ⟨fun hne=>by obtain⟨b,o,e,d⟩:=h.at_ hne;exact⟨b,o,e,fun i hi=>(aN (hw b (hg _ _ _ e)) _).trans (d i hi)⟩,h.len,h.le,h.cap,h.lm⟩
end Go.Proofs.YtijdglogadnbcaaGreat
