/- nat.IsOne, nat.sign, nat.Compare. -/
import Derived.Test.YtijdglogadnbcaaGreatY00
import Derived.Laws.OwnMore
import Derived.OwnWalk
import Derived.Laws.CopyOwn
import Derived.Deep.DeepCutAuto
import Derived.Lib.EndianBits
import Derived.IntWalk
set_option linter.unusedVariables false
set_option linter.unusedSimpArgs false
set_option maxRecDepth 100000
set_option maxHeartbeats 40000000
namespace Go.Proofs.YtijdglogadnbcaaGreat
open Go.Proofs.Tryz
open Go.RowKit Nt
def Qt (w wr:World):Prop:=∃q,wr=w.drewN q
theorem Qt.below {w wr:World}(h:Qt w wr):Below w.heap.size w wr:=by obtain⟨q,rfl⟩:=h;exact⟨rfl,rfl,rfl,Nat.le_refl _,fun _ _=>rfl⟩
theorem Qt.drewN {w wr:World}(h:Qt w wr)(k:Nat):Qt w (wr.drewN k):=by obtain⟨q,rfl⟩:=h;exact⟨q+k,by rw[World.drewN_drewN]⟩
theorem Qt.refl (a:World):Qt a a:=⟨0,rfl⟩
theorem Qt.cell {a b:World}(h:Qt a b){p:Addr}{v:Value}(hc:a.cell? p=some v):b.cell? p=some v:=by obtain⟨q,rfl⟩:=h;exact hc
theorem lt_of_cell {w:World}{a:Addr}{v:Value}(h:w.cell? a=some v):a.block<w.heap.size:=World.block_lt_of_cell? w _ h
theorem cell_later {n:Nat}{w w':World}(hb:Below n w w')(hn:w.heap.size≤n){p:Addr}{v:Value}(h:w.cell? p=some v):w'.cell? p=some v:=
 (World.cell?_of_block (hb.block p.block (Nat.lt_of_lt_of_le (lt_of_cell h) hn))).trans h
theorem hid {p:Prop}(h:p):Hid p:=Lib.hid h
theorem aj {w w':World}(hb:Below w.heap.size w w'){p:Addr}{v:Value}(h:w.cell? p=some v):w'.cell? p=some v:=cell_later hb (Nat.le_refl _) h
theorem aB {w a b:World}(h:Below w.heap.size w a)(k:Below a.heap.size a b):Below w.heap.size w b:=h.trans (k.mono h.size)
theorem EI.below {w w':World}{l:List Nat}{a:Option Addr}(h:EI w l a)(hb:Below w.heap.size w w'):EI w' l a:=by intro hne;obtain⟨b,o,e,d⟩:=h hne;exact⟨b,o,e,fun i hi=>aj hb (d i hi)⟩
theorem yV:aC 1=[1]:=by rw[bM (by omega)];simp[aA]
theorem JA {w:World}{x:Nat}{a:Option Addr}{c:Nat}(h:EI w (aC x) a)(hm:(aC x).length≤9223372036854775807):
  Calls prog 111 #[.slice a (aC x).length c] w fun e w'=>e= .returned (.bool (decide (x=1)))∧w=w':=by
 have H:=hid h;clear h;have LM:=hid (bD x);by_cases hl:(aC x).length=1
 ·obtain⟨b,o,rfl,d⟩:=H.out (by intro e;rw[e]at hl;simp at hl);have p1:=d 0 (by omega);rw[Nat.add_zero]at p1;clear d;have XE:Hid ((aC x).getD 0 0=x):=by show _=_;obtain⟨y,hy⟩:=List.length_eq_one_iff.1 hl;have:=au x;rw[hy]at this⊢;simpa[vl]using this
  rw[XE.out]at p1;rw[hl];by_cases hx:x=1
  ·have dx:Hid (decide (x=1)=true):=decide_eq_true hx;subst hx;clear hl XE;go_enter func111,ntmps111;go_wp2_with fail;go_ret;exact⟨rfl,rfl⟩
  have dx:Hid (decide (x=1)=false):=decide_eq_false hx;have hb:((x:Int)==1)=false:=by simp;omega
  clear hl XE hx;go_enter func111,ntmps111;go_wp2_with fail;go_ret;exact⟨by rw[dx.out];rfl,rfl⟩
 have dx:Hid (decide (x=1)=false):=decide_eq_false (fun e=>hl (by rw[e,yV];rfl));obtain⟨n,hn⟩:∃n,(aC x).length=n:=⟨_,rfl⟩;rw[hn]at hl hm;rw[hn];have hb:((n:Int)==1)=false:=by simp;omega
 clear hl hn;go_enter func111,ntmps111;go_wp2_with fail;go_ret;exact⟨by rw[dx.out];rfl,rfl⟩
def Tn (n:Int):Int:=if n<0 then-1 else if 0<n then 1 else 0
theorem Ob (n:Int)(w:World):Calls prog 177 #[.int .i64 n] w fun e w'=>e= .returned (.int .i64 (Tn n))∧w=w':=by
 by_cases h1:n<0
 ·have e1:Hid (Tn n= -1):=by show _=_;unfold Tn;rw[if_pos h1]
  go_enter func177,ntmps177;go_wp2_with fail;go_ret;exact⟨by rw[e1.out];rfl,rfl⟩
 by_cases h2:0<n
 ·have e1:Hid (Tn n=1):=by show _=_;unfold Tn;rw[if_neg h1,if_pos h2]
  go_enter func177,ntmps177;go_wp2_with fail;go_ret;exact⟨by rw[e1.out];rfl,rfl⟩
 have e1:Hid (Tn n=0):=by show _=_;unfold Tn;rw[if_neg h1,if_neg h2]
 go_enter func177,ntmps177;go_wp2_with fail;go_ret;exact⟨by rw[e1.out];rfl,rfl⟩
end Go.Proofs.YtijdglogadnbcaaGreat
namespace Go.Proofs.YtijdglogadnbcaaGreat.Nt
open Go.Proofs.Tryz
theorem ql {l:List Nat}{j:Nat}(h:j≤l.length):vl l=vl (l.take j)+4294967296^j*vl (l.drop j):=by have:=bY (l.take j) (l.drop j);rwa[List.take_append_drop,List.length_take,Nat.min_eq_left h]at this
theorem yX {l:List Nat}(h:Lm l)(k:Nat):Lm (l.take k):=fun x hx=>h x (List.mem_of_mem_take hx)
theorem Hl {l:List Nat}(h:Lm l)(k:Nat):Lm (l.drop k):=fun x hx=>h x (List.mem_of_mem_drop hx)
theorem rQ {a b:List Nat}(h:Lm a)(k:Lm b):Lm (a++b):=fun x hx=>(List.mem_append.1 hx).elim (h x) (k x)
theorem qm (n:Nat):Lm (List.replicate n 0):=fun x hx=>by rw[List.mem_replicate]at hx;omega
theorem qo (n:Nat):vl (List.replicate n 0)=0:=by induction n with | zero=>rfl | succ m ih=>simp[List.replicate_succ,vl,ih]
theorem iJ {l:List Nat}(h:Lm l)(k:Nat):vl (l.take k)<4294967296^k:=by refine Nat.lt_of_lt_of_le (dD (yX h k)) (Nat.pow_le_pow_right (by omega) ?_);rw[List.length_take];omega
structure Dg (u v:List Nat)(n:Nat):Prop where
 lu:Lm u
 lv:Lm v
 qp:u.length=n+1
 wW:v.length=n
 two:2≤n
 high:2147483648≤v.getD (n-1) 0
 lt:vl u<4294967296*vl v
def vw (u:List Nat)(n:Nat):Nat:=u.getD n 0*4294967296+u.getD (n-1) 0
theorem Dg.Oc {u v:List Nat}{n:Nat}(h:Dg u v n):0<vl v:=by
 have:=h.lt;rcases Nat.eq_zero_or_pos (vl v)with e | e
 ·rw[e]at this;omega
 exact e
theorem Dg.eu {u v:List Nat}{n:Nat}(h:Dg u v n):vl u=(vw u n*4294967296+u.getD (n-2) 0)*4294967296^(n-2)+vl (u.take (n-2)):=by obtain⟨k,rfl⟩:∃k,n=k+2:=⟨n-2,by have:=h.two;omega⟩;have e1:=aF u (k+2);have e2:=aF u (k+1);have e3:=aF u k;rw[List.take_of_length_le (by rw[h.qp];exact Nat.le_refl _)]at e1;rw[e1,e2,e3];unfold vw;simp only[show k+2-2=k from by omega,show k+2-1=k+1 from by omega,Nat.pow_succ];generalize 4294967296^k=p;grind
theorem Dg.ev {u v:List Nat}{n:Nat}(h:Dg u v n):vl v=(v.getD (n-1) 0*4294967296+v.getD (n-2) 0)*4294967296^(n-2)+vl (v.take (n-2)):=by obtain⟨k,rfl⟩:∃k,n=k+2:=⟨n-2,by have:=h.two;omega⟩;have e2:=aF v (k+1);have e3:=aF v k;rw[List.take_of_length_le (by rw[h.wW];exact Nat.le_refl _)]at e2;rw[e2,e3];simp only[show k+2-2=k from by omega,show k+2-1=k+1 from by omega,Nat.pow_succ];generalize 4294967296^k=p;grind
theorem Um {p y:Nat}(t:Nat)(h:y<p):4294967296*(t*p+y)<(t+1)*4294967296*p:=by
 have h1:t*p+y<(t+1)*p:=by rw[Nat.add_mul];omega
 have h2:=Nat.mul_lt_mul_of_pos_left h1 (show 0<4294967296 by omega);have e:(t+1)*4294967296*p=4294967296*((t+1)*p):=by rw[Nat.mul_comm (t+1),Nat.mul_assoc]
 rw[e];exact h2
theorem Un {t v b:Nat}(h:b≤2*v)(h2:t<v*b+b)(hv:0<v):t/v≤b+1:=by have:t/v<b+2:=(Nat.div_lt_iff_lt_mul hv).2 (by rw[Nat.add_mul,Nat.mul_comm b];omega);omega
theorem Dg.WL {u v:List Nat}{n:Nat}(h:Dg u v n):vw u n<v.getD (n-1) 0*4294967296+4294967296:=by
 have e1:=h.eu;have e2:=h.ev;have h1:=h.lt;have h2:=iJ h.lv (n-2);have h3:=ak h.lv (n-2);refine Nat.lt_of_not_le fun hle=>?_;have h4:(v.getD (n-1) 0*4294967296+v.getD (n-2) 0+1)*4294967296≤vw u n*4294967296+u.getD (n-2) 0:=by omega
 have h5:=Nat.mul_le_mul_right (4294967296^(n-2)) h4;have h6:4294967296*vl v<(v.getD (n-1) 0*4294967296+v.getD (n-2) 0+1)*4294967296*4294967296^(n-2):=by rw[e2];exact Um _ h2
 omega
structure sS (u v:List Nat)(n g rest:Nat):Prop where
 eq:g*v.getD (n-1) 0+rest=vw u n
 rlt:rest<4294967296
 gle:g≤4294967297
 qle:vl u/vl v≤g
def Uo (u v:List Nat)(g:Nat):Prop:=g<4294967296∧vl u/vl v≤g∧g≤vl u/vl v+1
theorem Dg.qlt {u v:List Nat}{n:Nat}(h:Dg u v n):vl u/vl v<4294967296:=Nat.div_lt_of_lt_mul (by rw[Nat.mul_comm];exact h.lt)
theorem sS.start {u v:List Nat}{n:Nat}(h:Dg u v n):sS u v n (vw u n/v.getD (n-1) 0) (vw u n%v.getD (n-1) 0):=by
 have h0:=h.high;have h1:=ak h.lv (n-1);have h2:=h.WL;have h3:=Nat.mod_lt (vw u n) (show 0<v.getD (n-1) 0 by omega);refine⟨by rw[Nat.mul_comm];exact Nat.div_add_mod _ _,by omega,?_,?_⟩
 ·exact Un (by omega) h2 (by omega)
 exact Bg (Nat.pos_of_ne_zero (by simp)) h.eu (iJ h.lu (n-2)) (ak h.lu (n-2)) h.ev (by omega) (Nat.div_mul_le_self _ _)
theorem sS.less {u v:List Nat}{n g rest:Nat}(h:Dg u v n)(k:sS u v n g rest)(ht:4294967296≤g∨rest*4294967296+u.getD (n-2) 0<g*v.getD (n-2) 0):vl u/vl v<g:=by
 rcases ht with e | e
 ·exact Nat.lt_of_lt_of_le h.qlt e
 exact NU (Nat.pos_of_ne_zero (by simp)) h.eu (iJ h.lu (n-2)) h.ev k.eq (Nat.div_mul_le_self _ _) e
theorem sS.next {u v:List Nat}{n g rest:Nat}(h:Dg u v n)(k:sS u v n (g+1) rest)(ht:4294967296≤g+1∨rest*4294967296+u.getD (n-2) 0<(g+1)*v.getD (n-2) 0)(hr:rest+v.getD (n-1) 0<4294967296):sS u v n g (rest+v.getD (n-1) 0):=by have q:=k.less h ht;have e:=k.eq;rw[Nat.add_mul]at e;exact⟨by omega,hr,by have:=k.gle;omega,by omega⟩
theorem sS.top {u v:List Nat}{n g rest:Nat}(h:Dg u v n)(he:g*v.getD (n-1) 0+rest=vw u n)(hg:g≤4294967296)(hq:vl u/vl v≤g)(hlt:g<4294967296)(hb:g*v.getD (n-2) 0≤rest*4294967296+u.getD (n-2) 0):Uo u v g:=by
 have h0:=h.high;refine⟨hlt,hq,?_⟩;rcases NV (Nat.pos_of_ne_zero (by simp)) h.eu h.ev (iJ h.lv (n-2)) (by omega) he hg hb with e | e
 ·have p:=h.Oc;refine Nat.le_of_not_lt fun hgt=>?_;have e0:(vl u/vl v+1+1)*vl v≤g*vl v:=Nat.mul_le_mul_right _ hgt;have e1:=Nat.div_add_mod (vl u) (vl v);have e2:=Nat.mod_lt (vl u) p;rw[Nat.mul_comm]at e1;rw[Nat.add_mul,Nat.add_mul,Nat.one_mul]at e0;omega
 subst e;exact Nat.zero_le _
theorem sS.stop {u v:List Nat}{n g rest:Nat}(h:Dg u v n)(k:sS u v n g rest)(h1:g<4294967296)(h2:g*v.getD (n-2) 0≤rest*4294967296+u.getD (n-2) 0):Uo u v g:=
 sS.top h k.eq (by omega) k.qle h1 h2
theorem sS.stop2 {u v:List Nat}{n g rest:Nat}(h:Dg u v n)(k:sS u v n (g+1) rest)(ht:4294967296≤g+1∨rest*4294967296+u.getD (n-2) 0<(g+1)*v.getD (n-2) 0)(hr:4294967296≤rest+v.getD (n-1) 0):Uo u v g:=by
 have q:=k.less h ht;have e:=k.eq;have gl:=k.gle;rw[Nat.add_mul]at e;have t:=h.WL;have h0:=h.high;have hlt:g<4294967296:=by refine Nat.lt_of_not_le fun hle=>?_;have:=Nat.mul_le_mul_right (v.getD (n-1) 0) hle;have:4294967296*v.getD (n-1) 0=v.getD (n-1) 0*4294967296:=Nat.mul_comm ..;omega
 refine sS.top h (rest:=rest+v.getD (n-1) 0) (by omega) (by omega) (by omega) hlt ?_;have h3:=ak h.lv (n-2);have:g*v.getD (n-2) 0≤4294967296*4294967296:=Nat.mul_le_mul (by omega) (by omega);have:=Nat.mul_le_mul_right 4294967296 hr;omega
theorem sS.cap {u v:List Nat}{n g rest:Nat}(h:Dg u v n)(k:sS u v n g rest):g*v.getD (n-2) 0<18446744073709551616:=by have h1:=ak h.lv (n-2);have:g*v.getD (n-2) 0≤4294967297*4294967295:=Nat.mul_le_mul k.gle (by omega);omega
theorem Dg.right {u v:List Nat}{n g r c d:Nat}{ds:List Nat}(h:Dg u v n)(f:Uo u v g)(m:KY u v g n ds r c)(he:u.getD n 0=d+c+r):g=vl u/vl v∧vl (ds++[d])=vl u%vl v:=by have:=m.last (d:=d) (r':=0) h.wW h.qp (by omega);rw[Nat.zero_mul,Nat.add_zero]at this;exact Bh this h.Oc rfl f.2.1
theorem Dg.over {u v:List Nat}{n g r c d:Nat}{ds:List Nat}(h:Dg u v n)(f:Uo u v g)(m:KY u v g n ds r c)(hd:d<4294967296)(he:u.getD n 0+4294967296=d+c+r):g=vl u/vl v+1∧vl (ds++[d])+vl v=vl u%vl v+4294967296^(n+1):=by have:=m.last (d:=d) (r':=1) h.wW h.qp (by omega);rw[Nat.one_mul]at this;have hl:=dD (fZ m.lm hd);rw[List.length_append,m.len]at hl;exact EG this hl h.Oc rfl f.2.2
theorem Dg.back {u v:List Nat}{n d c2:Nat}{ds ds2:List Nat}(h:Dg u v n)(hlen:ds.length=n)(hd:d<4294967296)(he:vl (ds++[d])+vl v=vl u%vl v+4294967296^(n+1))(a:iF ds v n ds2 c2):
  d+c2=4294967296∧vl (ds2++[0])=vl u%vl v:=by
 have q:=a.eq;rw[List.take_of_length_le (by omega),List.take_of_length_le (by rw[h.wW];exact Nat.le_refl _)]at q;rw[fJ,hlen,Nat.pow_succ]at he;rw[fJ,Nat.mul_zero,Nat.add_zero];have l1:=dD a.lm;rw[a.len]at l1;have l2:=dD h.lv;rw[h.wW]at l2;have l3:=Nat.mod_lt (vl u) h.Oc;have c1:=a.c1;generalize 4294967296^n=P at*;have e1:vl ds2+P*(d+c2)=vl u%vl v+P*4294967296:=by rw[Nat.mul_add,Nat.mul_comm P c2];omega
 have e2:d+c2=4294967296:=by
  rcases Nat.lt_trichotomy (d+c2) 4294967296 with t | t | t
  ·have:=Nat.mul_le_mul_left P (show d+c2+1≤4294967296 from t);rw[Nat.mul_add]at this;omega
  ·exact t
  have:=Nat.mul_le_mul_left P (show 4294967296+1≤d+c2 from t);rw[Nat.mul_add]at this;omega
 rw[e2]at e1;exact⟨e2,by omega⟩
structure tK (U:Nat)(v us qs:List Nat)(n j:Nat):Prop where
 lu:Lm us
 lq:Lm qs
 len:us.length=qs.length+n
 zero:∀i,i<j→qs.getD i 0=0
 eq:vl us+vl qs*vl v=U
 lt:vl (us.drop j)<vl v
theorem tK.digit {U:Nat}{v us qs:List Nat}{n j:Nat}(h:tK U v us qs n (j+1))(hv:Lm v)(hn:v.length=n)(h2:2≤n)(hh:2147483648≤v.getD (n-1) 0)(hj:j<qs.length):
  Dg ((us.drop j).take (n+1)) v n∧vl (us.drop j)=vl ((us.drop j).take (n+1))∧vl (us.drop (j+n+1))=0:=by
 have e0:=lJ (l:=us) (i:=j) (by rw[h.len];omega);have x:=ak h.lu j;have lt:=h.lt;have e1:=ql (l:=us.drop (j+1)) (j:=n) (by rw[List.length_drop,h.len];omega);have hz:vl (us.drop (j+n+1))=0:=by
  rw[List.drop_drop,show j+1+n=j+n+1 from by omega]at e1;have:=dD hv;rw[hn]at this;rcases Nat.eq_zero_or_pos (vl (us.drop (j+n+1)))with e | e
  ·exact e
  have:=Nat.mul_le_mul_left (4294967296^n) e;omega
 have e2:=ql (l:=us.drop j) (j:=n+1) (by rw[List.length_drop,h.len];omega);rw[List.drop_drop,show j+(n+1)=j+n+1 from by omega,hz,Nat.mul_zero,Nat.add_zero]at e2;refine⟨⟨yX (Hl h.lu j) _,hv,?_,hn,h2,hh,?_⟩,e2,hz⟩
 ·rw[List.length_take,List.length_drop,h.len];omega
 rw[←e2];omega
theorem tK.step {U:Nat}{v us qs rem:List Nat}{n j:Nat}(h:tK U v us qs n (j+1))(hv:Lm v)(hn:v.length=n)(h2:2≤n)(hh:2147483648≤v.getD (n-1) 0)(hj:j<qs.length)(hr:Lm rem)(hl:rem.length=n+1)(he:vl rem=vl ((us.drop j).take (n+1))%vl v):
  tK U v (us.take j++rem++us.drop (j+n+1)) (qs.set j (vl ((us.drop j).take (n+1))/vl v)) n j:=by
 obtain⟨d,e,z⟩:=h.digit hv hn h2 hh hj;have L:(us.take j).length=j:=by rw[List.length_take,h.len];omega
 have p:=d.Oc;refine⟨rQ (rQ (yX h.lu _) hr) (Hl h.lu _),kF h.lq d.qlt,?_,fun i hi=>?_,?_,?_⟩
 ·simp[hl,List.length_drop,h.len];omega
 ·rw[getD_set_ne (by omega)];exact h.zero i (by omega)
 ·rw[List.append_assoc,bY,bY,L,z,Nat.mul_zero,Nat.add_zero,he];have e1:=lH (l:=qs) (i:=j) (x:=vl ((us.drop j).take (n+1))/vl v) hj;rw[h.zero j (by omega),Nat.mul_zero,Nat.add_zero]at e1;rw[e1,←h.eq,ql (l:=us) (j:=j) (by rw[h.len];omega),e];have e2:=Nat.div_add_mod (vl ((us.drop j).take (n+1))) (vl v);generalize vl ((us.drop j).take (n+1))/vl v=q at*;generalize vl ((us.drop j).take (n+1))%vl v=r at*;generalize vl ((us.drop j).take (n+1))=t at*;subst e2;grind
 rw[List.append_assoc,List.drop_append_of_le_length (by omega),List.drop_of_length_le (by omega),List.nil_append,bY,z,Nat.mul_zero,Nat.add_zero,he];exact Nat.mod_lt _ p
theorem tK.done {U:Nat}{v us qs:List Nat}{n:Nat}(h:tK U v us qs n 0):vl qs=U/vl v∧vl us=U%vl v:=by
 have lt:=h.lt;rw[List.drop_zero]at lt;have e:=h.eq;have p:0<vl v:=by omega
 subst e;refine⟨?_,?_⟩
 ·rw[Nat.add_mul_div_right _ _ p,Nat.div_eq_of_lt lt,Nat.zero_add]
 rw[Nat.add_mul_mod_self_right,Nat.mod_eq_of_lt lt]
theorem tK.start {x y s m n:Nat}{us v:List Nat}(hx:x<4294967296^m)(hs:s≤31)(hu:Lm us)(hl:us.length=m+1)(he:vl us=x*2^s)(hv:Lm v)(hn:v.length=n)(h2:2≤n)(hm:n≤m)(hh:2147483648≤v.getD (n-1) 0):
  tK (x*2^s) v us (List.replicate (m+1-n) 0) n (m+1-n):=by
 refine⟨hu,qm _,by rw[List.length_replicate,hl];omega,fun i _=>by rw[List.getD_eq_getElem?_getD,List.getElem?_replicate];split<;>rfl,by rw[qo,he];omega,?_⟩;have e1:=ql (l:=us) (j:=m+1-n) (by omega);have e2:=aF v (n-1);rw[show n-1+1=n from by omega,List.take_of_length_le (by omega)]at e2;have h3:=Nat.mul_le_mul_left (4294967296^(n-1)) hh;have h4:x*2^s<4294967296^m*2147483648:=by
  have a:2^s≤2^31:=Nat.pow_le_pow_right (by omega) hs;have b:(2:Nat)^31=2147483648:=by decide
  rw[b]at a;have c:(x+1)*2^s≤4294967296^m*2147483648:=Nat.mul_le_mul hx a;rw[Nat.add_mul]at c;have:=Nat.two_pow_pos s;omega
 have h5:4294967296^(m+1-n)*4294967296^(n-1)=4294967296^m:=by rw[←Nat.pow_add];congr 1;omega
 refine Nat.lt_of_not_le fun hle=>?_;have h6:4294967296^(n-1)*2147483648≤vl (us.drop (m+1-n)):=by omega
 have h7:=Nat.mul_le_mul_left (4294967296^(m+1-n)) h6;rw[←Nat.mul_assoc,h5]at h7;omega
def shr (s:Nat):List Nat→List Nat
 | []=>[]
 | x::l=>(x+4294967296*l.getD 0 0)/2^s%4294967296::shr s l
theorem oO (s:Nat)(l:List Nat):(shr s l).length=l.length:=by induction l with | nil=>rfl | cons x l ih=>simp[shr,ih]
theorem YB (s:Nat)(l:List Nat):Lm (shr s l):=by
 induction l with
 | nil=>intro x hx;simp[shr]at hx
 | cons x l ih=>
  intro y hy
  rcases List.mem_cons.1 hy with e | e
  ·rw[e];exact Nat.mod_lt _ (by omega)
  ·exact ih y e
theorem Oe (s:Nat)(l:List Nat){i:Nat}(h:i<l.length):(shr s l).getD i 0=(l.getD i 0+4294967296*l.getD (i+1) 0)/2^s%4294967296:=by
 induction l generalizing i with
 | nil=>simp at h
 | cons x l ih=>
  cases i with
  | zero=>cases l<;>simp[shr]
  | succ i=>simpa[shr]using ih (i:=i) (by simpa using h)
theorem YC {s:Nat}(hs:s<32){l:List Nat}(h:Lm l):vl (shr s l)=vl l/2^s:=by
 induction l with
 | nil=>simp[shr,vl]
 | cons x l ih=>
  have hl:Lm l:=fun y hy=>h y (List.mem_cons_of_mem _ hy)
  have hx:=h x List.mem_cons_self
  simp only[shr,vl,ih hl]
  have hp:=Nat.two_pow_pos s
  obtain⟨c,hc⟩:∃c,4294967296=2^s*c:=⟨2^(32-s),by rw[←Nat.pow_add,show s+(32-s)=32 from by omega]⟩
  have hm:l.getD 0 0%2^s=vl l%2^s:=by
   cases l with
   | nil=>simp[vl]
   | cons y l=>simp only[List.getD_cons_zero,vl];rw[hc,Nat.mul_assoc,Nat.add_mul_mod_self_left]
  have f:∀M,(x+4294967296*M)/2^s=x/2^s+c*M:=fun M=>by
   rw[hc,Nat.mul_assoc,Nat.add_mul_div_left _ _ hp]
  rw[f,f]
  have hxc:x/2^s<c:=Nat.div_lt_of_lt_mul (by omega)
  have e1:=Nat.div_add_mod (vl l) (2^s)
  have e2:=Nat.div_add_mod (l.getD 0 0) (2^s)
  have small:x/2^s+c*(vl l%2^s)<4294967296:=by
   have:=Nat.mod_lt (vl l) hp
   have:=Nat.mul_le_mul_left c (show vl l%2^s+1≤2^s from this)
   rw[Nat.mul_add,Nat.mul_comm c (2^s),←hc]at this
   omega
  have e3:(x/2^s+c*l.getD 0 0)%4294967296=x/2^s+c*(vl l%2^s):=by
   rw[←e2,hm,Nat.mul_add,←Nat.mul_assoc,Nat.mul_comm c (2^s),←hc]
   rw[show ∀a b d:Nat,a+(4294967296*b+d)=a+d+4294967296*b from fun a b d=>by omega,Nat.add_mul_mod_self_left,Nat.mod_eq_of_lt small]
  rw[e3]
  have e4:c*vl l=4294967296*(vl l/2^s)+c*(vl l%2^s):=by
   have:c*vl l=c*(2^s*(vl l/2^s))+c*(vl l%2^s):=by rw[←Nat.mul_add,e1]
   rw[this,←Nat.mul_assoc,Nat.mul_comm c (2^s),←hc]
  omega
end Go.Proofs.YtijdglogadnbcaaGreat.Nt
namespace Go.Proofs.YtijdglogadnbcaaGreat
open Go.Proofs.Tryz
open Go.RowKit Nt
structure bW (w:World)(l:List Nat)(a:Option Addr)(n c:Nat):Prop where
 at_:EI w l a
 len:l.length=n
 le:n≤c
 cap:c≤9223372036854775807
 lm:Lm l
theorem bW.below {w w':World}{l:List Nat}{a:Option Addr}{n c:Nat}(h:bW w l a n c)(hb:Below w.heap.size w w'):bW w' l a n c:=
 ⟨h.at_.below hb,h.len,h.le,h.cap,h.lm⟩
def bU (x y:Nat):Int:=if x<y then-1 else if y<x then 1 else 0
theorem Og {a b:Nat}(h:(aC a).length≠(aC b).length):Tn (((aC a).length:Int)-((aC b).length:Int))=bU a b:=by
 unfold Tn bU;rcases Nat.lt_or_gt_of_ne h with q | q
 ·have:=xZ q;rw[if_pos (by omega),if_pos this]
 have:=xZ q;rw[if_neg (by omega),if_pos (by omega),if_neg (by omega),if_pos this]
def Ur (w:World)(x y:Nat)(e:Ending)(w':World):Prop:=e= .returned (.int .i64 (bU x y))∧Qt w w'
def CmL (w:World)(la lb:List Nat)(n:Nat)(i:Value)(wr:World):Prop:=Qt w wr∧∃k:Nat,k≤n∧i= .int .i64 ((k:Int)-1)∧la.drop k=lb.drop k
theorem yY {la lb:List Nat}{m:Nat}(h:la.drop (m+1)=lb.drop (m+1))(ha:m<la.length)(hb:m<lb.length)(e:la.getD m 0=lb.getD m 0):la.drop m=lb.drop m:=by rw[List.drop_eq_getElem_cons ha,List.drop_eq_getElem_cons hb,h];rw[List.getD_eq_getElem?_getD,List.getElem?_eq_getElem ha,List.getD_eq_getElem?_getD,List.getElem?_eq_getElem hb]at e;simp only[Option.getD_some]at e;rw[e]
theorem jW {w:World}{x y:Nat}{a b:Option Addr}{na nb ca cb:Nat}(ha:bW w (aC x) a na ca)(hb:bW w (aC y) b nb cb):
  Calls prog 135 #[.slice a na ca,.slice b nb cb] w (Ur w x y):=by
 have A:=hid ha;have B:=hid hb;have hca:=ha.cap;have hla:=ha.le;have hcb:=hb.cap;have hlb:=hb.le;clear ha hb;by_cases hl:na=nb
 ·obtain rfl:na=nb:=hl;go_enter func135,ntmps135;go_wp2_with fail;go_loopw [5] (fun i wr=>CmL w (aC x) (aC y) na i wr) (fun i _=>(intOf i+1).toNat)
  case atStart=>exact⟨Qt.refl w,na,Nat.le_refl _,by go_num,by rw[List.drop_of_length_le (by rw[A.out.len];exact Nat.le_refl _),List.drop_of_length_le (by rw[B.out.len];exact Nat.le_refl _)]⟩
  obtain⟨hq,k,hk,rfl,hd⟩:=hrel;have HQ:=hid hq;have HD:=hid hd;clear hq hd;by_cases h0:k=0
  ·subst h0;have EQ:Hid (bU x y=0):=by show _=_;have:=HD.out;rw[List.drop_zero,List.drop_zero]at this;have:=Ui this;unfold bU;rw[if_neg (by omega),if_neg (by omega)]
   go_wp2_with fail;go_ret;exact⟨by rw[EQ.out];rfl,HQ.out⟩
  obtain⟨m,rfl⟩:∃m,k=m+1:=⟨k-1,by omega⟩;have e1:((m+1:Nat):Int)-1=(m:Int):=by omega
  rw[e1];clear e1;have hma:m<(aC x).length:=by rw[A.out.len];omega
  have hmb:m<(aC y).length:=by rw[B.out.len];omega
  obtain⟨b1,o1,rfl,d1⟩:=A.out.at_ (by intro e;rw[e]at hma;simp at hma);obtain⟨b2,o2,rfl,d2⟩:=B.out.at_ (by intro e;rw[e]at hmb;simp at hmb);have d1:=d1 m hma;have d2:=d2 m hmb;have p1:=HQ.out.cell d1;have p2:=HQ.out.cell d2;obtain⟨u,hu⟩:∃u,(aC x).getD m 0=u:=⟨_,rfl⟩;obtain⟨v,hv⟩:∃v,(aC y).getD m 0=v:=⟨_,rfl⟩;rw[hu]at p1 d1;rw[hv]at p2 d2;have HU:=hid hu;have HV:=hid hv;clear hu hv hma hmb;by_cases huv:u=v
  ·subst huv;have hn:((u:Int) !=(u:Int))=false:=by simp
   have D2:Hid ((aC x).drop m=(aC y).drop m):=yY HD.out (by rw[A.out.len];omega) (by rw[B.out.len];omega) (by rw[HU.out,HV.out]);go_wp2_with fail;go_quiet (fail);go_wp2_with fail;go_roundw
   case rel=>exact⟨HQ.out.drewN _,m,by omega,by go_num,D2.out⟩
   simp[intOf]
  have hn:((u:Int) !=(v:Int))=true:=by simp;omega
  by_cases hlt:u<v
  ·have EQ:Hid (bU x y= -1):=by show _=_;have:=NS A.out.lm B.out.lm (k:=m) (by rw[A.out.len];omega) (by rw[A.out.len,B.out.len]) HD.out (by rw[HU.out,HV.out];exact hlt);rw[au,au]at this;unfold bU;rw[if_pos this]
   have hl2:(u:Int)<(v:Int):=by omega
   go_wp2_with fail;go_quiet (fail);go_wp2_with fail;have YD:=hid (HQ.out.drewN nq);have p3:=YD.out.cell d1;have p4:=YD.out.cell d2;clear HQ p1 p2;generalize wr.drewN nq=w2 at*;go_quiet (fail);go_wp2_with fail;go_ret;exact⟨by rw[EQ.out];rfl,YD.out.drewN _⟩
  have EQ:Hid (bU x y=1):=by show _=_;have:=NS B.out.lm A.out.lm (k:=m) (by rw[B.out.len];omega) (by rw[A.out.len,B.out.len]) HD.out.symm (by rw[HU.out,HV.out];omega);rw[au,au]at this;unfold bU;rw[if_neg (by omega),if_pos this]
  have hl2:¬(u:Int)<(v:Int):=by omega
  have hl3:(v:Int)≤(u:Int):=by omega
  go_wp2_with fail;go_quiet (fail);go_wp2_with fail;have YD:=hid (HQ.out.drewN nq);have p3:=YD.out.cell d1;have p4:=YD.out.cell d2;clear HQ p1 p2;generalize wr.drewN nq=w2 at*;go_quiet (fail);go_wp2_with fail;go_ret;exact⟨by rw[EQ.out];rfl,YD.out.drewN _⟩
 have EQ:Hid (Tn ((na:Int)-(nb:Int))=bU x y):=by show _=_;have:=Og (a:=x) (b:=y) (by rw[A.out.len,B.out.len];exact hl);rwa[A.out.len,B.out.len]at this
 have hn:((na:Int) !=(nb:Int))=true:=by simp;omega
 clear hl;go_enter func135,ntmps135;go_wp2_with (go_at_call 177;refine(Ob _ _).mono ?_;rintro e w' ⟨rfl,rfl⟩);go_ret;exact⟨by rw[EQ.out];rfl,Qt.refl _⟩
theorem jr:(prog.info? 111).map (fun i=>(i.zero,i.size,i.bytes))=some (some (.int .u32 0),1,4):=by kernel_rfl
def dU (l:List Nat):List Value:=l.map fun x=>Value.int .u32 ((x:Nat):Int)
def UB (w:World)(g:Nat)(l:List Nat):Prop:=w.heap[g]? =some (.cells (dU l).toArray 111 (0,0))
theorem bG (l:List Nat):(dU l).length=l.length:=List.length_map ..
theorem qw (l:List Nat){i:Nat}(h:i<l.length):(dU l)[i]? =some (.int .u32 ((l.getD i 0:Nat):Int)):=by unfold dU;rw[List.getElem?_map,List.getElem?_eq_getElem h,List.getD_eq_getElem?_getD,List.getElem?_eq_getElem h];rfl
theorem UB.cell {w:World}{g:Nat}{l:List Nat}(h:UB w g l){i:Nat}(hi:i<l.length):w.cell? ⟨g,i,none⟩=some (.int .u32 ((l.getD i 0:Nat):Int)):=by rw[cell_of_row w g i _ _ _ h,List.getElem?_toArray];exact qw l hi
theorem UB.free {w:World}{g:Nat}{l:List Nat}(h:UB w g l)(i:Nat):w.frozen? ⟨g,i,none⟩=false:=by unfold UB at h;simp[World.frozen?,h]
theorem UB.lt {w:World}{g:Nat}{l:List Nat}(h:UB w g l):g<w.heap.size:=(Array.getElem?_eq_some_iff.1 h).1
theorem UB.set {w:World}{g:Nat}{l:List Nat}(h:UB w g l)(i x:Nat):UB (w.setCell ⟨g,i,none⟩ (.int .u32 ((x:Nat):Int))) g (l.set i x):=by unfold UB;rw[heap_setCell_same w g i _ _ _ h];simp[dU,List.map_set]
theorem UB.later {n g:Nat}{w w':World}{l:List Nat}(h:UB w g l)(hb:Below n w w')(hg:g<n):UB w' g l:=(hb.block g hg).trans h
theorem UB.at_ {w:World}{g:Nat}{l:List Nat}(h:UB w g l):EI w l (some ⟨g,0,none⟩):=fun _=>⟨g,0,rfl,fun i hi=>by rw[Nat.zero_add];exact h.cell hi⟩
theorem UB.YE {w:World}{g n c:Nat}{l:List Nat}(h:w.ownsRow 0 111 1 (.slice (some ⟨g,0,none⟩) n n) n (dU l)):UB w g l:=by
 rcases h.2 with⟨q,_⟩ | ⟨g',cap,cur,q,_,hg,_,_,hs,ht⟩
 ·simp at q
 simp only[Value.slice.injEq,Option.some.injEq,Addr.mk.injEq]at q;obtain⟨⟨rfl,_,_⟩,_,rfl⟩:=q;unfold UB;rw[hg];congr 2;rw[Nat.mul_one]at ht hs;rw[←ht,List.take_of_length_le (by simp[hs])]
theorem Oh (n:Nat):(madeCells (Value.int .u32 0).cells (n*1)).toList=dU (List.replicate n 0):=by simp only[madeCells,dU,Value.cells,Nat.mul_one];refine List.ext_getElem (by simp) fun i h1 h2=>?_;simp[Nat.mod_one]
end Go.Proofs.YtijdglogadnbcaaGreat
