/- The reference's reduce: digits in new blocks. Printed by genD.py from If. -/
import Derived.Test.YtijdglogadnbcaaGreatY40
set_option linter.unusedVariables false
set_option linter.unusedSimpArgs false
set_option maxRecDepth 100000
set_option maxHeartbeats 40000000
namespace Go.Proofs.YtijdglogadnbcaaGreat
open Go.Proofs.Tryz
open Go.RowKit Nt Bl
def NF (w:World)(F:Nat→Prop)(a:Option Addr):Prop:=∀ad,a=some ad→F ad.block∧dh w ad.block 3
def Ab (F:Nat→Prop)(k:Nat):Prop:=∀b,k≤b→F b
theorem Ab.mono {F:Nat→Prop}{k j:Nat}(h:Ab F k)(hj:k≤j):Ab F j:=fun b hb=>h b (Nat.le_trans hj hb)
theorem N3.nf {w:World}{F:Nat→Prop}{k:Nat}{a:Option Addr}(h:N3 w k a)(hF:Ab F k):NF w F a:=fun ad e=>⟨hF _ (h ad e).1,(h ad e).2⟩
theorem NF.below {w w':World}{F:Nat→Prop}{a:Option Addr}(h:NF w F a)(hb:Below w.heap.size w w'):NF w' F a:=fun ad e=>⟨(h ad e).1,(h ad e).2.keep (hb.block _ (h ad e).2.lt)⟩
theorem NF.gy {w:World}{F:Nat→Prop}{a:Option Addr}(h:NF w F a)(g:Nat)(x y z:Value):NF (((w.setCell ⟨g,0,none⟩ x).setCell ⟨g,1,none⟩ y).setCell ⟨g,2,none⟩ z) F a:=fun ad e=>⟨(h ad e).1,dh.setCell (dh.setCell (dh.setCell (h ad e).2 g 0 x) g 1 y) g 2 z⟩
structure oZ (w:World)(F:Nat→Prop)(q:Rat)(s:Bool)(a:Option Addr)(n c:Nat)(b:Option Addr)(m d:Nat):Prop extends HR w q s a n c b m d where
 na:NF w F a
 nb:NF w F b
theorem oZ.below {w w':World}{F:Nat→Prop}{q:Rat}{s:Bool}{a b:Option Addr}{n c m d:Nat}(h:oZ w F q s a n c b m d)(hb:Below w.heap.size w w'):oZ w' F q s a n c b m d:=⟨h.toHR.below hb,h.na.below hb,h.nb.below hb⟩
theorem oZ.put {w:World}{F:Nat→Prop}{g:Nat}{v:Bool}{a0 b0:Option Addr}{n0 c0 m0 d0:Nat}{q:Rat}{s:Bool}{a b:Option Addr}{n c m d:Nat}(h:oZ w F q s a n c b m d)(X:NR w g v a0 n0 c0 b0 m0 d0)(x y z:Value):oZ (((w.setCell ⟨g,0,none⟩ x).setCell ⟨g,1,none⟩ y).setCell ⟨g,2,none⟩ z) F q s a n c b m d:=
 ⟨⟨h.sg,h.num.fV X (ay _ _ _ _ _),h.den.fV X (ay _ _ _ _ _)⟩,h.na.gy g x y z,h.nb.gy g x y z⟩
def jl (w:World)(F:Nat→Prop)(q:Rat)(e:Ending)(w':World):Prop:=∃s a n c b m d,e= .returned (.agg #[.bool s,.slice a n c,.slice b m d])∧oZ w' F q s a n c b m d∧Below w.heap.size w w'
theorem Ya {W:World}{x y g:Nat}{t:Bool}{a b ga:Option Addr}{n c m d gn gc:Nat}(h:HAt W (Nh.aC x) a n c)(k:HAt W (Nh.aC y) b m d)(hg:HAt W (Nh.aC g) ga gn gc)(g0:0<g){F:Nat→Prop}(hF:Ab F W.heap.size)(fa:NF W F a)(fb:NF W F b)(ht:t=false→g=1)(n1:n≤67108864∧m≤67108864∧gn≤67108864){K:Act→World→Prop}{u0 u3 u4 u5 u6 u8 u9 u10 u11 u12 u13 u15 u16 u17 u18 u19 u20 u21 u22 u23 u24 u25 u26 u27 u28 u29 u30 u31 u32 u33 u34 u35:Value}
  (hK:∀(a' b':Option Addr) (n' c' m' d':Nat) (x15 x16 x17 x18 x19 x20 x21 x22 x23 x24 x25 V4:Value) (W':World),HAt W' (Nh.aC (x/g)) a' n' c'→HAt W' (Nh.aC (y/g)) b' m' d'→NF W' F a'→NF W' F b'→Below W.heap.size W W'→K ⟨#[u0,.slice a' n' c',.slice b' m' d',u3,u4,u5,u6,.slice ga gn gc,u8,u9,u10,u11,u12,u13,.bool t,x15,x16,x17,x18,x19,x20,x21,x22,x23,x24,x25,V4,u27,u28,u29,u30,u31,u32,u33,u34,u35],[]⟩ W'):
  (condC f169 14).wp prog (Only K) ⟨#[u0,.slice a n c,.slice b m d,u3,u4,u5,u6,.slice ga gn gc,u8,u9,u10,u11,u12,u13,.bool t,u15,u16,u17,u18,u19,u20,u21,u22,u23,u24,u25,u26,u27,u28,u29,u30,u31,u32,u33,u34,u35],[]⟩ W:=by
 rw[show condC f169 14=_ from by(simp only[condC,f169,gX,Nat.reduceEqDiff,if_true,if_false,Option.getD];rfl)];have dO:=hK;clear hK;have dO:=hid dO;have H1:=hid h;have H2:=hid k;have HG:=hid hg;have HF:=hid hF;have FA:=hid fa;have FB:=hid fb;clear hF fa fb;obtain⟨n1,n2,n3⟩:=n1
 cases t with
 | false=>
  have e:=ht rfl
  subst e
  clear h k hg ht
  go_wp2_with fail
  exact dO.out a b n c m d _ _ _ _ _ _ _ _ _ _ _ _ _ (by rw[Nat.div_one];exact H1.out) (by rw[Nat.div_one];exact H2.out) FA.out FB.out (Below.refl _ _)
 | true=>
  have C1:=hid (Lj h hg g0 n1 n3)
  have G0:=hid g0
  clear h k hg ht g0
  go_upto_region 4 with(go_at_call 188;refine C1.out.mono ?_;rintro e w2 ⟨a1,k1,c1,a2,k2,c2,rfl,L1,T1,B2⟩;have L1:=hid L1;have B2:=hid B2;have T1:=hid (T1.nf HF.out))
  have C2:=hid (Lj (H2.out.below B2.out) (HG.out.below B2.out) G0.out n2 n3)
  go_wp2_with (go_at_call 188;refine C2.out.mono ?_;rintro e w3 ⟨a3,k3,c3,a4,k4,c4,rfl,L3,T3,B3⟩;have L3:=hid L3;have B3:=hid B3;have T3:=hid (T3.nf (HF.out.mono B2.out.size)))
  exact dO.out a1 a3 k1 c1 k3 c3 _ _ _ _ _ _ _ _ _ _ _ _ _ (L1.out.below B3.out) L3.out (T1.out.below B3.out) T3.out (aB B2.out B3.out)
theorem Jo {w:World}{a b:Option Addr}{m c d:Nat}:Calls prog 126 #[.slice a 0 c,.slice b m d] w fun e w'=>e= .returned (.slice b m d)∧w=w':=by go_enter func126,ntmps126;go_wp2_with fail;go_ret;exact⟨rfl,rfl⟩
theorem Lr {w:World}{x y:Nat}{a b:Option Addr}{n c m d:Nat}(ha:HAt w (Nh.aC x) a n c)(hb:HAt w (Nh.aC y) b m d)(y0:0<y)(hn:n≤67108864)(hm:m≤67108864):
  Calls prog 126 #[.slice a n c,.slice b m d] w (dV w (Nat.gcd x y)):=by
 by_cases e:x=0
 ·subst e;obtain rfl:=(dF ha).2 rfl;refine Jo.mono ?_;rintro e w' ⟨rfl,rfl⟩;exact⟨b,m,d,rfl,by rw[Nat.gcd_zero_left];exact hb,Below.refl _ _⟩
 exact Gv ha hb (by omega) y0 hn hm (by omega)
theorem TA {neg:Bool}{x y:Nat}(hy:y≠0):decide ((fQ neg x y).num<0)=(neg&&decide (0<x)):=by
 by_cases e:x=0
 ·subst e;rw[rD];simp
 rw[rG hy e];simp;omega
theorem Ee {w:World}{neg s:Bool}{x y n' c' m' d':Nat}{a' b':Option Addr}(hy:y≠0)(L1:HAt w (Nh.aC (x/Nat.gcd x y)) a' n' c')(L2:HAt w (Nh.aC (y/Nat.gcd x y)) b' m' d')(hs:s=(neg&&decide (0<n'))):HR w (fQ neg x y) s a' n' c' b' m' d':=by
 refine⟨?_,by rw[lY hy];exact L1,by rw[pO hy];exact L2⟩;rw[TA hy,hs];congr 1;have:=dF L1;by_cases e:x=0
 ·subst e;have:n'=0:=this.2 (by simp);simp[this]
 have gx:Nat.gcd x y≤x:=Nat.gcd_le_left y (by omega);have:x/Nat.gcd x y≠0:=by have:=Nat.div_pos gx (Nat.gcd_pos_of_pos_left y (by omega));omega
 have n0:0<n':=by
  rcases Nat.eq_zero_or_pos n' with q | q
  ·exact absurd ((dF L1).1 q) this
  exact q
 simp[n0];omega
theorem nH {w:World}{F:Nat→Prop}(hF:Ab F w.heap.size){x y:Nat}{neg:Bool}{a b:Option Addr}{n c m d:Nat}(ha:HAt w (Nh.aC x) a n c)(hb:HAt w (Nh.aC y) b m d)(fa:NF w F a)(fb:NF w F b)(y0:0<y)(hn:n≤67108864)(hm:m≤67108864):
  Calls prog 169 #[.bool neg,.slice a n c,.slice b m d] w (jl w F (fQ neg x y)):=by
 have B0:=hid (ah w (.cells #[.bool false,.slice none 0 0,.slice none 0 0] 78));have X1:Hid (NR (w.alloc (.cells #[.bool false,.slice none 0 0,.slice none 0 0] 78)) w.heap.size false none 0 0 none 0 0):=heap_alloc_new w _;have H1:=hid (ha.below B0.out);have H2:=hid (hb.below B0.out);have HF:=hid hF;have FA:=hid (fa.below B0.out);have FB:=hid (fb.below B0.out);clear hF fa fb;have Y0:=hid y0;obtain⟨G,hG⟩:∃G,Nat.gcd x y=G:=⟨_,rfl⟩;have HG:=hid hG;have G0:0<G:=by rw[←hG];exact Nat.gcd_pos_of_pos_right x y0
 have GY:Hid (G≤y):=by show _≤_;rw[←hG];exact Nat.gcd_le_right x y0
 have C1:=Lr H1.out H2.out y0 hn hm;rw[hG]at C1;have C1:=hid C1;clear ha hb y0 hG;go_enter func169,ntmps169;go_upto_region 1 with fail
 generalize w.alloc (.cells #[.bool false,.slice none 0 0,.slice none 0 0] 78)=W at*;obtain⟨g6,Jp⟩:∃g,w.heap.size=g:=⟨_,rfl⟩;have G6:=hid Jp;rw[Jp]at X1⊢;clear Jp;go_upto_region 2 with(go_at_call 126;refine C1.out.mono ?_;rintro e w2 ⟨a2,n2,c2,rfl,L2,B2⟩;have R2:=hid L2;have Ai:=hid (aB B0.out B2);have H12:=hid (H1.out.below B2);have H22:=hid (H2.out.below B2);have FA:=hid (FA.out.below B2);have FB:=hid (FB.out.below B2);have X2:=hid (X1.out.later B2 X1.out.lt);clear L2 B2 C1)
 have n2m:n2≤m:=by have:=Nh.aK GY.out;rwa[R2.out.len,H2.out.len]at this
 have NB:=ah w2 (.cells #[.int .i64 1] 3);have Ed:=hid (aB Ai.out NB);obtain⟨u,hu⟩:∃u,bU G 1=u:=⟨_,rfl⟩;have C2:=hid (gW (R2.out.below NB) (iQ w2) hu);have HU:Hid ((u !=0)=false→G=1):=fun e=>by
  have u0:u=0:=by simpa using e
  rw[←hu]at u0;unfold bU at u0;split at u0
  ·omega
  split at u0<;>omega
 have H13:=hid (H12.out.below NB);have FA:=hid (FA.out.below NB);have FB:=hid (FB.out.below NB);have H23:=hid (H22.out.below NB);have R3:=hid (R2.out.below NB);have X3:=hid (X2.out.later NB X2.out.lt);clear NB hu H12 H22 R2 X2 Ai;go_upto_if 14 with(go_at_call 85;refine C2.out.mono ?_;rintro e w3 ⟨rfl,rfl⟩)
 refine dK (Ya H13.out H23.out R3.out G0 (HF.out.mono Ed.out.size) FA.out FB.out HU.out ⟨hn,hm,by omega⟩ fun a' b' n' c' m' d' x15 x16 x17 x18 x19 x20 x21 x22 x23 x24 x25 V4 w4 l1 l2 t1 t2 hB=>?_) (fun _ _ h=>h);have L1:=hid l1;have L2:=hid l2;have T1:=hid t1;have T2:=hid t2;have BW4:=hid (aB Ed.out hB);have X4:=X3.out.later hB X3.out.lt;obtain⟨z0,z1,z2,f⟩:=X4.reads;have f0:=f 0;have f1:=f 1;have f2:=f 2;have X4:=hid X4;clear f l1 l2 t1 t2 hB H13 H23 R3 X3 Ed C2;have fin:=hid (fun(s:Bool) (hs:s=(neg&&decide (0<n')))=>(show jl w F (fQ neg x y) (.returned (.agg #[.bool s,.slice a' n' c',.slice b' m' d'])) (((w4.setCell ⟨g6,0,none⟩ (.bool s)).setCell ⟨g6,1,none⟩ (.slice a' n' c')).setCell ⟨g6,2,none⟩ (.slice b' m' d')) from by have L1':=L1.out;have L2':=L2.out;rw[←HG.out]at L1' L2';have R:=Ee (neg:=neg) (s:=s) (by have:=Y0.out;omega) L1' L2' hs;exact⟨s,a',n',c',b',m',d',rfl,oZ.put ⟨R,T1.out,T2.out⟩ X4.out _ _ _,aG BW4.out _ (Nat.le_of_eq G6.out) _ _ _⟩))
 cases neg with
 | false=>
  go_wp2_with fail
  exact bodyPost_ret (v:= .agg #[.bool false,.slice a' n' c',.slice b' m' d']) (by simp[results,results169,go_sem,z0,z1,z2]) rfl (fin.out false (by simp))
 | true=>
  by_cases e:n'=0
  ·subst e
   go_wp2_with fail
   exact bodyPost_ret (v:= .agg #[.bool false,.slice a' 0 c',.slice b' m' d']) (by simp[results,results169,go_sem,z0,z1,z2]) rfl (fin.out false (by simp))
  ·have n0:(n':Int)>0:=by omega
   have rH:0<n':=by omega
   go_wp2_with fail
   exact bodyPost_ret (v:= .agg #[.bool true,.slice a' n' c',.slice b' m' d']) (by simp[results,results169,go_sem,z0,z1,z2]) rfl (fin.out true (by simp[rH]))
end Go.Proofs.YtijdglogadnbcaaGreat
namespace Go.Proofs.YtijdglogadnbcaaGreat
open Go.Proofs.Tryz
open Go.RowKit Nt
theorem Yb {w:World}{la lb:List Nat}{a b:Option Addr}{n c m d:Nat}(ha:HAt w la a n c)(hb:HAt w lb b m d)(hmn:m≤n)(hsz:n≤1099511627776)(hle:Nh.vl lb≤Nh.vl la):
  Calls prog 167 #[.slice a n c,.slice b m d] w fun e w'=>∃a n c,e= .returned (.slice a n c)∧HAt w' (Nh.aC (Nh.vl la-Nh.vl lb)) a n c∧N3 w' w.heap.size a∧Below w.heap.size w w':=by
 have A:=hid ha;have B:=hid hb;have hn:=hid ha.len;have h1:=ha.cap;have h2:=ha.le;have D9:=hid hle;clear ha hb hle;obtain⟨i0,hi0,hz0,hz1,hz2⟩:=info_parts info3;go_enter func167,ntmps167;go_wp2_with fail;go_loopw [5,6,11] (fun v bo i wr=>Ls w la lb n v bo i wr) (fun _ _ i _=>n-(intOf i).toNat)
 case atStart=>exact⟨0,[],0,Nat.zero_le _,rfl,rfl,Nh.jB.nil la lb,World.ownsRow_nil _ _ _ _,Below.refl _ _⟩
 obtain⟨k,ds,r,hk,rfl,rfl,hI,hO,hB⟩:=hrel;have I:=hid hI;have O:=hid hO;have BR:=hid hB;have r1:=hI.r1;clear hI hO hB;by_cases hlt:k<n
 ·obtain⟨b1,o1,rfl,dd⟩:=A.out.at_ (by intro e;have:=hn.out;rw[e]at this;simp at this;omega);have p:=aj BR.out (dd k (by rw[hn.out];exact hlt));clear dd;obtain⟨x,hx⟩:∃x,la.getD k 0=x:=⟨_,rfl⟩;obtain⟨y,hy⟩:∃y,lb.getD k 0=y:=⟨_,rfl⟩;have xb:x<65536:=by rw[←hx];exact Nh.ak A.out.lm k
  have yb:y<65536:=by rw[←hy];exact Nh.ak B.out.lm k
  rw[hx]at p;have DG:=bC (w:=wr.drew) ((B.out.below BR.out).below (Below.refl _ _).drew) k (by omega);rw[hy]at DG;have DG:=hid DG;have HX:=hid hx;have HY:=hid hy;have OD:Hid ((wr.drew).ownsRow w.heap.size 3 1 u5 k (dW ds)):=O.out;have BD:Hid (Below w.heap.size w wr.drew):=BR.out.drew;have w1':IntKind.i64.wrap ((x:Int)-(y:Int))=(x:Int)-(y:Int):=IntWalk.i64_in _ (by omega);have w2':IntKind.i64.wrap ((x:Int)-(y:Int)-(r:Int))=(x:Int)-(y:Int)-(r:Int):=IntWalk.i64_in _ (by omega);have wk0:(0:Int)≤(k:Int):=by omega
  have wk1:(k:Int)<(n:Int):=by omega
  clear hx hy O BR;go_wp2_with fail;go_region_held3 (fun W=>W.cell? ⟨b1,o1+k,none⟩=some (.int .i64 (x:Int)))
   (first
    | exact p
    | go_keep)
   ((go_at_call 127;refine DG.out.mono ?_;rintro e w2 ⟨rfl,rfl⟩))
  clear p DG w1' w2';generalize wr.drew=wd at*;by_cases hb:y+r≤x
  ·obtain⟨e,he⟩:∃e,x-y-r=e:=⟨_,rfl⟩;have ei:(x:Int)-(y:Int)-(r:Int)=(e:Int):=by omega
   have e0:(0:Int)≤(e:Int):=by omega
   have O2:=hid (OD.out.alloc (.cells #[.int .i64 (e:Int)] 3));have EB:Hid (e<65536∧x+0*65536=e+y+r):=⟨by omega,by omega⟩;clear he hb;go_wp2_with (at_builtin;refine wpList_append_own _ rfl _ _ 76 rfl w.heap.size 3 i0 (.int .i64 0) 1 8 underlying76 hi0 hz0 hz1 hz2 rfl (by omega) u5 k _ rfl O2.out ⟨wd.heap.size,0,none⟩ 1 1 [.int .i64 (e:Int)] rfl rfl (dB wd e) (by intro u hu;simp at hu;rw[hu];rfl) (by unfold maxLen;omega) (by omega) (by have:=BD.out.size;simp;omega) ?_;intro v' w1 hown1 hgrow1 hnil1;have OW:=hid hown1;have GR:=hid hgrow1;clear hown1 hgrow1 hnil1);go_roundw
   case rel=>exact Ls.next hlt I.out EB.out.1 (r':=0) (by omega) (by rw[HX.out,HY.out];exact EB.out.2) BD.out OD.out _ OW.out GR.out
   simp[intOf];omega
  obtain⟨e,he⟩:∃e,x+65536-y-r=e:=⟨_,rfl⟩;obtain⟨f,hf⟩:∃f:Int,(x:Int)-(y:Int)-(r:Int)=f:=⟨_,rfl⟩;have aae:f<0:=by omega
  have ei:f+65536=(e:Int):=by omega
  have e0:(0:Int)≤(e:Int):=by omega
  have O2:=hid (OD.out.alloc (.cells #[.int .i64 (e:Int)] 3));have EB:Hid (e<65536∧x+1*65536=e+y+r):=⟨by omega,by omega⟩;clear he hb;go_wp2_with (at_builtin;refine wpList_append_own _ rfl _ _ 76 rfl w.heap.size 3 i0 (.int .i64 0) 1 8 underlying76 hi0 hz0 hz1 hz2 rfl (by omega) u5 k _ rfl O2.out ⟨wd.heap.size,0,none⟩ 1 1 [.int .i64 (e:Int)] rfl rfl (dB wd e) (by intro u hu;simp at hu;rw[hu];rfl) (by unfold maxLen;omega) (by omega) (by have:=BD.out.size;simp;omega) ?_;intro v' w1 hown1 hgrow1 hnil1;have OW:=hid hown1;have GR:=hid hgrow1;clear hown1 hgrow1 hnil1);go_roundw
  case rel=>exact Ls.next hlt I.out EB.out.1 (r':=1) (by omega) (by rw[HX.out,HY.out];exact EB.out.2) BD.out OD.out _ OW.out GR.out
  simp[intOf];omega
 obtain rfl:n=k:=by omega
 have DN:=hid (I.out.done (by rw[hn.out];exact Nat.le_refl _) (by rw[B.out.len];exact hmn) D9.out);obtain⟨a2,c2,rfl,L2,NW⟩:=uG I.out.lm I.out.len O.out;have NW:=hid NW;have L2:=hid L2;go_wp2_with fail;refine(dL L2.out).mono ?_;rintro e w' ⟨rfl,rfl⟩;go_wp2_with fail;go_ret;have T:=L2.out.trim;rw[DN.out.2]at T;exact⟨_,_,_,rfl,T,NW.out,BR.out⟩
theorem Jq {w:World}{x y:Nat}{a b:Option Addr}{n c m d:Nat}(ha:HAt w (Nh.aC x) a n c)(hb:HAt w (Nh.aC y) b m d)(hsz:n≤1099511627776)(hle:y≤x):
  Calls prog 167 #[.slice a n c,.slice b m d] w fun e w'=>∃a n c,e= .returned (.slice a n c)∧HAt w' (Nh.aC (x-y)) a n c∧N3 w' w.heap.size a∧Below w.heap.size w w':=by have:=Yb ha hb (by have:=Nh.aK hle;rw[ha.len,hb.len]at this;exact this) hsz (by rw[Nh.au,Nh.au];exact hle);rw[Nh.au,Nh.au]at this;exact this
theorem yM (w:World)(x y z:Obj):(((w.alloc x).alloc y).alloc z).heap[w.heap.size]? =some x∧(((w.alloc x).alloc y).alloc z).heap[w.heap.size+1]? =some y∧(((w.alloc x).alloc y).alloc z).heap[w.heap.size+1+1]? =some z∧Below w.heap.size w (((w.alloc x).alloc y).alloc z):=by
 refine⟨?_,?_,?_,((ah _ _).alloc (by simp) _).alloc (by simp;omega) _⟩
 ·rw[Below.heap_alloc _ _ _ (by simp;omega),Below.heap_alloc _ _ _ (by simp)];exact heap_alloc_new w _
 ·rw[Below.heap_alloc _ _ _ (by simp)];have:=heap_alloc_new (w.alloc x) y;rwa[show(w.alloc x).heap.size=w.heap.size+1 from by simp]at this
 have:=heap_alloc_new ((w.alloc x).alloc y) z;rwa[show((w.alloc x).alloc y).heap.size=w.heap.size+1+1 from by simp]at this
theorem TD {x y k l:Nat}(hx:(Nh.aC x).length≤k)(hy:(Nh.aC y).length≤l):(Nh.aC (x*y)).length≤k+l:=Nh.bn (by have h1:=Nh.dD (Nh.bD x);have h2:=Nh.dD (Nh.bD y);rw[Nh.au]at h1 h2;have h1:=Nat.lt_of_lt_of_le h1 (Nat.pow_le_pow_right (by omega) hx);have h2:=Nat.lt_of_lt_of_le h2 (Nat.pow_le_pow_right (by omega) hy);rw[Nat.pow_add];exact Nat.lt_of_le_of_lt (Nat.mul_le_mul_left _ (Nat.le_of_lt h2)) (Nat.mul_lt_mul_of_pos_right h1 (Nat.pow_pos (by omega))))
theorem TF {x y k:Nat}(hx:(Nh.aC x).length≤k)(hy:(Nh.aC y).length≤k):(Nh.aC (x+y)).length≤k+1:=Nh.bn (by have h1:=Nh.dD (Nh.bD x);have h2:=Nh.dD (Nh.bD y);rw[Nh.au]at h1 h2;have h1:=Nat.lt_of_lt_of_le h1 (Nat.pow_le_pow_right (by omega) hx);have h2:=Nat.lt_of_lt_of_le h2 (Nat.pow_le_pow_right (by omega) hy);rw[Nat.pow_succ];omega)
theorem uJ {w:World}{F:Nat→Prop}(hF:Ab F w.heap.size){x y:Nat}{a b:Option Addr}{na nb ca cb:Nat}(ha:HAt w (Nh.aC x) a na ca)(hb:HAt w (Nh.aC y) b nb cb)(hsz:na≤1099511627776)(oh:nb≤1099511627776):
  Calls prog 84 #[.slice a na ca,.slice b nb cb] w fun e w'=>∃a n c,e= .returned (.slice a n c)∧HAt w' (Nh.aC (x*y)) a n c∧n≤na+nb∧NF w' F a∧Below w.heap.size w w':=by have:=XU ha hb hsz oh;rw[Nh.au,Nh.au]at this;refine this.mono ?_;rintro e w' ⟨a2,n2,c2,rfl,h,ht,hB⟩;exact⟨a2,n2,c2,rfl,h,by rw[←h.len];exact TD (by rw[ha.len];omega) (by rw[hb.len];omega),ht.nf hF,hB⟩
theorem Yc {w:World}{F:Nat→Prop}(hF:Ab F w.heap.size){x y:Nat}{a b:Option Addr}{n c m d k:Nat}(ha:HAt w (Nh.aC x) a n c)(hb:HAt w (Nh.aC y) b m d)(hn:n≤k)(hm:m≤k)(hk:k≤1099511627776):
  Calls prog 170 #[.slice a n c,.slice b m d] w fun e w'=>∃a n c,e= .returned (.slice a n c)∧HAt w' (Nh.aC (x+y)) a n c∧n≤k+1∧NF w' F a∧Below w.heap.size w w':=by have:=XY ha hb (by omega) (by omega);rw[Nh.au,Nh.au]at this;refine this.mono ?_;rintro e w' ⟨a2,n2,c2,rfl,h,ht,hB⟩;exact⟨a2,n2,c2,rfl,h,by rw[←h.len];exact TF (by rw[ha.len];exact hn) (by rw[hb.len];exact hm),ht.nf hF,hB⟩
theorem Lu {w:World}{F:Nat→Prop}(hF:Ab F w.heap.size){x y:Nat}{a b:Option Addr}{n c m d:Nat}(ha:HAt w (Nh.aC x) a n c)(hb:HAt w (Nh.aC y) b m d)(hsz:n≤1099511627776)(hle:y≤x):
  Calls prog 167 #[.slice a n c,.slice b m d] w fun e w'=>∃a n' c,e= .returned (.slice a n' c)∧HAt w' (Nh.aC (x-y)) a n' c∧n'≤n∧NF w' F a∧Below w.heap.size w w':=by refine(Jq ha hb hsz hle).mono ?_;rintro e w' ⟨a2,n2,c2,rfl,h,ht,hB⟩;refine⟨a2,n2,c2,rfl,h,?_,ht.nf hF,hB⟩;have:=Nh.aK (Nat.sub_le x y);rwa[h.len,ha.len]at this
theorem NR.xI {w:World}{g:Nat}{s:Bool}{a b:Option Addr}{n c m d:Nat}(h:NR w g s a n c b m d)(x y z:Value):
  (((w.setCell ⟨g,0,none⟩ x).setCell ⟨g,1,none⟩ y).setCell ⟨g,2,none⟩ z).cell? ⟨g,0,none⟩=some x∧(((w.setCell ⟨g,0,none⟩ x).setCell ⟨g,1,none⟩ y).setCell ⟨g,2,none⟩ z).cell? ⟨g,1,none⟩=some y∧(((w.setCell ⟨g,0,none⟩ x).setCell ⟨g,1,none⟩ y).setCell ⟨g,2,none⟩ z).cell? ⟨g,2,none⟩=some z:=by
 have e:(((w.setCell ⟨g,0,none⟩ x).setCell ⟨g,1,none⟩ y).setCell ⟨g,2,none⟩ z).heap[g]? =some (.cells #[x,y,z] 78 (0,0)):=by unfold NR at h;simp[World.setCell,Array.getElem?_modify,h]
 refine⟨?_,?_,?_⟩
 ·rw[cell_of_row _ g 0 _ _ _ e];rfl
 ·rw[cell_of_row _ g 1 _ _ _ e];rfl
 rw[cell_of_row _ g 2 _ _ _ e];rfl
theorem TG {w:World}{F:Nat→Prop}(hF:Ab F w.heap.size){p q:Rat}{s t:Bool}{a b a' b':Option Addr}{n c m d n' c' m' d':Nat}(hp:oZ w F p s a n c b m d)(hq:oZ w F q t a' n' c' b' m' d')(sz:n≤16777216∧m≤16777216∧n'≤16777216∧m'≤16777216):
  Calls prog 130 #[.agg #[.bool s,.slice a n c,.slice b m d],.agg #[.bool t,.slice a' n' c',.slice b' m' d']] w (jl w F (p*q)):=by
 rw[uK];have SP:=hid hp.sg;have SQ:=hid hq.sg;have D0:Hid (0<p.den*q.den):=Nat.mul_pos p.den_pos q.den_pos;obtain⟨sz1,Ac,sz3,sz4⟩:=sz;obtain⟨y2,y3,y4,yb⟩:=yM w (.cells #[.bool s,.slice a n c,.slice b m d] 78) (.cells #[.bool t,.slice a' n' c',.slice b' m' d'] 78) (.cells #[.bool false,.slice none 0 0,.slice none 0 0] 78);have P:=hid (hp.below yb);have Q:=hid (hq.below yb);have B0:=hid yb;have HF:=hid hF;clear hF;have X2:Hid (NR (((w.alloc (.cells #[.bool s,.slice a n c,.slice b m d] 78)).alloc (.cells #[.bool t,.slice a' n' c',.slice b' m' d'] 78)).alloc (.cells #[.bool false,.slice none 0 0,.slice none 0 0] 78)) w.heap.size s a n c b m d):=y2;have X3:Hid (NR (((w.alloc (.cells #[.bool s,.slice a n c,.slice b m d] 78)).alloc (.cells #[.bool t,.slice a' n' c',.slice b' m' d'] 78)).alloc (.cells #[.bool false,.slice none 0 0,.slice none 0 0] 78)) (w.heap.size+1) t a' n' c' b' m' d'):=y3;have X4:Hid (NR (((w.alloc (.cells #[.bool s,.slice a n c,.slice b m d] 78)).alloc (.cells #[.bool t,.slice a' n' c',.slice b' m' d'] 78)).alloc (.cells #[.bool false,.slice none 0 0,.slice none 0 0] 78)) (w.heap.size+1+1) false none 0 0 none 0 0):=y4;clear hp hq y2 y3 y4 yb;go_enter func130,ntmps130;go_upto_region 1 with fail
 generalize ((w.alloc (.cells #[.bool s,.slice a n c,.slice b m d] 78)).alloc (.cells #[.bool t,.slice a' n' c',.slice b' m' d'] 78)).alloc (.cells #[.bool false,.slice none 0 0,.slice none 0 0] 78)=W at*;obtain⟨g,hg⟩:∃g,w.heap.size=g:=⟨_,rfl⟩;have G:=hid hg;rw[hg]at X2 X3 X4⊢;clear hg;obtain⟨u0,u1,u2,_⟩:=X2.out.reads;obtain⟨v0,v1,v2,_⟩:=X3.out.reads;have KP:=hid (fun(W':World) (hB:Below W.heap.size W W')=>(show W'.cell? ⟨g,0,none⟩=some (.bool s)∧W'.cell? ⟨g,1,none⟩=some (.slice a n c)∧W'.cell? ⟨g,2,none⟩=some (.slice b m d)∧W'.cell? ⟨g+1,0,none⟩=some (.bool t)∧W'.cell? ⟨g+1,1,none⟩=some (.slice a' n' c')∧W'.cell? ⟨g+1,2,none⟩=some (.slice b' m' d') from⟨aj hB u0,aj hB u1,aj hB u2,aj hB v0,aj hB v1,aj hB v2⟩));refine Rg.aH 16 [] (fun W'=>W'.cell? ⟨g,0,none⟩=some (.bool s)∧W'.cell? ⟨g,1,none⟩=some (.slice a n c)∧W'.cell? ⟨g,2,none⟩=some (.slice b m d)∧W'.cell? ⟨g+1,0,none⟩=some (.bool t)∧W'.cell? ⟨g+1,1,none⟩=some (.slice a' n' c')∧W'.cell? ⟨g+1,2,none⟩=some (.slice b' m' d')) (by kernel_rfl) (by kernel_rfl) ?_ (fun hS ok inv=>?_)
 ·exact⟨u0,u1,u2,v0,v1,v2⟩
 refine Rg.tk 0 rfl ok inv hS fun inv=>?_;refine Rg.tk 1 rfl ok inv hS fun inv=>?_;refine Rg.tk 2 rfl ok inv hS fun inv=>?_;refine Rg.tk 3 rfl ok inv hS fun inv=>?_;refine Rg.tk 4 rfl ok inv hS fun inv=>?_;refine Rg.tk 5 rfl ok inv hS fun inv=>?_;refine Rg.tk 6 rfl ok inv hS fun inv=>?_;refine Rg.tk 7 rfl ok inv hS fun inv=>?_;refine Rg.tk 8 rfl ok inv hS fun inv=>?_;refine Rg.tk 10 rfl ok inv hS fun inv=>?_;refine Rg.tk 11 rfl ok inv hS fun inv=>?_;refine Rg.tk 12 rfl ok inv hS fun inv=>?_;refine Rg.tk 13 rfl ok inv hS fun inv=>?_;refine Rg.w1 9 rfl inv fun K' hK=>?_;go_simp;go_at_call 84;refine(uJ (show Ab F W.drew.heap.size from HF.out.mono B0.out.size) (P.out.num.below (Below.refl _ _).drew) (Q.out.num.below (Below.refl _ _).drew) (by omega) (by omega)).mono ?_;rintro e w5 ⟨a5,n5,c5,rfl,L5,N5,T5,B5⟩;have B5:=aJ B5;have KS:=KP.out w5 B5;refine Rg.st hK ?_ fun hS inv=>?_
 ·exact KS
 clear hK K';refine Rg.w1 14 rfl inv fun K' hK=>?_;go_simp;go_at_call 84;refine(uJ (HF.out.mono (Nat.le_trans B0.out.size B5.size)) (P.out.den.below B5) (Q.out.den.below B5) (by omega) (by omega)).mono ?_;rintro e w6 ⟨a6,n6,c6,rfl,L6,N6,T6,B6⟩;have L56:=L5.below B6;have Ea:=aB B5 B6;have KS:=KP.out w6 Ea;refine Rg.st hK ?_ fun hS inv=>?_
 ·exact KS
 clear hK K';refine Rg.w1 15 rfl inv fun K' hK=>?_;go_simp;go_at_call 169;refine(nH (HF.out.mono (Nat.le_trans B0.out.size Ea.size)) (neg:=(s !=t)) L56 L6 (T5.below B6) T6 D0.out (by omega) (by omega)).mono ?_;rintro e w9 ⟨s9,a9,n9,c9,b9,m9,d9,rfl,L9,B9⟩;have Ef:=aB Ea B9;have KS:=KP.out w9 Ef;rw[SP.out,SQ.out]at L9;have L9:=hid L9;have Eb:=hid (aB B0.out Ef);have lU:=X4.out.later Ef X4.out.lt;obtain⟨_,_,_,fz⟩:=lU.reads;have f0:=fz 0;have f1:=fz 1;have f2:=fz 2;have lU:=hid lU;clear fz;refine Rg.st hK ?_ fun hS inv=>?_
 ·exact KS
 clear hK K';refine Rg.wl rfl ?_;go_simp;have B9:=aG Eb.out (g+1+1) (by have:=G.out;omega) (.bool s9) (.slice a9 n9 c9) (.slice b9 m9 d9);have R9:oZ (((w9.setCell ⟨g+1+1,0,none⟩ (.bool s9)).setCell ⟨g+1+1,1,none⟩ (.slice a9 n9 c9)).setCell ⟨g+1+1,2,none⟩ (.slice b9 m9 d9)) F (_) s9 a9 n9 c9 b9 m9 d9:=oZ.put L9.out lU.out _ _ _;have XX:=NR.xI lU.out (.bool s9) (.slice a9 n9 c9) (.slice b9 m9 d9);obtain⟨z0,z1,z2⟩:=XX;go_wp2_with fail;exact bodyPost_ret (v:= .agg #[.bool s9,.slice a9 n9 c9,.slice b9 m9 d9]) (by simp[results,results130,go_sem,z0,z1,z2]) rfl ⟨s9,a9,n9,c9,b9,m9,d9,rfl,R9,B9⟩
theorem TI {w:World}{F:Nat→Prop}(hF:Ab F w.heap.size){p q:Rat}{s t:Bool}{a b a' b':Option Addr}{n c m d n' c' m' d':Nat}(hp:oZ w F p s a n c b m d)(hq:oZ w F q t a' n' c' b' m' d')(sz:n≤16777216∧m≤16777216∧n'≤16777216∧m'≤16777216):
  Calls prog 129 #[.agg #[.bool s,.slice a n c,.slice b m d],.agg #[.bool t,.slice a' n' c',.slice b' m' d']] w (jl w F (p+q)):=by
 have SP:=hid hp.sg;have SQ:=hid hq.sg;obtain⟨D,hD⟩:∃D,p.den*q.den=D:=⟨_,rfl⟩;obtain⟨x,hx⟩:∃x,p.num.natAbs*q.den=x:=⟨_,rfl⟩;obtain⟨y,hy⟩:∃y,q.num.natAbs*p.den=y:=⟨_,rfl⟩;have D0:Hid (0<D):=by show _<_;rw[←hD];exact Nat.mul_pos p.den_pos q.den_pos
 have E1:Hid (s=t→p+q=fQ s (x+y) D):=fun e=>by have:=iP (p:=p) (q:=q) (by rw[←SP.out,←SQ.out];exact e);rw[this,←SP.out,hx,hy,hD]
 have E2:Hid (s≠t→y≤x→p+q=fQ s (x-y) D):=fun e le=>by have:=iR (p:=p) (q:=q) (by rw[←SP.out,←SQ.out];exact e) (by rw[hx,hy];exact le);rw[this,←SP.out,hx,hy,hD]
 have E3:Hid (s≠t→x≤y→p+q=fQ t (y-x) D):=fun e le=>by have:=jS (p:=p) (q:=q) (by rw[←SP.out,←SQ.out];exact e) (by rw[hx,hy];exact le);rw[this,←SQ.out,hx,hy,hD]
 have HX:=hid hx;have HY:=hid hy;have HD:=hid hD;obtain⟨pq,hpq⟩:∃z,p+q=z:=⟨_,rfl⟩;rw[hpq]at E1 E2 E3⊢;clear hx hy hD hpq;obtain⟨sz1,Ac,sz3,sz4⟩:=sz;obtain⟨y2,y3,y4,yb⟩:=yM w (.cells #[.bool s,.slice a n c,.slice b m d] 78) (.cells #[.bool t,.slice a' n' c',.slice b' m' d'] 78) (.cells #[.bool false,.slice none 0 0,.slice none 0 0] 78);have P:=hid (hp.below yb);have Q:=hid (hq.below yb);have B0:=hid yb;have HF:=hid hF;clear hF;have X2:Hid (NR (((w.alloc (.cells #[.bool s,.slice a n c,.slice b m d] 78)).alloc (.cells #[.bool t,.slice a' n' c',.slice b' m' d'] 78)).alloc (.cells #[.bool false,.slice none 0 0,.slice none 0 0] 78)) w.heap.size s a n c b m d):=y2;have X3:Hid (NR (((w.alloc (.cells #[.bool s,.slice a n c,.slice b m d] 78)).alloc (.cells #[.bool t,.slice a' n' c',.slice b' m' d'] 78)).alloc (.cells #[.bool false,.slice none 0 0,.slice none 0 0] 78)) (w.heap.size+1) t a' n' c' b' m' d'):=y3;have X4:Hid (NR (((w.alloc (.cells #[.bool s,.slice a n c,.slice b m d] 78)).alloc (.cells #[.bool t,.slice a' n' c',.slice b' m' d'] 78)).alloc (.cells #[.bool false,.slice none 0 0,.slice none 0 0] 78)) (w.heap.size+1+1) false none 0 0 none 0 0):=y4;clear hp hq y2 y3 y4 yb;go_enter func129,ntmps129;go_upto_region 1 with fail
 generalize ((w.alloc (.cells #[.bool s,.slice a n c,.slice b m d] 78)).alloc (.cells #[.bool t,.slice a' n' c',.slice b' m' d'] 78)).alloc (.cells #[.bool false,.slice none 0 0,.slice none 0 0] 78)=W at*;obtain⟨g,hg⟩:∃g,w.heap.size=g:=⟨_,rfl⟩;have G:=hid hg;rw[hg]at X2 X3 X4⊢;clear hg;obtain⟨u0,u1,u2,_⟩:=X2.out.reads;obtain⟨v0,v1,v2,_⟩:=X3.out.reads;have KP:=hid (fun(W':World) (hB:Below W.heap.size W W')=>(show W'.cell? ⟨g,0,none⟩=some (.bool s)∧W'.cell? ⟨g,1,none⟩=some (.slice a n c)∧W'.cell? ⟨g,2,none⟩=some (.slice b m d)∧W'.cell? ⟨g+1,0,none⟩=some (.bool t)∧W'.cell? ⟨g+1,1,none⟩=some (.slice a' n' c')∧W'.cell? ⟨g+1,2,none⟩=some (.slice b' m' d') from⟨aj hB u0,aj hB u1,aj hB u2,aj hB v0,aj hB v1,aj hB v2⟩));refine Rg.aH 17 [] (fun W'=>W'.cell? ⟨g,0,none⟩=some (.bool s)∧W'.cell? ⟨g,1,none⟩=some (.slice a n c)∧W'.cell? ⟨g,2,none⟩=some (.slice b m d)∧W'.cell? ⟨g+1,0,none⟩=some (.bool t)∧W'.cell? ⟨g+1,1,none⟩=some (.slice a' n' c')∧W'.cell? ⟨g+1,2,none⟩=some (.slice b' m' d')) (by kernel_rfl) (by kernel_rfl) ?_ (fun hS ok inv=>?_)
 ·exact⟨u0,u1,u2,v0,v1,v2⟩
 refine Rg.tk 0 rfl ok inv hS fun inv=>?_;refine Rg.tk 1 rfl ok inv hS fun inv=>?_;refine Rg.tk 2 rfl ok inv hS fun inv=>?_;refine Rg.tk 3 rfl ok inv hS fun inv=>?_;refine Rg.tk 5 rfl ok inv hS fun inv=>?_;refine Rg.tk 6 rfl ok inv hS fun inv=>?_;refine Rg.tk 7 rfl ok inv hS fun inv=>?_;refine Rg.tk 8 rfl ok inv hS fun inv=>?_;refine Rg.tk 10 rfl ok inv hS fun inv=>?_;refine Rg.tk 11 rfl ok inv hS fun inv=>?_;refine Rg.tk 12 rfl ok inv hS fun inv=>?_;refine Rg.tk 13 rfl ok inv hS fun inv=>?_;refine Rg.w1 4 rfl inv fun K' hK=>?_;go_simp;go_at_call 84;refine(uJ (show Ab F W.drew.heap.size from HF.out.mono B0.out.size) (P.out.num.below (Below.refl _ _).drew) (Q.out.den.below (Below.refl _ _).drew) (by omega) (by omega)).mono ?_;rintro e w5 ⟨a5,n5,c5,rfl,L5,N5,T5,B5⟩;have B5:=aJ B5;rw[HX.out]at L5;have KS:=KP.out w5 B5;refine Rg.st hK ?_ fun hS inv=>?_
 ·exact KS
 clear hK K';refine Rg.w1 9 rfl inv fun K' hK=>?_;go_simp;go_at_call 84;refine(uJ (HF.out.mono (Nat.le_trans B0.out.size B5.size)) (Q.out.num.below B5) (P.out.den.below B5) (by omega) (by omega)).mono ?_;rintro e w6 ⟨a6,n6,c6,rfl,L6,N6,T6,B6⟩;rw[HY.out]at L6;have Ea:=aB B5 B6;have KS:=KP.out w6 Ea;refine Rg.st hK ?_ fun hS inv=>?_
 ·exact KS
 clear hK K';refine Rg.w1 14 rfl inv fun K' hK=>?_;go_simp;go_at_call 84;refine(uJ (HF.out.mono (Nat.le_trans B0.out.size Ea.size)) (P.out.den.below Ea) (Q.out.den.below Ea) (by omega) (by omega)).mono ?_;rintro e w7 ⟨a7,n7,c7,rfl,L7,N7,T7,B7⟩;rw[HD.out]at L7;have SY:=aB Ea B7;have KS:=KP.out w7 SY;have L5:=hid (L5.below (aB B6 B7));have L6:=hid (L6.below B7);have L7:=hid L7;have T7:=hid T7;clear T5 T6;have Ak:=hid (aB B0.out SY);have X27:=hid (X2.out.later SY X2.out.lt);have X37:=hid (X3.out.later SY X3.out.lt);have TJ:=hid (X4.out.later SY X4.out.lt);refine Rg.st hK ?_ fun hS inv=>?_
 ·exact KS
 clear hK K';refine Rg.tk 15 rfl ok inv hS fun inv=>?_;refine Rg.tk 16 rfl ok inv hS fun inv=>?_;refine Rg.wl rfl ?_;go_simp;clear u0 u1 u2 v0 v1 v2 KP KS B5 Ea SY B6 B7 X2 X3 X4 P Q;obtain⟨u0,u1,u2,_⟩:=X27.out.reads;obtain⟨v0,v1,v2,_⟩:=X37.out.reads;by_cases hst:s=t
 ·have EE:=E1.out hst;have st:(s==t)=true:=by simp[hst]
  clear hst;go_upto_region 3 with fail
  have KQ:=hid (fun(W':World) (hB:Below w7.heap.size w7 W')=>(show W'.cell? ⟨g,0,none⟩=some (.bool s) from aj hB u0));refine Rg.aH 7 [] (fun W'=>W'.cell? ⟨g,0,none⟩=some (.bool s)) (by kernel_rfl) (by kernel_rfl) ?_ (fun hS ok inv=>?_)
  ·exact u0
  refine Rg.tk 0 rfl ok inv hS fun inv=>?_;refine Rg.tk 1 rfl ok inv hS fun inv=>?_;refine Rg.tk 2 rfl ok inv hS fun inv=>?_;refine Rg.tk 3 rfl ok inv hS fun inv=>?_;refine Rg.tk 5 rfl ok inv hS fun inv=>?_;refine Rg.w1 4 rfl inv fun K' hK=>?_;go_simp;go_at_call 170;refine(Yc (show Ab F w7.drew.heap.size from HF.out.mono Ak.out.size) (k:=33554432) (L5.out.below (Below.refl _ _).drew) (L6.out.below (Below.refl _ _).drew) (by omega) (by omega) (by omega)).mono ?_;rintro e w8 ⟨a8,n8,c8,rfl,L8,N8,T8,B8⟩;have B8:=aJ B8;have KT:=KQ.out w8 B8;refine Rg.st hK ?_ fun hS inv=>?_
  ·exact KT
  clear hK K';refine Rg.w1 6 rfl inv fun K' hK=>?_;go_simp;go_at_call 169;refine(nH (HF.out.mono (Nat.le_trans Ak.out.size B8.size)) (neg:=s) L8 (L7.out.below B8) T8 (T7.out.below B8) D0.out (by omega) (by omega)).mono ?_;rintro e w9 ⟨s9,a9,n9,c9,b9,m9,d9,rfl,L9,B9⟩;have Ef:=aB B8 B9;have KT:=KQ.out w9 Ef;rw[←EE]at L9;have L9:=hid L9;have Eb:=hid (aB Ak.out Ef);have lU:=TJ.out.later Ef TJ.out.lt;obtain⟨_,_,_,fz⟩:=lU.reads;have f0:=fz 0;have f1:=fz 1;have f2:=fz 2;have lU:=hid lU;clear fz;refine Rg.st hK ?_ fun hS inv=>?_
  ·exact KT
  clear hK K';refine Rg.wl rfl ?_;go_simp;have B9:=aG Eb.out (g+1+1) (by have:=G.out;omega) (.bool s9) (.slice a9 n9 c9) (.slice b9 m9 d9);have R9:oZ (((w9.setCell ⟨g+1+1,0,none⟩ (.bool s9)).setCell ⟨g+1+1,1,none⟩ (.slice a9 n9 c9)).setCell ⟨g+1+1,2,none⟩ (.slice b9 m9 d9)) F (_) s9 a9 n9 c9 b9 m9 d9:=oZ.put L9.out lU.out _ _ _;have XX:=NR.xI lU.out (.bool s9) (.slice a9 n9 c9) (.slice b9 m9 d9);obtain⟨z0,z1,z2⟩:=XX;go_wp2_with fail;exact bodyPost_ret (v:= .agg #[.bool s9,.slice a9 n9 c9,.slice b9 m9 d9]) (by simp[results,results129,go_sem,z0,z1,z2]) rfl ⟨s9,a9,n9,c9,b9,m9,d9,rfl,R9,B9⟩
 have st:(s==t)=false:=by simp[hst]
 obtain⟨z,hz⟩:∃z,bU x y=z:=⟨_,rfl⟩;have C:=hid (gW L5.out L6.out hz);by_cases hle:y≤x
 ·have z0:z≥0:=by rw[←hz];unfold bU;rw[if_neg (by omega)];split<;>omega
  have EE:=E2.out hst hle;have D9:=hid hle;clear hst hz hle;go_upto_region 5 with(go_at_call 85;refine C.out.mono ?_;rintro e w8 ⟨rfl,rfl⟩)
  have KQ:=hid (fun(W':World) (hB:Below w7.heap.size w7 W')=>(show W'.cell? ⟨g,0,none⟩=some (.bool s) from aj hB u0));refine Rg.aH 7 [] (fun W'=>W'.cell? ⟨g,0,none⟩=some (.bool s)) (by kernel_rfl) (by kernel_rfl) ?_ (fun hS ok inv=>?_)
  ·exact u0
  refine Rg.tk 0 rfl ok inv hS fun inv=>?_;refine Rg.tk 1 rfl ok inv hS fun inv=>?_;refine Rg.tk 2 rfl ok inv hS fun inv=>?_;refine Rg.tk 3 rfl ok inv hS fun inv=>?_;refine Rg.tk 5 rfl ok inv hS fun inv=>?_;refine Rg.w1 4 rfl inv fun K' hK=>?_;go_simp;go_at_call 167;refine(Lu (show Ab F w7.drew.heap.size from HF.out.mono Ak.out.size) (L5.out.below (Below.refl _ _).drew) (L6.out.below (Below.refl _ _).drew) (by omega) D9.out).mono ?_;rintro e w8 ⟨a8,n8,c8,rfl,L8,N8,T8,B8⟩;have B8:=aJ B8;have KT:=KQ.out w8 B8;refine Rg.st hK ?_ fun hS inv=>?_
  ·exact KT
  clear hK K';refine Rg.w1 6 rfl inv fun K' hK=>?_;go_simp;go_at_call 169;refine(nH (HF.out.mono (Nat.le_trans Ak.out.size B8.size)) (neg:=s) L8 (L7.out.below B8) T8 (T7.out.below B8) D0.out (by omega) (by omega)).mono ?_;rintro e w9 ⟨s9,a9,n9,c9,b9,m9,d9,rfl,L9,B9⟩;have Ef:=aB B8 B9;have KT:=KQ.out w9 Ef;rw[←EE]at L9;have L9:=hid L9;have Eb:=hid (aB Ak.out Ef);have lU:=TJ.out.later Ef TJ.out.lt;obtain⟨_,_,_,fz⟩:=lU.reads;have f0:=fz 0;have f1:=fz 1;have f2:=fz 2;have lU:=hid lU;clear fz;refine Rg.st hK ?_ fun hS inv=>?_
  ·exact KT
  clear hK K';refine Rg.wl rfl ?_;go_simp;have B9:=aG Eb.out (g+1+1) (by have:=G.out;omega) (.bool s9) (.slice a9 n9 c9) (.slice b9 m9 d9);have R9:oZ (((w9.setCell ⟨g+1+1,0,none⟩ (.bool s9)).setCell ⟨g+1+1,1,none⟩ (.slice a9 n9 c9)).setCell ⟨g+1+1,2,none⟩ (.slice b9 m9 d9)) F (_) s9 a9 n9 c9 b9 m9 d9:=oZ.put L9.out lU.out _ _ _;have XX:=NR.xI lU.out (.bool s9) (.slice a9 n9 c9) (.slice b9 m9 d9);obtain⟨z0,z1,z2⟩:=XX;go_wp2_with fail;exact bodyPost_ret (v:= .agg #[.bool s9,.slice a9 n9 c9,.slice b9 m9 d9]) (by simp[results,results129,go_sem,z0,z1,z2]) rfl ⟨s9,a9,n9,c9,b9,m9,d9,rfl,R9,B9⟩
 have z0:¬z≥0:=by rw[←hz];unfold bU;rw[if_pos (by omega)];omega
 have EE:=E3.out hst (by omega);have D9:Hid (x≤y):=by show _≤_;omega
 clear hst hz hle;go_upto_region 6 with(go_at_call 85;refine C.out.mono ?_;rintro e w8 ⟨rfl,rfl⟩)
 have KQ:=hid (fun(W':World) (hB:Below w7.heap.size w7 W')=>(show W'.cell? ⟨g+1,0,none⟩=some (.bool t) from aj hB v0));refine Rg.aH 7 [] (fun W'=>W'.cell? ⟨g+1,0,none⟩=some (.bool t)) (by kernel_rfl) (by kernel_rfl) ?_ (fun hS ok inv=>?_)
 ·exact v0
 refine Rg.tk 0 rfl ok inv hS fun inv=>?_;refine Rg.tk 1 rfl ok inv hS fun inv=>?_;refine Rg.tk 2 rfl ok inv hS fun inv=>?_;refine Rg.tk 3 rfl ok inv hS fun inv=>?_;refine Rg.tk 5 rfl ok inv hS fun inv=>?_;refine Rg.w1 4 rfl inv fun K' hK=>?_;go_simp;go_at_call 167;refine(Lu (show Ab F w7.drew.heap.size from HF.out.mono Ak.out.size) (L6.out.below (Below.refl _ _).drew) (L5.out.below (Below.refl _ _).drew) (by omega) D9.out).mono ?_;rintro e w8 ⟨a8,n8,c8,rfl,L8,N8,T8,B8⟩;have B8:=aJ B8;have KT:=KQ.out w8 B8;refine Rg.st hK ?_ fun hS inv=>?_
 ·exact KT
 clear hK K';refine Rg.w1 6 rfl inv fun K' hK=>?_;go_simp;go_at_call 169;refine(nH (HF.out.mono (Nat.le_trans Ak.out.size B8.size)) (neg:=t) L8 (L7.out.below B8) T8 (T7.out.below B8) D0.out (by omega) (by omega)).mono ?_;rintro e w9 ⟨s9,a9,n9,c9,b9,m9,d9,rfl,L9,B9⟩;have Ef:=aB B8 B9;have KT:=KQ.out w9 Ef;rw[←EE]at L9;have L9:=hid L9;have Eb:=hid (aB Ak.out Ef);have lU:=TJ.out.later Ef TJ.out.lt;obtain⟨_,_,_,fz⟩:=lU.reads;have f0:=fz 0;have f1:=fz 1;have f2:=fz 2;have lU:=hid lU;clear fz;refine Rg.st hK ?_ fun hS inv=>?_
 ·exact KT
 clear hK K';refine Rg.wl rfl ?_;go_simp;have B9:=aG Eb.out (g+1+1) (by have:=G.out;omega) (.bool s9) (.slice a9 n9 c9) (.slice b9 m9 d9);have R9:oZ (((w9.setCell ⟨g+1+1,0,none⟩ (.bool s9)).setCell ⟨g+1+1,1,none⟩ (.slice a9 n9 c9)).setCell ⟨g+1+1,2,none⟩ (.slice b9 m9 d9)) F (_) s9 a9 n9 c9 b9 m9 d9:=oZ.put L9.out lU.out _ _ _;have XX:=NR.xI lU.out (.bool s9) (.slice a9 n9 c9) (.slice b9 m9 d9);obtain⟨z0,z1,z2⟩:=XX;go_wp2_with fail;exact bodyPost_ret (v:= .agg #[.bool s9,.slice a9 n9 c9,.slice b9 m9 d9]) (by simp[results,results129,go_sem,z0,z1,z2]) rfl ⟨s9,a9,n9,c9,b9,m9,d9,rfl,R9,B9⟩
end Go.Proofs.YtijdglogadnbcaaGreat
