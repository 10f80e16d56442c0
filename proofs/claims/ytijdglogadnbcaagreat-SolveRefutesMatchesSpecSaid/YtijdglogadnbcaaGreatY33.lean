/- The reference's GcdNat whole, Fault, Of. -/
import Derived.Test.YtijdglogadnbcaaGreatY32
set_option linter.unusedVariables false
set_option linter.unusedSimpArgs false
set_option maxRecDepth 100000
set_option maxHeartbeats 40000000
namespace Go.Proofs.YtijdglogadnbcaaGreat
open Go.Proofs.Tryz
open Go.RowKit
theorem Kw {w:World}{x y:Nat}{a b:Option Addr}{n c m d:Nat}(ha:HAt w (Nh.aC x) a n c)(hb:HAt w (Nh.aC y) b m d)(x0:x=0):
  Calls prog 126 #[.slice a n c,.slice b m d] w (dV w (Nat.gcd x y)):=by
 have nz:=(dF ha).2 x0;have E:Hid (Nat.gcd x y=y):=by show _=_;rw[x0,Nat.gcd_zero_left]
 have B:=hid hb;clear ha hb x0;subst nz;go_enter func126,ntmps126;go_wp2_with fail;go_ret;exact⟨b,m,d,rfl,by rw[E.out];exact B.out,Below.refl _ _⟩
theorem Gp {w:World}{x y:Nat}{a b:Option Addr}{n c m d:Nat}(ha:HAt w (Nh.aC x) a n c)(hb:HAt w (Nh.aC y) b m d)(x0:x≠0)(y0:y=0):
  Calls prog 126 #[.slice a n c,.slice b m d] w (dV w (Nat.gcd x y)):=by
 have nz:((n:Int)==0)=false:=by simp;exact fun e=>x0 ((dF ha).1 e)
 have mz:=(dF hb).2 y0;have E:Hid (Nat.gcd x y=x):=by show _=_;rw[y0,Nat.gcd_zero_right]
 have A:=hid ha;clear ha hb x0 y0;subst mz;go_enter func126,ntmps126;go_wp2_with fail;go_ret;exact⟨a,n,c,rfl,by rw[E.out];exact A.out,Below.refl _ _⟩
theorem Rh {w:World}{x y N:Nat}{a b:Option Addr}{n c m d:Nat}(ha:HAt w (Nh.aC x) a n c)(hb:HAt w (Nh.aC y) b m d)(hn:n≤N)(hm:m≤N)(hN:N≤67108864):
  Calls prog 126 #[.slice a n c,.slice b m d] w (dV w (Nat.gcd x y)):=by
 by_cases x0:x=0
 ·exact Kw ha hb x0
 by_cases y0:y=0
 ·exact Gp ha hb x0 y0
 exact Gv ha hb (by omega) (by omega) hn hm hN
theorem iQ (w:World):HAt (w.alloc (.cells #[.int .i64 1] 3)) (Nh.aC 1) (some ⟨w.heap.size,0,none⟩) 1 1:=by
 have U:HB (w.alloc (.cells #[.int .i64 1] 3)) w.heap.size [1]:=heap_alloc_new w _;have e:Nh.aC 1=[1]:=by rw[Nh.bM (by omega)];simp[Nh.aA]
 rw[e];exact⟨U.at_,rfl,Nat.le_refl _,by omega,fun x hx=>by simp at hx;omega⟩
theorem DT {w:World}{R:Raw}{a b:Option Addr}{n c m d:Nat}(h:dG w R a n c b m d)(h0:128<n∨128<m):
  Calls prog 83 #[.agg #[.bool R.neg,.slice a n c,.slice b m d]] w (bP w (aP R)):=by
 have E:Hid (aP R=3):=by show _=_;unfold aP;rw[if_pos (by rw[h.num.len,h.den.len];exact h0)]
 clear h;by_cases h1:128<n
 ·have q:(128:Int)<(n:Int):=by omega
  clear h0;go_enter func83,ntmps83;go_wp2_with fail;go_ret;exact⟨by rw[E.out];rfl,ah _ _⟩
 have q:(n:Int)≤128:=by omega
 have q2:(128:Int)<(m:Int):=by omega
 clear h0;go_enter func83,ntmps83;go_wp2_with fail;go_ret;exact⟨by rw[E.out];rfl,ah _ _⟩
theorem nZ {w:World}{l:List Nat}{a:Option Addr}{n c:Nat}(h:bW w l a n c)(h0:n≠0):∃(g o k x:Nat),n=k+1∧a=some ⟨g,o,none⟩∧w.cell? ⟨g,o+k,none⟩=some (.int .u32 (x:Int))∧bH l=decide (x=0):=by obtain⟨k,rfl⟩:∃k,n=k+1:=⟨n-1,by omega⟩;obtain⟨b,o,rfl,d⟩:=h.at_ (by intro e;have:=h.len;rw[e]at this;simp at this);refine⟨b,o,k,l.getD k 0,rfl,rfl,d k (by rw[h.len];omega),?_⟩;unfold bH;rw[h.len,Nat.add_sub_cancel];simp
theorem DU {w:World}{R:Raw}{a b:Option Addr}{n c m d:Nat}(h:dG w R a n c b m d)(hn:n≤128)(hm:m≤128)(hl:m=0∨bH R.den=true∨bH R.num=true):
  Calls prog 83 #[.agg #[.bool R.neg,.slice a n c,.slice b m d]] w (bP w (aP R)):=by
 have E:Hid (aP R=2):=by
  show _=_;unfold aP;rw[h.num.len,h.den.len,if_neg (by omega),if_pos];rcases hl with e | e | e
  ·exact Or.inr (Or.inr (List.length_eq_zero_iff.1 (by rw[h.den.len];exact e)))
  ·exact Or.inr (Or.inl e)
  exact Or.inl e
 have hn2:(n:Int)≤128:=by omega
 have hm2:(m:Int)≤128:=by omega
 have cn:=h.num.le;have cn2:=h.num.cap;have cm:=h.den.le;have cm2:=h.den.cap;by_cases m0:m=0
 ·clear h hl;subst m0;go_enter func83,ntmps83;go_wp2_with fail;go_ret;exact⟨by rw[E.out];rfl,ah _ _⟩
 obtain⟨g,o,k,x,rfl,rfl,p,lz⟩:=nZ h.den m0;have p:=cell_later (ah w (.cells #[.bool R.neg,.slice a n c,.slice (some ⟨g,o,none⟩) ((k+1:Nat):Nat) d] 25)) (Nat.le_refl _) p;by_cases x0:x=0
 ·subst x0;clear h hl lz m0;go_enter func83,ntmps83;go_wp2_with fail;go_ret;exact⟨by rw[E.out];rfl,ah _ _⟩
 have xz:((x:Int)==0)=false:=by simp;exact x0
 rw[lz,decide_eq_false x0]at hl;have ln:bH R.num=true:=by
  rcases hl with e | e | e
  ·omega
  ·cases e
  exact e
 have n0:n≠0:=fun e=>by have:=of_decide_eq_true ln;rw[h.num.len]at this;omega
 obtain⟨g',o',k',y,rfl,rfl,p',ZG⟩:=nZ h.num n0;rw[ln]at ZG;have y0:y=0:=of_decide_eq_true ZG.symm;have p':=cell_later (ah w (.cells #[.bool R.neg,.slice (some ⟨g',o',none⟩) ((k'+1:Nat):Nat) c,.slice (some ⟨g,o,none⟩) ((k+1:Nat):Nat) d] 25)) (Nat.le_refl _) p';subst y0;clear h hl lz m0 x0 ln n0 ZG;go_enter func83,ntmps83;go_wp2_with fail;go_ret;exact⟨by rw[E.out];rfl,ah _ _⟩
theorem Nh.eG.rest {a b:List Nat}{n i:Nat}{out:List Nat}(h:Nh.eG a b n i b.length out 0):Nh.eG a b n (i+1) 0 out 0:=by refine⟨h.len,h.lm,by omega,fun j hj hjn=>h.zero j (by omega) hjn,?_⟩;have q:=h.eq;rw[List.take_of_length_le (Nat.le_refl _)]at q;rw[Nh.aF,Nat.add_mul];have e3:65536^i*a.getD i 0*Nh.vl b=65536^i*(a.getD i 0*Nh.vl b):=Nat.mul_assoc ..;rw[e3];simp only[List.take_zero,Nh.vl,Nat.mul_zero,Nat.add_zero,Nat.zero_mul]at*;exact q
def HmO (w:World)(g:Nat)(la lb:List Nat)(na n:Nat)(i:Value)(wr:World):Prop:=
 ∃(k:Nat) (out:List Nat),k≤na∧i= .int .i64 (k:Int)∧Nh.eG la lb n k 0 out 0∧HB wr g out∧Below w.heap.size w wr
def KN (w:World)(g:Nat)(la lb:List Nat)(n i nb:Nat)(c k:Value)(wr:World):Prop:=
 ∃(j cc:Nat) (out:List Nat),j≤nb+1∧k= .int .i64 (j:Int)∧c= .int .i64 (cc:Int)∧cc<65536∧(j≤nb→Nh.eG la lb n i j out cc)∧(j=nb+1→cc=0∧Nh.eG la lb n (i+1) 0 out 0)∧HB wr g out∧Below w.heap.size w wr
theorem KN.step {w wr:World}{g n i j nb cc s:Nat}{la lb out:List Nat}(hla:Nh.Lm la)(hlb:Nh.Lm lb)(hn:lb.length=nb)(hj:j<nb)(hin:i+j<n)(M:Nh.eG la lb n i j out cc)(U:HB wr g out)(B:Below w.heap.size w wr)(hg:w.heap.size≤g)
  (hs:s=cc+la.getD i 0*lb.getD j 0+out.getD (i+j) 0):
  KN w g la lb n i nb (.int .i64 ((s:Int)/65536)) (.int .i64 ((j:Int)+1)) (wr.setCell ⟨g,i+j,none⟩ (.int .i64 ((s:Int)%65536))):=by have M2:=M.step hla hlb (by omega) hin;rw[←hs]at M2;refine⟨j+1,s/65536,out.set (i+j) (s%65536),by omega,by go_num,by go_num,M2.c1,fun _=>M2,fun e=>by omega,?_,B.setCell hg _⟩;have:=U.set (i+j) (s%65536);rw[show((s:Int)%65536)=((s%65536:Nat):Int) from by omega];exact this
theorem KN.last {w wr:World}{g n i nb cc:Nat}{la lb out:List Nat}(hn:lb.length=nb)(hin:i+nb<n)(M:Nh.eG la lb n i nb out cc)(U:HB wr g out)(B:Below w.heap.size w wr)(hg:w.heap.size≤g):
  KN w g la lb n i nb (.int .i64 ((cc:Int)/65536)) (.int .i64 ((nb:Int)+1)) (wr.setCell ⟨g,i+nb,none⟩ (.int .i64 ((cc:Int)%65536))):=by
 have c1:=M.c1;refine⟨nb+1,0,out.set (i+nb) cc,by omega,by go_num,by rw[show(cc:Int)/65536=((0:Nat):Int) from by omega],by omega,fun e=>by omega,fun _=>⟨rfl,?_⟩,?_,B.setCell hg _⟩
 ·subst hn;exact M.next (by omega)
 rw[show(cc:Int)%65536=(cc:Int) from by omega];exact U.set (i+nb) cc
theorem Ri {w:World}{la lb:List Nat}{a b:Option Addr}{na nb ca cb:Nat}(ha:HAt w la a na ca)(hb:HAt w lb b nb cb)(hsz:na≤1099511627776)(oh:nb≤1099511627776):
  Calls prog 84 #[.slice a na ca,.slice b nb cb] w (dV w (Nh.vl la*Nh.vl lb)):=by
 have A:=hid ha;have B:=hid hb;have hcb:=hb.cap;have hlb:=hb.le;have hca:=ha.cap;have Le:=ha.le;clear ha hb;obtain⟨i0,hi0,hz0,hz1,hz2⟩:=info_parts info3;go_enter func84,ntmps84;go_wp2_with (at_make;refine wpList_make_full _ rfl _ _ 76 rfl 0 3 i0 (.int .i64 0) 1 underlying76 hi0 hz0 hz1 .i64 .i64 _ _ (na+nb+1) rfl rfl (by omega) (by omega) (by rw[hz2];omega) (by unfold maxLen;omega) (Nat.zero_le _) ?_;intro w1 hown1 hg1;have U1:=hid (uj hown1);have B1:=hid (below_grown hg1);clear hown1 hg1);go_loopw [19] (fun i wr=>HmO w w.heap.size la lb na (na+nb+1) i wr) (fun i _=>na-(intOf i).toNat)
 case atStart=>exact⟨0,_,Nat.zero_le _,rfl,Nh.eG.nil,U1.out,B1.out⟩
 obtain⟨i,out,hi,rfl,hM,hU,hB⟩:=hrel;have M:=hid hM;have U:=hid hU;have BR:=hid hB;clear hM hU hB;by_cases hlt:i<na
 ·obtain⟨b1,o1,rfl,d1⟩:=A.out.at_ (by intro e;have:=A.out.len;rw[e]at this;simp at this;omega);have DA:=hid (d1 i (by rw[A.out.len];exact hlt));clear d1;obtain⟨x,hx⟩:∃x,la.getD i 0=x:=⟨_,rfl⟩;have xb:x<65536:=by rw[←hx];exact Nh.ak A.out.lm i
  rw[hx]at DA;have HX:=hid hx;clear hx;obtain⟨wo,rfl⟩:∃wo:World,wo=wr:=⟨_,rfl⟩;go_wp2_with fail;go_loopw [7,8] (fun c k wr=>KN w w.heap.size la lb (na+nb+1) i nb c k wr) (fun _ k _=>nb+1-(intOf k).toNat)
  case atStart=>exact⟨0,0,out,Nat.zero_le _,rfl,rfl,by omega,fun _=>M.out,fun e=>by omega,U.out,BR.out⟩
  obtain⟨j,cc,tJ,hj,rfl,rfl,c1,hM2,hE2,Lh,hB2⟩:=hrel;have U2:=hid Lh;have B2:=hid hB2;clear Lh hB2;by_cases hgo:j<nb∨0<cc
  ·have jn:j≤nb:=by
    rcases hgo with e | e
    ·omega
    refine Classical.byContradiction fun q=>?_;have:=(hE2 (by omega)).1;omega
   have M2:=hid (hM2 jn);clear hM2 hE2;have p2:=aj B2.out DA.out;have p3:=U2.out.cell (i:=i+j) (by rw[M2.out.len];omega);have f3:=U2.out.free (i+j);obtain⟨y,hy⟩:∃y,lb.getD j 0=y:=⟨_,rfl⟩;obtain⟨z,hz⟩:∃z,tJ.getD (i+j) 0=z:=⟨_,rfl⟩;have yb:y<65536:=by rw[←hy];exact Nh.ak B.out.lm j
   have zb:z<65536:=by rw[←hz];exact Nh.ak M2.out.lm (i+j)
   have DG:=bC (w:=wr.drew) ((B.out.below B2.out).below (Below.refl _ _).drew) j (by omega);rw[hy]at DG;have DG:=hid DG;rw[hz]at p3;have HY:=hid hy;have HZ:=hid hz;clear hy hz;have cp:=Nh.nG xb yb zb c1;obtain⟨s,hs⟩:∃s,cc+x*y+z=s:=⟨_,rfl⟩;rw[hs]at cp;obtain⟨xy,hxy⟩:∃xy,x*y=xy:=⟨_,rfl⟩;rw[hxy]at hs;have w1':IntKind.i64.wrap ((x:Int)*(y:Int))=(xy:Int):=by rw[←Int.natCast_mul,hxy];exact IntWalk.i64_in _ (by omega)
   have w2':IntKind.i64.wrap ((z:Int)+(xy:Int))=(z:Int)+(xy:Int):=IntWalk.i64_in _ (by omega);have w3':IntKind.i64.wrap ((z:Int)+(xy:Int)+(cc:Int))=(s:Int):=by rw[IntWalk.i64_in _ (by omega)];omega
   obtain⟨ij,hij⟩:∃ij,i+j=ij:=⟨_,rfl⟩;have w4':IntKind.i64.wrap ((i:Int)+(j:Int))=(ij:Int):=by rw[IntWalk.i64_in _ (by omega)];omega
   have p4:Hid (wr.cell? ⟨w.heap.size,ij,none⟩=some (.int .i64 (z:Int))):=by rw[←hij];exact p3
   have IJ:=hid hij;rw[←hxy]at hs;have HS:=hid hs;have ST:Hid (KN w w.heap.size la lb (na+nb+1) i nb (.int .i64 ((s:Int)/65536)) (.int .i64 ((j:Int)+1)) (wr.drew.setCell ⟨w.heap.size,i+j,none⟩ (.int .i64 ((s:Int)%65536)))):=by
    have UD:HB wr.drew w.heap.size tJ:=U2.out;have BD:Below w.heap.size w wr.drew:=B2.out.drew;by_cases q:j<nb
    ·exact KN.step A.out.lm B.out.lm B.out.len q (by omega) M2.out UD BD (Nat.le_refl _) (by rw[HX.out,HY.out,HZ.out,HS.out])
    obtain rfl:j=nb:=by omega
    have y0:y=0:=by rw[←HY.out,List.getD_eq_getElem?_getD,List.getElem?_eq_none (by rw[B.out.len];omega)];rfl
    have z0:z=0:=by rw[←HZ.out];exact M2.out.zero _ (by rw[B.out.len];omega) (by omega)
    have sc:s=cc:=by rw[←HS.out,y0,z0];simp
    rw[sc];exact KN.last B.out.len (by omega) M2.out UD BD (Nat.le_refl _)
   have s0:(0:Int)≤(s:Int):=by omega
   have s1:(s:Int)≤9223372036854775807:=by omega
   clear hs hxy cp M2 HY HZ HS hij;go_upto_region 7 with fail
   go_cut [29] (fun v W=>v= .bool true∧W=wr)
   case first=>
    by_cases q:j<nb
    ·have q1:(j:Int)<(nb:Int):=by omega
     clear w1' w2' w3' w4' hgo;go_wp2_with fail;go_meet
     case rel=>exact⟨rfl,rfl⟩
    have q1:(nb:Int)≤(j:Int):=by omega
    have q2:0<cc:=by omega
    have q3:decide (0<cc)=true:=decide_eq_true q2;clear w1' w2' w3' w4' hgo;go_wp2_with fail;go_meet
    case rel=>exact⟨rfl,rfl⟩
   obtain⟨rfl,rfl⟩:=hcut;clear hgo;have k1:(0:Int)≤(ij:Int):=by omega
   have k2:(ij:Int)<(na:Int)+(nb:Int)+1:=by have:=IJ.out;omega
   have p4:=p4.out;have k3:(0:Int)≤(i:Int):=by omega
   have k4:(i:Int)<(na:Int):=by omega
   go_upto_region 9 with fail
   go_region_held3 (fun W=>W.cell? ⟨w.heap.size,ij,none⟩=some (.int .i64 (z:Int))∧W.cell? ⟨b1,o1+i,none⟩=some (.int .i64 (x:Int)))
    (first
     | exact⟨p4,p2⟩
     | go_keep)
    ((go_at_call 127;((with_reducible refine DG.out.mono ?_));rintro e w2 ⟨rfl,rfl⟩))
   clear w1' w2' w3' w4' k1 k2 k3 k4 DG p4;have p3:wc.drew.cell? ⟨w.heap.size,i+j,none⟩=some (.int .i64 (z:Int)):=p3;have f3:wc.drew.frozen? ⟨w.heap.size,i+j,none⟩=false:=f3;go_wp2_with fail;go_roundw
   case rel=>exact ST.out
   simp[intOf];omega
  have j0:nb≤j:=by omega
  have c0:cc=0:=by omega
  have NX:Hid (Nh.eG la lb (na+nb+1) (i+1) 0 tJ 0):=by
   by_cases q:j=nb
   ·have:=hM2 (by omega);rw[c0,q,←B.out.len]at this;have h2:=this.rest;rw[B.out.len]at h2;exact h2
   exact(hE2 (by omega)).2
  subst c0;clear hM2 hE2 hgo;go_wp2_with fail;go_roundw
  case rel=>exact⟨i+1,tJ,by omega,by go_num,NX.out,U2.out,B2.out⟩
  simp[intOf];omega
 obtain rfl:na=i:=by omega
 have V:Hid (Nh.vl out=Nh.vl la*Nh.vl lb):=by have:=M.out;rw[←A.out.len]at this;exact this.done
 have L2:Hid (HAt wr out (some ⟨w.heap.size,0,none⟩) (na+nb+1) (na+nb+1)):=⟨U.out.at_,M.out.len,Nat.le_refl _,by omega,M.out.lm⟩;go_wp2_with fail;refine(dL L2.out).mono ?_;rintro e w' ⟨rfl,rfl⟩;go_wp2_with fail;go_ret;exact dV.fG L2.out BR.out V.out
end Go.Proofs.YtijdglogadnbcaaGreat
namespace Go.Proofs.YtijdglogadnbcaaGreat
open Go.Proofs.Tryz
open Go.RowKit Nt
structure HR (w:World)(q:Rat)(s:Bool)(a:Option Addr)(n c:Nat)(b:Option Addr)(m d:Nat):Prop where
 sg:s=decide (q.num<0)
 num:HAt w (Nh.aC q.num.natAbs) a n c
 den:HAt w (Nh.aC q.den) b m d
theorem HR.below {w w':World}{q:Rat}{s:Bool}{a b:Option Addr}{n c m d:Nat}(h:HR w q s a n c b m d)(hb:Below w.heap.size w w'):HR w' q s a n c b m d:=⟨h.sg,h.num.below hb,h.den.below hb⟩
def zU (w:World)(q:Rat)(e:Ending)(w':World):Prop:=
 ∃s a n c b m d,e= .returned (.agg #[.bool s,.slice a n c,.slice b m d])∧HR w' q s a n c b m d∧Below w.heap.size w w'
def bF (R:Raw):Rat:=fQ R.neg (vl R.num) (vl R.den)
theorem gG {R:Raw}(hn:Lm R.num)(hd:Lm R.den)(h:aP R=0):(bF R).num.natAbs=vl R.num∧(bF R).den=vl R.den∧R.neg=decide ((bF R).num<0)∧R.num=aC (vl R.num)∧R.den=aC (vl R.den)∧R.num.length≤128∧R.den.length≤128:=by
 unfold aP at h;by_cases h1:128<R.num.length∨128<R.den.length
 ·rw[if_pos h1]at h;omega
 rw[if_neg h1]at h;by_cases h2:bH R.num=true∨bH R.den=true∨R.den=[]
 ·rw[if_pos h2]at h;omega
 rw[if_neg h2]at h;by_cases h3:vl R.num=0∧(R.neg=true∨vl R.den≠1)
 ·rw[if_pos h3]at h;omega
 rw[if_neg h3]at h;by_cases h4:Nat.gcd (vl R.num) (vl R.den)≠1
 ·rw[if_pos h4]at h;omega
 have h4:Nat.gcd (vl R.num) (vl R.den)=1:=Classical.not_not.1 h4;have z1:bH R.num=false:=by cases e:bH R.num with | false=>rfl | true=>exact absurd (Or.inl e) h2
 have z2:bH R.den=false:=by cases e:bH R.den with | false=>rfl | true=>exact absurd (Or.inr (Or.inl e)) h2
 have c1:=canon hn z1;have c2:=canon hd z2;have d0:vl R.den≠0:=fun e=>by rw[e,aA]at c2;exact h2 (Or.inr (Or.inr c2))
 refine⟨by unfold bF;rw[lY d0,h4,Nat.div_one],by unfold bF;rw[pO d0,h4,Nat.div_one],?_,c1,c2,by omega,by omega⟩;unfold bF;by_cases p0:vl R.num=0
 ·have ng:R.neg=false:=by cases e:R.neg with | false=>rfl | true=>exact absurd ⟨p0,Or.inl e⟩ h3
  rw[p0,rD,ng];rfl
 rw[rG d0 p0]
theorem dG.rat {w:World}{R:Raw}{a b:Option Addr}{n c m d:Nat}(h:dG w R a n c b m d)(h0:aP R=0):aO w (bF R) R.neg a n c b m d:=by obtain⟨f1,f2,f3,f4,f5,_⟩:=gG h.num.lm h.den.lm h0;exact⟨f3,by rw[f1,←f4];exact h.num,by rw[f2,←f5];exact h.den⟩
def NR (w:World)(g:Nat)(s:Bool)(a:Option Addr)(n c:Nat)(b:Option Addr)(m d:Nat):Prop:=w.heap[g]? =some (.cells #[.bool s,.slice a n c,.slice b m d] 78 (0,0))
theorem NR.reads {w:World}{g:Nat}{s:Bool}{a b:Option Addr}{n c m d:Nat}(h:NR w g s a n c b m d):
  w.cell? ⟨g,0,none⟩=some (.bool s)∧w.cell? ⟨g,1,none⟩=some (.slice a n c)∧w.cell? ⟨g,2,none⟩=some (.slice b m d)∧∀i,w.frozen? ⟨g,i,none⟩=false:=by
 refine⟨?_,?_,?_,fun i=>?_⟩
 ·rw[cell_of_row w g 0 _ _ _ h];rfl
 ·rw[cell_of_row w g 1 _ _ _ h];rfl
 ·rw[cell_of_row w g 2 _ _ _ h];rfl
 unfold NR at h;simp[World.frozen?,h]
theorem NR.later {k g:Nat}{w w':World}{s:Bool}{a b:Option Addr}{n c m d:Nat}(h:NR w g s a n c b m d)(hb:Below k w w')(hg:g<k):NR w' g s a n c b m d:=(hb.block g hg).trans h
theorem NR.lt {w:World}{g:Nat}{s:Bool}{a b:Option Addr}{n c m d:Nat}(h:NR w g s a n c b m d):g<w.heap.size:=(Array.getElem?_eq_some_iff.1 h).1
theorem Xd.fV {w w':World}{g:Nat}{s:Bool}{a b:Option Addr}{n c m d:Nat}{l:List Nat}{ad:Option Addr}(h:Xd w l ad)(hg:NR w g s a n c b m d)(hw:∀k,k≠g→w'.heap[k]? =w.heap[k]?):Xd w' l ad:=by
 intro hne;obtain⟨b1,o1,e,dd⟩:=h hne;have hl:0<l.length:=by cases l with | nil=>exact absurd rfl hne | cons x l=>simp
 have hb:b1≠g:=by intro q;have:=dd 0 hl;rw[q,cell_of_row w g _ _ _ _ hg]at this;rcases o1 with _ | _ | _ | o1<;>simp at this
 exact⟨b1,o1,e,fun i hi=>(World.cell?_of_block (hw b1 hb)).trans (dd i hi)⟩
theorem HAt.fV {w w':World}{g:Nat}{s:Bool}{a b:Option Addr}{n c m d:Nat}{l:List Nat}{ad:Option Addr}{k e:Nat}(h:HAt w l ad k e)(hg:NR w g s a n c b m d)(hw:∀k,k≠g→w'.heap[k]? =w.heap[k]?):HAt w' l ad k e:=
 ⟨h.at_.fV hg hw,h.len,h.le,h.cap,h.lm⟩
theorem DW {w:World}{x:Nat}{l:List Nat}{a:Option Addr}{n c:Nat}(h:bW w l a n c)(hsz:n≤1099511627776)(hx:vl l=x):Calls prog 89 #[.slice a n c] w (dV w x):=by have:=sD h hsz;rw[hx]at this;exact this
theorem VE {w:World}{R:Raw}{a b:Option Addr}{n c m d:Nat}(h:dG w R a n c b m d)(h0:aP R=0):
  Calls prog 42 #[.agg #[.bool R.neg,.slice a n c,.slice b m d]] w (zU w (bF R)):=by
 obtain⟨f1,f2,f3,_,_,f6,f7⟩:=gG h.num.lm h.den.lm h0;have F1:=hid f1;have F2:=hid f2;have F3:=hid f3;rw[h.num.len]at f6;rw[h.den.len]at f7;have B0:Hid (Below w.heap.size w ((w.alloc (.cells #[.bool R.neg,.slice a n c,.slice b m d] 25)).alloc (.cells #[.bool false,.slice none 0 0,.slice none 0 0] 78))):=(ah _ _).alloc (by simp) _;have S0:Hid (((w.alloc (.cells #[.bool R.neg,.slice a n c,.slice b m d] 25)).alloc (.cells #[.bool false,.slice none 0 0,.slice none 0 0] 78)).heap.size=w.heap.size+2):=by show _=_;simp
 have X1:Hid (NB ((w.alloc (.cells #[.bool R.neg,.slice a n c,.slice b m d] 25)).alloc (.cells #[.bool false,.slice none 0 0,.slice none 0 0] 78)) w.heap.size R.neg a n c b m d):=by show NB _ _ _ _ _ _ _ _ _;unfold NB;rw[Below.heap_alloc _ _ _ (by simp)];exact heap_alloc_new w _
 have X2:Hid (NR ((w.alloc (.cells #[.bool R.neg,.slice a n c,.slice b m d] 25)).alloc (.cells #[.bool false,.slice none 0 0,.slice none 0 0] 78)) (w.heap.size+1) false none 0 0 none 0 0):=by have:=heap_alloc_new (w.alloc (.cells #[.bool R.neg,.slice a n c,.slice b m d] 25)) (.cells #[.bool false,.slice none 0 0,.slice none 0 0] 78);rwa[show(w.alloc (.cells #[.bool R.neg,.slice a n c,.slice b m d] 25)).heap.size=w.heap.size+1 from by simp]at this
 have LN:=hid (h.num.below B0.out);have LD:=hid (h.den.below B0.out);obtain⟨neg,hneg⟩:∃s,R.neg=s:=⟨_,rfl⟩;rw[hneg]at B0 X1 X2 S0 LN LD F3⊢;clear h h0 f1 f2 f3 hneg;go_enter func42,ntmps42;go_upto_region 1 with fail
 generalize (w.alloc (.cells #[.bool neg,.slice a n c,.slice b m d] 25)).alloc (.cells #[.bool false,.slice none 0 0,.slice none 0 0] 78)=W0 at*;obtain⟨u0,u1,u2,_⟩:=X1.out.reads;have N1:=hid (DW (w:=W0.drew) (LN.out.below (Below.refl _ _).drew) (by omega) F1.out.symm);go_region_held3 (fun W=>W.cell? ⟨w.heap.size,0,none⟩=some (.bool neg)∧W.cell? ⟨w.heap.size,1,none⟩=some (.slice a n c)∧W.cell? ⟨w.heap.size,2,none⟩=some (.slice b m d))
  (first
   | exact⟨u0,u1,u2⟩
   | exact⟨v0,v1,v2⟩
   | exact⟨x0,x1,x2⟩
   | exact⟨y0,y1,y2⟩
   | go_keep)
  (first
   | (go_at_call 89;((with_reducible refine N1.out.mono ?_));go_loud (rintro e w2 ⟨a2,n2,c2,rfl,L2,B2⟩;have B2:=aJ B2;have K2:NB w2 w.heap.size neg a n c b m d:=X1.out.later B2 X1.out.lt;obtain⟨v0,v1,v2,_⟩:=K2.reads;have K2:=hid K2;have R2:=hid (X2.out.later B2 X2.out.lt);have L2:=hid L2;have N2:=hid (DW (LD.out.below B2) (by omega) F2.out.symm);have eX:=hid (aB B0.out B2);clear B2))
   | (go_at_call 89;((with_reducible refine N2.out.mono ?_));go_loud (rintro e w3 ⟨a3,n3,c3,rfl,L3,B3⟩;have K3:NB w3 w.heap.size neg a n c b m d:=K2.out.later B3 K2.out.lt;obtain⟨x0,x1,x2,_⟩:=K3.reads;have R3:=R2.out.later B3 R2.out.lt;obtain⟨z0,z1,z2,f⟩:=R3.reads;have f0:=f 0;have f1:=f 1;have f2:=f 2;have Eh:=R3.lt;have y:=K3;have K3:=hid K3;have R3:=hid R3;have M2:=hid (L2.out.below B3);have L3:=hid L3;have fC:=hid (aB eX.out B3);clear B3 f)))
 go_wp2_with fail;exact bodyPost_ret (v:= .agg #[.bool neg,.slice a2 n2 c2,.slice a3 n3 c3]) (by simp[results,results42,go_sem,z0,z1,z2]) rfl ⟨neg,a2,n2,c2,a3,n3,c3,rfl,⟨F3.out,M2.out.fV R3.out (ay _ _ _ _ _),L3.out.fV R3.out (ay _ _ _ _ _)⟩,aG fC.out _ (by omega) _ _ _⟩
def Ky (X Y:Int):Int:=if X<Y then-1 else if Y<X then 1 else 0
theorem Rj (p q:Rat):aV (p-q)=Ky (p.num*q.den) (q.num*p.den):=by
 have l1:p<q↔p.num*q.den<q.num*p.den:=Rat.lt_iff p q;have l2:q<p↔q.num*p.den<p.num*q.den:=Rat.lt_iff q p;have s1:= @Bl.iT (p-q);have s2:= @Bl.dZ (p-q);have s3:= @Bl.aY (p-q);have r3:aV (p-q)= -1∨aV (p-q)=0∨aV (p-q)=1:=by
  unfold aV;split
  ·exact Or.inr (Or.inl rfl)
  split
  ·exact Or.inl rfl
  exact Or.inr (Or.inr rfl)
 unfold Ky;by_cases h1:p<q
 ·rw[if_pos (l1.1 h1)];have:=s1.2 (by grind);omega
 rw[if_neg fun e=>h1 (l1.2 e)];by_cases h2:q<p
 ·rw[if_pos (l2.1 h2)];have:=s2.2 (by grind);omega
 rw[if_neg fun e=>h2 (l2.2 e)];exact s3.2 (by grind)
theorem Rk (p q:Rat)(x y:Nat)(hx:p.num.natAbs*q.den=x)(hy:q.num.natAbs*p.den=y):
  (p.num<0→¬q.num<0→aV (p-q)= -1)∧(¬p.num<0→q.num<0→aV (p-q)=1)∧(p.num<0→q.num<0→aV (p-q)=bU y x)∧(¬p.num<0→¬q.num<0→aV (p-q)=bU x y):=by
 have pd:(0:Int)<p.den:=by have:=p.den_pos;omega
 have qd:(0:Int)<q.den:=by have:=q.den_pos;omega
 rw[Rj];have ex:(x:Int)=p.num.natAbs*q.den:=by rw[←hx];push_cast;rfl
 have ey:(y:Int)=q.num.natAbs*p.den:=by rw[←hy];push_cast;rfl
 refine⟨fun a b=>?_,fun a b=>?_,fun a b=>?_,fun a b=>?_⟩
 ·have h1:p.num*q.den<0:=Int.mul_neg_of_neg_of_pos a qd;have h2:0≤q.num*p.den:=Int.mul_nonneg (by omega) (by omega);unfold Ky;rw[if_pos (by omega)]
 ·have h1:q.num*p.den<0:=Int.mul_neg_of_neg_of_pos b pd;have h2:0≤p.num*q.den:=Int.mul_nonneg (by omega) (by omega);unfold Ky;rw[if_neg (by omega),if_pos (by omega)]
 ·have e1:p.num*q.den= -(x:Int):=by rw[ex,show((p.num.natAbs:Nat):Int)= -p.num from by omega];grind
  have e2:q.num*p.den= -(y:Int):=by rw[ey,show((q.num.natAbs:Nat):Int)= -q.num from by omega];grind
  rw[e1,e2];unfold Ky bU;by_cases h1:y<x
  ·rw[if_pos (by omega),if_pos h1]
  rw[if_neg (by omega),if_neg h1];by_cases h2:x<y
  ·rw[if_pos (by omega),if_pos h2]
  rw[if_neg (by omega),if_neg h2]
 have e1:p.num*q.den=(x:Int):=by rw[ex,show((p.num.natAbs:Nat):Int)=p.num from by omega]
 have e2:q.num*p.den=(y:Int):=by rw[ey,show((q.num.natAbs:Nat):Int)=q.num from by omega]
 rw[e1,e2];unfold Ky bU;by_cases h1:x<y
 ·rw[if_pos (by omega),if_pos h1]
 rw[if_neg (by omega),if_neg h1];by_cases h2:y<x
 ·rw[if_pos (by omega),if_pos h2]
 rw[if_neg (by omega),if_neg h2]
theorem Jh {w:World}{x y z:Nat}{a b:Option Addr}{na nb ca cb:Nat}(ha:HAt w (Nh.aC x) a na ca)(hb:HAt w (Nh.aC y) b nb cb)(hsz:na≤1099511627776)(oh:nb≤1099511627776)(hz:x*y=z):
  Calls prog 84 #[.slice a na ca,.slice b nb cb] w (dV w z):=by have:=Ri ha hb hsz oh;rw[Nh.au,Nh.au,hz]at this;exact this
end Go.Proofs.YtijdglogadnbcaaGreat
namespace Go.Proofs.YtijdglogadnbcaaGreat
open Go.Proofs.Tryz
open Go.RowKit
theorem Jv {w:World}{a:Option Addr}{c:Nat}(s:Int)(hc:c≤9223372036854775807):Calls prog 168 #[.slice a 0 c,.int .i64 s] w fun e w'=>e= .returned (.slice none 0 0)∧w=w':=by go_enter func168,ntmps168;go_wp2_with fail;go_ret;exact⟨rfl,rfl⟩
theorem Jl {w:World}{x:Nat}{a:Option Addr}{n c:Nat}(h:HAt w (Nh.aC x) a n c)(hn:n≤1073741824):Calls prog 168 #[.slice a n c,.int .i64 1] w (dV w (2*x)):=by
 by_cases e:x=0
 ·subst e;obtain rfl:=(dF h).2 rfl;refine(Jv 1 h.cap).mono ?_;rintro e w' ⟨rfl,rfl⟩;exact⟨none,0,0,rfl,⟨fun q=>absurd (by rw[Nat.mul_zero,Nh.aA]) q,by rw[Nat.mul_zero,Nh.aA];rfl,Nat.le_refl _,by omega,Nh.bD _⟩,Below.refl _ _⟩
 have:=G7 (t:=1) h e hn (by omega);rwa[show x*2^1=2*x from by omega]at this
def DbL (w:World)(A B n g:Nat)(v7 v8:Value)(wr:World):Prop:=
 ∃(k:Nat) (q:List Nat) (r:Nat) (a:Option Addr) (n' c:Nat),k≤Nh.aU A∧v8= .int .i64 ((k:Int)-1)∧Nh.tK A B n k q r∧HB wr g q∧v7= .slice a n' c∧HAt wr (Nh.aC r) a n' c∧Below w.heap.size w wr
theorem XZ {W:World}{x b:Nat}{a:Option Addr}{n c:Nat}(h:HAt W (Nh.aC x) a n c)(hb:b<2)(hn:n≤1099511627776){K:Act→World→Prop}{u0 u1 u2 u3 u4 u5 u6 u8 u9 u10 u11 u12 u13 u14 u15 u16 u17 u18 u19 u20 u21 u22 u23 u25 u26 u27 u28 u29 u30 u31 u32 u33 u34 u35 u36 u37 u38 u39 u40 u41 u42 u43 u44 u45 u46 u47:Value}
  (hK:∀(a':Option Addr) (n' c':Nat) (x25 V4 x27:Value) (W':World),HAt W' (Nh.aC (x+b)) a' n' c'→Below W.heap.size W W'→K ⟨#[u0,u1,u2,u3,u4,u5,u6,.slice a' n' c',u8,u9,u10,u11,u12,u13,u14,u15,u16,u17,u18,u19,u20,u21,u22,u23,.bool ((b:Int)==1),x25,V4,x27,u28,u29,u30,u31,u32,u33,u34,u35,u36,u37,u38,u39,u40,u41,u42,u43,u44,u45,u46,u47],[]⟩ W'):
  (condC f188 24).wp prog (Only K) ⟨#[u0,u1,u2,u3,u4,u5,u6,.slice a n c,u8,u9,u10,u11,u12,u13,u14,u15,u16,u17,u18,u19,u20,u21,u22,u23,.bool ((b:Int)==1),u25,u26,u27,u28,u29,u30,u31,u32,u33,u34,u35,u36,u37,u38,u39,u40,u41,u42,u43,u44,u45,u46,u47],[]⟩ W:=by
 rw[show condC f188 24=_ from by(simp only[condC,f188,gX,Nat.reduceEqDiff,if_true,if_false,Option.getD];rfl)];have dO:=hK;clear hK;have dO:=hid dO;have H:=hid h;clear h;by_cases e:b=0
 ·subst e;have zb:(((0:Nat):Int)==1)=false:=by decide
  go_wp2_with fail;exact dO.out a n c _ _ _ _ (by rw[Nat.add_zero];exact H.out) (Below.refl _ _)
 obtain rfl:b=1:=by omega
 have zb:(((1:Nat):Int)==1)=true:=by decide
 have NB:=ah W (.cells #[.int .i64 1] 3);have C:=MS (H.out.below NB) (iQ W) hn (by omega);rw[Nh.au,Nh.au]at C;have C:=hid C;have NB:=hid NB;go_wp2_with (go_at_call 170;refine C.out.mono ?_;rintro e w2 ⟨a2,n2,c2,rfl,L2,B2⟩;have L2:=hid L2;have B2:=hid (aB NB.out B2));exact dO.out a2 n2 c2 _ _ _ _ L2.out B2.out
end Go.Proofs.YtijdglogadnbcaaGreat
namespace Go.Proofs.YtijdglogadnbcaaGreat
open Go.Proofs.Tryz
open Go.RowKit Nt Bl
end Go.Proofs.YtijdglogadnbcaaGreat
