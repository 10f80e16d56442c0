/- The reference's Cmp, Sign. -/
import Derived.Test.YtijdglogadnbcaaGreatY33
set_option linter.unusedVariables false
set_option linter.unusedSimpArgs false
set_option maxRecDepth 100000
set_option maxHeartbeats 40000000
namespace Go.Proofs.YtijdglogadnbcaaGreat
open Go.Proofs.Tryz
open Go.RowKit Nt
theorem Kz {w:World}{p q:Rat}{s t:Bool}{a b a' b':Option Addr}{n c m d n' c' m' d':Nat}(hp:HR w p s a n c b m d)(hq:HR w q t a' n' c' b' m' d')(sz:n≤1099511627776∧m≤1099511627776∧n'≤1099511627776∧m'≤1099511627776):
  Calls prog 40 #[.agg #[.bool s,.slice a n c,.slice b m d],.agg #[.bool t,.slice a' n' c',.slice b' m' d']] w fun e w'=>e= .returned (.int .i64 (aV (p-q)))∧Below w.heap.size w w':=by
 obtain⟨x,hx⟩:∃x,p.num.natAbs*q.den=x:=⟨_,rfl⟩;obtain⟨y,hy⟩:∃y,q.num.natAbs*p.den=y:=⟨_,rfl⟩;have CC:=hid (Rk p q x y hx hy);have SP:=hid hp.sg;have SQ:=hid hq.sg;have B0:Hid (Below w.heap.size w ((w.alloc (.cells #[.bool s,.slice a n c,.slice b m d] 78)).alloc (.cells #[.bool t,.slice a' n' c',.slice b' m' d'] 78))):=(ah _ _).alloc (by simp) _;have X1:Hid (NR ((w.alloc (.cells #[.bool s,.slice a n c,.slice b m d] 78)).alloc (.cells #[.bool t,.slice a' n' c',.slice b' m' d'] 78)) w.heap.size s a n c b m d):=by show NR _ _ _ _ _ _ _ _ _;unfold NR;rw[Below.heap_alloc _ _ _ (by simp)];exact heap_alloc_new w _
 have X2:Hid (NR ((w.alloc (.cells #[.bool s,.slice a n c,.slice b m d] 78)).alloc (.cells #[.bool t,.slice a' n' c',.slice b' m' d'] 78)) (w.heap.size+1) t a' n' c' b' m' d'):=by have:=heap_alloc_new (w.alloc (.cells #[.bool s,.slice a n c,.slice b m d] 78)) (.cells #[.bool t,.slice a' n' c',.slice b' m' d'] 78);rwa[show(w.alloc (.cells #[.bool s,.slice a n c,.slice b m d] 78)).heap.size=w.heap.size+1 from by simp]at this
 have P0:=hid (hp.below B0.out);have Q0:=hid (hq.below B0.out);obtain⟨z1,z2,z3,z4⟩:=sz;have HX:=hid hx;have HY:=hid hy;clear hp hq hx hy;go_enter func40,ntmps40;go_upto_region 1 with fail
 generalize (w.alloc (.cells #[.bool s,.slice a n c,.slice b m d] 78)).alloc (.cells #[.bool t,.slice a' n' c',.slice b' m' d'] 78)=W0 at*;obtain⟨u0,u1,u2,_⟩:=X1.out.reads;obtain⟨v0,v1,v2,_⟩:=X2.out.reads;have N1:=hid (Jh (w:=W0.drew) (P0.out.num.below (Below.refl _ _).drew) (Q0.out.den.below (Below.refl _ _).drew) z1 z4 HX.out);go_region_held3 (fun W=>W.cell? ⟨w.heap.size,0,none⟩=some (.bool s)∧W.cell? ⟨w.heap.size,1,none⟩=some (.slice a n c)∧W.cell? ⟨w.heap.size,2,none⟩=some (.slice b m d)∧W.cell? ⟨w.heap.size+1,0,none⟩=some (.bool t)∧W.cell? ⟨w.heap.size+1,1,none⟩=some (.slice a' n' c')∧W.cell? ⟨w.heap.size+1,2,none⟩=some (.slice b' m' d'))
  (first
   | exact⟨u0,u1,u2,v0,v1,v2⟩
   | exact⟨y0,y1,y2,y3,y4,y5⟩
   | exact⟨r0,r1,r2,r3,r4,r5⟩
   | go_keep)
  (first
   | (go_at_call 84;((with_reducible refine N1.out.mono ?_));go_loud (rintro e w2 ⟨a2,n2,c2,rfl,L2,B2⟩;have B2:=aJ B2;have K1:NR w2 w.heap.size s a n c b m d:=X1.out.later B2 X1.out.lt;have K2:NR w2 (w.heap.size+1) t a' n' c' b' m' d':=X2.out.later B2 X2.out.lt;obtain⟨y0,y1,y2,_⟩:=K1.reads;obtain⟨y3,y4,y5,_⟩:=K2.reads;have K1:=hid K1;have K2:=hid K2;have L2:=hid L2;have N2:=hid (Jh (Q0.out.num.below B2) (P0.out.den.below B2) z3 z2 HY.out);have eX:=hid (aB B0.out B2);clear B2))
   | (go_at_call 84;((with_reducible refine N2.out.mono ?_));go_loud (rintro e w3 ⟨a3,n3,c3,rfl,L3,B3⟩;have M1:NR w3 w.heap.size s a n c b m d:=K1.out.later B3 K1.out.lt;have M2:NR w3 (w.heap.size+1) t a' n' c' b' m' d':=K2.out.later B3 K2.out.lt;obtain⟨r0,r1,r2,_⟩:=M1.reads;obtain⟨r3,r4,r5,_⟩:=M2.reads;have L2:=hid (L2.out.below B3);have L3:=hid L3;have fC:=hid (aB eX.out B3);clear B3)))
 clear u0 u1 u2 v0 v1 v2 y0 y1 y2 y3 y4 y5 N1 N2 z1 z2 z3 z4
 cases s with
 | true=>
  have sp:p.num<0:=of_decide_eq_true SP.out.symm
  cases t with
  | false=>
   have sq:¬q.num<0:=of_decide_eq_false SQ.out.symm
   have E:=hid (CC.out.1 (by omega) (by omega))
   go_wp2_with fail
   go_ret
   exact⟨by rw[E.out];rfl,fC.out⟩
  | true=>
   have sq:q.num<0:=of_decide_eq_true SQ.out.symm
   have E:=hid (CC.out.2.2.1 (by omega) (by omega))
   obtain⟨z,hz⟩:∃z,bU y x=z:=⟨_,rfl⟩
   rw[hz]at E
   have C:=hid (gW L3.out L2.out hz)
   clear hz sp sq
   go_wp2_with fail
   refine C.out.mono ?_
   rintro e w4 ⟨rfl,rfl⟩
   go_wp2_with fail
   go_ret
   exact⟨by rw[E.out];rfl,fC.out⟩
 | false=>
  have sp:¬p.num<0:=of_decide_eq_false SP.out.symm
  cases t with
  | true=>
   have sq:q.num<0:=of_decide_eq_true SQ.out.symm
   have E:=hid (CC.out.2.1 (by omega) (by omega))
   clear sp sq SP SQ
   go_wp2_with fail
   go_ret
   exact⟨by rw[E.out];rfl,fC.out⟩
  | false=>
   have sq:¬q.num<0:=of_decide_eq_false SQ.out.symm
   have E:=hid (CC.out.2.2.2 (by omega) (by omega))
   obtain⟨z,hz⟩:∃z,bU x y=z:=⟨_,rfl⟩
   rw[hz]at E
   have C:=hid (gW L2.out L3.out hz)
   clear hz sp sq
   go_wp2_with fail
   refine C.out.mono ?_
   rintro e w4 ⟨rfl,rfl⟩
   go_wp2_with fail
   go_ret
   exact⟨by rw[E.out];rfl,fC.out⟩
theorem wO {w:World}{x:Nat}{q:Rat}{neg:Bool}{a:Option Addr}{n c:Nat}(ha:HAt w (Nh.aC x) a n c)(h1:q.num.natAbs=x)(h2:q.den=1)(h3:decide (q.num<0)=(neg&&decide (0<n))):
  Calls prog 117 #[.bool neg,.slice a n c] w (zU w q):=by
 have H1:=hid h1;have H2:=hid h2;have A:=hid ha;have fin:=hid (fun(s:Bool) (hs:s=decide (q.num<0))=>(show zU w q (.returned (.agg #[.bool s,.slice a n c,.slice (some ⟨w.heap.size+1,0,none⟩) 1 1])) ((w.alloc (.cells #[.bool s,.slice a n c,.slice (some ⟨w.heap.size+1,0,none⟩) 1 1] 78)).alloc (.cells #[.int .i64 1] 3)) from by have B:Below w.heap.size w ((w.alloc (.cells #[.bool s,.slice a n c,.slice (some ⟨w.heap.size+1,0,none⟩) 1 1] 78)).alloc (.cells #[.int .i64 1] 3)):=(ah _ _).alloc (by simp) _;have ONE:=iQ (w.alloc (.cells #[.bool s,.slice a n c,.slice (some ⟨w.heap.size+1,0,none⟩) 1 1] 78));rw[show(w.alloc (.cells #[.bool s,.slice a n c,.slice (some ⟨w.heap.size+1,0,none⟩) 1 1] 78)).heap.size=w.heap.size+1 from by simp]at ONE;exact⟨s,a,n,c,_,1,1,rfl,⟨hs,by rw[H1.out];exact A.out.below B,by rw[H2.out];exact ONE⟩,B⟩))
 have SG:=hid h3;clear ha h1 h2 h3
 cases neg with
 | false=>
  go_enter func117,ntmps117
  go_wp2_with fail
  exact bodyPost_ret (v:= .agg #[.bool false,.slice a n c,.slice (some ⟨w.heap.size+1,0,none⟩) 1 1]) (by simp[results,results117,go_sem]) rfl (fin.out false (by have:=SG.out;simpa using this.symm))
 | true=>
  by_cases n0:n=0
  ·subst n0
   go_enter func117,ntmps117
   go_wp2_with fail
   exact bodyPost_ret (v:= .agg #[.bool false,.slice a 0 c,.slice (some ⟨w.heap.size+1,0,none⟩) 1 1]) (by simp[results,results117,go_sem]) rfl (fin.out false (by have:=SG.out;simpa using this.symm))
  ·have n1:0<n:=by omega
   have n2:decide (0<n)=true:=decide_eq_true n1
   go_enter func117,ntmps117
   go_wp2_with fail
   exact bodyPost_ret (v:= .agg #[.bool true,.slice a n c,.slice (some ⟨w.heap.size+1,0,none⟩) 1 1]) (by simp[results,results117,go_sem]) rfl (fin.out true (by have:=SG.out;rw[n2]at this;simpa using this.symm))
theorem yN (w:World):HAt w (Nh.aC 0) none 0 0:=by rw[Nh.aA];exact⟨fun h=>absurd rfl h,rfl,Nat.le_refl _,by omega,fun x hx=>by simp at hx⟩
theorem KC (w:World):Calls prog 71 #[] w (zU w 0):=by have B0:Hid (Below w.heap.size w (w.alloc (.cells #[.bool false,.slice none 0 0,.slice none 0 0] 78))):=ah _ _;have X1:Hid (NR (w.alloc (.cells #[.bool false,.slice none 0 0,.slice none 0 0] 78)) w.heap.size false none 0 0 none 0 0):=heap_alloc_new w _;have C:=hid (wO (neg:=false) (q:=0) (yN (w.alloc (.cells #[.bool false,.slice none 0 0,.slice none 0 0] 78))) rfl rfl rfl);go_enter func71,ntmps71;go_wp2_with fail;refine C.out.mono ?_;rintro e w2 ⟨s2,a2,n2,c2,b2,m2,d2,rfl,L2,B2⟩;have R2:=X1.out.later B2 X1.out.lt;obtain⟨z0,z1,z2,f⟩:=R2.reads;have f0:=f 0;have f1:=f 1;have f2:=f 2;have Eh:=R2.lt;have R2:=hid R2;have L2:=hid L2;have eX:=hid (aB B0.out B2);clear f B2;go_wp2_with fail;exact bodyPost_ret (v:= .agg #[.bool s2,.slice a2 n2 c2,.slice b2 m2 d2]) (by simp[results,results71,go_sem,z0,z1,z2]) rfl ⟨s2,a2,n2,c2,b2,m2,d2,rfl,⟨L2.out.sg,L2.out.num.fV R2.out (ay _ _ _ _ _),L2.out.den.fV R2.out (ay _ _ _ _ _)⟩,aG eX.out _ (Nat.le_refl _) _ _ _⟩
theorem iG {w:World}{q:Rat}{s:Bool}{a b:Option Addr}{n c m d:Nat}(hp:HR w q s a n c b m d)(sz:n≤1099511627776∧m≤1099511627776):
  Calls prog 86 #[.agg #[.bool s,.slice a n c,.slice b m d]] w fun e w'=>e= .returned (.int .i64 (aV q))∧Below w.heap.size w w':=by
 have B0:Hid (Below w.heap.size w (w.alloc (.cells #[.bool s,.slice a n c,.slice b m d] 78))):=ah _ _;have X1:Hid (NR (w.alloc (.cells #[.bool s,.slice a n c,.slice b m d] 78)) w.heap.size s a n c b m d):=heap_alloc_new w _;have P0:=hid (hp.below B0.out);obtain⟨z1,z2⟩:=sz;have E:Hid (q-0=q):=by show _=_;grind
 clear hp;go_enter func86,ntmps86;go_upto_region 1 with fail
 generalize w.alloc (.cells #[.bool s,.slice a n c,.slice b m d] 78)=W0 at*;obtain⟨u0,u1,u2,_⟩:=X1.out.reads;have Z:=hid (KC W0.drew);go_region_held3 (fun W=>W.cell? ⟨w.heap.size,0,none⟩=some (.bool s)∧W.cell? ⟨w.heap.size,1,none⟩=some (.slice a n c)∧W.cell? ⟨w.heap.size,2,none⟩=some (.slice b m d))
  (first
   | exact⟨u0,u1,u2⟩
   | exact⟨y0,y1,y2⟩
   | exact⟨r0,r1,r2⟩
   | go_keep)
  (first
   | (go_at_call 71;((with_reducible refine Z.out.mono ?_));go_loud (rintro e w2 ⟨s2,a2,n2,c2,b2,m2,d2,rfl,L2,B2⟩;have B2:=aJ B2;have K1:NR w2 w.heap.size s a n c b m d:=X1.out.later B2 X1.out.lt;obtain⟨y0,y1,y2,_⟩:=K1.reads;have K1:=hid K1;have C:=hid (Kz (P0.out.below B2) L2 ⟨z1,z2,by rw[←L2.num.len];show(Nh.aC 0).length≤_;rw[Nh.aA];simp,by rw[←L2.den.len];show(Nh.aC 1).length≤_;rw[Nh.bM (by omega)];simp[Nh.aA]⟩);rw[E.out]at C;have eX:=hid (aB B0.out B2);clear B2))
   | (go_at_call 40;((with_reducible refine C.out.mono ?_));go_loud (rintro e w3 ⟨rfl,B3⟩;have M1:NR w3 w.heap.size s a n c b m d:=K1.out.later B3 K1.out.lt;obtain⟨r0,r1,r2,_⟩:=M1.reads;have fC:=hid (aB eX.out B3);clear B3)))
 go_wp2_with fail;go_ret;exact⟨rfl,fC.out⟩
end Go.Proofs.YtijdglogadnbcaaGreat
namespace Go.Proofs.YtijdglogadnbcaaGreat
open Go.Proofs.Tryz
open Go.RowKit
theorem og {l:List Nat}{n:Nat}(h:Nt.Lm l)(hn:l.length≤n):(Nh.aC (Nt.vl l)).length≤2*n:=by refine Nh.bn ?_;have h1:=Nt.dD h;have h2:4294967296^l.length≤4294967296^n:=Nat.pow_le_pow_right (by omega) hn;rw[Nat.pow_mul];exact Nat.lt_of_lt_of_le h1 h2
theorem zV {w:World}{R:Raw}{a b:Option Addr}{n c m d:Nat}(h:dG w R a n c b m d)(hn:n≤128)(hm:m≤128)(h1:bH R.num=false)(h2:bH R.den=false)(h3:m≠0):
  Calls prog 83 #[.agg #[.bool R.neg,.slice a n c,.slice b m d]] w (bP w (aP R)):=by
 obtain⟨P,hP⟩:∃P,Nt.vl R.num=P:=⟨_,rfl⟩;obtain⟨D,hD⟩:∃D,Nt.vl R.den=D:=⟨_,rfl⟩;have E:Hid (aP R=if P=0∧(R.neg=true∨D≠1)then 2 else if Nat.gcd P D≠1 then 2 else 0):=by
  show _=_;unfold aP;simp only[hP,hD];rw[h.num.len,h.den.len,if_neg (by omega),if_neg];rintro(e | e | e)
  ·rw[h1]at e;cases e
  ·rw[h2]at e;cases e
  apply h3;rw[←h.den.len,e];rfl
 have B0:Hid (Below w.heap.size w (w.alloc (.cells #[.bool R.neg,.slice a n c,.slice b m d] 25))):=ah _ _;have X0:Hid (NB (w.alloc (.cells #[.bool R.neg,.slice a n c,.slice b m d] 25)) w.heap.size R.neg a n c b m d):=heap_alloc_new w _;have LN:=hid (h.num.below B0.out);have LD:=hid (h.den.below B0.out);have hn2:(n:Int)≤128:=by omega
 have hm2:(m:Int)≤128:=by omega
 have cn:=h.num.le;have cn2:=h.num.cap;have cm:=h.den.le;have cm2:=h.den.cap;have H1:=hid h1;have H2:=hid h2;have HP:=hid hP;have HD:=hid hD;obtain⟨neg,hneg⟩:∃s,R.neg=s:=⟨_,rfl⟩;rw[hneg]at E B0 X0 LN LD⊢;have ML:=hid (nZ LD.out h3);have NL:=hid (fun(n0:n≠0)=>nZ LN.out n0);have mz:((m:Int)==0)=false:=by simp;exact h3
 clear h h1 h2 hP hD hneg;go_enter func83,ntmps83;go_upto_region 3 with fail
 generalize w.alloc (.cells #[.bool neg,.slice a n c,.slice b m d] 25)=W0 at*;obtain⟨u0,u1,u2,_⟩:=X0.out.reads;go_cut [46] (fun v W=>v= .bool false∧W=W0)
 case first=>
  obtain⟨g,o,k,x,rfl,rfl,p,lz⟩:=ML.out;have x0:x≠0:=fun e=>by rw[H2.out,e]at lz;simp at lz
  have xz:((x:Int)==0)=false:=by simp;exact x0
  by_cases n0:n=0
  ·subst n0;clear lz x0 mz;go_wp2_with fail;go_meet
   case rel=>exact⟨rfl,rfl⟩
  obtain⟨g',o',k',y,rfl,rfl,p',ZG⟩:=NL.out n0;have y0:y≠0:=fun e=>by rw[H1.out,e]at ZG;simp at ZG
  have yz:((y:Int)==0)=false:=by simp;exact y0
  clear lz x0 mz ZG y0 n0;go_wp2_with fail;go_meet
  case rel=>exact⟨rfl,rfl⟩
 obtain⟨rfl,rfl⟩:=hcut;clear NL ML mz h3;have N1:=hid (sD (w:=wc.drew) (LN.out.below (Below.refl _ _).drew) (by omega));go_upto_region 5 with fail
 go_region_held3 (fun W=>W.cell? ⟨w.heap.size,0,none⟩=some (.bool neg)∧W.cell? ⟨w.heap.size,1,none⟩=some (.slice a n c)∧W.cell? ⟨w.heap.size,2,none⟩=some (.slice b m d))
  (first
   | exact⟨u0,u1,u2⟩
   | exact⟨v0,v1,v2⟩
   | exact⟨x0,x1,x2⟩
   | go_keep)
  (first
   | (go_at_call 89;((with_reducible refine N1.out.mono ?_));go_loud (rintro e w2 ⟨a2,n2,c2,rfl,L2,B2⟩;have B2:=aJ B2;have X2:NB w2 w.heap.size neg a n c b m d:=X0.out.later B2 X0.out.lt;obtain⟨v0,v1,v2,_⟩:=X2.reads;have X2:=hid X2;have L2:=hid L2;have N2:=hid (sD (LD.out.below B2) (by omega));have eX:=hid (aB B0.out B2);clear B2))
   | (go_at_call 89;((with_reducible refine N2.out.mono ?_));go_loud (rintro e w3 ⟨a3,n3,c3,rfl,L3,B3⟩;have X3:NB w3 w.heap.size neg a n c b m d:=X2.out.later B3 X2.out.lt;obtain⟨x0,x1,x2,_⟩:=X3.reads;have X3:=hid X3;have K2:=hid (L2.out.below B3);have L3:=hid L3;have fC:=hid (aB eX.out B3);clear B3)))
 have s2:n2≤256:=by have:=og LN.out.lm (n:=128) (by rw[LN.out.len];exact hn);rw[K2.out.len]at this;omega
 have s3:n3≤256:=by have:=og LD.out.lm (n:=128) (by rw[LD.out.len];exact hm);rw[L3.out.len]at this;omega
 rw[HP.out]at K2;rw[HD.out]at L3;have nz2:=hid (dF K2.out);clear u0 u1 u2 v0 v1 v2 N1 N2 LN LD hn2 hm2 cn cn2 cm cm2 hn hm L2 X2 eX X0 B0 H1 H2 HP HD;have BA:Hid (Below w3.heap.size w3 (w3.alloc (.cells #[.int .i64 1] 3))):=ah _ _;have ONE:=hid (iQ w3);by_cases EP:P=0∧(neg=true∨D≠1)
 ·have E2:Hid (aP R=2):=by show _=_;rw[E.out,if_pos EP]
  have n0:=nz2.out.2 EP.1
  cases neg with
  | true=>
   subst n0
   clear EP K2
   go_wp2_with fail
   go_ret
   exact⟨by rw[E2.out];rfl,fC.out⟩
  | false=>
   have d1:D≠1:=EP.2.resolve_left (by simp)
   obtain⟨z,hz,hz0⟩:∃z:Int,bU D 1=z∧z≠0:=⟨_,rfl,by unfold bU;split;omega;split;omega;omega⟩
   have C:=hid (gW (L3.out.below BA.out) ONE.out hz)
   have zb:(z !=0)=true:=by simp;exact hz0
   subst n0
   clear EP K2 d1 hz hz0
   go_wp2_with fail
   refine C.out.mono ?_
   rintro e w4 ⟨rfl,rfl⟩
   go_wp2_with fail
   go_ret
   exact⟨by rw[E2.out];rfl,aB fC.out BA.out⟩
 have E2:Hid ((Nat.gcd P D=1→aP R=0)∧(Nat.gcd P D≠1→aP R=2)):=by
  refine⟨fun q=>?_,fun q=>?_⟩
  ·rw[E.out,if_neg EP,if_neg (fun k=>k q)]
  rw[E.out,if_neg EP,if_pos q]
 clear E;obtain⟨W3,hW3⟩:∃W3:World,W3=w3:=⟨_,rfl⟩;go_upto_region 6 with fail
 go_cut [65] (fun v W=>v= .bool false∧Below w3.heap.size w3 W)
 case first=>
  by_cases p0:P=0
  ·have n0:=nz2.out.2 p0;have nn:neg=false:=by cases neg with | false=>rfl | true=>exact absurd ⟨p0,Or.inl rfl⟩ EP
   have d1:D=1:=Classical.byContradiction fun q=>EP ⟨p0,Or.inr q⟩;have C:=hid (gW (L3.out.below BA.out) ONE.out (z:=0) (by rw[d1];rfl));subst n0 nn;clear EP K2 p0 d1;go_wp2_with fail;refine C.out.mono ?_;rintro e w4 ⟨rfl,rfl⟩;go_wp2_with fail;go_meet
   case rel=>exact⟨rfl,BA.out⟩
  have n0:((n2:Int)==0)=false:=by simp;exact fun e=>p0 (nz2.out.1 e)
  clear EP p0;go_wp2_with fail;go_meet
  case rel=>exact⟨rfl,Below.refl _ _⟩
 obtain⟨rfl,hB⟩:=hcut;have B4:=hid (aB fC.out hB);have G:=hid (Rh (N:=256) (K2.out.below hB) (L3.out.below hB) s2 s3 (by omega));obtain⟨g,hg⟩:∃g,Nat.gcd P D=g:=⟨_,rfl⟩;rw[hg]at G E2;clear hB EP K2 L3 hg BA ONE;go_wp2_with fail;refine G.out.mono ?_;rintro e w5 ⟨a5,n5,c5,rfl,L5,B5⟩;have BA:Hid (Below w5.heap.size w5 (w5.alloc (.cells #[.int .i64 1] 3))):=ah _ _;have L6:=L5.below BA.out;have B5:=hid (Below.over (aB B4.out B5) (Nat.le_trans B4.out.size B5.size) BA.out);obtain⟨z,hz⟩:∃z:Int,bU g 1=z:=⟨_,rfl⟩;have C:=hid (gW L6 (iQ w5) hz);clear L5 L6;by_cases g1:g=1
 ·have z0:z=0:=by rw[←hz,g1];rfl
  have E3:Hid (aP R=0):=E2.out.1 g1;subst z0;clear g1 hz;go_wp2_with fail;refine C.out.mono ?_;rintro e w6 ⟨rfl,rfl⟩;go_wp2_with fail;go_ret;exact⟨by rw[E3.out];rfl,B5.out⟩
 have z0:z≠0:=by rw[←hz];unfold bU;split;omega;split;omega;omega
 have E3:Hid (aP R=2):=E2.out.2 g1;have zb:(z !=0)=true:=by simp;exact z0
 clear g1 hz z0;go_wp2_with fail;refine C.out.mono ?_;rintro e w6 ⟨rfl,rfl⟩;go_wp2_with fail;go_ret;exact⟨by rw[E3.out];rfl,B5.out⟩
theorem oN {w:World}{R:Raw}{a b:Option Addr}{n c m d:Nat}(h:dG w R a n c b m d):
  Calls prog 83 #[.agg #[.bool R.neg,.slice a n c,.slice b m d]] w (bP w (aP R)):=by
 by_cases hs:128<n∨128<m
 ·exact DT h hs
 by_cases hf:m=0∨bH R.den=true∨bH R.num=true
 ·exact DU h (by omega) (by omega) hf
 refine zV h (by omega) (by omega) ?_ ?_ (fun e=>hf (Or.inl e))
 ·cases e:bH R.num with | false=>rfl | true=>exact absurd (Or.inr (Or.inr e)) hf
 cases e:bH R.den with | false=>rfl | true=>exact absurd (Or.inr (Or.inl e)) hf
end Go.Proofs.YtijdglogadnbcaaGreat
namespace Go.Proofs.YtijdglogadnbcaaGreat
open Go.Proofs.Tryz
open Go.RowKit Nt
def oW (R:Raw)(kY:Bool):Int:=if aP R≠0 then aP R else if kY=true∧R.num.length=0 then 2 else bQ R
theorem VG {w:World}{R:Raw}{kY:Bool}{a b:Option Addr}{n c m d:Nat}(h:dG w R a n c b m d)(h0:aP R≠0):
  Calls prog 54 #[.agg #[.bool R.neg,.slice a n c,.slice b m d],.bool kY] w (bP w (oW R kY)):=by
 have E:Hid (oW R kY=aP R):=by show _=_;unfold oW;rw[if_pos h0]
 have C:=hid (oN (h.below (ah _ (.cells #[.bool R.neg,.slice a n c,.slice b m d] 25))));obtain⟨z,hz⟩:∃z,aP R=z:=⟨_,rfl⟩;rw[hz]at h0 E;have hb:(z !=0)=true:=by simp;exact h0
 have HZ:=hid hz;clear h h0 hz;go_enter func54,ntmps54;go_wp2_with fail;refine C.out.mono ?_;rintro e w2 ⟨rfl,B2⟩;rw[HZ.out];have B2:=hid (Below.over (ah _ _) (by simp) B2);go_wp2_with fail;go_ret;exact⟨by rw[E.out];rfl,B2.out⟩
theorem ZH {w:World}{R:Raw}{kY:Bool}{a b:Option Addr}{n c m d:Nat}(h:dG w R a n c b m d)(h0:aP R=0):
  Calls prog 54 #[.agg #[.bool R.neg,.slice a n c,.slice b m d],.bool kY] w (bP w (oW R kY)):=by
 obtain⟨f1,f2,f3,f4,_,f6,f7⟩:=gG h.num.lm h.den.lm h0;obtain⟨x,hx⟩:∃x,vl R.num=x:=⟨_,rfl⟩;obtain⟨y,hy⟩:∃y,vl R.den=y:=⟨_,rfl⟩;have E:Hid ((kY=true→aV (bF R)=0→oW R kY=2)∧(¬(kY=true∧aV (bF R)=0)→(32<Nh.aU x∨8<Nh.aU y→oW R kY=3)∧(¬(32<Nh.aU x∨8<Nh.aU y)→oW R kY=0))):=by
  have zz:R.num.length=0↔aV (bF R)=0:=by rw[Bl.aY,←Rat.num_eq_zero,←Int.natAbs_eq_zero,f1,f4,qy,au]
  unfold oW;rw[if_neg (by rw[h0];simp)];refine⟨fun a b=>by rw[if_pos ⟨a,zz.2 b⟩],fun k=>?_⟩;rw[if_neg fun q=>k ⟨q.1,zz.1 q.2⟩];unfold bQ;rw[if_neg (by rw[h0];simp),hx,hy];exact⟨fun q=>by rw[if_pos q],fun q=>by rw[if_neg q]⟩
 have B0:Hid (Below w.heap.size w (w.alloc (.cells #[.bool R.neg,.slice a n c,.slice b m d] 25))):=ah _ _;have X0:Hid (NB (w.alloc (.cells #[.bool R.neg,.slice a n c,.slice b m d] 25)) w.heap.size R.neg a n c b m d):=heap_alloc_new w _;have R0:=hid (h.below B0.out);have C0:=hid (oN R0.out);have H0:=hid h0;rw[hx]at f1;rw[hy]at f2;have sx:=og h.num.lm (n:=128) f6;have sy:=og h.den.lm (n:=128) f7;rw[hx]at sx;rw[hy]at sy;obtain⟨q,hq⟩:∃q,bF R=q:=⟨_,rfl⟩;rw[hq]at f1 f2 f3 E;have F1:=hid f1;have F2:=hid f2;have F3:=hid f3;have HQ:=hid hq;clear h h0 f1 f2 f3 f4 f6 f7 hx hy hq;go_enter func54,ntmps54;go_wp2_with fail;generalize w.alloc (.cells #[.bool R.neg,.slice a n c,.slice b m d] 25)=W0 at*;refine C0.out.mono ?_;rintro e w2 ⟨rfl,B2⟩;rw[H0.out];have K2:=X0.out.later B2 X0.out.lt;have C2:=hid (VE (R0.out.below B2) H0.out);rw[HQ.out]at C2;have eX:=hid (aB B0.out B2);obtain⟨u0,u1,u2,_⟩:=K2.reads;clear B2 K2 C0;go_wp2_with fail;refine C2.out.mono ?_;rintro e w3 ⟨s3,a3,n3,c3,b3,m3,d3,rfl,L3,B3⟩;have B4:Hid (Below w3.heap.size w3 (w3.alloc (.cells #[.bool s3,.slice a3 n3 c3,.slice b3 m3 d3] 78))):=ah _ _;have X4:Hid (NR (w3.alloc (.cells #[.bool s3,.slice a3 n3 c3,.slice b3 m3 d3] 78)) w3.heap.size s3 a3 n3 c3 b3 m3 d3):=heap_alloc_new w3 _;have L4:=hid (L3.below B4.out);have zq:=hid (Below.over (aB eX.out B3) (Nat.le_trans eX.out.size B3.size) B4.out);have nx:n3≤256:=by rw[←L3.num.len,F1.out];omega
 have ny:m3≤256:=by rw[←L3.den.len,F2.out];omega
 clear B3 L3 u0 u1 u2 C2;go_upto_region 5 with fail
 generalize w3.alloc (.cells #[.bool s3,.slice a3 n3 c3,.slice b3 m3 d3] 78)=W4 at*;obtain⟨v0,v1,v2,_⟩:=X4.out.reads;have SG:=hid (iG L4.out ⟨by omega,by omega⟩);obtain⟨z,hz⟩:∃z,aV q=z:=⟨_,rfl⟩;rw[hz]at SG E;clear hz;by_cases hbad:kY=true∧z=0
 ·obtain⟨rfl,rfl⟩:=hbad;have E2:=hid (E.out.1 rfl rfl);go_wp2_with fail;refine SG.out.mono ?_;rintro e w5 ⟨rfl,B5⟩;have B5:=hid (aB zq.out B5);go_wp2_with fail;go_ret;exact⟨by rw[E2.out];rfl,B5.out⟩
 have E2:=hid (E.out.2 hbad);go_cut [19] (fun v W=>v= .bool false∧Below W4.heap.size W4 W)
 case first=>
  cases kY with
  | false=>
   clear hbad
   go_wp2_with fail
   go_meet
   case rel=>exact⟨rfl,Below.refl _ _⟩
  | true=>
   have zb:(z==0)=false:=by simp;exact fun e=>hbad ⟨rfl,e⟩
   clear hbad
   go_wp2_with fail
   refine SG.out.mono ?_
   rintro e w5 ⟨rfl,B5⟩
   have B5:=hid B5
   go_wp2_with fail
   go_meet
   case rel=>exact⟨rfl,B5.out⟩
 obtain⟨rfl,hB⟩:=hcut;have X5:=X4.out.later hB X4.out.lt;have L5:=L4.out.below hB;have B5:=hid (aB zq.out hB);have LX:=lX L5.num (by omega);have LY:=lX L5.den (by omega);rw[F1.out]at LX;rw[F2.out]at LY;have LX:=hid LX;have LY:=hid LY;clear v0 v1 v2 hB L5 SG hbad;obtain⟨v0,v1,v2,_⟩:=X5.reads;obtain⟨lx,hlx⟩:∃l,Nh.aU x=l:=⟨_,rfl⟩;obtain⟨ly,hly⟩:∃l,Nh.aU y=l:=⟨_,rfl⟩;rw[hlx]at LX E2;rw[hly]at LY E2;clear hlx hly X5 sx sy;by_cases l1:32<lx
 ·have E3:=hid (E2.out.1 (Or.inl l1));have q1:(32:Int)<(lx:Int):=by omega
  go_wp2_with fail;refine LX.out.mono ?_;rintro e w6 ⟨rfl,rfl⟩;go_wp2_with fail;go_ret;exact⟨by rw[E3.out];rfl,B5.out⟩
 have q1:(lx:Int)≤32:=by omega
 by_cases l2:8<ly
 ·have E3:=hid (E2.out.1 (Or.inr l2));have q2:(8:Int)<(ly:Int):=by omega
  go_wp2_with fail;refine LX.out.mono ?_;rintro e w6 ⟨rfl,rfl⟩;go_wp2_with fail;refine LY.out.mono ?_;rintro e w6 ⟨rfl,rfl⟩;go_wp2_with fail;go_ret;exact⟨by rw[E3.out];rfl,B5.out⟩
 have E3:=hid (E2.out.2 (fun k=>by rcases k with k | k;exact l1 k;exact l2 k));have q2:(ly:Int)≤8:=by omega
 go_wp2_with fail;refine LX.out.mono ?_;rintro e w6 ⟨rfl,rfl⟩;go_wp2_with fail;refine LY.out.mono ?_;rintro e w6 ⟨rfl,rfl⟩;go_wp2_with fail;go_ret;exact⟨by rw[E3.out];rfl,B5.out⟩
theorem Ji {w:World}{R:Raw}{kY:Bool}{a b:Option Addr}{n c m d:Nat}(h:dG w R a n c b m d):
  Calls prog 54 #[.agg #[.bool R.neg,.slice a n c,.slice b m d],.bool kY] w (bP w (oW R kY)):=by
 by_cases h0:aP R=0
 ·exact ZH h h0
 exact VG h h0
end Go.Proofs.YtijdglogadnbcaaGreat
