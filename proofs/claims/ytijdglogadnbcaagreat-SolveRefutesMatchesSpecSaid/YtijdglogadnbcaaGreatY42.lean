/- The reference's Minus, Inverse, plus, minus, product, over, Whole, zero, one, IsInt: digits in blocks that F allows. Printed by genD.py from Ih, Jf. -/
import Derived.Test.YtijdglogadnbcaaGreatY41
set_option linter.unusedVariables false
set_option linter.unusedSimpArgs false
set_option maxRecDepth 100000
set_option maxHeartbeats 40000000
namespace Go.Proofs.YtijdglogadnbcaaGreat
open Go.Proofs.Tryz
open Go.RowKit Nt Bl
theorem V7 {w:World}{F:Nat→Prop}(hF:Ab F w.heap.size){p q:Rat}{s t:Bool}{a b a' b':Option Addr}{n c m d n' c' m' d':Nat}(hp:oZ w F p s a n c b m d)(hq:oZ w F q t a' n' c' b' m' d')(sz:n≤16777216∧m≤16777216∧n'≤16777216∧m'≤16777216):
    Calls prog 87 #[.agg #[.bool s,.slice a n c,.slice b m d],.agg #[.bool t,.slice a' n' c',.slice b' m' d']] w (jl w F (p+q)):=by
  have SZ:=hid sz;obtain⟨sz1,Ac,sz3,sz4⟩:=sz;obtain⟨y2,y3,y4,yb⟩:=yM w (.cells #[.bool s,.slice a n c,.slice b m d] 78) (.cells #[.bool t,.slice a' n' c',.slice b' m' d'] 78) (.cells #[.bool false,.slice none 0 0,.slice none 0 0] 78);have P:=hid (hp.below yb);have Q:=hid (hq.below yb);have B0:=hid yb;have HF:=hid hF;clear hF;have X2:Hid (NR (((w.alloc (.cells #[.bool s,.slice a n c,.slice b m d] 78)).alloc (.cells #[.bool t,.slice a' n' c',.slice b' m' d'] 78)).alloc (.cells #[.bool false,.slice none 0 0,.slice none 0 0] 78)) w.heap.size s a n c b m d):=y2;have X3:Hid (NR (((w.alloc (.cells #[.bool s,.slice a n c,.slice b m d] 78)).alloc (.cells #[.bool t,.slice a' n' c',.slice b' m' d'] 78)).alloc (.cells #[.bool false,.slice none 0 0,.slice none 0 0] 78)) (w.heap.size+1) t a' n' c' b' m' d'):=y3;have X4:Hid (NR (((w.alloc (.cells #[.bool s,.slice a n c,.slice b m d] 78)).alloc (.cells #[.bool t,.slice a' n' c',.slice b' m' d'] 78)).alloc (.cells #[.bool false,.slice none 0 0,.slice none 0 0] 78)) (w.heap.size+1+1) false none 0 0 none 0 0):=y4;clear hp hq y2 y3 y4 yb;go_enter func87,ntmps87;go_upto_region 1 with fail
  generalize ((w.alloc (.cells #[.bool s,.slice a n c,.slice b m d] 78)).alloc (.cells #[.bool t,.slice a' n' c',.slice b' m' d'] 78)).alloc (.cells #[.bool false,.slice none 0 0,.slice none 0 0] 78)=W at*;obtain⟨g,hg⟩:∃g,w.heap.size=g:=⟨_,rfl⟩;have G:=hid hg;rw[hg]at X2 X3 X4⊢;clear hg;obtain⟨u0,u1,u2,_⟩:=X2.out.reads;obtain⟨v0,v1,v2,_⟩:=X3.out.reads;have C:=hid (TI (HF.out.mono B0.out.size) P.out Q.out SZ.out);go_wp2_with (go_at_call 129;refine C.out.mono ?_;rintro e w9 ⟨s9,a9,n9,c9,b9,m9,d9,rfl,L9,B9⟩;have L9:=hid L9;have Eb:=hid (aB B0.out B9);have lU:=X4.out.later B9 X4.out.lt;obtain⟨_,_,_,fz⟩:=lU.reads;have f0:=fz 0;have f1:=fz 1;have f2:=fz 2;have lU:=hid lU;clear fz B9);have B9:=aG Eb.out (g+1+1) (by have:=G.out;omega) (.bool s9) (.slice a9 n9 c9) (.slice b9 m9 d9);have R9:oZ (((w9.setCell ⟨g+1+1,0,none⟩ (.bool s9)).setCell ⟨g+1+1,1,none⟩ (.slice a9 n9 c9)).setCell ⟨g+1+1,2,none⟩ (.slice b9 m9 d9)) F (_) s9 a9 n9 c9 b9 m9 d9:=oZ.put L9.out lU.out _ _ _;have XX:=NR.xI lU.out (.bool s9) (.slice a9 n9 c9) (.slice b9 m9 d9);obtain⟨z0,z1,z2⟩:=XX;exact bodyPost_ret (v:= .agg #[.bool s9,.slice a9 n9 c9,.slice b9 m9 d9]) (by simp[results,results87,go_sem,z0,z1,z2]) rfl ⟨s9,a9,n9,c9,b9,m9,d9,rfl,R9,B9⟩
theorem Wh {w:World}{F:Nat→Prop}(hF:Ab F w.heap.size){p q:Rat}{s t:Bool}{a b a' b':Option Addr}{n c m d n' c' m' d':Nat}(hp:oZ w F p s a n c b m d)(hq:oZ w F q t a' n' c' b' m' d')(sz:n≤16777216∧m≤16777216∧n'≤16777216∧m'≤16777216):
    Calls prog 88 #[.agg #[.bool s,.slice a n c,.slice b m d],.agg #[.bool t,.slice a' n' c',.slice b' m' d']] w (jl w F (p*q)):=by
  have SZ:=hid sz;obtain⟨sz1,Ac,sz3,sz4⟩:=sz;obtain⟨y2,y3,y4,yb⟩:=yM w (.cells #[.bool s,.slice a n c,.slice b m d] 78) (.cells #[.bool t,.slice a' n' c',.slice b' m' d'] 78) (.cells #[.bool false,.slice none 0 0,.slice none 0 0] 78);have P:=hid (hp.below yb);have Q:=hid (hq.below yb);have B0:=hid yb;have HF:=hid hF;clear hF;have X2:Hid (NR (((w.alloc (.cells #[.bool s,.slice a n c,.slice b m d] 78)).alloc (.cells #[.bool t,.slice a' n' c',.slice b' m' d'] 78)).alloc (.cells #[.bool false,.slice none 0 0,.slice none 0 0] 78)) w.heap.size s a n c b m d):=y2;have X3:Hid (NR (((w.alloc (.cells #[.bool s,.slice a n c,.slice b m d] 78)).alloc (.cells #[.bool t,.slice a' n' c',.slice b' m' d'] 78)).alloc (.cells #[.bool false,.slice none 0 0,.slice none 0 0] 78)) (w.heap.size+1) t a' n' c' b' m' d'):=y3;have X4:Hid (NR (((w.alloc (.cells #[.bool s,.slice a n c,.slice b m d] 78)).alloc (.cells #[.bool t,.slice a' n' c',.slice b' m' d'] 78)).alloc (.cells #[.bool false,.slice none 0 0,.slice none 0 0] 78)) (w.heap.size+1+1) false none 0 0 none 0 0):=y4;clear hp hq y2 y3 y4 yb;go_enter func88,ntmps88;go_upto_region 1 with fail
  generalize ((w.alloc (.cells #[.bool s,.slice a n c,.slice b m d] 78)).alloc (.cells #[.bool t,.slice a' n' c',.slice b' m' d'] 78)).alloc (.cells #[.bool false,.slice none 0 0,.slice none 0 0] 78)=W at*;obtain⟨g,hg⟩:∃g,w.heap.size=g:=⟨_,rfl⟩;have G:=hid hg;rw[hg]at X2 X3 X4⊢;clear hg;obtain⟨u0,u1,u2,_⟩:=X2.out.reads;obtain⟨v0,v1,v2,_⟩:=X3.out.reads;have C:=hid (TG (HF.out.mono B0.out.size) P.out Q.out SZ.out);go_wp2_with (go_at_call 130;refine C.out.mono ?_;rintro e w9 ⟨s9,a9,n9,c9,b9,m9,d9,rfl,L9,B9⟩;have L9:=hid L9;have Eb:=hid (aB B0.out B9);have lU:=X4.out.later B9 X4.out.lt;obtain⟨_,_,_,fz⟩:=lU.reads;have f0:=fz 0;have f1:=fz 1;have f2:=fz 2;have lU:=hid lU;clear fz B9);have B9:=aG Eb.out (g+1+1) (by have:=G.out;omega) (.bool s9) (.slice a9 n9 c9) (.slice b9 m9 d9);have R9:oZ (((w9.setCell ⟨g+1+1,0,none⟩ (.bool s9)).setCell ⟨g+1+1,1,none⟩ (.slice a9 n9 c9)).setCell ⟨g+1+1,2,none⟩ (.slice b9 m9 d9)) F (_) s9 a9 n9 c9 b9 m9 d9:=oZ.put L9.out lU.out _ _ _;have XX:=NR.xI lU.out (.bool s9) (.slice a9 n9 c9) (.slice b9 m9 d9);obtain⟨z0,z1,z2⟩:=XX;exact bodyPost_ret (v:= .agg #[.bool s9,.slice a9 n9 c9,.slice b9 m9 d9]) (by simp[results,results88,go_sem,z0,z1,z2]) rfl ⟨s9,a9,n9,c9,b9,m9,d9,rfl,R9,B9⟩
theorem LC {w:World}{F:Nat→Prop}(hF:Ab F w.heap.size){x:Nat}{q:Rat}{neg:Bool}{a:Option Addr}{n c:Nat}(ha:HAt w (Nh.aC x) a n c)(hn:NF w F a)(h1:q.num.natAbs=x)(h2:q.den=1)(h3:decide (q.num<0)=(neg&&decide (0<n))):
  Calls prog 117 #[.bool neg,.slice a n c] w (jl w F q):=by
 have H1:=hid h1;have H2:=hid h2;have A:=hid ha;have AN:=hid hn;have fin:=hid (fun(s:Bool) (hs:s=decide (q.num<0))=>(show jl w F q (.returned (.agg #[.bool s,.slice a n c,.slice (some ⟨w.heap.size+1,0,none⟩) 1 1])) ((w.alloc (.cells #[.bool s,.slice a n c,.slice (some ⟨w.heap.size+1,0,none⟩) 1 1] 78)).alloc (.cells #[.int .i64 1] 3)) from by have B:Below w.heap.size w ((w.alloc (.cells #[.bool s,.slice a n c,.slice (some ⟨w.heap.size+1,0,none⟩) 1 1] 78)).alloc (.cells #[.int .i64 1] 3)):=(ah _ _).alloc (by simp) _;have ONE:=iQ (w.alloc (.cells #[.bool s,.slice a n c,.slice (some ⟨w.heap.size+1,0,none⟩) 1 1] 78));rw[show(w.alloc (.cells #[.bool s,.slice a n c,.slice (some ⟨w.heap.size+1,0,none⟩) 1 1] 78)).heap.size=w.heap.size+1 from by simp]at ONE;exact⟨s,a,n,c,_,1,1,rfl,⟨⟨hs,by rw[H1.out];exact A.out.below B,by rw[H2.out];exact ONE⟩,AN.out.below B,(fun ad e=>by injection e with e;subst e;exact⟨hF _ (Nat.le_succ _),⟨_,by have:=heap_alloc_new (w.alloc (.cells #[.bool s,.slice a n c,.slice (some ⟨w.heap.size+1,0,none⟩) 1 1] 78)) (.cells #[.int .i64 1] 3);rwa[show(w.alloc (.cells #[.bool s,.slice a n c,.slice (some ⟨w.heap.size+1,0,none⟩) 1 1] 78)).heap.size=w.heap.size+1 from by simp]at this⟩⟩)⟩,B⟩))
 have SG:=hid h3;clear ha hn h1 h2 h3
 cases neg with
 | false=>
  go_enter func117,ntmps117
  go_wp2_with fail
  exact bodyPost_ret (v:= .agg #[.bool false,.slice a n c,.slice (some ⟨w.heap.size+1,0,none⟩) 1 1]) (by simp[results,results117,go_sem]) rfl (fin.out false (by have:=SG.out;simpa using this.symm))
 | true=>
  by_cases n0:n=0
  ·subst n0
   go_enter func117,ntmps117
   go_wp2_with fail
   exact bodyPost_ret (v:= .agg #[.bool false,.slice a 0 c,.slice (some ⟨w.heap.size+1,0,none⟩) 1 1]) (by simp[results,results117,go_sem]) rfl (fin.out false (by have:=SG.out;simpa using this.symm))
  ·have n1:0<n:=by omega
   have n2:decide (0<n)=true:=decide_eq_true n1
   go_enter func117,ntmps117
   go_wp2_with fail
   exact bodyPost_ret (v:= .agg #[.bool true,.slice a n c,.slice (some ⟨w.heap.size+1,0,none⟩) 1 1]) (by simp[results,results117,go_sem]) rfl (fin.out true (by have:=SG.out;rw[n2]at this;simpa using this.symm))
theorem Gw {w:World}{F:Nat→Prop}(hF:Ab F w.heap.size):Calls prog 71 #[] w (jl w F 0):=by have B0:Hid (Below w.heap.size w (w.alloc (.cells #[.bool false,.slice none 0 0,.slice none 0 0] 78))):=ah _ _;have X1:Hid (NR (w.alloc (.cells #[.bool false,.slice none 0 0,.slice none 0 0] 78)) w.heap.size false none 0 0 none 0 0):=heap_alloc_new w _;have C:=hid (LC (F:=F) (hF.mono B0.out.size) (neg:=false) (q:=0) (yN (w.alloc (.cells #[.bool false,.slice none 0 0,.slice none 0 0] 78))) (fun ad e=>by cases e) rfl rfl rfl);clear hF;go_enter func71,ntmps71;go_wp2_with fail;refine C.out.mono ?_;rintro e w2 ⟨s2,a2,n2,c2,b2,m2,d2,rfl,L2,B2⟩;have R2:=X1.out.later B2 X1.out.lt;obtain⟨z0,z1,z2,f⟩:=R2.reads;have f0:=f 0;have f1:=f 1;have f2:=f 2;have Eh:=R2.lt;have R2:=hid R2;have L2:=hid L2;have SZ:=hid B0.out.size;have eX:=hid (aB B0.out B2);clear f B2;go_wp2_with fail;exact bodyPost_ret (v:= .agg #[.bool s2,.slice a2 n2 c2,.slice b2 m2 d2]) (by simp[results,results71,go_sem,z0,z1,z2]) rfl ⟨s2,a2,n2,c2,b2,m2,d2,rfl,oZ.put L2.out R2.out _ _ _,aG eX.out _ (Nat.le_refl _) _ _ _⟩
theorem Ei {w:World}{p:Rat}{s:Bool}{a b:Option Addr}{n c m d:Nat}(hp:HR w p s a n c b m d):
    Calls prog 94 #[.agg #[.bool s,.slice a n c,.slice b m d]] w fun e w'=>e= .returned (.bool (decide (p.den=1)))∧Below w.heap.size w w':=by
  have yb:=ah w (.cells #[.bool s,.slice a n c,.slice b m d] 78);have P:=hid (hp.den.below yb);have B0:=hid yb;have X2:Hid (NR (w.alloc (.cells #[.bool s,.slice a n c,.slice b m d] 78)) w.heap.size s a n c b m d):=heap_alloc_new w _;clear hp yb;go_enter func94,ntmps94;go_upto_region 1 with fail
  generalize w.alloc (.cells #[.bool s,.slice a n c,.slice b m d] 78)=W at*;obtain⟨g,hg⟩:∃g,w.heap.size=g:=⟨_,rfl⟩;rw[hg]at X2⊢;clear hg;obtain⟨u0,u1,u2,_⟩:=X2.out.reads;have NB:=ah W (.cells #[.int .i64 1] 3);obtain⟨z,hz⟩:∃z,bU p.den 1=z:=⟨_,rfl⟩;have C:=hid (gW (P.out.below NB) (iQ W) hz);have BW:=hid (aB B0.out NB);have E:Hid (decide (p.den=1)=(z==0)):=by
    show _=_;rw[←hz];unfold bU;have:=p.den_pos;by_cases e:p.den=1
    · rw[if_neg (by omega),if_neg (by omega)];simp[e]
    · rw[if_neg (by omega),if_pos (by omega)];simp[e]
  clear NB hz;go_wp2_with (go_at_call 85;refine C.out.mono ?_;rintro e w9 ⟨rfl,rfl⟩);go_ret;exact⟨by rw[E.out];rfl,BW.out⟩
end Go.Proofs.YtijdglogadnbcaaGreat
namespace Go.Proofs.YtijdglogadnbcaaGreat
open Go.Proofs.Tryz
open Go.RowKit Nt
end Go.Proofs.YtijdglogadnbcaaGreat
namespace Go.Proofs.YtijdglogadnbcaaGreat
open Go.Proofs.Tryz
open Go.RowKit Nt
end Go.Proofs.YtijdglogadnbcaaGreat
namespace Go.Proofs.YtijdglogadnbcaaGreat
open Go.Proofs.Tryz
open Go.RowKit Nt Bl
theorem Ud {w:World}{x:Nat}{q:Rat}{neg:Bool}{a:Option Addr}{n c:Nat}(ha:HAt w (Nh.aC x) a n c)(hn:a=Option.none)(h1:q.num.natAbs=x)(h2:q.den=1)(h3:decide (q.num<0)=(neg&&decide (0<n))):
  Calls prog 117 #[.bool neg,.slice a n c] w (uw w q):=by
 have H1:=hid h1;have H2:=hid h2;have A:=hid ha;have AN:=hid hn;have fin:=hid (fun(s:Bool) (hs:s=decide (q.num<0))=>(show uw w q (.returned (.agg #[.bool s,.slice a n c,.slice (some ⟨w.heap.size+1,0,none⟩) 1 1])) ((w.alloc (.cells #[.bool s,.slice a n c,.slice (some ⟨w.heap.size+1,0,none⟩) 1 1] 78)).alloc (.cells #[.int .i64 1] 3)) from by have B:Below w.heap.size w ((w.alloc (.cells #[.bool s,.slice a n c,.slice (some ⟨w.heap.size+1,0,none⟩) 1 1] 78)).alloc (.cells #[.int .i64 1] 3)):=(ah _ _).alloc (by simp) _;have ONE:=iQ (w.alloc (.cells #[.bool s,.slice a n c,.slice (some ⟨w.heap.size+1,0,none⟩) 1 1] 78));rw[show(w.alloc (.cells #[.bool s,.slice a n c,.slice (some ⟨w.heap.size+1,0,none⟩) 1 1] 78)).heap.size=w.heap.size+1 from by simp]at ONE;exact⟨s,a,n,c,_,1,1,rfl,⟨hs,by rw[H1.out];exact A.out.below B,by rw[H2.out];exact ONE⟩,by rw[AN.out];exact N3.nil _ _,(fun ad e=>by injection e with e;subst e;exact⟨Nat.le_succ _,⟨_,by have:=heap_alloc_new (w.alloc (.cells #[.bool s,.slice a n c,.slice (some ⟨w.heap.size+1,0,none⟩) 1 1] 78)) (.cells #[.int .i64 1] 3);rwa[show(w.alloc (.cells #[.bool s,.slice a n c,.slice (some ⟨w.heap.size+1,0,none⟩) 1 1] 78)).heap.size=w.heap.size+1 from by simp]at this⟩⟩),B⟩))
 have SG:=hid h3;clear ha hn h1 h2 h3
 cases neg with
 | false=>
  go_enter func117,ntmps117
  go_wp2_with fail
  exact bodyPost_ret (v:= .agg #[.bool false,.slice a n c,.slice (some ⟨w.heap.size+1,0,none⟩) 1 1]) (by simp[results,results117,go_sem]) rfl (fin.out false (by have:=SG.out;simpa using this.symm))
 | true=>
  by_cases n0:n=0
  ·subst n0
   go_enter func117,ntmps117
   go_wp2_with fail
   exact bodyPost_ret (v:= .agg #[.bool false,.slice a 0 c,.slice (some ⟨w.heap.size+1,0,none⟩) 1 1]) (by simp[results,results117,go_sem]) rfl (fin.out false (by have:=SG.out;simpa using this.symm))
  ·have n1:0<n:=by omega
   have n2:decide (0<n)=true:=decide_eq_true n1
   go_enter func117,ntmps117
   go_wp2_with fail
   exact bodyPost_ret (v:= .agg #[.bool true,.slice a n c,.slice (some ⟨w.heap.size+1,0,none⟩) 1 1]) (by simp[results,results117,go_sem]) rfl (fin.out true (by have:=SG.out;rw[n2]at this;simpa using this.symm))
theorem Yy (w:World):Calls prog 71 #[] w (uw w 0):=by have B0:Hid (Below w.heap.size w (w.alloc (.cells #[.bool false,.slice none 0 0,.slice none 0 0] 78))):=ah _ _;have X1:Hid (NR (w.alloc (.cells #[.bool false,.slice none 0 0,.slice none 0 0] 78)) w.heap.size false none 0 0 none 0 0):=heap_alloc_new w _;have C:=hid (Ud (neg:=false) (q:=0) (yN (w.alloc (.cells #[.bool false,.slice none 0 0,.slice none 0 0] 78))) rfl rfl rfl rfl);go_enter func71,ntmps71;go_wp2_with fail;refine C.out.mono ?_;rintro e w2 ⟨s2,a2,n2,c2,b2,m2,d2,rfl,L2,NA,Yx,B2⟩;have R2:=X1.out.later B2 X1.out.lt;obtain⟨z0,z1,z2,f⟩:=R2.reads;have f0:=f 0;have f1:=f 1;have f2:=f 2;have Eh:=R2.lt;have R2:=hid R2;have L2:=hid L2;have NA:=hid NA;have Yx:=hid Yx;have SZ:=hid B0.out.size;have eX:=hid (aB B0.out B2);clear f B2;go_wp2_with fail;exact bodyPost_ret (v:= .agg #[.bool s2,.slice a2 n2 c2,.slice b2 m2 d2]) (by simp[results,results71,go_sem,z0,z1,z2]) rfl ⟨s2,a2,n2,c2,b2,m2,d2,rfl,⟨L2.out.sg,L2.out.num.fV R2.out (ay _ _ _ _ _),L2.out.den.fV R2.out (ay _ _ _ _ _)⟩,(NA.out.mono SZ.out).gy _ _ _ _,(Yx.out.mono SZ.out).gy _ _ _ _,aG eX.out _ (Nat.le_refl _) _ _ _⟩
theorem Em:(prog.info? 78).map (fun i=>(i.zero,i.size,i.bytes))=some (some (.agg #[.bool false,.slice none 0 0,.slice none 0 0]),3,56):=by kernel_rfl
structure HN (w:World)(k:Nat)(q:Rat)(N:Nw):Prop where
 hr:HR w q N.s N.a N.n N.c N.b N.m N.d
 na:N3 w k N.a
 nb:N3 w k N.b
theorem HAt.keep {w w':World}{l:List Nat}{a:Option Addr}{n c:Nat}(h:HAt w l a n c)(hs:∀ad,a=some ad→w'.heap[ad.block]? =w.heap[ad.block]?):HAt w' l a n c:=by refine⟨fun hne=>?_,h.len,h.le,h.cap,h.lm⟩;obtain⟨b,o,e,d⟩:=h.at_ hne;exact⟨b,o,e,fun i hi=>(aN (hs _ e) _).trans (d i hi)⟩
theorem HN.keep {w w':World}{k:Nat}{q:Rat}{N:Nw}(h:HN w k q N)(hs:∀g,dh w g 3→w'.heap[g]? =w.heap[g]?):HN w' k q N:=
 ⟨⟨h.hr.sg,h.hr.num.keep fun ad e=>hs _ (h.na ad e).2,h.hr.den.keep fun ad e=>hs _ (h.nb ad e).2⟩,fun ad e=>⟨(h.na ad e).1,(h.na ad e).2.keep (hs _ (h.na ad e).2)⟩,fun ad e=>⟨(h.nb ad e).1,(h.nb ad e).2.keep (hs _ (h.nb ad e).2)⟩⟩
theorem HN.below {w w':World}{k:Nat}{q:Rat}{N:Nw}(h:HN w k q N)(hb:Below w.heap.size w w'):HN w' k q N:=h.keep fun g b=>hb.block g b.lt
theorem HN.mono {w:World}{k j:Nat}{q:Rat}{N:Nw}(h:HN w k q N)(hj:j≤k):HN w j q N:=⟨h.hr,h.na.mono hj,h.nb.mono hj⟩
def G8 (w:World)(k:Nat)(l:List Rat)(vs:List Value):Prop:=vs.length=l.length*3∧∀i,i<l.length→∃N,(∀j,j<3→vs[i*3+j]? =N.cs[j]?)∧HN w k (l.getD i 0) N
theorem G8.keep {w w':World}{k:Nat}{l:List Rat}{vs:List Value}(h:G8 w k l vs)(hs:∀g,dh w g 3→w'.heap[g]? =w.heap[g]?):G8 w' k l vs:=
 ⟨h.1,fun i hi=>by obtain⟨N,a,b⟩:=h.2 i hi;exact⟨N,a,b.keep hs⟩⟩
theorem G8.below {w w':World}{k:Nat}{l:List Rat}{vs:List Value}(h:G8 w k l vs)(hb:Below w.heap.size w w'):G8 w' k l vs:=h.keep fun g b=>hb.block g b.lt
theorem G8.nil (w:World)(k:Nat):G8 w k [] []:=⟨rfl,fun i hi=>absurd hi (Nat.not_lt_zero _)⟩
theorem G8.push {w:World}{k:Nat}{l:List Rat}{vs:List Value}{q:Rat}{N:Nw}(h:G8 w k l vs)(r:HN w k q N):G8 w k (l++[q]) (vs++N.cs):=by
 refine⟨by simp[h.1,Nw.cs];omega,fun i hi=>?_⟩;rw[List.length_append,List.length_singleton]at hi;by_cases e:i<l.length
 ·obtain⟨N',a,b⟩:=h.2 i e;rw[show(l++[q]).getD i 0=l.getD i 0 from by rw[List.getD_eq_getElem?_getD,List.getD_eq_getElem?_getD,List.getElem?_append_left e]];refine⟨N',fun j hj=>?_,b⟩;rw[List.getElem?_append_left (by rw[h.1];omega)];exact a j hj
 obtain rfl:i=l.length:=by omega
 rw[show(l++[q]).getD l.length 0=q from by rw[List.getD_eq_getElem?_getD,List.getElem?_append_right (Nat.le_refl _)];simp];refine⟨N,fun j hj=>?_,r⟩;rw[List.getElem?_append_right (by rw[h.1];omega),h.1,Nat.add_sub_cancel_left]
structure nI (w:World)(k:Nat)(v:Value)(l:List Rat):Prop where
 ex:∃xs,w.ownsRow k 78 3 v l.length xs∧G8 w k l xs
theorem yT {w:World}{b e sz n g:Nat}{v:Value}{xs:List Value}(h:w.ownsRow b e sz v n xs)(hg:v.ownBlock=some g):dh w g e:=by
 rcases h.2 with⟨rfl,_⟩ | ⟨g',cap,cur,rfl,hb,hgg,_⟩
 ·simp[Value.ownBlock]at hg
 simp[Value.ownBlock]at hg;subst hg;exact⟨_,hgg⟩
theorem nI.nil (w:World)(k:Nat):nI w k (.slice none 0 0) []:=⟨[],World.ownsRow_nil _ _ _ _,G8.nil w k⟩
theorem nI.below {w w':World}{k:Nat}{v:Value}{l:List Rat}(h:nI w k v l)(hb:Below w.heap.size w w'):nI w' k v l:=by obtain⟨xs,o,r⟩:=h.ex;exact⟨xs,own_below o hb,r.below hb⟩
theorem nI.set {w w':World}{k g:Nat}{v:Value}{l:List Rat}(h:nI w k v l)(hb:dh w g 78)(hg:v.ownBlock≠some g)(hw:w.grownBy w' (some g)):nI w' k v l:=by obtain⟨xs,o,r⟩:=h.ex;exact⟨xs,o.kept hw (Or.inr hg),r.keep fun b hb3=>hw.block b hb3.lt fun e=>by injection e with e;exact hb.ne (e▸hb3) (by decide) rfl⟩
theorem nI.push {w w1:World}{k:Nat}{v v':Value}{l:List Rat}{q:Rat}{N:Nw}{xs:List Value}(o:w.ownsRow k 78 3 v l.length xs)(r:G8 w k l xs)(hN:HN w k q N)(o':w1.ownsRow k 78 3 v' (l.length+1) (xs++N.cs))(hw:w.grownBy w1 v.ownBlock):nI w1 k v' (l++[q]):=by have hs:∀g,dh w g 3→w1.heap[g]? =w.heap[g]?:=fun b hb3=>hw.block b hb3.lt fun e=>(yT o e.symm).ne hb3 (by decide) rfl;exact⟨xs++N.cs,by rw[List.length_append];exact o',(r.push hN).keep hs⟩
def FT (l:List Cf)(n:Nat):List Rat:=(List.range n).map (fA (jO l))
theorem Ej (l:List Cf)(n:Nat):(FT l n).length=n:=by simp[FT]
theorem Ue (l:List Cf)(n:Nat):FT l (n+1)=FT l n++[fA (jO l) n]:=by simp[FT,List.range_succ]
def FoL (w:World)(l:List Cf)(n:Nat)(v5 v6:Value)(wr:World):Prop:=
 ∃i:Nat,i≤n∧v6= .int .i64 (i:Int)∧nI wr w.heap.size v5 (FT l i)∧Below w.heap.size w wr
def FiL (w:World)(l:List Cf)(i g:Nat)(v5 v8:Value)(wr:World):Prop:=
 ∃(j:Nat) (N:Nw),j≤l.length∧v8= .int .i64 (j:Int)∧NR wr g N.s N.a N.n N.c N.b N.m N.d∧HN wr w.heap.size (jq (jO l) j i) N∧nI wr w.heap.size v5 (FT l i)∧Below w.heap.size w wr
def WH (w:World)(l:List Cf)(n:Nat)(e:Ending)(w':World):Prop:=∃v,e= .returned v∧nI w' w.heap.size v (FT l n)∧Below w.heap.size w w'
theorem NR.Wn {w:World}{g:Nat}{s:Bool}{a b:Option Addr}{n c m d:Nat}(h:NR w g s a n c b m d)(N:Nw):
  NR (((w.setCell ⟨g,0,none⟩ (.bool N.s)).setCell ⟨g,1,none⟩ (.slice N.a N.n N.c)).setCell ⟨g,2,none⟩ (.slice N.b N.m N.d)) g N.s N.a N.n N.c N.b N.m N.d:=by unfold NR at h⊢;simp[World.setCell,Array.getElem?_modify,h]
theorem Ez (w:World)(g:Nat)(x y z:Value):w.grownBy (((w.setCell ⟨g,0,none⟩ x).setCell ⟨g,1,none⟩ y).setCell ⟨g,2,none⟩ z) (some g):=
 ⟨rfl,rfl,rfl,by simp[World.setCell],fun b _ hne=>ay w g x y z b fun e=>hne (by rw[e])⟩
theorem mF {w:World}{g:Nat}{s:Bool}{a b:Option Addr}{n c m d:Nat}(h:NR w g s a n c b m d):dh w g 78:=⟨_,h⟩
theorem Nj {w:World}{l:List Cf}{ca:Option Addr}{nc cc n:Nat}(h:kG w l ca)(hl:l.length=nc)(hc:nc≤cc)(hc2:cc≤9223372036854775807)(hn:n≤24)(hv:∀i,i<l.length→0≤(cf l i).var∧aP (cf l i).gU=0):
  Calls prog 31 #[.slice ca nc cc,.int .i64 (n:Int)] w (WH w l n):=by
 have CF:=hid h;have HL:=hid hl;have HV:=hid hv;obtain⟨Q,hQ⟩:∃Q:Ending→World→Prop,Q=WH w l n:=⟨_,rfl⟩;rw[←hQ];have HQ:=hid hQ;obtain⟨i78,LP,Ar,Au,Aw⟩:=info_parts Em;clear h hl hv hQ;go_enter func31,ntmps31;go_wp2_with fail;go_loopw [5,6] (fun v5 v6 wr=>FoL w l n v5 v6 wr) (fun _ v _=>n-(intOf v).toNat)
 case atStart=>exact⟨0,Nat.zero_le _,rfl,nI.nil w _,Below.refl _ _⟩
 obtain⟨i,hi,rfl,hO,hB⟩:=hrel;have O5:=hid hO;have BI:=hid hB;clear hO hB;by_cases hlt:i<n
 ·have i1:(i:Int)<(n:Int):=by omega
  go_upto_region 6 with(go_at_call 71;refine(Yy _).mono ?_;rintro e w2 ⟨s2,a2,n2,c2,b2,m2,d2,rfl,hr,na,nb,hB2⟩;have H2:=hid (show HN w2 wr.heap.size 0 ⟨s2,a2,n2,c2,b2,m2,d2⟩ from⟨hr,na,nb⟩);have B2:=hid hB2;clear hr na nb hB2)
  have Jr:=ah w2 (.cells #[.bool s2,.slice a2 n2 c2,.slice b2 m2 d2] 78);have R3:Hid (NR (w2.alloc (.cells #[.bool s2,.slice a2 n2 c2,.slice b2 m2 d2] 78)) w2.heap.size s2 a2 n2 c2 b2 m2 d2):=heap_alloc_new _ _;have H3:=hid ((H2.out.below Jr).mono BI.out.size);have O3:=hid ((O5.out.below B2.out).below Jr);have NE:Hid (u5.ownBlock≠some w2.heap.size):=fun e=>by obtain⟨xs,o,_⟩:=(O5.out.below B2.out).ex;have:=(o.lt _ e).2;omega
  have B3:=hid (Below.over (aB BI.out B2.out) (aB BI.out B2.out).size Jr);have GE:Hid (w.heap.size≤w2.heap.size):=(aB BI.out B2.out).size;clear Jr H2 O5 B2 BI;generalize w2.alloc (.cells #[.bool s2,.slice a2 n2 c2,.slice b2 m2 d2] 78)=w3 at*;obtain⟨g,hg⟩:∃g,w2.heap.size=g:=⟨_,rfl⟩;rw[hg]at R3 NE GE⊢;clear hg;go_wp2_with fail;go_loopw [8] (fun v8 wr=>FiL w l i g u5 v8 wr) (fun v _=>nc-(intOf v).toNat)
  case atStart=>exact⟨0,_,Nat.zero_le _,rfl,R3.out,H3.out,O3.out,B3.out⟩
  obtain⟨j,N,hj,rfl,hR,hH,hO,hB⟩:=hrel;have RJ:=hid hR;have HJ:=hid hH;have OJ:=hid hO;have BJ:=hid hB;rw[HL.out]at hj;clear hR hH hO hB R3 H3 O3 B3;by_cases hlt2:j<nc
  ·obtain⟨gc,oc,rfl,dd⟩:=CF.out (by intro e;have:=HL.out;rw[e]at this;simp at this;omega);obtain⟨ra,rn,rc,rb,rm,rd,p0,p1,p2,p3,GX⟩:=dd j (by rw[HL.out];exact hlt2);obtain⟨v0,ck⟩:=HV.out j (by rw[HL.out];exact hlt2);have CT:Hid (jq (jO l) (j+1) i=if i=(cf l j).var.toNat then bF (cf l j).gU else jq (jO l) j i):=by show _=_;rw[show jq (jO l) (j+1) i=if i=(cq (jO l) j).1 then(cq (jO l) j).2 else jq (jO l) j i from rfl,qh (by rw[HL.out];exact hlt2)]
   clear dd;obtain⟨v,hvv⟩:∃v,(cf l j).var=v:=⟨_,rfl⟩;obtain⟨R,hRR⟩:∃R,(cf l j).gU=R:=⟨_,rfl⟩;rw[hvv]at p0 v0 CT;rw[hRR]at p1 GX ck CT;clear hvv hRR;have p0:=aj BJ.out p0;have p1:=aj BJ.out p1;have p2:=aj BJ.out p2;have p3:=aj BJ.out p3;have C:=hid (Yw (GX.below BJ.out) ck);have j0:(0:Int)≤(j:Int):=by omega
   have j1:(j:Int)<(nc:Int):=by omega
   clear GX ck;by_cases hvi:v=(i:Int)
   ·subst hvi;have f0:=(mF RJ.out).free 0;have f1:=(mF RJ.out).free 1;have f2:=(mF RJ.out).free 2;have CT2:Hid (jq (jO l) (j+1) i=bF R):=by show _=_;rw[CT.out,if_pos (by simp)]
    clear CT;go_wp2_with (go_at_call 42;refine C.out.mono ?_;rintro e w4 ⟨s4,a4,n4,c4,b4,m4,d4,rfl,hr,na,nb,hB4⟩;have H4:=hid (show HN w4 w.heap.size (bF R) ⟨s4,a4,n4,c4,b4,m4,d4⟩ from HN.mono ⟨hr,na,nb⟩ BJ.out.size);have R4:=hid (RJ.out.later hB4 RJ.out.lt);have O4:=hid (OJ.out.below hB4);have B4:=hid (aB BJ.out hB4);have f0:=(mF R4.out).free 0;have f1:=(mF R4.out).free 1;have f2:=(mF R4.out).free 2;obtain⟨z0,z1,z2,_⟩:=R4.out.reads;clear hr na nb hB4 p0 p1 p2 p3 C);go_roundw
    case rel=>refine⟨j+1,⟨s4,a4,n4,c4,b4,m4,d4⟩,by rw[HL.out];omega,by go_num,R4.out.Wn ⟨s4,a4,n4,c4,b4,m4,d4⟩,by rw[CT2.out];exact H4.out.keep fun b hb=>ay _ _ _ _ _ b (hb.ne (mF R4.out) (by decide)),O4.out.set (mF R4.out) NE.out (Ez _ _ _ _ _),((B4.out.setCell (p:=⟨g,0,none⟩) GE.out _).setCell (p:=⟨g,1,none⟩) GE.out _).setCell (p:=⟨g,2,none⟩) GE.out _⟩
    simp[intOf];omega
   have CT2:Hid (jq (jO l) (j+1) i=jq (jO l) j i):=by show _=_;rw[CT.out,if_neg (by omega)]
   clear CT C;go_wp2_with fail;go_roundw
   case rel=>exact⟨j+1,N,by rw[HL.out];omega,by go_num,RJ.out,by rw[CT2.out];exact HJ.out,OJ.out,BJ.out⟩
   simp[intOf];omega
  obtain rfl:nc=j:=by omega
  have HE:Hid (HN wr w.heap.size (fA (jO l) i) N):=by have:=HJ.out;rwa[show jq (jO l) nc i=fA (jO l) i from by unfold fA;rw[eU,HL.out]]at this
  obtain⟨z0,z1,z2,_⟩:=RJ.out.reads;obtain⟨xs,ho,Nk⟩:=OJ.out.ex;have qX:=hid (ah wr (.cells #[.bool N.s,.slice N.a N.n N.c,.slice N.b N.m N.d] 78));have FG:Hid ((wr.alloc (.cells #[.bool N.s,.slice N.a N.n N.c,.slice N.b N.m N.d] 78)).heap[wr.heap.size]? =some (.cells #[.bool N.s,.slice N.a N.n N.c,.slice N.b N.m N.d] 78 (0,0))):=heap_alloc_new _ _;have OA:=hid (World.ownsRow.alloc ho (.cells #[.bool N.s,.slice N.a N.n N.c,.slice N.b N.m N.d] 78));have RV:=hid (Nk.below qX.out);have HA:=hid (HE.out.below qX.out);have LN:=Ej l i;clear ho Nk;go_wp2_with (at_builtin;refine wpList_append_own _ rfl _ _ 65 rfl w.heap.size 78 i78 _ 3 56 underlying65 LP Ar Au Aw rfl (by omega) _ (FT l i).length xs rfl OA.out ⟨wr.heap.size,0,none⟩ 1 1 [.bool N.s,.slice N.a N.n N.c,.slice N.b N.m N.d] rfl rfl (World.news_of_block FG.out) (by intro u hu;simp at hu;rcases hu with rfl | rfl | rfl<;>rfl) (by rw[LN];unfold maxLen;omega) (by rw[LN];omega) (Nat.le_trans BJ.out.size (ah wr _).size) ?_;intro v5 w5 Af hg5 MI;have B5:=hid (fH (aB BJ.out qX.out) OA.out (Nat.le_trans BJ.out.size qX.out.size) hg5);have O6:=hid (nI.push (N:=N) OA.out RV.out HA.out Af hg5);clear Af hg5 MI z0 z1 z2);go_roundw
  case rel=>exact⟨i+1,by omega,by go_num,by rw[Ue];exact O6.out,B5.out⟩
  simp[intOf];omega
 obtain rfl:n=i:=by omega
 go_wp2_with fail;rw[HQ.out];exact⟨_,rfl,O5.out,BI.out⟩
theorem nI.slice {w:World}{k:Nat}{v:Value}{l:List Rat}(h:nI w k v l):∃a c,v= .slice a l.length c∧l.length≤c∧c≤9223372036854775807:=by
 obtain⟨xs,o,_⟩:=h.ex;rcases o.2 with⟨rfl,e0⟩ | ⟨g,cap,cur,rfl,hb,hgg,hc,hm,_⟩
 ·rw[e0];exact⟨none,0,rfl,Nat.le_refl _,by omega⟩
 exact⟨_,cap,rfl,hc,hm⟩
theorem nI.mono {w:World}{k j:Nat}{v:Value}{l:List Rat}(h:nI w k v l)(hj:j≤k):nI w j v l:=by obtain⟨xs,o,r⟩:=h.ex;exact⟨xs,World.ownsRow.mono o hj,r.1,fun i hi=>by obtain⟨N,a,b⟩:=r.2 i hi;exact⟨N,a,b.mono hj⟩⟩
theorem nI.jm {w w':World}{k g ty:Nat}{v:Value}{l:List Rat}(h:nI w k v l)(hb:dh w g ty)(h78:ty≠78)(h3:ty≠3)(hw:w.grownBy w' (some g)):nI w' k v l:=by
 obtain⟨xs,o,r⟩:=h.ex;refine⟨xs,o.kept hw ?_,r.keep fun b hb3=>hw.block b hb3.lt fun e=>by injection e with e;exact hb.ne (e▸hb3) h3 rfl⟩
 cases q:v.ownBlock with
 | none=>exact Or.inl rfl
 | some b=>exact Or.inr fun e=>by injection e with e;subst e;exact hb.ne (yT o q) h78 rfl
def Uf (w:World)(g:Nat)(arr:Array Value):Prop:=w.heap[g]? =some (.cells arr 80 (0,0))
theorem Uf.reads {w:World}{g:Nat}{a b c d e:Value}(h:Uf w g #[a,b,c,d,e]):w.cell? ⟨g,0,none⟩=some a∧w.cell? ⟨g,1,none⟩=some b∧w.cell? ⟨g,2,none⟩=some c∧w.cell? ⟨g,3,none⟩=some d∧w.cell? ⟨g,4,none⟩=some e∧∀i,w.frozen? ⟨g,i,none⟩=false:=by
 refine⟨?_,?_,?_,?_,?_,fun i=>by unfold Uf at h;simp[World.frozen?,h]⟩
 ·rw[cell_of_row w g 0 _ _ _ h];rfl
 ·rw[cell_of_row w g 1 _ _ _ h];rfl
 ·rw[cell_of_row w g 2 _ _ _ h];rfl
 ·rw[cell_of_row w g 3 _ _ _ h];rfl
 rw[cell_of_row w g 4 _ _ _ h];rfl
theorem Uf.lt {w:World}{g:Nat}{arr:Array Value}(h:Uf w g arr):g<w.heap.size:=(Array.getElem?_eq_some_iff.1 h).1
theorem Uf.below {w w':World}{g:Nat}{arr:Array Value}(h:Uf w g arr)(hb:Below w.heap.size w w'):Uf w' g arr:=(hb.block g h.lt).trans h
theorem kU (w:World)(g o:Nat)(a:Value):w.grownBy (w.setCell ⟨g,o,none⟩ a) (some g):=
 ⟨rfl,rfl,rfl,by simp[World.setCell],fun k _ hne=>heap_setCell_other _ _ _ _ fun e=>hne (by rw[e])⟩
theorem jV {w w1 w2:World}{r:Option Nat}(h:w.grownBy w1 r)(k:w1.grownBy w2 r):w.grownBy w2 r:=
 ⟨k.os.trans h.os,k.tape.trans h.tape,k.output.trans h.output,Nat.le_trans h.size k.size,fun b hb hne=>(k.block b (Nat.lt_of_lt_of_le hb h.size) hne).trans (h.block b hb hne)⟩
theorem EC (w:World)(g:Nat)(a b c d e:Value):w.grownBy (((((w.setCell ⟨g,0,none⟩ a).setCell ⟨g,1,none⟩ b).setCell ⟨g,2,none⟩ c).setCell ⟨g,3,none⟩ d).setCell ⟨g,4,none⟩ e) (some g):=
 jV (jV (jV (jV (kU w g 0 a) (kU _ g 1 b)) (kU _ g 2 c)) (kU _ g 3 d)) (kU _ g 4 e)
def WI (w:World)(l:List Cf)(rel:Int)(B:Raw)(n:Nat)(e:Ending)(w':World):Prop:=
 ∃a c N,e= .returned (.agg #[.slice a n c,.int .i64 rel,.bool N.s,.slice N.a N.n N.c,.slice N.b N.m N.d])∧nI w' w.heap.size (.slice a n c) (FT l n)∧HN w' w.heap.size (bF B) N∧Below w.heap.size w w'
theorem Nl {w:World}{rel:Int}{l:List Cf}{B:Raw}{ca a b:Option Addr}{nc cc nn c m d n:Nat}(hl:kG w l ca)(hB:dG w B a nn c b m d)(hln:l.length=nc)(hc:nc≤cc)(hc2:cc≤9223372036854775807)(hn:n≤24)(hv:∀i,i<l.length→0≤(cf l i).var∧aP (cf l i).gU=0)(hb0:aP B=0):
  Calls prog 36 #[.agg #[.slice ca nc cc,.int .i64 rel,.bool B.neg,.slice a nn c,.slice b m d],.int .i64 (n:Int)] w (WI w l rel B n):=by
 have ou:=hid hln;obtain⟨Q,hQ⟩:∃Q:Ending→World→Prop,Q=WI w l rel B n:=⟨_,rfl⟩;rw[←hQ];have HQ:=hid hQ;have NB1:=ah w (.cells #[.slice ca nc cc,.int .i64 rel,.bool B.neg,.slice a nn c,.slice b m d] 27);have X0:iH (w.alloc (.cells #[.slice ca nc cc,.int .i64 rel,.bool B.neg,.slice a nn c,.slice b m d] 27)) w.heap.size #[.slice ca nc cc,.int .i64 rel,.bool B.neg,.slice a nn c,.slice b m d]:=heap_alloc_new _ _;have SZ:(w.alloc (.cells #[.slice ca nc cc,.int .i64 rel,.bool B.neg,.slice a nn c,.slice b m d] 27)).heap.size=w.heap.size+1:=by simp
 have NB2:=ah (w.alloc (.cells #[.slice ca nc cc,.int .i64 rel,.bool B.neg,.slice a nn c,.slice b m d] 27)) (.cells #[.slice none 0 0,.int .i64 0,.bool false,.slice none 0 0,.slice none 0 0] 80);have Y0:Uf ((w.alloc (.cells #[.slice ca nc cc,.int .i64 rel,.bool B.neg,.slice a nn c,.slice b m d] 27)).alloc (.cells #[.slice none 0 0,.int .i64 0,.bool false,.slice none 0 0,.slice none 0 0] 80)) (w.heap.size+1) #[.slice none 0 0,.int .i64 0,.bool false,.slice none 0 0,.slice none 0 0]:=by have:=heap_alloc_new (w.alloc (.cells #[.slice ca nc cc,.int .i64 rel,.bool B.neg,.slice a nn c,.slice b m d] 27)) (.cells #[.slice none 0 0,.int .i64 0,.bool false,.slice none 0 0,.slice none 0 0] 80);rwa[SZ]at this
 have X1:=hid (X0.below NB2);have Y1:=hid Y0;have Ug:=hid ((hl.below NB1).below NB2);have RB1:=hid ((hB.below NB1).below NB2);have B0:=hid (aB NB1 NB2);have HV:=hid hv;have HB0:=hid hb0;clear hl hB hln NB1 NB2 X0 Y0 SZ hQ hv hb0;go_enter func36,ntmps36;go_upto_region 1 with fail
 generalize (w.alloc (.cells #[.slice ca nc cc,.int .i64 rel,.bool B.neg,.slice a nn c,.slice b m d] 27)).alloc (.cells #[.slice none 0 0,.int .i64 0,.bool false,.slice none 0 0,.slice none 0 0] 80)=W at*;obtain⟨g2,hg2⟩:∃g,w.heap.size=g:=⟨_,rfl⟩;have GE:Hid (w.heap.size=g2):=hg2;rw[hg2]at X1 Y1⊢;clear hg2;obtain⟨u0,u1,u2,u3,u4,_⟩:=X1.out.reads;have KP:=hid (fun(W':World) (hB:Below W.heap.size W W')=>(show W'.cell? ⟨g2,0,none⟩=some (.slice ca nc cc)∧W'.cell? ⟨g2,1,none⟩=some (.int .i64 rel)∧W'.cell? ⟨g2,2,none⟩=some (.bool B.neg)∧W'.cell? ⟨g2,3,none⟩=some (.slice a nn c)∧W'.cell? ⟨g2,4,none⟩=some (.slice b m d) from⟨aj hB u0,aj hB u1,aj hB u2,aj hB u3,aj hB u4⟩));have C1:=hid (Nj (n:=n) (Ug.out.below (Below.refl W.heap.size W).drew) ou.out hc hc2 hn HV.out);refine Rg.aH 10 [] (fun W'=>W'.cell? ⟨g2,0,none⟩=some (.slice ca nc cc)∧W'.cell? ⟨g2,1,none⟩=some (.int .i64 rel)∧W'.cell? ⟨g2,2,none⟩=some (.bool B.neg)∧W'.cell? ⟨g2,3,none⟩=some (.slice a nn c)∧W'.cell? ⟨g2,4,none⟩=some (.slice b m d)) (by kernel_rfl) (by kernel_rfl) ?_ (fun hS ok inv=>?_)
 ·exact⟨u0,u1,u2,u3,u4⟩
 refine Rg.tk 0 rfl ok inv hS fun inv=>?_;refine Rg.tk 1 rfl ok inv hS fun inv=>?_;refine Rg.tk 2 rfl ok inv hS fun inv=>?_;refine Rg.tk 4 rfl ok inv hS fun inv=>?_;refine Rg.tk 5 rfl ok inv hS fun inv=>?_;refine Rg.tk 6 rfl ok inv hS fun inv=>?_;refine Rg.tk 7 rfl ok inv hS fun inv=>?_;refine Rg.w1 3 rfl inv fun K' hK=>?_;go_simp;go_at_call 31;refine(C1.out).mono ?_;rintro e w2 ⟨vb,rfl,hO,hB2⟩;obtain⟨av,cv,rfl,hv1,hv2⟩:=hO.slice;rw[Ej]at hO hv1⊢;have O2:=hid hO;have D2:=hid (aJ hB2);have KS:=KP.out w2 D2.out;have C2:=hid (Yw (RB1.out.below D2.out) HB0.out);clear hO hB2;refine Rg.st hK ?_ fun hS inv=>?_
 ·exact KS
 clear hK K';refine Rg.w1 8 rfl inv fun K' hK=>?_;go_simp;go_at_call 42;refine(C2.out).mono ?_;rintro e w3 ⟨s3,a3,n3,c3,b3,m3,d3,rfl,hr,na,nb,hB3⟩;have H3:=hid (show HN w3 w2.heap.size (bF B) ⟨s3,a3,n3,c3,b3,m3,d3⟩ from⟨hr,na,nb⟩);have O3:=hid (O2.out.below hB3);have D3:=hid (aB D2.out hB3);have KS:=KP.out w3 D3.out;clear hr na nb hB3;refine Rg.st hK ?_ fun hS inv=>?_
 ·exact KS
 clear hK K';have Y3:=Y1.out.below D3.out;obtain⟨z0,z1,z2,z3,z4,f⟩:=Y3.reads;have f0:=f 0;have f1:=f 1;have f2:=f 2;have f3:=f 3;have f4:=f 4;have Y3:=hid Y3;have Ed:=hid (aB B0.out D3.out);clear f;refine Rg.tk 9 rfl ok inv hS fun inv=>?_;refine Rg.wl rfl ?_;go_simp;go_wp2_with fail;have GR:=EC w3 (g2+1) (.slice av n cv) (.int .i64 rel) (.bool s3) (.slice a3 n3 c3) (.slice b3 m3 d3);have BL:dh w3 (g2+1) 80:=⟨_,Y3.out⟩;refine bodyPost_ret (v:= .agg #[.slice av n cv,.int .i64 rel,.bool s3,.slice a3 n3 c3,.slice b3 m3 d3]) (by simp[results,results36,go_sem,z0,z1,z2,z3,z4]) rfl ?_;rw[HQ.out];have le:w.heap.size≤g2+1:=by rw[GE.out];omega
 refine⟨av,cv,⟨s3,a3,n3,c3,b3,m3,d3⟩,rfl,?_,?_,?_⟩
 ·refine nI.jm (k:=w.heap.size) ?_ BL (by decide) (by decide) GR;exact O3.out.mono B0.out.size
 ·refine HN.keep ?_ fun b hb=>GR.block b hb.lt fun e=>by injection e with e;exact hb.ne (e▸BL) (by decide) rfl
  exact H3.out.mono (aB B0.out D2.out).size
 exact((((Ed.out.setCell (p:=⟨g2+1,0,none⟩) le _).setCell (p:=⟨g2+1,1,none⟩) le _).setCell (p:=⟨g2+1,2,none⟩) le _).setCell (p:=⟨g2+1,3,none⟩) le _).setCell (p:=⟨g2+1,4,none⟩) le _
end Go.Proofs.YtijdglogadnbcaaGreat
