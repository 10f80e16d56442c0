/- The reference's Made. Printed by genHu.py. -/
import Derived.Test.YtijdglogadnbcaaGreatY35
set_option linter.unusedVariables false
set_option linter.unusedSimpArgs false
set_option maxRecDepth 100000
set_option maxHeartbeats 40000000
namespace Go.Proofs.YtijdglogadnbcaaGreat
open Go.Proofs.Tryz
open Go.RowKit Nt
def MdP (w:World)(x y:Nat)(s:Bool)(g:Nat)(a2:Option Addr)(n2 c2:Nat)(a3:Option Addr)(n3 c3:Nat)(W:World):Prop:=
 NB W g s a2 n2 c2 a3 n3 c3∧bW W (aC x) a2 n2 c2∧bW W (aC y) a3 n3 c3∧NB W (w.heap.size+1) false none 0 0 none 0 0∧Below w.heap.size w W∧g≠w.heap.size+1
theorem Rq {w W0 w3:World}{x y:Nat}{s:Bool}{a2 a3:Option Addr}{n2 c2 n3 c3:Nat}(X2:NB W0 (w.heap.size+1) false none 0 0 none 0 0)(B0:Below w.heap.size w W0)(S0:W0.heap.size=w.heap.size+2)(B:Below W0.heap.size W0 w3)(L2:bW w3 (aC x) a2 n2 c2)(L3:bW w3 (aC y) a3 n3 c3):
  MdP w x y s w3.heap.size a2 n2 c2 a3 n3 c3 (w3.alloc (.cells #[.bool s,.slice a2 n2 c2,.slice a3 n3 c3] 25)):=by have hb:=B.size;exact⟨heap_alloc_new w3 _,L2.below (ah _ _),L3.below (ah _ _),(X2.later B X2.lt).later (ah _ _) (by omega),Below.over (aB B0 B) (Nat.le_trans B0.size B.size) (ah _ _),by omega⟩
theorem DZ {w W0 w3:World}{x y g:Nat}{s:Bool}{a2 a3:Option Addr}{n2 c2 n3 c3:Nat}(X2:NB W0 (w.heap.size+1) false none 0 0 none 0 0)(B0:Below w.heap.size w W0)(S0:W0.heap.size=w.heap.size+2)(B:Below W0.heap.size W0 w3)(hg:W0.heap.size≤g)(XN:NB w3 g false none 0 0 none 0 0)(L2:bW w3 (aC x) a2 n2 c2)(L3:bW w3 (aC y) a3 n3 c3):
  MdP w x y s g a2 n2 c2 a3 n3 c3 (((w3.setCell ⟨g,0,none⟩ (.bool s)).setCell ⟨g,1,none⟩ (.slice a2 n2 c2)).setCell ⟨g,2,none⟩ (.slice a3 n3 c3)):=by have e1:=heap_setCell_same w3 g 0 _ _ (.bool s) XN;have e2:=heap_setCell_same _ g 1 _ _ (.slice a2 n2 c2) e1;have B3:=aB B0 B;exact⟨heap_setCell_same _ g 2 _ _ (.slice a3 n3 c3) e2,L2.beside XN (ay _ _ _ _ _),L3.beside XN (ay _ _ _ _ _),(X2.later B X2.lt).gy (by omega) _ _ _,aG B3 g (by omega) _ _ _,by omega⟩
theorem Rt {w:World}{q:Rat}{s:Bool}{a b:Option Addr}{n c m d:Nat}(h:HR w q s a n c b m d)(sz:n≤1099511627776∧m≤1099511627776)(hl:(aC q.num.natAbs).length≤128∧(aC q.den).length≤128):
  Calls prog 69 #[.agg #[.bool s,.slice a n c,.slice b m d]] w fun e w'=>∃N:Nw,e= .returned (.tuple #[.agg #[.bool N.s,.slice N.a N.n N.c,.slice N.b N.m N.d],.int .i64 0])∧RA w' q N∧Below w.heap.size w w':=by
 have SG:=hid h.sg;obtain⟨x,hx⟩:∃x,q.num.natAbs=x:=⟨_,rfl⟩;obtain⟨y,hy⟩:∃y,q.den=y:=⟨_,rfl⟩;have B0:Hid (Below w.heap.size w ((w.alloc (.cells #[.bool s,.slice a n c,.slice b m d] 78)).alloc (.cells #[.bool false,.slice none 0 0,.slice none 0 0] 25))):=(ah _ _).alloc (by simp) _;have S0:Hid (((w.alloc (.cells #[.bool s,.slice a n c,.slice b m d] 78)).alloc (.cells #[.bool false,.slice none 0 0,.slice none 0 0] 25)).heap.size=w.heap.size+2):=by show _=_;simp
 have X1:Hid (NR ((w.alloc (.cells #[.bool s,.slice a n c,.slice b m d] 78)).alloc (.cells #[.bool false,.slice none 0 0,.slice none 0 0] 25)) w.heap.size s a n c b m d):=by show NR _ _ _ _ _ _ _ _ _;unfold NR;rw[Below.heap_alloc _ _ _ (by simp)];exact heap_alloc_new w _
 have X2:Hid (NB ((w.alloc (.cells #[.bool s,.slice a n c,.slice b m d] 78)).alloc (.cells #[.bool false,.slice none 0 0,.slice none 0 0] 25)) (w.heap.size+1) false none 0 0 none 0 0):=by have:=heap_alloc_new (w.alloc (.cells #[.bool s,.slice a n c,.slice b m d] 78)) (.cells #[.bool false,.slice none 0 0,.slice none 0 0] 25);rwa[show(w.alloc (.cells #[.bool s,.slice a n c,.slice b m d] 78)).heap.size=w.heap.size+1 from by simp]at this
 have h2:=h.below B0.out;have N0:=h2.num;have D0:=h2.den;rw[hx]at N0 hl;rw[hy]at D0 hl;have P0:=hid (show HAt _ (Nh.aC x) a n c∧HAt _ (Nh.aC y) b m d from⟨N0,D0⟩);have HX:=hid hx;have HY:=hid hy;clear h h2 N0 D0 hx hy;go_enter func69,ntmps69;go_upto_region 1 with fail
 generalize (w.alloc (.cells #[.bool s,.slice a n c,.slice b m d] 78)).alloc (.cells #[.bool false,.slice none 0 0,.slice none 0 0] 25)=W0 at*;obtain⟨u0,u1,u2,_⟩:=X1.out.reads;go_cut [4] (fun v W=>∃g a2 n2 c2 a3 n3 c3,v= .pointer (some ⟨g,0,none⟩)∧MdP w x y s g a2 n2 c2 a3 n3 c3 W)
 case first=>
  have KP:=hid (fun(W:World) (hB:Below W0.heap.size W0 W)=>(show W.cell? ⟨w.heap.size,0,none⟩=some (.bool s)∧W.cell? ⟨w.heap.size,1,none⟩=some (.slice a n c)∧W.cell? ⟨w.heap.size,2,none⟩=some (.slice b m d) from⟨aj hB u0,aj hB u1,aj hB u2⟩));refine Rg.aH 10 [] (fun W=>W.cell? ⟨w.heap.size,0,none⟩=some (.bool s)∧W.cell? ⟨w.heap.size,1,none⟩=some (.slice a n c)∧W.cell? ⟨w.heap.size,2,none⟩=some (.slice b m d)) (by kernel_rfl) (by kernel_rfl) ?_ (fun hS ok inv=>?_)
  ·exact⟨u0,u1,u2⟩
  refine Rg.tk 0 rfl ok inv hS fun inv=>?_;refine Rg.tk 1 rfl ok inv hS fun inv=>?_;refine Rg.tk 2 rfl ok inv hS fun inv=>?_;refine Rg.tk 3 rfl ok inv hS fun inv=>?_;refine Rg.tk 5 rfl ok inv hS fun inv=>?_;refine Rg.tk 6 rfl ok inv hS fun inv=>?_;refine Rg.w2 4 9 rfl rfl inv (fun K' hK=>?_) fun K' hK=>?_
  ·(try simp only[zA,zB,zC]);go_simp;go_at_call 116;refine(kZ ((P0.out.1.below (Below.refl _ _).drew)) sz.1).mono ?_;rintro e w2 ⟨a2,n2,c2,rfl,L2,sW⟩;have B2:=aJ sW;have KS:=KP.out w2 B2;refine Rg.st hK ?_ fun hS inv=>?_
   ·exact KS
   clear hK K';refine Rg.w2 7 9 rfl rfl inv (fun K' hK=>?_) fun K' hK=>?_
   ·(try simp only[zA,zB,zC]);go_simp;go_at_call 116;refine(kZ (P0.out.2.below B2) sz.2).mono ?_;rintro e w3 ⟨a3,n3,c3,rfl,L3,B3⟩;have fC:=aB B2 B3;have Pv:=KP.out w3 fC;have L2:=L2.below B3;refine Rg.st hK ?_ fun hS inv=>?_
    ·exact Pv
    clear hK K';refine Rg.tk 8 rfl ok inv hS fun inv=>?_;refine Rg.w1 9 rfl inv fun K' hK=>?_;(try simp only[zA,zB,zC]);go_simp;refine Rg.st hK ?_ fun hS inv=>?_
    ·exact KP.out _ (aB fC (ah _ _))
    clear hK K';refine Rg.wl rfl ?_;go_simp;go_wp2_with fail;go_meet
    case rel=>exact⟨w3.heap.size,a2,n2,c2,a3,n3,c3,rfl,Rq X2.out B0.out S0.out fC L2 L3⟩
   (try simp only[zA,zB,zC]);go_simp;refine Rg.st hK ?_ fun hS inv=>?_
   ·exact KP.out _ (aB B2 (ah _ _))
   clear hK K';refine Rg.w1 7 rfl inv fun K' hK=>?_;(try simp only[zA,zB,zC]);go_simp;go_at_call 116;refine(kZ ((P0.out.2.below B2).below (ah _ _)) sz.2).mono ?_;rintro e w3 ⟨a3,n3,c3,rfl,L3,B3⟩;have XN:NB w3 w2.heap.size false none 0 0 none 0 0:=nR B3;have fC:=Below.over (aB B2 (ah _ _)) (Nat.le_trans B2.size (by simp)) B3;have Pv:=KP.out w3 fC;have L2:=(L2.below (ah _ _)).below B3;obtain⟨z0,z1,z2,f⟩:=XN.reads;have f0:=f 0;have f1:=f 1;have f2:=f 2;refine Rg.st hK ?_ fun hS inv=>?_
   ·exact Pv
   clear hK K';refine Rg.tk 8 rfl ok inv hS fun inv=>?_;refine Rg.wl rfl ?_;go_simp;go_wp2_with fail;go_meet
   case rel=>exact⟨w2.heap.size,a2,n2,c2,a3,n3,c3,rfl,DZ X2.out B0.out S0.out fC B2.size XN L2 L3⟩
  (try simp only[zA,zB,zC]);go_simp;refine Rg.st hK ?_ fun hS inv=>?_
  ·exact KP.out _ (aaE W0 _)
  clear hK K';refine Rg.w1 4 rfl inv fun K' hK=>?_;(try simp only[zA,zB,zC]);go_simp;go_at_call 116;refine(kZ (((P0.out.1.below (ah _ _)).below (Below.refl _ _).drew)) sz.1).mono ?_;rintro e w2 ⟨a2,n2,c2,rfl,L2,sW⟩;have XG:NB w2 W0.heap.size false none 0 0 none 0 0:=nR (aJ sW);have B2:Below W0.heap.size W0 w2:=Below.over (ah W0 _) (by simp) (aJ sW);have KS:=KP.out w2 B2;refine Rg.st hK ?_ fun hS inv=>?_
  ·exact KS
  clear hK K';refine Rg.w1 7 rfl inv fun K' hK=>?_;(try simp only[zA,zB,zC]);go_simp;go_at_call 116;refine(kZ (P0.out.2.below B2) sz.2).mono ?_;rintro e w3 ⟨a3,n3,c3,rfl,L3,B3⟩;have XN:=XG.later B3 XG.lt;have fC:=aB B2 B3;have Pv:=KP.out w3 fC;have L2:=L2.below B3;obtain⟨z0,z1,z2,f⟩:=XN.reads;have f0:=f 0;have f1:=f 1;have f2:=f 2;refine Rg.st hK ?_ fun hS inv=>?_
  ·exact Pv
  clear hK K';refine Rg.tk 8 rfl ok inv hS fun inv=>?_;refine Rg.wl rfl ?_;go_simp;go_wp2_with fail;go_meet
  case rel=>exact⟨W0.heap.size,a2,n2,c2,a3,n3,c3,rfl,DZ X2.out B0.out S0.out fC (Nat.le_refl _) XN L2 L3⟩
 obtain⟨g,a2,n2,c2,a3,n3,c3,rfl,hN,hL,hM,hZ,hB,hne⟩:=hcut;obtain⟨v0,v1,v2,_⟩:=hN.reads;obtain⟨z0,z1,z2,f⟩:=hZ.reads;have f0:=f 0;have f1:=f 1;have f2:=f 2;have Eh:=hZ.lt;have l1:n2≤128:=by rw[←hL.len];exact hl.1
 have l2:n3≤128:=by rw[←hM.len];exact hl.2
 have k1:(n2:Int)≤128:=by omega
 have k2:(n3:Int)≤128:=by omega
 have FIN:=hid (show RA (((wc.setCell ⟨w.heap.size+1,0,none⟩ (.bool s)).setCell ⟨w.heap.size+1,1,none⟩ (.slice a2 n2 c2)).setCell ⟨w.heap.size+1,2,none⟩ (.slice a3 n3 c3)) q ⟨s,a2,n2,c2,a3,n3,c3⟩ from
  ⟨SG.out,by rw[HX.out];exact hL.beside hZ (ay _ _ _ _ _),by rw[HY.out];exact hM.beside hZ (ay _ _ _ _ _)⟩)
 have BF:=hid (aG hB (w.heap.size+1) (by omega) (.bool s) (.slice a2 n2 c2) (.slice a3 n3 c3));clear hN hL hM hZ hB f l1 l2 hl sz u0 u1 u2;go_wp2_with fail;exact bodyPost_ret (v:= .tuple #[.agg #[.bool s,.slice a2 n2 c2,.slice a3 n3 c3],.int .i64 0]) (by simp[results,results69,go_sem,z0,z1,z2]) rfl ⟨⟨s,a2,n2,c2,a3,n3,c3⟩,rfl,FIN.out,BF.out⟩
theorem D6 (x:Nat)(hx:x<9223372036854775808)(w:World):Calls prog 74 #[.int .i64 (x:Int)] w (iC w (((x:Nat):Int):Rat)):=by
 have X0:Hid (NB (w.alloc (.cells #[.bool false,.slice none 0 0,.slice none 0 0] 25)) w.heap.size false none 0 0 none 0 0):=heap_alloc_new w _;have B0:Hid (Below w.heap.size w (w.alloc (.cells #[.bool false,.slice none 0 0,.slice none 0 0] 25))):=ah w _;have C1:=hid (KG x (by omega) (w.alloc (.cells #[.bool false,.slice none 0 0,.slice none 0 0] 25)));have e1:IntKind.u64.wrap (x:Int)=(x:Int):=by rw[IntKind.wrap_u64];omega
 have x0:(0:Int)≤(x:Int):=by omega
 obtain⟨q,hq⟩:∃q:Rat,(((x:Nat):Int):Rat)=q:=⟨_,rfl⟩;have Q1:Hid (q.num.natAbs=x∧q.den=1∧decide (q.num<0)=false):=by
  rw[←hq];refine⟨by simp,by simp,?_⟩;have:(((x:Nat):Int):Rat).num=(x:Int):=by simp
  rw[this];exact decide_eq_false (by omega)
 rw[hq];have xl:(aC x).length≤2:=bn (by omega);have XL:=hid xl;clear hq xl;go_enter func74,ntmps74;go_wp2_with fail;refine C1.out.mono ?_;rintro e w2 ⟨a2,n2,c2,rfl,L2,B2⟩;have n2b:n2≤1099511627776:=by have:=Nh.bn (n:=x) (k:=4) (by omega);rw[L2.len]at this;omega
 have C2:=hid (wO (q:=q) (neg:=false) L2 Q1.out.1 Q1.out.2.1 (by rw[Q1.out.2.2];rfl));have eX:=hid (aB B0.out B2);have X2:=hid (X0.out.later B2 X0.out.lt);clear L2 B2;go_wp2_with fail;refine C2.out.mono ?_;rintro e w3 ⟨s3,a3,n3,c3,b3,m3,d3,rfl,L3,B3⟩;have sz3:n3≤1099511627776∧m3≤1099511627776:=by
  refine⟨?_,?_⟩
  ·have:=Nh.bn (n:=x) (k:=4) (by omega);have h:=L3.num.len;rw[Q1.out.1]at h;omega
  have:=Nh.bn (n:=1) (k:=1) (by omega);have h:=L3.den.len;rw[Q1.out.2.1]at h;omega
 have C3:=hid (Rt L3 sz3 ⟨by rw[Q1.out.1];have:=XL.out;omega,by rw[Q1.out.2.1];have:=bn (n:=1) (k:=1) (by omega);omega⟩);have fC:=hid (aB eX.out B3);have X3:=hid (X2.out.later B3 X2.out.lt);clear L3 B3;go_wp2_with fail;refine C3.out.mono ?_;rintro e w4 ⟨N,rfl,L4,B4⟩;have zq:=hid (aB fC.out B4);have X4:=X3.out.later B4 X3.out.lt;obtain⟨z0,z1,z2,f⟩:=X4.reads;have f0:=f 0;have f1:=f 1;have f2:=f 2;have Eh:=X4.lt;have X4:=hid X4;have L4:=hid L4;clear f B4;go_wp2_with fail;exact bodyPost_ret (v:= .agg #[.bool N.s,.slice N.a N.n N.c,.slice N.b N.m N.d]) (by simp[results,results74,go_sem,z0,z1,z2,Eh]) rfl ⟨N.s,N.a,N.n,N.c,N.b,N.m,N.d,rfl,
  ⟨L4.out.sg,(L4.out.num.beside X4.out (ay _ _ _ _ _)).below (ah _ _),(L4.out.den.beside X4.out (ay _ _ _ _ _)).below (ah _ _)⟩,(aG zq.out _ (Nat.le_refl _) _ _ _).alloc (by have:=zq.out.size;simp;omega) _⟩
theorem sJ (x:Nat)(hx:x<9223372036854775808)(w:World):Calls prog 34 #[.int .i64 (x:Int)] w (iC w (((x:Nat):Int):Rat)):=by have X0:Hid (NB (w.alloc (.cells #[.bool false,.slice none 0 0,.slice none 0 0] 25)) w.heap.size false none 0 0 none 0 0):=heap_alloc_new w _;have B0:Hid (Below w.heap.size w (w.alloc (.cells #[.bool false,.slice none 0 0,.slice none 0 0] 25))):=ah w _;have C1:=hid (D6 x hx (w.alloc (.cells #[.bool false,.slice none 0 0,.slice none 0 0] 25)));obtain⟨q,hq⟩:∃q:Rat,(((x:Nat):Int):Rat)=q:=⟨_,rfl⟩;rw[hq]at C1⊢;clear hq;go_enter func34,ntmps34;go_wp2_with fail;refine C1.out.mono ?_;rintro e w2 ⟨s,a,n,c,b,m,d,rfl,L2,B2⟩;have X2:=X0.out.later B2 X0.out.lt;obtain⟨z0,z1,z2,f⟩:=X2.reads;have f0:=f 0;have f1:=f 1;have f2:=f 2;have Eh:=X2.lt;have X2:=hid X2;have L2:=hid L2;have eX:=hid (aB B0.out B2);clear f B2;go_wp2_with fail;exact bodyPost_ret (v:= .agg #[.bool s,.slice a n c,.slice b m d]) (by simp[results,results34,go_sem,z0,z1,z2]) rfl ⟨s,a,n,c,b,m,d,rfl,⟨L2.out.sg,L2.out.num.beside X2.out (ay _ _ _ _ _),L2.out.den.beside X2.out (ay _ _ _ _ _)⟩,aG eX.out _ (Nat.le_refl _) _ _ _⟩
def SnI (W0:World)(n:Nat)(v:Value)(wr:World):Prop:=∃i:Nat,i≤n∧v= .int .i64 (i:Int)∧Qt W0 wr
theorem same_eq {w:World}{q:Rat}{M N:Nw}(h:RA w q M)(h':RA w q N):
  Calls prog 33 #[.agg #[.bool M.s,.slice M.a M.n M.c,.slice M.b M.m M.d],.agg #[.bool N.s,.slice N.a N.n N.c,.slice N.b N.m N.d]] w fun e w'=>e= .returned (.bool true)∧Below w.heap.size w w':=by
 have sE:N.s=M.s:=by rw[h.sg,h'.sg]
 have nE:N.n=M.n:=by rw[←h.num.len,←h'.num.len]
 have mE:N.m=M.m:=by rw[←h.den.len,←h'.den.len]
 have k1:=h.num.le;have k2:=h.num.cap;have k3:=h.den.le;have k4:=h.den.cap;have k5:=h'.num.le;have k6:=h'.num.cap;have k7:=h'.den.le;have k8:=h'.den.cap;obtain⟨ms,ma,mn,mc,mb,mm,md⟩:=M;obtain⟨ns,na,nn,nc,nb,nm,nd⟩:=N;simp only at sE nE mE k1 k2 k3 k4 k5 k6 k7 k8;subst sE nE mE;have B0:Hid (Below w.heap.size w ((w.alloc (.cells #[.bool ns,.slice ma nn mc,.slice mb nm md] 25)).alloc (.cells #[.bool ns,.slice na nn nc,.slice nb nm nd] 25))):=(ah _ _).alloc (by simp) _;have X1:Hid (NB ((w.alloc (.cells #[.bool ns,.slice ma nn mc,.slice mb nm md] 25)).alloc (.cells #[.bool ns,.slice na nn nc,.slice nb nm nd] 25)) w.heap.size ns ma nn mc mb nm md):=by show NB _ _ _ _ _ _ _ _ _;unfold NB;rw[Below.heap_alloc _ _ _ (by simp)];exact heap_alloc_new w _
 have X2:Hid (NB ((w.alloc (.cells #[.bool ns,.slice ma nn mc,.slice mb nm md] 25)).alloc (.cells #[.bool ns,.slice na nn nc,.slice nb nm nd] 25)) (w.heap.size+1) ns na nn nc nb nm nd):=by have:=heap_alloc_new (w.alloc (.cells #[.bool ns,.slice ma nn mc,.slice mb nm md] 25)) (.cells #[.bool ns,.slice na nn nc,.slice nb nm nd] 25);rwa[show(w.alloc (.cells #[.bool ns,.slice ma nn mc,.slice mb nm md] 25)).heap.size=w.heap.size+1 from by simp]at this
 have P:=hid (RA.below (N:=⟨ns,ma,nn,mc,mb,nm,md⟩) h B0.out);have P':=hid (RA.below (N:=⟨ns,na,nn,nc,nb,nm,nd⟩) h' B0.out);clear h h';go_enter func33,ntmps33;go_upto_region 1 with fail
 generalize (w.alloc (.cells #[.bool ns,.slice ma nn mc,.slice mb nm md] 25)).alloc (.cells #[.bool ns,.slice na nn nc,.slice nb nm nd] 25)=W0 at*;obtain⟨u0,u1,u2,_⟩:=X1.out.reads;obtain⟨v0,v1,v2,_⟩:=X2.out.reads;go_wp2_with fail;go_loopw [5] (fun v wr=>SnI W0 nn v wr) (fun v _=>nn-(intOf v).toNat)
 case atStart=>exact⟨0,Nat.zero_le _,rfl,Qt.refl _⟩
 obtain⟨i,hi,rfl,hq⟩:=hrel;have QQ:=hid hq;clear u0 u1 u2 v0 v1 v2;have u0:=hq.cell X1.out.reads.1;have u1:=hq.cell X1.out.reads.2.1;have u2:=hq.cell X1.out.reads.2.2.1;have v0:=hq.cell X2.out.reads.1;have v1:=hq.cell X2.out.reads.2.1;have v2:=hq.cell X2.out.reads.2.2.1;clear hq;by_cases hlt:i<nn
 ·obtain⟨g,o,rfl,dd⟩:=P.out.num.at_ (by intro e;have:=P.out.num.len;rw[e]at this;simp at this;omega);obtain⟨g',o',rfl,dd'⟩:=P'.out.num.at_ (by intro e;have:=P'.out.num.len;rw[e]at this;simp at this;omega);have p:=QQ.out.cell (dd i (by rw[P.out.num.len];exact hlt));have p':=QQ.out.cell (dd' i (by rw[P'.out.num.len];exact hlt));obtain⟨x,hx⟩:∃x,(aC q.num.natAbs).getD i 0=x:=⟨_,rfl⟩;rw[hx]at p p';clear dd dd' hx;have i0:(0:Int)≤(i:Int):=by omega
  have i1:(i:Int)<(nn:Int):=by omega
  go_upto_region 6 with fail
  go_quiet (fail);go_wp2_with fail;go_roundw
  case rel=>exact⟨i+1,by omega,by go_num,QQ.out.drewN _⟩
  simp[intOf];omega
 obtain rfl:nn=i:=by omega
 go_wp2_with fail;have Q0:=QQ;clear QQ;go_loopw [6] (fun v wr=>SnI W0 nm v wr) (fun v _=>nm-(intOf v).toNat)
 case atStart=>exact⟨0,Nat.zero_le _,rfl,Q0.out⟩
 obtain⟨i,hi,rfl,hq⟩:=hrel;have QQ:=hid hq;clear u0 u1 u2 v0 v1 v2;have u0:=hq.cell X1.out.reads.1;have u1:=hq.cell X1.out.reads.2.1;have u2:=hq.cell X1.out.reads.2.2.1;have v0:=hq.cell X2.out.reads.1;have v1:=hq.cell X2.out.reads.2.1;have v2:=hq.cell X2.out.reads.2.2.1;clear hq;by_cases hlt:i<nm
 ·obtain⟨g,o,rfl,dd⟩:=P.out.den.at_ (by intro e;have:=P.out.den.len;rw[e]at this;simp at this;omega);obtain⟨g',o',rfl,dd'⟩:=P'.out.den.at_ (by intro e;have:=P'.out.den.len;rw[e]at this;simp at this;omega);have p:=QQ.out.cell (dd i (by rw[P.out.den.len];exact hlt));have p':=QQ.out.cell (dd' i (by rw[P'.out.den.len];exact hlt));obtain⟨x,hx⟩:∃x,(aC q.den).getD i 0=x:=⟨_,rfl⟩;rw[hx]at p p';clear dd dd' hx;have i0:(0:Int)≤(i:Int):=by omega
  have i1:(i:Int)<(nm:Int):=by omega
  go_upto_region 11 with fail
  go_quiet (fail);go_wp2_with fail;go_roundw
  case rel=>exact⟨i+1,by omega,by go_num,QQ.out.drewN _⟩
  simp[intOf];omega
 obtain rfl:nm=i:=by omega
 go_wp2_with fail;go_ret;exact⟨rfl,aB B0.out QQ.out.below⟩
theorem jA {w:World}{q:Rat}{M:Nw}(h:RA w q M)(sz:M.n≤1099511627776∧M.m≤1099511627776):
  Calls prog 80 #[.agg #[.bool M.s,.slice M.a M.n M.c,.slice M.b M.m M.d]] w (iC w q):=by
 have B0:Hid (Below w.heap.size w ((w.alloc (.cells #[.bool M.s,.slice M.a M.n M.c,.slice M.b M.m M.d] 25)).alloc (.cells #[.bool false,.slice none 0 0,.slice none 0 0] 25))):=(ah _ _).alloc (by simp) _;have X1:Hid (NQ ((w.alloc (.cells #[.bool M.s,.slice M.a M.n M.c,.slice M.b M.m M.d] 25)).alloc (.cells #[.bool false,.slice none 0 0,.slice none 0 0] 25)) w.heap.size M):=by show NQ _ _ _;unfold NQ;rw[Below.heap_alloc _ _ _ (by simp)];exact heap_alloc_new w _
 have X2:Hid (NB ((w.alloc (.cells #[.bool M.s,.slice M.a M.n M.c,.slice M.b M.m M.d] 25)).alloc (.cells #[.bool false,.slice none 0 0,.slice none 0 0] 25)) (w.heap.size+1) false none 0 0 none 0 0):=by have:=heap_alloc_new (w.alloc (.cells #[.bool M.s,.slice M.a M.n M.c,.slice M.b M.m M.d] 25)) (.cells #[.bool false,.slice none 0 0,.slice none 0 0] 25);rwa[show(w.alloc (.cells #[.bool M.s,.slice M.a M.n M.c,.slice M.b M.m M.d] 25)).heap.size=w.heap.size+1 from by simp]at this
 have P0:Hid (aO _ q M.s M.a M.n M.c M.b M.m M.d):=aO.below h B0.out;clear h;go_enter func80,ntmps80;go_upto_region 1 with fail
 generalize (w.alloc (.cells #[.bool M.s,.slice M.a M.n M.c,.slice M.b M.m M.d] 25)).alloc (.cells #[.bool false,.slice none 0 0,.slice none 0 0] 25)=W0 at*;obtain⟨u0,u1,u2,_⟩:=X1.out.reads;have KP:=hid (fun(W:World) (hB:Below W0.heap.size W0 W)=>(show W.cell? ⟨w.heap.size,0,none⟩=some (.bool M.s)∧W.cell? ⟨w.heap.size,1,none⟩=some (.slice M.a M.n M.c)∧W.cell? ⟨w.heap.size,2,none⟩=some (.slice M.b M.m M.d) from⟨aj hB u0,aj hB u1,aj hB u2⟩));refine Rg.aH 7 [] (fun W=>W.cell? ⟨w.heap.size,0,none⟩=some (.bool M.s)∧W.cell? ⟨w.heap.size,1,none⟩=some (.slice M.a M.n M.c)∧W.cell? ⟨w.heap.size,2,none⟩=some (.slice M.b M.m M.d)) (by kernel_rfl) (by kernel_rfl) ?_ (fun hS ok inv=>?_)
 ·exact⟨u0,u1,u2⟩
 refine Rg.tk 0 rfl ok inv hS fun inv=>?_;refine Rg.tk 1 rfl ok inv hS fun inv=>?_;refine Rg.tk 3 rfl ok inv hS fun inv=>?_;refine Rg.tk 4 rfl ok inv hS fun inv=>?_;refine Rg.w1 2 rfl inv fun K' hK=>?_;go_simp;go_at_call 124;refine(clone_any (P0.out.num.below (Below.refl _ _).drew) sz.1).mono ?_;rintro e w2 ⟨a2,c2,rfl,L2,sW,_⟩;have B2:=aJ sW;have KS:=KP.out w2 B2;refine Rg.st hK ?_ fun hS inv=>?_
 ·exact KS
 clear hK K';refine Rg.tk 6 rfl ok inv hS fun inv=>?_;refine Rg.w1 5 rfl inv fun K' hK=>?_;go_simp;go_at_call 124;refine(clone_any (P0.out.den.below B2) sz.2).mono ?_;rintro e w3 ⟨a3,c3,rfl,L3,B3,_⟩;have fC:=aB B2 B3;have KS:=KP.out w3 fC;have L2:=L2.below B3;have X3:=X1.out.later fC X1.out.lt;obtain⟨y0,y1,y2,g⟩:=X3.reads;have g1:=g 1;have g2:=g 2;refine Rg.st hK ?_ fun hS inv=>?_
 ·exact KS
 clear hK K';refine Rg.wt 7 rfl fun K' hK=>?_;(try simp only[zA,zB,zC]);go_simp;refine hK.out _ _ ?_;clear hK K';try simp only[Act.put,zA,zB,zC,zD,zE,zF]
 refine Rg.wt 8 rfl fun K' hK=>?_;(try simp only[zA,zB,zC]);go_simp;refine hK.out _ _ ?_;clear hK K';try simp only[Act.put,zA,zB,zC,zD,zE,zF]
 refine Rg.wt 9 rfl fun K' hK=>?_;(try simp only[zA,zB,zC]);go_simp;refine hK.out _ _ ?_;clear hK K';try simp only[Act.put,zA,zB,zC,zD,zE,zF]
 refine Rg.vY (by kernel_rfl) ?_;have XA:NB ((w3.setCell ⟨w.heap.size,1,none⟩ (.slice a2 M.n c2)).setCell ⟨w.heap.size,2,none⟩ (.slice a3 M.m c3)) w.heap.size M.s a2 M.n c2 a3 M.m c3:=by have e1:=heap_setCell_same w3 w.heap.size 1 _ _ (.slice a2 M.n c2) X3;exact heap_setCell_same _ w.heap.size 2 _ _ (.slice a3 M.m c3) e1
 have XO:∀k,k≠w.heap.size→((w3.setCell ⟨w.heap.size,1,none⟩ (.slice a2 M.n c2)).setCell ⟨w.heap.size,2,none⟩ (.slice a3 M.m c3)).heap[k]? =w3.heap[k]?:=fun k hk=>by rw[heap_setCell_other _ _ _ _ hk,heap_setCell_other _ _ _ _ hk]
 have XB:NB ((w3.setCell ⟨w.heap.size,1,none⟩ (.slice a2 M.n c2)).setCell ⟨w.heap.size,2,none⟩ (.slice a3 M.m c3)) (w.heap.size+1) false none 0 0 none 0 0:=(XO _ (by omega)).trans (X2.out.later fC X2.out.lt);have LA:=L2.beside X3 XO;have LB:=L3.beside X3 XO;have BB:Below w.heap.size w ((w3.setCell ⟨w.heap.size,1,none⟩ (.slice a2 M.n c2)).setCell ⟨w.heap.size,2,none⟩ (.slice a3 M.m c3)):=((aB B0.out fC).setCell (Nat.le_refl _) _).setCell (Nat.le_refl _) _;clear u0 u1 u2 y0 y1 y2 g g1 g2 inv ok hS fC B2 B3 sW L2 L3 X3;generalize (w3.setCell ⟨w.heap.size,1,none⟩ (.slice a2 M.n c2)).setCell ⟨w.heap.size,2,none⟩ (.slice a3 M.m c3)=W4 at*;obtain⟨x0,x1,x2,_⟩:=XA.reads;obtain⟨z0,z1,z2,f⟩:=XB.reads;have f0:=f 0;have f1:=f 1;have f2:=f 2;have Eh:=XB.lt;have XB:=hid XB;have LA:=hid LA;have LB:=hid LB;have BB:=hid BB;clear f XA XO;go_wp2_with fail;exact bodyPost_ret (v:= .agg #[.bool M.s,.slice a2 M.n c2,.slice a3 M.m c3]) (by simp[results,results80,go_sem,z0,z1,z2]) rfl ⟨M.s,a2,M.n,c2,a3,M.m,c3,rfl,⟨P0.out.sg,LA.out.beside XB.out (ay _ _ _ _ _),LB.out.beside XB.out (ay _ _ _ _ _)⟩,aG BB.out _ (by omega) _ _ _⟩
end Go.Proofs.YtijdglogadnbcaaGreat
