/- solve.kind; a region and two ifs of system.between. Printed by genUf.py. -/
import Derived.Test.YtijdglogadnbcaaGreatY37
set_option linter.unusedVariables false
set_option linter.unusedSimpArgs false
set_option maxRecDepth 100000
set_option maxHeartbeats 40000000
namespace Go.Proofs.YtijdglogadnbcaaGreat
open Go.Proofs.Tryz
open Go.RowKit Nt Bl
def gQ (is b:Bool):Int:=if is then(if b then 1 else 2)else 0
theorem yK (is b:Bool)(w:World):Calls prog 112 #[.bool is,.bool b] w fun e w'=>e= .returned (.int .i64 (gQ is b))∧w=w':=by
 cases is<;>cases b
 all_goals
  go_enter func112,ntmps112
  go_wp2_with fail
  go_ret
  exact⟨rfl,rfl⟩
def zX (w:World)(u:Option (Rat×Bool))(is b:Bool)(M:Nw):Prop:=
 (is=false∧b=false∧u=none∧M=Nw.zero)∨(is=true∧∃a,u=some (a,b)∧RA w a M∧Sz a 1048576)
theorem zX.limb {w w':World}{u:Option (Rat×Bool)}{is b:Bool}{M:Nw}(h:zX w u is b M)(hl:aQ w w'):zX w' u is b M:=by
 rcases h with h | ⟨h,a,h1,h2,h3⟩
 ·exact Or.inl h
 exact Or.inr ⟨h,a,h1,h2.limb hl,h3⟩
def zY (w:World)(f:Rat→Rat)(u:Option (Rat×Bool))(M:Nw):Prop:=match u with
 | none=>M=Nw.zero
 | some (a,_)=>RA w (f a) M
theorem zY.limb {w w':World}{f:Rat→Rat}{u:Option (Rat×Bool)}{M:Nw}(h:zY w f u M)(hl:aQ w w'):zY w' f u M:=by
 cases u with
 | none=>exact h
 | some p=>exact RA.limb (q:=f p.1) h hl
def lC:Option (Rat×Bool)→Int
 | none=>0
 | some (_,b)=>if b then 1 else 2
theorem zX.kind {w:World}{u:Option (Rat×Bool)}{is b:Bool}{M:Nw}(h:zX w u is b M):gQ is b=lC u:=by rcases h with⟨rfl,rfl,rfl,_⟩ | ⟨rfl,a,rfl,_⟩<;>rfl
theorem qR {w:World}{rows:List Rl}{ra:Option Addr}{rc n m k:Nat}{gl:List (Nat×Rat)}{ga:Option Addr}{gc:Nat}(h:qQ w rows ra n m gl ga gc)(hx:∃x,qj (dP rows) n x)(hk:gl.length=k):
  Calls prog 77 #[.slice ra m rc,.int .i64 (n:Int),.slice ga k gc] w fun e w'=>∃u is b M v,jf (qj (dP rows) n) (val n (fA gl)) u∧zX w' u is b M∧
   e= .returned (.tuple #[.agg #[.bool M.s,.slice M.a M.n M.c,.slice M.b M.m M.d],.bool is,.bool b,v])∧Below w.heap.size w w':=by
 rw[←hk];refine(VD h hx).mono ?_;rintro e w' ⟨hb,u,hs,⟨rfl,rfl⟩ | ⟨a,b,M,v,rfl,rfl,hM,sz⟩⟩
 ·exact⟨_,false,false,Nw.zero,_,hs,Or.inl ⟨rfl,rfl,rfl,rfl⟩,rfl,hb⟩
 exact⟨_,true,b,M,v,hs,Or.inr ⟨rfl,a,rfl,hM,sz⟩,rfl,hb⟩
theorem Ag.neg {q:Rat}(h:Ag q):Ag (-q):=by unfold Ag at h⊢;rw[Rat.neg_num,Rat.neg_den,Int.natAbs_neg];exact h
theorem jk.neg {n:Nat}{l:List (Nat×Rat)}(h:jk n l):jk n (negC l):=by refine⟨by rw[jL];exact h.len,fun i hi=>?_⟩;rw[jL]at hi;rw[D7 hi];exact⟨(h.at_ i hi).1,(h.at_ i hi).2.neg⟩
theorem qQ.neg {w w':World}{rows:List Rl}{ra a:Option Addr}{n m k:Nat}{gl:List (Nat×Rat)}{ga:Option Addr}{gc:Nat}(h:qQ w rows ra n m gl ga gc)(hk:gl.length=k)(hb:Below w.heap.size w w')(hq:iE w' (negC gl) a):qQ w' rows ra n m (negC gl) a k:=
 ⟨h.hr.below hb,h.hm,hq,⟨by rw[jL];omega,by have:=h.hgc;omega⟩,h.hn,h.zT,h.good,h.goal.neg⟩
theorem qQ.below {w w':World}{rows:List Rl}{ra:Option Addr}{n m:Nat}{gl:List (Nat×Rat)}{ga:Option Addr}{gc:Nat}(h:qQ w rows ra n m gl ga gc)(hb:Below w.heap.size w w'):qQ w' rows ra n m gl ga gc:=
 ⟨h.hr.below hb,h.hm,h.hg.below hb,h.hgc,h.hn,h.zT,h.good,h.goal⟩
def jM (w:World)(g:Nat)(l h:Int)(L H:Nw):Prop:=w.heap[g]? =some (.cells #[.int .i64 l,.int .i64 h,.bool L.s,.slice L.a L.n L.c,.slice L.b L.m L.d,.bool H.s,.slice H.a H.n H.c,.slice H.b H.m H.d] 42 (0,0))
section
variable {w w':World} {g:Nat} {l h:Int} {L H:Nw}
theorem jM.lt (x:jM w g l h L H):g<w.heap.size:=(Array.getElem?_eq_some_iff.1 x).1
theorem jM.below (x:jM w g l h L H)(hb:Below w.heap.size w w'):jM w' g l h L H:=(hb.block g x.lt).trans x
theorem jM.keep (x:jM w g l h L H)(e:w'.heap[g]? =w.heap[g]?):jM w' g l h L H:=e.trans x
theorem jM.reads (x:jM w g l h L H):w.cell? ⟨g,0,none⟩=some (.int .i64 l)∧w.cell? ⟨g,1,none⟩=some (.int .i64 h)∧w.cell? ⟨g,2,none⟩=some (.bool L.s)∧w.cell? ⟨g,3,none⟩=some (.slice L.a L.n L.c)∧w.cell? ⟨g,4,none⟩=some (.slice L.b L.m L.d)∧
  w.cell? ⟨g,5,none⟩=some (.bool H.s)∧w.cell? ⟨g,6,none⟩=some (.slice H.a H.n H.c)∧w.cell? ⟨g,7,none⟩=some (.slice H.b H.m H.d):=by
 refine⟨?_,?_,?_,?_,?_,?_,?_,?_⟩
 ·rw[cell_of_row w g 0 _ _ _ x];rfl
 ·rw[cell_of_row w g 1 _ _ _ x];rfl
 ·rw[cell_of_row w g 2 _ _ _ x];rfl
 ·rw[cell_of_row w g 3 _ _ _ x];rfl
 ·rw[cell_of_row w g 4 _ _ _ x];rfl
 ·rw[cell_of_row w g 5 _ _ _ x];rfl
 ·rw[cell_of_row w g 6 _ _ _ x];rfl
 rw[cell_of_row w g 7 _ _ _ x];rfl
theorem jM.free (x:jM w g l h L H)(i:Nat):w.frozen? ⟨g,i,none⟩=false:=by unfold jM at x;simp[World.frozen?,x]
theorem jM.nou (x:jM w g l h L H):∀o z,w.cell? ⟨g,o,none⟩≠some (.int .u32 z):=fun o z e=>by rw[cell_of_row w g o _ _ _ x]at e;rcases o with _ | _ | _ | _ | _ | _ | _ | _ | o<;>simp at e
theorem jM.limb (x:jM w g l h L H)(e:∀b,b≠g→w'.heap[b]? =w.heap[b]?):aQ w w':=mg e x.nou
theorem jM.set0 (x:jM w g l h L H)(k:Int):jM (w.setCell ⟨g,0,none⟩ (.int .i64 k)) g k h L H:=by unfold jM at x⊢;simp[World.setCell,Array.getElem?_modify,x]
theorem jM.set1 (x:jM w g l h L H)(k:Int):jM (w.setCell ⟨g,1,none⟩ (.int .i64 k)) g l k L H:=by unfold jM at x⊢;simp[World.setCell,Array.getElem?_modify,x]
theorem jM.acy (x:jM w g l h L H)(M:Nw):jM (((w.setCell ⟨g,2,none⟩ (.bool M.s)).setCell ⟨g,3,none⟩ (.slice M.a M.n M.c)).setCell ⟨g,4,none⟩ (.slice M.b M.m M.d)) g l h M H:=by unfold jM at x⊢;simp[World.setCell,Array.getElem?_modify,x]
theorem jM.setH (x:jM w g l h L H)(M:Nw):jM (((w.setCell ⟨g,5,none⟩ (.bool M.s)).setCell ⟨g,6,none⟩ (.slice M.a M.n M.c)).setCell ⟨g,7,none⟩ (.slice M.b M.m M.d)) g l h L M:=by unfold jM at x⊢;simp[World.setCell,Array.getElem?_modify,x]
theorem Xz {i j k:Nat}(x y z:Value):∀b,b≠g→(((w.setCell ⟨g,i,none⟩ x).setCell ⟨g,j,none⟩ y).setCell ⟨g,k,none⟩ z).heap[b]? =w.heap[b]?:=fun b hb=>by rw[heap_setCell_other _ _ _ _ hb,heap_setCell_other _ _ _ _ hb,heap_setCell_other _ _ _ _ hb]
theorem qU {k0 i j k:Nat}{w1:World}(hb:Below k0 w w1)(hg:k0≤g)(x y z:Value):Below k0 w (((w1.setCell ⟨g,i,none⟩ x).setCell ⟨g,j,none⟩ y).setCell ⟨g,k,none⟩ z):=
 ((hb.setCell hg _).setCell hg _).setCell hg _
end
theorem abC {W:World}{rows:List Rl}{ra ga:Option Addr}{rc n m k gc g2:Nat}{gl:List (Nat×Rat)}(p1_:W.cell? ⟨g2,1,none⟩=some (.slice ra m rc))(p0_:W.cell? ⟨g2,0,none⟩=some (.int .i64 (n:Int)))
  (h:qQ W rows ra n m gl ga gc)(hx:∃x,qj (dP rows) n x)(hk:gl.length=k)
  {K:Act→World→Prop}{u0 u3 u4 u5 u6 u7 u8 u9 u10 u11 u12 u13 u14 u15 u16 u17 u18 u19 u20 u21 u22 u23 u24 u25 u26 u27 u28 u29 u30 u31 u32 u33 u34 u35 u36 u37 u38 u39 u40 u41 u42 u43 u44 u45 u46 u47 u48 u49 u50 u51 u52:Value}
  (hK:∀(u:Option (Rat×Bool)) (is b:Bool) (M:Nw) (v:Value) (g10:Nat) (x31 x32 x33 x34 x35 x36 x37 x38 x39 x40 x41 x42:Value) (W':World),jf (qj (dP rows) n) (val n (fA (negC gl))) u→zX W' u is b M→NQ W' g10 M→W.heap.size≤g10→Below W.heap.size W W'→K ⟨#[u0,.slice ga k gc,.pointer (some ⟨g2,0,none⟩),u3,u4,u5,u6,.bool is,.bool b,u9,.pointer (some ⟨g10,0,none⟩),v,u12,u13,u14,u15,u16,u17,u18,u19,u20,u21,u22,u23,u24,u25,u26,u27,u28,u29,u30,x31,x32,x33,x34,x35,x36,x37,x38,x39,x40,x41,x42,u43,u44,u45,u46,u47,u48,u49,u50,u51,u52],[]⟩ W'):
  (iI f57 6).wp prog (Only K) ⟨#[u0,.slice ga k gc,.pointer (some ⟨g2,0,none⟩),u3,u4,u5,u6,u7,u8,u9,u10,u11,u12,u13,u14,u15,u16,u17,u18,u19,u20,u21,u22,u23,u24,u25,u26,u27,u28,u29,u30,u31,u32,u33,u34,u35,u36,u37,u38,u39,u40,u41,u42,u43,u44,u45,u46,u47,u48,u49,u50,u51,u52],[]⟩ W:=by
 rw[show iI f57 6=_ from by(simp only[iI,f57,iU,Nat.reduceEqDiff,if_true,if_false,Option.getD];rfl)];have dO:=hK;clear hK;have k8:k≤8:=by rw[←hk];exact h.goal.len
 have kc:=h.hgc;rw[hk]at kc;have KP:=hid (fun(W':World) (hB:Below W.heap.size W W')=>(show W'.cell? ⟨g2,1,none⟩=some (.slice ra m rc)∧W'.cell? ⟨g2,0,none⟩=some (.int .i64 (n:Int)) from⟨aj hB p1_,aj hB p0_⟩));refine Rg.aH 16 [] (fun W'=>W'.cell? ⟨g2,1,none⟩=some (.slice ra m rc)∧W'.cell? ⟨g2,0,none⟩=some (.int .i64 (n:Int))) (by kernel_rfl) (by kernel_rfl) ?_ (fun hS ok inv=>?_)
 ·exact⟨p1_,p0_⟩
 refine Rg.tk 0 rfl ok inv hS fun inv=>?_;refine Rg.tk 1 rfl ok inv hS fun inv=>?_;refine Rg.tk 2 rfl ok inv hS fun inv=>?_;refine Rg.tk 3 rfl ok inv hS fun inv=>?_;refine Rg.tk 4 rfl ok inv hS fun inv=>?_;have BC:Below W.heap.size W W.drew:=(Below.refl _ _).drew;generalize W.drew=c0 at*;refine Rg.w2 5 12 rfl rfl inv (fun K' hK=>?_) fun K' hK=>?_
 ·(try simp only[zA,zB,zC]);go_simp;go_at_call 76;refine(wP (iE.below h.hg BC) hk ⟨by omega,by omega⟩ (by omega)).mono ?_;rintro e w6 ⟨oC,rfl,QT,B⟩;have BC:=aB BC B;have KS:=KP.out w6 BC;refine Rg.st hK ?_ fun hS inv=>?_
  ·exact KS
  clear hK K';refine Rg.w2 6 12 rfl rfl inv (fun K' hK=>?_) fun K' hK=>?_
  ·(try simp only[zA,zB,zC]);go_simp;go_at_call 77;refine(qR (k:=k) (h.neg hk BC QT) hx (by rw[jL];exact hk)).mono ?_;rintro e w7 ⟨u,is,b,M,v,HU,HE,rfl,B⟩;have HU:=hid HU;have BC:=aB BC B;have KS:=KP.out w7 BC;refine Rg.st hK ?_ fun hS inv=>?_
   ·exact KS
   clear hK K';refine Rg.tk 7 rfl ok inv hS fun inv=>?_;refine Rg.tk 8 rfl ok inv hS fun inv=>?_;refine Rg.tk 9 rfl ok inv hS fun inv=>?_;refine Rg.tk 10 rfl ok inv hS fun inv=>?_;refine Rg.tk 11 rfl ok inv hS fun inv=>?_;refine Rg.w1 12 rfl inv fun K' hK=>?_;have BN:Below W.heap.size W (w7.alloc (.cells #[.bool false,.slice none 0 0,.slice none 0 0] 25)):=aB BC (ah _ _);(try simp only[zA,zB,zC]);go_simp;refine Rg.st hK ?_ fun hS inv=>?_
   ·exact KP.out _ BN
   clear hK K';have GE:Hid (W.heap.size≤w7.heap.size):=BC.size;have XG:NQ (w7.alloc (.cells #[.bool false,.slice none 0 0,.slice none 0 0] 25)) w7.heap.size Nw.zero:=heap_alloc_new _ _;have HE:=HE.limb (aQ.of_below (ah w7 (.cells #[.bool false,.slice none 0 0,.slice none 0 0] 25)));have BC:=BN;generalize hq:w7.alloc (.cells #[.bool false,.slice none 0 0,.slice none 0 0] 25)=a9 at*;generalize w7.heap.size=J8 at*;clear hq;obtain⟨cz0,cz1,cz2,fz⟩:=XG.reads;have fz0:=fz 0;have iD:=fz 1;have jh:=fz 2;clear fz;have XF:=XG.gy M;have LF:=XG.oH M;have BF:=qU (i:=0) (j:=1) (k:=2) BC GE.out (.bool M.s) (.slice M.a M.n M.c) (.slice M.b M.m M.d);have HF:=HE.limb LF;have XG:=hid XG;have KF:=KP.out _ BF;have XF:=hid XF;have LF:=hid LF;have BF:=hid BF;have HF:=hid HF;have KF:=hid KF;refine Rg.w1 13 rfl inv fun K' hK=>?_;(try simp only[zA,zB,zC]);go_simp;refine Rg.st hK ?_ fun hS inv=>?_
   ·exact KF.out
   clear hK K';refine Rg.y1 14 rfl inv hS fun inv=>?_;refine Rg.y1 15 rfl inv hS fun inv=>?_;refine Rg.wl rfl ?_;go_simp;exact dO u is b M _ J8 _ _ _ _ _ _ _ _ _ _ _ _ _ HU.out HF.out XF.out GE.out BF.out
  have BN:Below W.heap.size W (w6.alloc (.cells #[.bool false,.slice none 0 0,.slice none 0 0] 25)):=aB BC (ah _ _);(try simp only[zA,zB,zC]);go_simp;refine Rg.st hK ?_ fun hS inv=>?_
  ·exact KP.out _ BN
  clear hK K';have GE:Hid (W.heap.size≤w6.heap.size):=BC.size;have XG:NQ (w6.alloc (.cells #[.bool false,.slice none 0 0,.slice none 0 0] 25)) w6.heap.size Nw.zero:=heap_alloc_new _ _;have QT:=QT.below (ah w6 (.cells #[.bool false,.slice none 0 0,.slice none 0 0] 25));have BC:=BN;generalize hq:w6.alloc (.cells #[.bool false,.slice none 0 0,.slice none 0 0] 25)=a1 at*;generalize w6.heap.size=J8 at*;clear hq;refine Rg.w1 6 rfl inv fun K' hK=>?_;(try simp only[zA,zB,zC]);go_simp;go_at_call 77;refine(qR (k:=k) (h.neg hk BC QT) hx (by rw[jL];exact hk)).mono ?_;rintro e w7 ⟨u,is,b,M,v,HU,HE,rfl,B⟩;have HU:=hid HU;have XG:=XG.later B XG.lt;have BC:=aB BC B;have KS:=KP.out w7 BC;refine Rg.st hK ?_ fun hS inv=>?_
  ·exact KS
  clear hK K';refine Rg.tk 7 rfl ok inv hS fun inv=>?_;refine Rg.tk 8 rfl ok inv hS fun inv=>?_;refine Rg.tk 9 rfl ok inv hS fun inv=>?_;refine Rg.tk 10 rfl ok inv hS fun inv=>?_;refine Rg.tk 11 rfl ok inv hS fun inv=>?_;obtain⟨cz0,cz1,cz2,fz⟩:=XG.reads;have fz0:=fz 0;have iD:=fz 1;have jh:=fz 2;clear fz;have XF:=XG.gy M;have LF:=XG.oH M;have BF:=qU (i:=0) (j:=1) (k:=2) BC GE.out (.bool M.s) (.slice M.a M.n M.c) (.slice M.b M.m M.d);have HF:=HE.limb LF;have XG:=hid XG;have KF:=KP.out _ BF;have XF:=hid XF;have LF:=hid LF;have BF:=hid BF;have HF:=hid HF;have KF:=hid KF;refine Rg.w1 13 rfl inv fun K' hK=>?_;(try simp only[zA,zB,zC]);go_simp;refine Rg.st hK ?_ fun hS inv=>?_
  ·exact KF.out
  clear hK K';refine Rg.y1 14 rfl inv hS fun inv=>?_;refine Rg.y1 15 rfl inv hS fun inv=>?_;refine Rg.wl rfl ?_;go_simp;exact dO u is b M _ J8 _ _ _ _ _ _ _ _ _ _ _ _ _ HU.out HF.out XF.out GE.out BF.out
 have BN:Below W.heap.size W (c0.alloc (.cells #[.bool false,.slice none 0 0,.slice none 0 0] 25)):=aB BC (ah _ _);(try simp only[zA,zB,zC]);go_simp;refine Rg.st hK ?_ fun hS inv=>?_
 ·exact KP.out _ BN
 clear hK K';have GE:Hid (W.heap.size≤c0.heap.size):=BC.size;have XG:NQ (c0.alloc (.cells #[.bool false,.slice none 0 0,.slice none 0 0] 25)) c0.heap.size Nw.zero:=heap_alloc_new _ _;have BC:=BN;generalize hq:c0.alloc (.cells #[.bool false,.slice none 0 0,.slice none 0 0] 25)=a0 at*;generalize c0.heap.size=J8 at*;clear hq;refine Rg.w1 5 rfl inv fun K' hK=>?_;(try simp only[zA,zB,zC]);go_simp;go_at_call 76;refine(wP (iE.below h.hg BC) hk ⟨by omega,by omega⟩ (by omega)).mono ?_;rintro e w6 ⟨oC,rfl,QT,B⟩;have XG:=XG.later B XG.lt;have BC:=aB BC B;have KS:=KP.out w6 BC;refine Rg.st hK ?_ fun hS inv=>?_
 ·exact KS
 clear hK K';refine Rg.w1 6 rfl inv fun K' hK=>?_;(try simp only[zA,zB,zC]);go_simp;go_at_call 77;refine(qR (k:=k) (h.neg hk BC QT) hx (by rw[jL];exact hk)).mono ?_;rintro e w7 ⟨u,is,b,M,v,HU,HE,rfl,B⟩;have HU:=hid HU;have XG:=XG.later B XG.lt;have BC:=aB BC B;have KS:=KP.out w7 BC;refine Rg.st hK ?_ fun hS inv=>?_
 ·exact KS
 clear hK K';refine Rg.tk 7 rfl ok inv hS fun inv=>?_;refine Rg.tk 8 rfl ok inv hS fun inv=>?_;refine Rg.tk 9 rfl ok inv hS fun inv=>?_;refine Rg.tk 10 rfl ok inv hS fun inv=>?_;refine Rg.tk 11 rfl ok inv hS fun inv=>?_;obtain⟨cz0,cz1,cz2,fz⟩:=XG.reads;have fz0:=fz 0;have iD:=fz 1;have jh:=fz 2;clear fz;have XF:=XG.gy M;have LF:=XG.oH M;have BF:=qU (i:=0) (j:=1) (k:=2) BC GE.out (.bool M.s) (.slice M.a M.n M.c) (.slice M.b M.m M.d);have HF:=HE.limb LF;have XG:=hid XG;have KF:=KP.out _ BF;have XF:=hid XF;have LF:=hid LF;have BF:=hid BF;have HF:=hid HF;have KF:=hid KF;refine Rg.w1 13 rfl inv fun K' hK=>?_;(try simp only[zA,zB,zC]);go_simp;refine Rg.st hK ?_ fun hS inv=>?_
 ·exact KF.out
 clear hK K';refine Rg.y1 14 rfl inv hS fun inv=>?_;refine Rg.y1 15 rfl inv hS fun inv=>?_;refine Rg.wl rfl ?_;go_simp;exact dO u is b M _ J8 _ _ _ _ _ _ _ _ _ _ _ _ _ HU.out HF.out XF.out GE.out BF.out
theorem ZI {W:World}{g5 g6:Nat}{is b:Bool}{lo hi:Int}{Lo Hi M:Nw}{u:Option (Rat×Bool)}(X:jM W g5 lo hi Lo Hi)(Y:NQ W g6 M)(hE:zX W u is b M)(h0:Hi=Nw.zero)
  {K:Act→World→Prop}{u0 u1 u2 u3 u4 u7 u8 u9 u10 u11 u12 u13 u14 u15 u16 u17 u18 u19 u20 u21 u22 u23 u24 u25 u26 u28 u29 u30 u31 u32 u33 u34 u35 u36 u37 u38 u39 u40 u41 u42 u43 u44 u45 u46 u47 u48 u49 u50 u51 u52:Value}
  (hK:∀(N:Nw) (x28 x29 x30:Value) (W':World),jM W' g5 lo hi Lo N→zY W' (fun q=>q) u N→Below g5 W W'→aQ W W'→K ⟨#[u0,u1,u2,u3,u4,.pointer (some ⟨g5,0,none⟩),.pointer (some ⟨g6,0,none⟩),u7,u8,u9,u10,u11,u12,u13,u14,u15,u16,u17,u18,u19,u20,u21,u22,u23,u24,u25,u26,.bool is,x28,x29,x30,u31,u32,u33,u34,u35,u36,u37,u38,u39,u40,u41,u42,u43,u44,u45,u46,u47,u48,u49,u50,u51,u52],[]⟩ W'):
  (condC f57 27).wp prog (Only K) ⟨#[u0,u1,u2,u3,u4,.pointer (some ⟨g5,0,none⟩),.pointer (some ⟨g6,0,none⟩),u7,u8,u9,u10,u11,u12,u13,u14,u15,u16,u17,u18,u19,u20,u21,u22,u23,u24,u25,u26,.bool is,u28,u29,u30,u31,u32,u33,u34,u35,u36,u37,u38,u39,u40,u41,u42,u43,u44,u45,u46,u47,u48,u49,u50,u51,u52],[]⟩ W:=by
 rw[show condC f57 27=_ from by(simp only[condC,f57,gX,Nat.reduceEqDiff,if_true,if_false,Option.getD];rfl)];have dO:=hK;clear hK;subst h0;have dO:=hid dO;have XH:=hid X;have YH:=hid Y;rcases hE with⟨rfl,rfl,rfl,rfl⟩ | ⟨rfl,a,rfl,hM,sz⟩
 ·clear X Y;go_wp2_with fail;exact dO.out Nw.zero _ _ _ _ XH.out rfl (Below.refl _ _) (aQ.refl _)
 have ln:=RA.len hM sz;obtain⟨c0,c1,c2,_⟩:=Y.reads;have C:=hid (jA hM ⟨by omega,by omega⟩);have BW1:=hid (Below.refl W.heap.size W);have X1:=hid X;clear X Y hM;go_wp2_with fail;refine C.out.mono ?_;rintro e w2 ⟨s2,a2,n2,k2,b2,m2,d2,rfl,L2,B2⟩;have L2:Hid (RA w2 (a) ⟨s2,a2,n2,k2,b2,m2,d2⟩):=L2;have X2:=X1.out.below B2;have z5:=X2.free 5;have z6:=X2.free 6;have z7:=X2.free 7;have r:=X2.reads;obtain⟨_,_,q2,q3,q4,q5,q6,q7⟩:=r;have X2:=hid X2;have Ai:=hid (aB BW1.out B2);have dO:=dO;clear B2;go_wp2_with fail;have X3:=X2.out.setH ⟨s2,a2,n2,k2,b2,m2,d2⟩;have L3:=X2.out.limb (Xz (i:=5) (j:=6) (k:=7) (.bool s2) (.slice a2 n2 k2) (.slice b2 m2 d2));have B3:=qU (i:=5) (j:=6) (k:=7) (Ai.out.mono (Nat.le_of_lt XH.out.lt)) (Nat.le_refl g5) (.bool s2) (.slice a2 n2 k2) (.slice b2 m2 d2);exact dO.out ⟨s2,a2,n2,k2,b2,m2,d2⟩ _ _ _ _ X3 (RA.limb L2.out L3) B3 ((aQ.of_below Ai.out).trans L3)
theorem ZJ {W:World}{g5 g6:Nat}{is b:Bool}{lo hi:Int}{Lo Hi M:Nw}{u:Option (Rat×Bool)}(X:jM W g5 lo hi Lo Hi)(Y:NQ W g6 M)(hE:zX W u is b M)(h0:Lo=Nw.zero)
  {K:Act→World→Prop}{u0 u1 u2 u3 u4 u6 u7 u8 u9 u11 u12 u13 u14 u15 u16 u17 u18 u19 u20 u21 u22 u23 u24 u25 u26 u27 u28 u29 u30 u31 u32 u33 u34 u35 u36 u37 u38 u39 u40 u41 u42 u43 u44 u45 u46 u48 u49 u50 u51 u52:Value}
  (hK:∀(N:Nw) (x48 x49 x50 Xq:Value) (W':World),jM W' g5 lo hi N Hi→zY W' (fun q=> -q) u N→Below g5 W W'→aQ W W'→K ⟨#[u0,u1,u2,u3,u4,.pointer (some ⟨g5,0,none⟩),u6,u7,u8,u9,.pointer (some ⟨g6,0,none⟩),u11,u12,u13,u14,u15,u16,u17,u18,u19,u20,u21,u22,u23,u24,u25,u26,u27,u28,u29,u30,u31,u32,u33,u34,u35,u36,u37,u38,u39,u40,u41,u42,u43,u44,u45,u46,.bool is,x48,x49,x50,Xq,u52],[]⟩ W'):
  (condC f57 47).wp prog (Only K) ⟨#[u0,u1,u2,u3,u4,.pointer (some ⟨g5,0,none⟩),u6,u7,u8,u9,.pointer (some ⟨g6,0,none⟩),u11,u12,u13,u14,u15,u16,u17,u18,u19,u20,u21,u22,u23,u24,u25,u26,u27,u28,u29,u30,u31,u32,u33,u34,u35,u36,u37,u38,u39,u40,u41,u42,u43,u44,u45,u46,.bool is,u48,u49,u50,u51,u52],[]⟩ W:=by
 rw[show condC f57 47=_ from by(simp only[condC,f57,gX,Nat.reduceEqDiff,if_true,if_false,Option.getD];rfl)];have dO:=hK;clear hK;subst h0;have dO:=hid dO;have XH:=hid X;have YH:=hid Y;rcases hE with⟨rfl,rfl,rfl,rfl⟩ | ⟨rfl,a,rfl,hM,sz⟩
 ·clear X Y;go_wp2_with fail;exact dO.out Nw.zero _ _ _ _ _ XH.out rfl (Below.refl _ _) (aQ.refl _)
 have ln:=RA.len hM sz;obtain⟨c0,c1,c2,_⟩:=Y.reads;have CN:=hid (mP hM);clear X Y hM;go_wp2_with fail;refine CN.out.mono ?_;rintro e w1 ⟨s1,a1,n1,k1,b1,m1,d1,rfl,L1,B1⟩;have sn:Sz (-a) 1048576:=sz.neg;have L1:RA w1 (-a) ⟨s1,a1,n1,k1,b1,m1,d1⟩:=L1;have ln1:=RA.len L1 sn;have C:=hid (jA L1 ⟨by simp only at ln1⊢;omega,by simp only at ln1⊢;omega⟩);have BW1:=hid B1;have X1:=hid (XH.out.below B1);clear L1 B1 ln1;go_wp2_with fail;refine C.out.mono ?_;rintro e w2 ⟨s2,a2,n2,k2,b2,m2,d2,rfl,L2,B2⟩;have L2:Hid (RA w2 (-a) ⟨s2,a2,n2,k2,b2,m2,d2⟩):=L2;have X2:=X1.out.below B2;have z2:=X2.free 2;have z3:=X2.free 3;have z4:=X2.free 4;have r:=X2.reads;obtain⟨_,_,q2,q3,q4,q5,q6,q7⟩:=r;have X2:=hid X2;have Ai:=hid (aB BW1.out B2);have dO:=dO;clear B2;go_wp2_with fail;have X3:=X2.out.acy ⟨s2,a2,n2,k2,b2,m2,d2⟩;have L3:=X2.out.limb (Xz (i:=2) (j:=3) (k:=4) (.bool s2) (.slice a2 n2 k2) (.slice b2 m2 d2));have B3:=qU (i:=2) (j:=3) (k:=4) (Ai.out.mono (Nat.le_of_lt XH.out.lt)) (Nat.le_refl g5) (.bool s2) (.slice a2 n2 k2) (.slice b2 m2 d2);exact dO.out ⟨s2,a2,n2,k2,b2,m2,d2⟩ _ _ _ _ _ X3 (RA.limb L2.out L3) B3 ((aQ.of_below Ai.out).trans L3)
end Go.Proofs.YtijdglogadnbcaaGreat
namespace Go.Proofs.YtijdglogadnbcaaGreat
open Go.Proofs.Tryz
open Go.RowKit Nt Bl
def Tz (l h:Int)(L H:Nw):Value:= .agg #[.int .i64 l,.int .i64 h,.bool L.s,.slice L.a L.n L.c,.slice L.b L.m L.d,.bool H.s,.slice H.a H.n H.c,.slice H.b H.m H.d]
def xH (w:World)(g n:Nat)(ra:Option Addr)(m rc:Nat):Prop:=w.heap[g]? =some (.cells #[.int .i64 (n:Int),.slice ra m rc] 114 (0,0))
theorem xH.reads {w:World}{g n m rc:Nat}{ra:Option Addr}(x:xH w g n ra m rc):w.cell? ⟨g,0,none⟩=some (.int .i64 (n:Int))∧w.cell? ⟨g,1,none⟩=some (.slice ra m rc):=by
 refine⟨?_,?_⟩
 ·rw[cell_of_row w g 0 _ _ _ x];rfl
 rw[cell_of_row w g 1 _ _ _ x];rfl
theorem xH.keep {w w':World}{g n m rc:Nat}{ra:Option Addr}(x:xH w g n ra m rc)(e:w'.heap[g]? =w.heap[g]?):xH w' g n ra m rc:=e.trans x
theorem xH.lt {w:World}{g n m rc:Nat}{ra:Option Addr}(x:xH w g n ra m rc):g<w.heap.size:=(Array.getElem?_eq_some_iff.1 x).1
section
variable {w w1:World} {g k0:Nat} {l h:Int} {L H:Nw}
theorem abD (x0 x1 x2 x3 x4 x5 x6 x7:Value):∀b,b≠g→((((((((w.setCell ⟨g,0,none⟩ x0).setCell ⟨g,1,none⟩ x1).setCell ⟨g,2,none⟩ x2).setCell ⟨g,3,none⟩ x3).setCell ⟨g,4,none⟩ x4).setCell ⟨g,5,none⟩ x5).setCell ⟨g,6,none⟩ x6).setCell ⟨g,7,none⟩ x7).heap[b]? =w.heap[b]?:=fun b hb=>by rw[heap_setCell_other _ _ _ _ hb,heap_setCell_other _ _ _ _ hb,heap_setCell_other _ _ _ _ hb,heap_setCell_other _ _ _ _ hb,heap_setCell_other _ _ _ _ hb,heap_setCell_other _ _ _ _ hb,heap_setCell_other _ _ _ _ hb,heap_setCell_other _ _ _ _ hb]
theorem Gt (hb:Below k0 w w1)(hg:k0≤g)(x0 x1 x2 x3 x4 x5 x6 x7:Value):Below k0 w ((((((((w1.setCell ⟨g,0,none⟩ x0).setCell ⟨g,1,none⟩ x1).setCell ⟨g,2,none⟩ x2).setCell ⟨g,3,none⟩ x3).setCell ⟨g,4,none⟩ x4).setCell ⟨g,5,none⟩ x5).setCell ⟨g,6,none⟩ x6).setCell ⟨g,7,none⟩ x7):=
 (((((((hb.setCell hg _).setCell hg _).setCell hg _).setCell hg _).setCell hg _).setCell hg _).setCell hg _).setCell hg _
theorem jM.ZK (x:jM w g l h L H)(l' h':Int)(A B:Nw):jM ((((((((w.setCell ⟨g,0,none⟩ (.int .i64 l')).setCell ⟨g,1,none⟩ (.int .i64 h')).setCell ⟨g,2,none⟩ (.bool A.s)).setCell ⟨g,3,none⟩ (.slice A.a A.n A.c)).setCell ⟨g,4,none⟩ (.slice A.b A.m A.d)).setCell ⟨g,5,none⟩ (.bool B.s)).setCell ⟨g,6,none⟩ (.slice B.a B.n B.c)).setCell ⟨g,7,none⟩ (.slice B.b B.m B.d)) g l' h' A B:=by unfold jM at x⊢;simp[World.setCell,Array.getElem?_modify,x]
end
theorem D8 {w:World}{rows:List Rl}{ra ga:Option Addr}{rc n m k gc:Nat}{gl:List (Nat×Rat)}(h:qQ w rows ra n m gl ga gc)(hx:∃x,qj (dP rows) n x)(hk:gl.length=k):
  Calls prog 57 #[.agg #[.int .i64 (n:Int),.slice ra m rc],.slice ga k gc] w fun e w'=>∃u l Hi Lo,jf (qj (dP rows) n) (val n (fA gl)) u∧jf (qj (dP rows) n) (val n (fA (negC gl))) l∧
   e= .returned (Tz (lC l) (lC u) Lo Hi)∧zY w' (fun q=> -q) l Lo∧zY w' (fun q=>q) u Hi∧Below w.heap.size w w':=by
 have B0:Hid (Below w.heap.size w (((w.alloc (.cells #[.int .i64 (n:Int),.slice ra m rc] 114)).alloc (.cells #[.int .i64 0,.int .i64 0,.bool false,.slice none 0 0,.slice none 0 0,.bool false,.slice none 0 0,.slice none 0 0] 42)).alloc (.cells #[.int .i64 0,.int .i64 0,.bool false,.slice none 0 0,.slice none 0 0,.bool false,.slice none 0 0,.slice none 0 0] 42))):=((ah _ _).alloc (by simp) _).alloc (by simp;omega) _;have X2:Hid (xH (((w.alloc (.cells #[.int .i64 (n:Int),.slice ra m rc] 114)).alloc (.cells #[.int .i64 0,.int .i64 0,.bool false,.slice none 0 0,.slice none 0 0,.bool false,.slice none 0 0,.slice none 0 0] 42)).alloc (.cells #[.int .i64 0,.int .i64 0,.bool false,.slice none 0 0,.slice none 0 0,.bool false,.slice none 0 0,.slice none 0 0] 42)) w.heap.size n ra m rc):=by show xH _ _ _ _ _ _;unfold xH;rw[Below.heap_alloc _ _ _ (by simp;omega),Below.heap_alloc _ _ _ (by simp)];exact heap_alloc_new w _
 have X4:Hid (jM (((w.alloc (.cells #[.int .i64 (n:Int),.slice ra m rc] 114)).alloc (.cells #[.int .i64 0,.int .i64 0,.bool false,.slice none 0 0,.slice none 0 0,.bool false,.slice none 0 0,.slice none 0 0] 42)).alloc (.cells #[.int .i64 0,.int .i64 0,.bool false,.slice none 0 0,.slice none 0 0,.bool false,.slice none 0 0,.slice none 0 0] 42)) (w.heap.size+1) 0 0 Nw.zero Nw.zero):=by have:=heap_alloc_new (w.alloc (.cells #[.int .i64 (n:Int),.slice ra m rc] 114)) (.cells #[.int .i64 0,.int .i64 0,.bool false,.slice none 0 0,.slice none 0 0,.bool false,.slice none 0 0,.slice none 0 0] 42);rw[show(w.alloc (.cells #[.int .i64 (n:Int),.slice ra m rc] 114)).heap.size=w.heap.size+1 from by simp]at this;show jM _ _ _ _ _ _;unfold jM;rw[Below.heap_alloc _ _ _ (by simp)];exact this
 have X5:Hid (jM (((w.alloc (.cells #[.int .i64 (n:Int),.slice ra m rc] 114)).alloc (.cells #[.int .i64 0,.int .i64 0,.bool false,.slice none 0 0,.slice none 0 0,.bool false,.slice none 0 0,.slice none 0 0] 42)).alloc (.cells #[.int .i64 0,.int .i64 0,.bool false,.slice none 0 0,.slice none 0 0,.bool false,.slice none 0 0,.slice none 0 0] 42)) (w.heap.size+1+1) 0 0 Nw.zero Nw.zero):=by have:=heap_alloc_new ((w.alloc (.cells #[.int .i64 (n:Int),.slice ra m rc] 114)).alloc (.cells #[.int .i64 0,.int .i64 0,.bool false,.slice none 0 0,.slice none 0 0,.bool false,.slice none 0 0,.slice none 0 0] 42)) (.cells #[.int .i64 0,.int .i64 0,.bool false,.slice none 0 0,.slice none 0 0,.bool false,.slice none 0 0,.slice none 0 0] 42);rwa[show((w.alloc (.cells #[.int .i64 (n:Int),.slice ra m rc] 114)).alloc (.cells #[.int .i64 0,.int .i64 0,.bool false,.slice none 0 0,.slice none 0 0,.bool false,.slice none 0 0,.slice none 0 0] 42)).heap.size=w.heap.size+1+1 from by simp]at this
 have H:=hid h;have HX:=hid hx;have HK:=hid hk;have LI:=hid (h.below B0.out);clear h hx;go_enter func57,ntmps57;go_upto_region 2 with fail
 generalize ((w.alloc (.cells #[.int .i64 (n:Int),.slice ra m rc] 114)).alloc (.cells #[.int .i64 0,.int .i64 0,.bool false,.slice none 0 0,.slice none 0 0,.bool false,.slice none 0 0,.slice none 0 0] 42)).alloc (.cells #[.int .i64 0,.int .i64 0,.bool false,.slice none 0 0,.slice none 0 0,.bool false,.slice none 0 0,.slice none 0 0] 42)=W0 at*;obtain⟨g2,hg2⟩:∃g,w.heap.size=g:=⟨_,rfl⟩;have G2:Hid (w.heap.size=g2):=hg2;rw[hg2]at X2 X4 X5⊢;clear hg2;have C2:=hid (qR (rc:=rc) LI.out HX.out HK.out);obtain⟨p0,p1⟩:=X2.out.reads;go_upto_region 3 with(go_at_call 77;refine C2.out.mono ?_;rintro e w2 ⟨u,is,b,M,v,HU,HE,rfl,B2⟩;have HU:=hid HU;have HE:=hid HE;have B2:=hid B2;clear C2)
 have NB:=ah w2 (.cells #[.bool M.s,.slice M.a M.n M.c,.slice M.b M.m M.d] 25);have Y6:Hid (NQ (w2.alloc (.cells #[.bool M.s,.slice M.a M.n M.c,.slice M.b M.m M.d] 25)) w2.heap.size M):=heap_alloc_new w2 _;have BB:=aB B2.out NB;have HE3:=hid (HE.out.limb (aQ.of_below NB));have X23:=X2.out.keep (BB.block _ X2.out.lt);have X43:=hid (X4.out.below BB);have ZM:=X5.out.below BB;have Ed:=hid (aB B0.out BB);have LI3:=hid (LI.out.below BB);have G6:Hid (g2+1+1<w2.heap.size):=by show _<_;have:=X5.out.lt;have:=B2.out.size;omega
 clear NB BB HE B2 B0 X2 X4 X5 LI p0 p1;generalize w2.alloc (.cells #[.bool M.s,.slice M.a M.n M.c,.slice M.b M.m M.d] 25)=W3 at*;obtain⟨g6,Jp⟩:∃g,w2.heap.size=g:=⟨_,rfl⟩;rw[Jp]at Y6 G6⊢;clear Jp;obtain⟨_,y1,_⟩:=ZM.reads;have iD:=ZM.free 1;have X23:=hid X23;have ZM:=hid ZM;go_upto_region 4 with(go_at_call 112;refine(yK is b _).mono ?_;rintro e w4 ⟨rfl,rfl⟩)
 have O4:=fun c (hc:c≠g2+1+1)=>heap_setCell_other W3 ⟨g2+1+1,1,none⟩ c (.int .i64 (gQ is b)) hc;have L4:=ZM.out.limb (w':=W3.setCell ⟨g2+1+1,1,none⟩ (.int .i64 (gQ is b))) O4;have B4:=hid (Ed.out.setCell (p:=⟨g2+1+1,1,none⟩) (by have:=G2.out;show w.heap.size≤g2+1+1;omega) (.int .i64 (gQ is b)));have X24:=hid (X23.out.keep (O4 g2 (by omega)));have X44:=hid (X43.out.keep (O4 (g2+1) (by omega)));have X54:=hid (ZM.out.set1 (gQ is b));have Y64:=hid ((O4 g6 (by have:=G6.out;omega)).trans Y6.out);have HE4:=hid (HE3.out.limb L4);have KU:=hid HE3.out.kind;clear L4 O4 X23 X43 ZM Y6 HE3 LI3 Ed y1 iD;generalize W3.setCell ⟨g2+1+1,1,none⟩ (.int .i64 (gQ is b))=W4 at*;go_upto_if 27 with fail
 refine dK (ZI X54.out Y64.out HE4.out rfl fun Hi x28 x29 x30 W5 hX hE hB hL=>?_) (fun _ _ h=>h);have X55:=hid hX;have HE5:=hid hE;have B5:=hid (Below.trans B4.out (hB.mono (by have:=G2.out;omega)));have X25:=hid (X24.out.keep (hB.block g2 (by omega)));have X45:=hid (X44.out.keep (hB.block (g2+1) (by omega)));clear X24 X44 X54 Y64 HE4 B4 hX hE hB hL;obtain⟨p0,p1⟩:=X25.out.reads;have LI5:=H.out.below B5.out;go_upto_region 6 with fail
 refine dK (abC p1 p0 LI5 HX.out HK.out fun u2 is2 b2 M2 v2 g10 x31 x32 x33 x34 x35 x36 x37 x38 x39 x40 x41 x42 W6 hu hE hY hG hB=>?_) (fun _ _ h=>h);have HU6:=hid hu;have HE6:=hid hE;have Y6:=hid hY;have B6:=hid (aB B5.out hB);have X46:=hid (X45.out.below hB);have ZO:=X55.out.below hB;have abE:=hid (HE5.out.limb (aQ.of_below hB));have G10:Hid (g2+1+1<g10):=by show _<_;have:=X55.out.lt;omega
 clear p0 p1 LI5 hu hE hY hG hB X25 X45 X55 HE5 B5;obtain⟨y1,_⟩:=ZO.reads;have iD:=ZO.free 0;have ZO:=hid ZO;go_upto_region 8 with(go_at_call 112;refine(yK is2 b2 _).mono ?_;rintro e w7 ⟨rfl,rfl⟩)
 have O7:=fun c (hc:c≠g2+1+1)=>heap_setCell_other W6 ⟨g2+1+1,0,none⟩ c (.int .i64 (gQ is2 b2)) hc;have L7:=ZO.out.limb (w':=W6.setCell ⟨g2+1+1,0,none⟩ (.int .i64 (gQ is2 b2))) O7;have B7:=hid (B6.out.setCell (p:=⟨g2+1+1,0,none⟩) (by have:=G2.out;show w.heap.size≤g2+1+1;omega) (.int .i64 (gQ is2 b2)));have TJ:=hid (X46.out.keep (O7 (g2+1) (by omega)));have X57:=hid (ZO.out.set0 (gQ is2 b2));have Y7:=hid ((O7 g10 (by have:=G10.out;omega)).trans Y6.out);have HE7:=hid (HE6.out.limb L7);have abG:=hid (abE.out.limb L7);have KL:=hid HE6.out.kind;clear L7 O7 X46 ZO Y6 HE6 abE B6 y1 iD;generalize W6.setCell ⟨g2+1+1,0,none⟩ (.int .i64 (gQ is2 b2))=W7 at*;go_upto_if 47 with fail
 refine dK (ZJ X57.out Y7.out HE7.out rfl fun Lo x48 x49 x50 Xq W8 hX hE hB hL=>?_) (fun _ _ h=>h);have HEL:=hid hE;have HEH:=hid (abG.out.limb hL);have B8:=hid (Below.trans B7.out (hB.mono (by have:=G2.out;omega)));have KI:=TJ.out.keep (hB.block (g2+1) (by omega));obtain⟨a0,a1,a2,a3,a4,a5,a6,a7⟩:=hX.reads;obtain⟨b0,b1,b2',b3,b4,b5,b6,b7⟩:=KI.reads;have f0:=KI.free 0;have f1:=KI.free 1;have f2:=KI.free 2;have f3:=KI.free 3;have f4:=KI.free 4;have f5:=KI.free 5;have f6:=KI.free 6;have f7:=KI.free 7;have KI:=hid KI;clear TJ X57 Y7 HE7 abG B7 hX hE hB hL;go_wp2_with fail;have lU:=KI.out.ZK (gQ is2 b2) (gQ is b) Lo Hi;have O9:=abD (w:=W8) (g:=g2+1) (.int .i64 (gQ is2 b2)) (.int .i64 (gQ is b)) (.bool Lo.s) (.slice Lo.a Lo.n Lo.c) (.slice Lo.b Lo.m Lo.d) (.bool Hi.s) (.slice Hi.a Hi.n Hi.c) (.slice Hi.b Hi.m Hi.d);have L9:=KI.out.limb O9;have B9:=Gt (k0:=w.heap.size) (g:=g2+1) B8.out (by have:=G2.out;omega) (.int .i64 (gQ is2 b2)) (.int .i64 (gQ is b)) (.bool Lo.s) (.slice Lo.a Lo.n Lo.c) (.slice Lo.b Lo.m Lo.d) (.bool Hi.s) (.slice Hi.a Hi.n Hi.c) (.slice Hi.b Hi.m Hi.d);obtain⟨x0,x1,x2,x3,x4,x5,x6,x7⟩:=lU.reads;refine bodyPost_ret (v:=Tz (gQ is2 b2) (gQ is b) Lo Hi) (by simp[results,results57,go_sem,Tz,x0,x1,x2,x3,x4,x5,x6,x7]) rfl ?_;exact⟨u,u2,Hi,Lo,HU.out,HU6.out,by rw[KL.out,KU.out],HEL.out.limb L9,HEH.out.limb L9,B9⟩
def jO (l:List Cf):List (Nat×Rat):=l.map fun c=>(c.var.toNat,bF c.gU)
theorem eU (l:List Cf):(jO l).length=l.length:=List.length_map ..
theorem qh {l:List Cf}{i:Nat}(h:i<l.length):cq (jO l) i=((cf l i).var.toNat,bF (cf l i).gU):=by unfold cq jO cf;rw[List.getD_eq_getElem?_getD,List.getD_eq_getElem?_getD,List.getElem?_map,List.getElem?_eq_getElem h];rfl
theorem mG {R:Raw}(hn:Lm R.num)(hd:Lm R.den)(h:bQ R=0):aP R=0∧Ag (bF R):=by
 unfold bQ at h;by_cases c:aP R=0
 ·rw[if_neg (by simp[c])]at h;obtain⟨f1,f2,_⟩:=gG hn hd c;refine⟨c,?_⟩;by_cases q:32<Nh.aU (vl R.num)∨8<Nh.aU (vl R.den)
  ·rw[if_pos q]at h;omega
  refine⟨?_,?_⟩
  ·rw[f1];exact(Nh.jR (x:=vl R.num) (n:=32)).1 (by omega)
  rw[f2];exact(Nh.jR (x:=vl R.den) (n:=8)).1 (by omega)
 rw[if_pos c]at h;exact absurd h c
theorem gK {u:Int}{l:List Cf}:∀{n:Nat},bK u l n=0→∀i,i<n→fD u l i=0
 | 0,_,i,hi=>absurd hi (Nat.not_lt_zero _)
 | n+1,h,i,hi=>by
  have h':(if bK u l n≠0 then bK u l n else fD u l n)=0:=h;by_cases c:bK u l n=0
  ·rw[if_neg (by simp[c])]at h';by_cases e:i=n
   ·rw[e];exact h'
   exact gK c i (by omega)
  rw[if_pos c]at h';exact absurd h' c
theorem gJ {u:Int}{l:List Cf}{i:Nat}(h:fD u l i=0):0≤(cf l i).var∧(cf l i).var<u∧(0<i→(cf l (i-1)).var<(cf l i).var)∧aP (cf l i).gU=0∧(cf l i).gU.num.length≠0∧bQ (cf l i).gU=0:=by
 unfold fD at h;split at h
 ·omega
 split at h
 ·omega
 split at h
 ·omega
 split at h
 ·omega
 refine⟨by omega,by omega,fun hi=>by omega,by omega,by omega,h⟩
theorem kS {u rel:Int}{l:List Cf}{B:Raw}(h:bV u rel l B=0):(rel=1∨rel=2∨rel=3)∧l.length≤8∧bK u l l.length=0∧bQ B=0:=by
 unfold bV at h;split at h
 ·omega
 split at h
 ·omega
 split at h
 ·rename_i q;exact absurd h q
 exact⟨by omega,by omega,by omega,h⟩
theorem kG.good {w:World}{l:List Cf}{ca:Option Addr}{n:Nat}(h:kG w l ca)(h8:l.length≤8)(h0:bK (n:Int) l l.length=0):iE w (jO l) ca∧jk n (jO l):=by
 have each:=gK h0;by_cases e:l=[]
 ·subst e;exact⟨iE.nil w ca,jk.nil n⟩
 obtain⟨g,o,e1,k⟩:=h e;refine⟨fun _=>⟨g,o,e1,fun i hi=>?_⟩,by rw[eU];exact h8,fun i hi=>?_⟩
 ·rw[eU]at hi;obtain⟨a,nn,c,b,m,d,c1,c2,c3,c4,r⟩:=k i hi;obtain⟨z1,z2,_,z3,_,z4⟩:=gJ (each i hi);rw[qh hi];have rr:=r.rat z3;refine⟨⟨(cf l i).gU.neg,a,nn,c,b,m,d⟩,?_,c2,c3,c4,rr⟩;rw[c1];show some (Value.int .i64 (cf l i).var)=some (.int .i64 (((cf l i).var.toNat:Nat):Int));rw[Int.toNat_of_nonneg z1]
 rw[eU]at hi;obtain⟨a,nn,c,b,m,d,c1,c2,c3,c4,r⟩:=k i hi;obtain⟨z1,z2,_,z3,_,z4⟩:=gJ (each i hi);rw[qh hi];refine⟨?_,(mG r.num.lm r.den.lm z4).2⟩;show(cf l i).var.toNat<n;omega
def tN (rel:Int)(l:List Cf)(B:Raw):Rl:=⟨jO l,rel,bF B⟩
theorem xQ {w:World}{rel:Int}{l:List Cf}{B:Raw}{ca a b:Option Addr}{n nn c m d:Nat}(hl:kG w l ca)(hB:dG w B a nn c b m d)(h:bV (n:Int) rel l B=0):iE w (jO l) ca∧(tN rel l B).Good n∧RA w (bF B) ⟨B.neg,a,nn,c,b,m,d⟩:=by obtain⟨_,h8,h0,hb⟩:=kS h;obtain⟨q,g⟩:=hl.good h8 h0;obtain⟨z1,z2⟩:=mG hB.num.lm hB.den.lm hb;exact⟨q,⟨g,z2⟩,hB.rat z1⟩
theorem Rz {w:World}{s:Bool}{a b:Option Addr}{n c m d:Nat}(h:aO w ((0:Int):Rat) s a n c b m d):dG w ⟨false,[],[1]⟩ a n c b m d:=
 ⟨by have:=h.num;rwa[show(((0:Int):Rat)).num.natAbs=0 from rfl,Nt.aA]at this,by have:=h.den;rwa[show(((0:Int):Rat)).den=1 from rfl,show aC 1=[1] from by rw[bM (by omega)];simp[Nt.aA]]at this⟩
theorem kG.below {w w':World}{l:List Cf}{ca:Option Addr}(h:kG w l ca)(hb:Below w.heap.size w w'):kG w' l ca:=by intro hne;obtain⟨g,o,e,k⟩:=h hne;refine⟨g,o,e,fun i hi=>?_⟩;obtain⟨a,n,c,b,m,d,c0,c1,c2,c3,r⟩:=k i hi;exact⟨a,n,c,b,m,d,aj hb c0,aj hb c1,aj hb c2,aj hb c3,r.below hb⟩
theorem zZ {w:World}{u:Nat}{rv:Value}{ra:Option Addr}{rn rc:Nat}{l:List Cf}{ca:Option Addr}{nc cc:Nat}(h:kG w l ca)(hl:l.length=nc)(hc:nc≤cc)(hc2:cc≤9223372036854775807):
  Calls prog 56 #[.agg #[.int .i64 (u:Int),.slice ra rn rc],.slice ca nc cc] w (bP w (bV (u:Int) 3 l ⟨false,[],[1]⟩)):=by
 have H:=hid h;have HL:=hid hl;have c1:=hc;have c2:=hc2;clear h hl hc hc2;have B0:Hid (Below w.heap.size w (w.alloc (.cells #[.int .i64 (u:Int),.slice ra rn rc] 114))):=ah _ _;have X0:Hid ((w.alloc (.cells #[.int .i64 (u:Int),.slice ra rn rc] 114)).heap[w.heap.size]? =some (.cells #[.int .i64 (u:Int),.slice ra rn rc] 114 (0,0))):=heap_alloc_new w _;go_enter func56,ntmps56;go_upto_region 1 with fail
 generalize w.alloc (.cells #[.int .i64 (u:Int),.slice ra rn rc] 114)=W at*;obtain⟨g2,hg2⟩:∃g2,w.heap.size=g2:=⟨_,rfl⟩;rw[hg2]at X0⊢;clear hg2;have t0:W.cell? ⟨g2,0,none⟩=some (.int .i64 (u:Int)):=by rw[cell_of_row W g2 0 _ _ _ X0.out];rfl
 have KP:=hid (fun(W':World) (hB:Below W.heap.size W W')=>(show W'.cell? ⟨g2,0,none⟩=some (.int .i64 (u:Int)) from aj hB t0));refine Rg.aH 6 [] (fun W'=>W'.cell? ⟨g2,0,none⟩=some (.int .i64 (u:Int))) (by kernel_rfl) (by kernel_rfl) ?_ (fun hS ok inv=>?_)
 ·exact t0
 refine Rg.tk 0 rfl ok inv hS fun inv=>?_;refine Rg.tk 3 rfl ok inv hS fun inv=>?_;refine Rg.tk 4 rfl ok inv hS fun inv=>?_;refine Rg.w1 1 rfl inv fun K' hK=>?_;go_simp;go_at_call 72;refine(bI 0 (by omega) (by omega) _).mono ?_;rintro e w6 ⟨s6,a6,n6,c6,b6,m6,d6,rfl,L6,B6⟩;have B6:=aJ B6;have KS:=KP.out w6 B6;have uI:=hid (aB B0.out B6);have RW:dG w6 ⟨false,[],[1]⟩ a6 n6 c6 b6 m6 d6:=Rz L6;have SG:s6=false:=L6.sg;subst SG;have C:=hid (yS (u:=(u:Int)) (rel:=3) (H.out.below uI.out) RW HL.out c1 c2);have BK6:=hid B6;clear B6 RW L6;refine Rg.st hK ?_ fun hS inv=>?_
 ·exact KS
 clear hK K';refine Rg.tk 2 rfl ok inv hS fun inv=>?_;refine Rg.w1 5 rfl inv fun K' hK=>?_;go_simp;go_at_call 14;refine(C.out).mono ?_;rintro e w7 ⟨rfl,B7⟩;have KS:=KP.out w7 (aB BK6.out B7);have Ak:=hid (aB uI.out B7);refine Rg.st hK ?_ fun hS inv=>?_
 ·exact KS
 clear hK K';refine Rg.wl rfl ?_;go_simp;go_wp2_with fail;go_ret;exact⟨rfl,Ak.out⟩
def pI (w:World)(p n:Nat)(rv mv:Value):Prop:=w.heap[p]? =some (.cells #[.int .i64 (n:Int),rv,mv] 117 (0,0))
theorem pI.reads {w:World}{p n:Nat}{rv mv:Value}(h:pI w p n rv mv):
  w.cell? ⟨p,0,none⟩=some (.int .i64 (n:Int))∧w.cell? ⟨p,1,none⟩=some rv∧w.cell? ⟨p,2,none⟩=some mv∧∀i,w.frozen? ⟨p,i,none⟩=false:=by
 refine⟨?_,?_,?_,fun i=>by unfold pI at h;simp[World.frozen?,h]⟩
 ·rw[cell_of_row w p 0 _ _ _ h];rfl
 ·rw[cell_of_row w p 1 _ _ _ h];rfl
 rw[cell_of_row w p 2 _ _ _ h];rfl
theorem pI.lt {w:World}{p n:Nat}{rv mv:Value}(h:pI w p n rv mv):p<w.heap.size:=(Array.getElem?_eq_some_iff.1 h).1
theorem pI.below {w w':World}{p n:Nat}{rv mv:Value}(h:pI w p n rv mv)(hb:Below w.heap.size w w'):pI w' p n rv mv:=(hb.block p h.lt).trans h
theorem RI (w:World):Calls prog 23 #[] w fun e w'=>∃p,e= .returned (.pointer (some ⟨p,0,none⟩))∧w.heap.size≤p∧pI w' p 0 (.slice none 0 0) (.slice none 0 0)∧Below w.heap.size w w':=by go_enter func23,ntmps23;go_wp2_with fail;go_ret;refine⟨w.heap.size,rfl,Nat.le_refl _,heap_alloc_new w _,ah w _⟩
theorem RY {w:World}{a:Option Addr}{n c:Nat}(h1:n≤c)(h2:c≤9223372036854775807):Calls prog 60 #[.slice a n c] w fun e w'=>e= .returned (.slice a n n)∧w=w':=by go_enter func60,ntmps60;go_wp2_with fail;go_ret;exact⟨rfl,rfl⟩
theorem pI.set0 {w:World}{p n:Nat}{rv mv:Value}(h:pI w p n rv mv):pI (w.setCell ⟨p,0,none⟩ (.int .i64 ((n:Int)+1))) p (n+1) rv mv:=by unfold pI at h⊢;simp[World.setCell,Array.getElem?_modify,h]
theorem pI.set1 {w:World}{p n:Nat}{rv mv:Value}(h:pI w p n rv mv)(rv':Value):pI (w.setCell ⟨p,1,none⟩ rv') p n rv' mv:=by unfold pI at h⊢;simp[World.setCell,Array.getElem?_modify,h]
theorem VJ {w:World}{p n:Nat}{rv mv:Value}(h:pI w p n rv mv)(hn:n≤24):
  Calls prog 55 #[.pointer (some ⟨p,0,none⟩)] w fun e w'=>
   (n=24∧e= .returned (.tuple #[.int .i64 0,.int .i64 3])∧w'=w)∨
   (n<24∧e= .returned (.tuple #[.int .i64 (n:Int),.int .i64 0])∧w'=w.setCell ⟨p,0,none⟩ (.int .i64 ((n:Int)+1))):=by
 obtain⟨p0,p1,p2,fz⟩:=h.reads;have f0:=fz 0;clear fz;have n0:(0:Int)≤(n:Int):=by omega
 have HS:=hid h;clear h;go_enter func55,ntmps55;by_cases e:n=24
 ·subst e;go_wp2_with fail;refine bodyPost_ret (v:= .tuple #[.int .i64 0,.int .i64 3]) (by simp[results,results55,go_sem]) rfl ?_;exact⟨rfl,rfl⟩
 have n1:(n:Int)<24:=by omega
 go_upto_region 4 with fail
 obtain⟨k0,_⟩:=HS.out.set0.reads;have p0:(w.setCell ⟨p,0,none⟩ (.int .i64 ((n:Int)+1))).cell? ⟨p,0,none⟩=some (.int .i64 ((n:Int)+1)):=k0;clear k0;go_wp2_with fail;refine bodyPost_ret (v:= .tuple #[.int .i64 (n:Int),.int .i64 0]) (by simp[results,results55,go_sem]) rfl ?_;exact Or.inr ⟨by omega,rfl,rfl⟩
end Go.Proofs.YtijdglogadnbcaaGreat
