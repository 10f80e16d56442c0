/- Sums kept in a map; what combining rows comes to. -/
import Derived.Test.YtijdglogadnbcaaGreatY44
import Derived.Test.YtijdglogadnbcaaGreatProg
import Derived.Maps.OwnOps
import Derived.Shelf.Sort.Plain
import Derived.Shelf.Slices.In.SortNone
import Derived.Sort.OwnSortedInts
import Derived.WalkKit
set_option linter.unusedVariables false
set_option linter.unusedSimpArgs false
set_option maxRecDepth 100000
set_option maxHeartbeats 40000000
namespace Go.Proofs.YtijdglogadnbcaaGreat
open Go.Proofs.Tryz
open Go.RowKit Nt Bl
theorem gY (w:World){ops:Array Oper}{rest:List Oper}{o:Oper}{a:Act}{Q:Exit→Act→World→Prop}(hg:o.guard=none)(m x:Operand)(c:Bool)(hop:o.op=Op.lookup 184 m x c)(b:Nat)(l:List (Int×Value))(k:Int)
  (hm:a.eval m= .map (some b))(hx:a.eval x= .int .i64 k)(h:sK w b l)
  (hK:wpList prog ops Q rest (a.put o.dst (if c then .tuple #[((fi k l).map (·.2)).getD Ws,.bool (fi k l).isSome]else((fi k l).map (·.2)).getD Ws)) w):
  wpList prog ops Q (o::rest) a w:=by
 refine wpList_plain hg fun K' hK'=>?_;have h1:=h.look k;have h2:=h.look1 k;unfold Oper.wp
 cases c with
 | true=>simp[execOp,hop,hm,hx,h1,Result.andThen];exact hK' _ _ hK
 | false=>simp[execOp,hop,hm,hx,h2,Result.andThen];exact hK' _ _ hK
theorem Az (w:World){o:Oper}{a:Act}{K:Act→World→Prop}{Q:Exit→Act→World→Prop}(m x v:Operand)(hop:o.op=Op.mapUpdate 184 m x v)(b:Nat)(l:List (Int×Value))(k:Int)(u:Value)
  (hm:a.eval m= .map (some b))(hx:a.eval x= .int .i64 k)(hv:a.eval v=u)(h:sK w b l)
  (hK:∀ob,sK (ChangeMaps.setBlock w b ob) b (Wu l k u)→K (a.put o.dst undef) (ChangeMaps.setBlock w b ob)):Oper.wp prog o a w K Q:=by obtain⟨ob,hrun,r1⟩:=h.store k u;unfold Oper.wp;simp[execOp,hop,hm,hx,hv,hrun,Result.andThen];exact hK ob r1
theorem gZ {w:World}{b k:Nat}{o:Obj}(h:k≠b):(ChangeMaps.setBlock w b o).heap[k]? =w.heap[k]?:=by simp only[ChangeMaps.setBlock,Array.getElem?_setIfInBounds];rw[if_neg (by omega)]
theorem uQ (w:World)(b:Nat)(o:Obj):w.grownBy (ChangeMaps.setBlock w b o) (some b):=
 ⟨rfl,rfl,rfl,by simp[ChangeMaps.setBlock],fun k _ hne=>gZ fun e=>hne (by rw[e])⟩
theorem uS {k b:Nat}{w0 w:World}(h:Below k w0 w)(hk:k≤b)(o:Obj):Below k w0 (ChangeMaps.setBlock w b o):=
 ⟨h.os,h.tape,h.output,by simpa[ChangeMaps.setBlock]using h.size,fun q hq=>(gZ (by omega)).trans (h.block q hq)⟩
theorem sK.ne {w:World}{b:Nat}{l:List (Int×Value)}(h:sK w b l){g:Nat}{arr:Array Value}{ty:Nat}{z:Nat×Nat}(hg:w.heap[g]? =some (.cells arr ty z)):g≠b:=by rintro rfl;obtain⟨es,ck,h1,_⟩:=h;rw[h1]at hg;simp at hg
theorem sK.lt {w:World}{b:Nat}{l:List (Int×Value)}(h:sK w b l):b<w.heap.size:=by obtain⟨es,ck,h1,_⟩:=h;exact(Array.getElem?_eq_some_iff.1 h1).1
theorem sK.below {w w':World}{b:Nat}{l:List (Int×Value)}(h:sK w b l)(hb:Below w.heap.size w w'):sK w' b l:=h.of_block (hb.block b h.lt)
theorem sK.limb {w:World}{b:Nat}{l:List (Int×Value)}(h:sK w b l)(o:Obj):aQ w (ChangeMaps.setBlock w b o):=by
 intro c i x e;have:c≠b:=by rintro rfl;obtain⟨es,ck,h1,_⟩:=h;simp[World.cell?,h1]at e
 rw[World.cell?_of_block (gZ this)];exact e
def nv (N:Nw):Value:= .agg #[.bool N.s,.slice N.a N.n N.c,.slice N.b N.m N.d]
def Ep (w:World)(l:List (Int×Value))(S:Nat→Option Rat):Prop:=∀k:Nat,match S k with
 | none=>fi k l=none
 | some q=>∃N,(fi k l).map (·.2)=some (nv N)∧RA w q N
theorem Ep.limb {w w':World}{l:List (Int×Value)}{S:Nat→Option Rat}(h:Ep w l S)(hl:aQ w w'):Ep w' l S:=fun k=>by
 have:=h k;split at this
 ·exact this
 obtain⟨N,a,b⟩:=this;exact⟨N,a,b.limb hl⟩
theorem Ep.nil (w:World):Ep w [] fun _=>none:=fun k=>rfl
theorem Ep.none {w:World}{l:List (Int×Value)}{S:Nat→Option Rat}(h:Ep w l S){k:Nat}(e:S k= .none):fi k l= .none:=by have:=h k;rw[e]at this;exact this
theorem Ep.some {w:World}{l:List (Int×Value)}{S:Nat→Option Rat}(h:Ep w l S){k:Nat}{q:Rat}(e:S k= .some q):∃N,((fi k l).map (·.2)).getD Ws=nv N∧(fi k l).isSome=true∧RA w q N:=by
 have:=h k;rw[e]at this;obtain⟨N,a,b⟩:=this;refine⟨N,by rw[a];rfl,?_,b⟩
 cases c:fi k l with
 | none=>rw[c]at a;simp at a
 | some _=>rfl
theorem Ep.set {w:World}{l:List (Int×Value)}{S:Nat→Option Rat}(h:Ep w l S)(v:Nat){q:Rat}{N:Nw}(r:RA w q N):Ep w (Wu l v (nv N)) fun k=>if k=v then .some q else S k:=fun k=>by
 have e:=Yi l v (nv N) k;by_cases c:k=v
 ·subst c;simp only[if_true]at e⊢;exact⟨N,e,r⟩
 have c':(k:Int)≠(v:Int):=by omega
 rw[if_neg c']at e;simp only[if_neg c];have:=h k;split at this
 ·rw[this]at e;simpa using e
 obtain⟨M,a,b⟩:=this;exact⟨M,e.trans a,b⟩
structure St where
 s:Nat→Option Rat
 v:List Nat
def AO (s:St)(p:Nat×Rat)(m:Rat):St:=⟨fun k=>if k=p.1 then some ((s.s k).getD 0+p.2*m)else s.s k,if s.s p.1=none then s.v++[p.1]else s.v⟩
def qV (s:St)(l:List (Nat×Rat))(m:Rat):Nat→St
 | 0=>s
 | j+1=>AO (qV s l m j) (cq l j) m
structure St.ok (s:St):Prop where
 mem:∀k,k∈s.v↔s.s k≠none
 nd:s.v.Nodup
theorem St.ok.AO {s:St}(h:s.ok)(p:Nat×Rat)(m:Rat):(AO s p m).ok:=by
 unfold Go.Proofs.YtijdglogadnbcaaGreat.AO;refine⟨fun k=>?_,?_⟩
 ·simp only;by_cases e:s.s p.1=none
  ·rw[if_pos e,List.mem_append,List.mem_singleton,h.mem];by_cases c:k=p.1
   ·simp[c]
   simp[c]
  rw[if_neg e,h.mem];by_cases c:k=p.1
  ·subst c;simp[e]
  simp[c]
 simp only;by_cases e:s.s p.1=none
 ·rw[if_pos e,List.nodup_append];refine⟨h.nd,by simp,fun a ha b hb=>?_⟩;rw[List.mem_singleton]at hb;subst hb;rintro rfl;exact(h.mem _).1 ha e
 rw[if_neg e];exact h.nd
theorem St.ok.qV {s:St}(h:s.ok)(l:List (Nat×Rat))(m:Rat):∀j,(qV s l m j).ok
 | 0=>h
 | j+1=>(St.ok.qV h l m j).AO _ _
def qW (l:List (Nat×Rat))(k:Nat):Nat→Rat
 | 0=>0
 | j+1=>qW l k j+if(cq l j).1=k then(cq l j).2 else 0
theorem pR (s:St)(l:List (Nat×Rat))(m:Rat)(k:Nat):∀j,((qV s l m j).s k).getD 0=(s.s k).getD 0+qW l k j*m
 | 0=>by simp only[qV,qW];grind
 | j+1=>by
  have ih:=pR s l m k j;show((AO (qV s l m j) (cq l j) m).s k).getD 0=_;unfold AO qW;simp only;by_cases e:k=(cq l j).1
  ·subst e;simp only[if_true,Option.getD_some,ih];grind
  have e':¬(cq l j).1=k:=fun q=>e q.symm;simp only[if_neg e,if_neg e',ih];grind
theorem l7 {w:World}{g:Nat}{r:Int}{bb:Bool}{a b c:Option Addr}{n1 c1 n2 c2 n3 c3:Nat}(h:iH w g #[.slice a n1 c1,.int .i64 r,.bool bb,.slice b n2 c2,.slice c n3 c3])(p q s t u:Value):aQ w (((((w.setCell ⟨g,0,none⟩ p).setCell ⟨g,1,none⟩ q).setCell ⟨g,2,none⟩ s).setCell ⟨g,3,none⟩ t).setCell ⟨g,4,none⟩ u):=
 mg (g:=g) (fun b hb=>by rw[heap_setCell_other _ ⟨g,4,none⟩ _ _ hb,heap_setCell_other _ ⟨g,3,none⟩ _ _ hb,heap_setCell_other _ ⟨g,2,none⟩ _ _ hb,heap_setCell_other _ ⟨g,1,none⟩ _ _ hb,heap_setCell_other _ ⟨g,0,none⟩ _ _ hb]) fun o x e=>by rw[cell_of_row w g o _ _ _ h]at e;rcases o with _ | _ | _ | _ | _ | o<;>simp at e
theorem rO {w W:World}{g:Nat}{arr:Array Value}(X:iH w g arr)(h:Below W.heap.size W w)(hg:W.heap.size≤g)(p q s t u:Value):Below W.heap.size W (((((w.setCell ⟨g,0,none⟩ p).setCell ⟨g,1,none⟩ q).setCell ⟨g,2,none⟩ s).setCell ⟨g,3,none⟩ t).setCell ⟨g,4,none⟩ u):=
 ((((h.setCell (p:=⟨g,0,none⟩) hg _).setCell (p:=⟨g,1,none⟩) hg _).setCell (p:=⟨g,2,none⟩) hg _).setCell (p:=⟨g,3,none⟩) hg _).setCell (p:=⟨g,4,none⟩) hg _
theorem TT {W:World}{gA gM gB gN:Nat}{m0 b0 m1 b1:Rat}{M0 B0 M1 B1:Nw}{rel:Int}(p0:W.cell? ⟨gA,2,none⟩=some (.bool B0.s))(p1:W.cell? ⟨gA,3,none⟩=some (.slice B0.a B0.n B0.c))(p2:W.cell? ⟨gA,4,none⟩=some (.slice B0.b B0.m B0.d))(p3:W.cell? ⟨gM,0,none⟩=some (.bool M0.s))(p4:W.cell? ⟨gM,1,none⟩=some (.slice M0.a M0.n M0.c))(p5:W.cell? ⟨gM,2,none⟩=some (.slice M0.b M0.m M0.d))(p6:W.cell? ⟨gB,2,none⟩=some (.bool B1.s))(p7:W.cell? ⟨gB,3,none⟩=some (.slice B1.a B1.n B1.c))(p8:W.cell? ⟨gB,4,none⟩=some (.slice B1.b B1.m B1.d))(p9:W.cell? ⟨gN,0,none⟩=some (.bool M1.s))(p10:W.cell? ⟨gN,1,none⟩=some (.slice M1.a M1.n M1.c))(p11:W.cell? ⟨gN,2,none⟩=some (.slice M1.b M1.m M1.d))
  (rM0:RA W m0 M0)(rB0:RA W b0 B0)(rM1:RA W m1 M1)(rB1:RA W b1 B1)(s1:Sz m0 1000)(s2:Sz b0 1000000)(s3:Sz m1 1000)(s4:Sz b1 1000000)
  {K:Act→World→Prop}{u0 u1 u2 u3 u9 u10 u11 u12 u13 u14 u15 u16 u17 u18 u19 u20 u21 u22 u23 u24 u25 u26 u27 u28 u29 u30 u31 u32 u33 u34 u35 u36 u37 u38 u39 u40 u41 u42 u43 u44 u45 u46 u47 u48 u49 u50 u51 u52 u53 u54 u55 u56 u57 u58 u59 u60 u61 u62 u63 u64 u65 u66 u67 u68 u69 u70 u71 u72 u73 u74 u75 u76 u77 u78 u79 u80 u81 u82 u83 u84 u85 u86 u87 u88 u89 u90 u91 u92 u93 u94 u95 u96 u97 u98 u99 u100 u101 u102 u103 u104 u105:Value}
  (hK:∀(g19:Nat) (N:Nw) (x72 x73 x74 x75 x76 x77 x78 x79 x80 x81 x82:Value) (W':World),iH W' g19 #[.slice none 0 0,.int .i64 rel,.bool N.s,.slice N.a N.n N.c,.slice N.b N.m N.d]→RA W' (b0*m0+b1*m1) N→Below W.heap.size W W'→W.heap.size≤g19→K ⟨#[u0,u1,u2,u3,.int .i64 rel,.pointer (some ⟨gA,0,none⟩),.pointer (some ⟨gM,0,none⟩),.pointer (some ⟨gB,0,none⟩),.pointer (some ⟨gN,0,none⟩),u9,u10,u11,u12,u13,u14,u15,u16,u17,u18,.pointer (some ⟨g19,0,none⟩),u20,u21,u22,u23,u24,u25,u26,u27,u28,u29,u30,u31,u32,u33,u34,u35,u36,u37,u38,u39,u40,u41,u42,u43,u44,u45,u46,u47,u48,u49,u50,u51,u52,u53,u54,u55,u56,u57,u58,u59,u60,u61,u62,u63,u64,u65,u66,u67,u68,u69,u70,u71,x72,x73,x74,x75,x76,x77,x78,x79,x80,x81,x82,u83,u84,u85,u86,u87,u88,u89,u90,u91,u92,u93,u94,u95,u96,u97,u98,u99,u100,u101,u102,u103,u104,u105],[]⟩ W'):
  (iI f93 17).wp prog (Only K) ⟨#[u0,u1,u2,u3,.int .i64 rel,.pointer (some ⟨gA,0,none⟩),.pointer (some ⟨gM,0,none⟩),.pointer (some ⟨gB,0,none⟩),.pointer (some ⟨gN,0,none⟩),u9,u10,u11,u12,u13,u14,u15,u16,u17,u18,u19,u20,u21,u22,u23,u24,u25,u26,u27,u28,u29,u30,u31,u32,u33,u34,u35,u36,u37,u38,u39,u40,u41,u42,u43,u44,u45,u46,u47,u48,u49,u50,u51,u52,u53,u54,u55,u56,u57,u58,u59,u60,u61,u62,u63,u64,u65,u66,u67,u68,u69,u70,u71,u72,u73,u74,u75,u76,u77,u78,u79,u80,u81,u82,u83,u84,u85,u86,u87,u88,u89,u90,u91,u92,u93,u94,u95,u96,u97,u98,u99,u100,u101,u102,u103,u104,u105],[]⟩ W:=by
 rw[show iI f93 17=_ from by(simp only[iI,f93,iU,Nat.reduceEqDiff,if_true,if_false,Option.getD];rfl)];have dO:=hid hK;clear hK;have KP:=hid (fun(W':World) (hB:Below W.heap.size W W')=>(show W'.cell? ⟨gA,2,none⟩=some (.bool B0.s)∧W'.cell? ⟨gA,3,none⟩=some (.slice B0.a B0.n B0.c)∧W'.cell? ⟨gA,4,none⟩=some (.slice B0.b B0.m B0.d)∧W'.cell? ⟨gM,0,none⟩=some (.bool M0.s)∧W'.cell? ⟨gM,1,none⟩=some (.slice M0.a M0.n M0.c)∧W'.cell? ⟨gM,2,none⟩=some (.slice M0.b M0.m M0.d)∧W'.cell? ⟨gB,2,none⟩=some (.bool B1.s)∧W'.cell? ⟨gB,3,none⟩=some (.slice B1.a B1.n B1.c)∧W'.cell? ⟨gB,4,none⟩=some (.slice B1.b B1.m B1.d)∧W'.cell? ⟨gN,0,none⟩=some (.bool M1.s)∧W'.cell? ⟨gN,1,none⟩=some (.slice M1.a M1.n M1.c)∧W'.cell? ⟨gN,2,none⟩=some (.slice M1.b M1.m M1.d) from⟨aj hB p0,aj hB p1,aj hB p2,aj hB p3,aj hB p4,aj hB p5,aj hB p6,aj hB p7,aj hB p8,aj hB p9,aj hB p10,aj hB p11⟩));have C1:=hid (fun(W':World) (hB:Below W.heap.size W W')=>jC (aO.below rB0 hB) (aO.below rM0 hB) (Sz.mono s2 (by omega)) (Sz.mono s1 (by omega)));have C2:=hid (fun(W':World) (hB:Below W.heap.size W W')=>jC (aO.below rB1 hB) (aO.below rM1 hB) (Sz.mono s4 (by omega)) (Sz.mono s3 (by omega)));have Z1:=hid (Sz.mono (Sz.mul s2 s1) (show _≤268435456 by omega));have Z2:=hid (Sz.mono (Sz.mul s4 s3) (show _≤268435456 by omega));refine Rg.aH 12 [] (fun W'=>W'.cell? ⟨gA,2,none⟩=some (.bool B0.s)∧W'.cell? ⟨gA,3,none⟩=some (.slice B0.a B0.n B0.c)∧W'.cell? ⟨gA,4,none⟩=some (.slice B0.b B0.m B0.d)∧W'.cell? ⟨gM,0,none⟩=some (.bool M0.s)∧W'.cell? ⟨gM,1,none⟩=some (.slice M0.a M0.n M0.c)∧W'.cell? ⟨gM,2,none⟩=some (.slice M0.b M0.m M0.d)∧W'.cell? ⟨gB,2,none⟩=some (.bool B1.s)∧W'.cell? ⟨gB,3,none⟩=some (.slice B1.a B1.n B1.c)∧W'.cell? ⟨gB,4,none⟩=some (.slice B1.b B1.m B1.d)∧W'.cell? ⟨gN,0,none⟩=some (.bool M1.s)∧W'.cell? ⟨gN,1,none⟩=some (.slice M1.a M1.n M1.c)∧W'.cell? ⟨gN,2,none⟩=some (.slice M1.b M1.m M1.d)) (by kernel_rfl) (by kernel_rfl) ?_ (fun hS ok inv=>?_)
 ·exact⟨p0,p1,p2,p3,p4,p5,p6,p7,p8,p9,p10,p11⟩
 have D0:Below W.heap.size W W.drew:=(Below.refl _ _).drew;refine Rg.tk 0 rfl ok inv hS fun inv=>?_;refine Rg.tk 1 rfl ok inv hS fun inv=>?_;refine Rg.tk 2 rfl ok inv hS fun inv=>?_;refine Rg.tk 3 rfl ok inv hS fun inv=>?_;refine Rg.tk 5 rfl ok inv hS fun inv=>?_;refine Rg.tk 6 rfl ok inv hS fun inv=>?_;refine Rg.tk 7 rfl ok inv hS fun inv=>?_;refine Rg.w2 4 11 rfl rfl inv (fun K' hK=>?_) fun K' hK=>?_
 ·(try simp only[zA,zB,zC]);go_simp;go_at_call 100;refine(C1.out _ D0).mono ?_;rintro e w1 ⟨s1,a1,n1,c1,b1,m1,d1,rfl,L1,E1⟩;have D1:=aB D0 E1;have KS:=KP.out _ D1;refine Rg.st hK ?_ fun hS inv=>?_
  ·exact KS
  clear hK K';refine Rg.w2 8 11 rfl rfl inv (fun K' hK=>?_) fun K' hK=>?_
  ·(try simp only[zA,zB,zC]);go_simp;go_at_call 100;refine(C2.out _ D1).mono ?_;rintro e w2 ⟨s2,a2,n2,c2,b2,m2,d2,rfl,L2,E2⟩;have D2:=aB D1 E2;have L1:=aO.below L1 E2;have KS:=KP.out _ D2;refine Rg.st hK ?_ fun hS inv=>?_
   ·exact KS
   clear hK K';refine Rg.w2 9 11 rfl rfl inv (fun K' hK=>?_) fun K' hK=>?_
   ·(try simp only[zA,zB,zC]);go_simp;go_at_call 133;refine(iq L1 L2 Z1.out Z2.out).mono ?_;rintro e w3 ⟨s3,a3,n3,c3,b3,m3,d3,rfl,L3,E3⟩;have D3:=aB D2 E3;have L1:=aO.below L1 E3;have L2:=aO.below L2 E3;have KS:=KP.out _ D3;refine Rg.st hK ?_ fun hS inv=>?_
    ·exact KS
    clear hK K';refine Rg.tk 10 rfl ok inv hS fun inv=>?_;refine Rg.w1 11 rfl inv fun K' hK=>?_;(try simp only[zA,zB,zC]);go_simp;refine Rg.st hK ?_ fun hS inv=>?_
    ·exact KP.out _ (aB D3 (ah _ _))
    clear hK K';refine Rg.wl rfl ?_;go_simp;exact dO.out _ ⟨s3,a3,n3,c3,b3,m3,d3⟩ _ _ _ _ _ _ _ _ _ _ _ _ (heap_alloc_new _ _) (aO.below L3 (ah _ _)) (aB D3 (ah _ _)) D3.size
   (try simp only[zA,zB,zC]);go_simp;have DA:=aB D2 (ah w2 (.cells #[.slice none 0 0,.int .i64 0,.bool false,.slice none 0 0,.slice none 0 0] 27));have X:iH (w2.alloc (.cells #[.slice none 0 0,.int .i64 0,.bool false,.slice none 0 0,.slice none 0 0] 27)) w2.heap.size _:=heap_alloc_new _ _;have GE:W.heap.size≤w2.heap.size:=D2.size;have L1:=aO.below L1 (ah w2 (.cells #[.slice none 0 0,.int .i64 0,.bool false,.slice none 0 0,.slice none 0 0] 27));have L2:=aO.below L2 (ah w2 (.cells #[.slice none 0 0,.int .i64 0,.bool false,.slice none 0 0,.slice none 0 0] 27));have KS:=KP.out _ DA;refine Rg.st hK ?_ fun hS inv=>?_
   ·exact KS
   clear hK K';refine Rg.w1 9 rfl inv fun K' hK=>?_;(try simp only[zA,zB,zC]);go_simp;go_at_call 133;refine(iq L1 L2 Z1.out Z2.out).mono ?_;rintro e w3a ⟨s3,a3,n3,c3,b3,m3,d3,rfl,L3,E3⟩;have D3:=aB DA E3;have L1:=aO.below L1 E3;have L2:=aO.below L2 E3;have X:iH w3a w2.heap.size _:=X.below E3;have KS:=KP.out _ D3;refine Rg.st hK ?_ fun hS inv=>?_
   ·exact KS
   clear hK K';refine Rg.tk 10 rfl ok inv hS fun inv=>?_;obtain⟨_,_,_,_,_,f⟩:=X.reads;have f0:=f 0;have f1:=f 1;have f2:=f 2;have f3:=f 3;have f4:=f 4;refine Rg.wl rfl ?_;go_simp;exact dO.out _ ⟨s3,a3,n3,c3,b3,m3,d3⟩ _ _ _ _ _ _ _ _ _ _ _ _ (X.Jt _ _ _ _ _) (RA.limb (N:=⟨s3,a3,n3,c3,b3,m3,d3⟩) L3 (l7 X _ _ _ _ _)) (rO X D3 GE _ _ _ _ _) GE
  (try simp only[zA,zB,zC]);go_simp;have DA:=aB D1 (ah w1 (.cells #[.slice none 0 0,.int .i64 0,.bool false,.slice none 0 0,.slice none 0 0] 27));have X:iH (w1.alloc (.cells #[.slice none 0 0,.int .i64 0,.bool false,.slice none 0 0,.slice none 0 0] 27)) w1.heap.size _:=heap_alloc_new _ _;have GE:W.heap.size≤w1.heap.size:=D1.size;have L1:=aO.below L1 (ah w1 (.cells #[.slice none 0 0,.int .i64 0,.bool false,.slice none 0 0,.slice none 0 0] 27));have KS:=KP.out _ DA;refine Rg.st hK ?_ fun hS inv=>?_
  ·exact KS
  clear hK K';refine Rg.w1 8 rfl inv fun K' hK=>?_;(try simp only[zA,zB,zC]);go_simp;go_at_call 100;refine(C2.out _ DA).mono ?_;rintro e w2a ⟨s2,a2,n2,c2,b2,m2,d2,rfl,L2,E2⟩;have D2:=aB DA E2;have L1:=aO.below L1 E2;have X:iH w2a w1.heap.size _:=X.below E2;have KS:=KP.out _ D2;refine Rg.st hK ?_ fun hS inv=>?_
  ·exact KS
  clear hK K';refine Rg.w1 9 rfl inv fun K' hK=>?_;(try simp only[zA,zB,zC]);go_simp;go_at_call 133;refine(iq L1 L2 Z1.out Z2.out).mono ?_;rintro e w3a ⟨s3,a3,n3,c3,b3,m3,d3,rfl,L3,E3⟩;have D3:=aB D2 E3;have L1:=aO.below L1 E3;have L2:=aO.below L2 E3;have X:iH w3a w1.heap.size _:=X.below E3;have KS:=KP.out _ D3;refine Rg.st hK ?_ fun hS inv=>?_
  ·exact KS
  clear hK K';refine Rg.tk 10 rfl ok inv hS fun inv=>?_;obtain⟨_,_,_,_,_,f⟩:=X.reads;have f0:=f 0;have f1:=f 1;have f2:=f 2;have f3:=f 3;have f4:=f 4;refine Rg.wl rfl ?_;go_simp;exact dO.out _ ⟨s3,a3,n3,c3,b3,m3,d3⟩ _ _ _ _ _ _ _ _ _ _ _ _ (X.Jt _ _ _ _ _) (RA.limb (N:=⟨s3,a3,n3,c3,b3,m3,d3⟩) L3 (l7 X _ _ _ _ _)) (rO X D3 GE _ _ _ _ _) GE
 (try simp only[zA,zB,zC]);go_simp;have DA:=aB D0 (ah W.drew (.cells #[.slice none 0 0,.int .i64 0,.bool false,.slice none 0 0,.slice none 0 0] 27));have X:iH (W.drew.alloc (.cells #[.slice none 0 0,.int .i64 0,.bool false,.slice none 0 0,.slice none 0 0] 27)) W.heap.size _:=heap_alloc_new _ _;have GE:W.heap.size≤W.heap.size:=D0.size;have KS:=KP.out _ DA;refine Rg.st hK ?_ fun hS inv=>?_
 ·exact KS
 clear hK K';refine Rg.w1 4 rfl inv fun K' hK=>?_;(try simp only[zA,zB,zC]);go_simp;go_at_call 100;refine(C1.out _ DA).mono ?_;rintro e w1a ⟨s1,a1,n1,c1,b1,m1,d1,rfl,L1,E1⟩;have D1:=aB DA E1;have X:iH w1a W.heap.size _:=X.below E1;have KS:=KP.out _ D1;refine Rg.st hK ?_ fun hS inv=>?_
 ·exact KS
 clear hK K';refine Rg.w1 8 rfl inv fun K' hK=>?_;(try simp only[zA,zB,zC]);go_simp;go_at_call 100;refine(C2.out _ D1).mono ?_;rintro e w2a ⟨s2,a2,n2,c2,b2,m2,d2,rfl,L2,E2⟩;have D2:=aB D1 E2;have L1:=aO.below L1 E2;have X:iH w2a W.heap.size _:=X.below E2;have KS:=KP.out _ D2;refine Rg.st hK ?_ fun hS inv=>?_
 ·exact KS
 clear hK K';refine Rg.w1 9 rfl inv fun K' hK=>?_;(try simp only[zA,zB,zC]);go_simp;go_at_call 133;refine(iq L1 L2 Z1.out Z2.out).mono ?_;rintro e w3a ⟨s3,a3,n3,c3,b3,m3,d3,rfl,L3,E3⟩;have D3:=aB D2 E3;have L1:=aO.below L1 E3;have L2:=aO.below L2 E3;have X:iH w3a W.heap.size _:=X.below E3;have KS:=KP.out _ D3;refine Rg.st hK ?_ fun hS inv=>?_
 ·exact KS
 clear hK K';refine Rg.tk 10 rfl ok inv hS fun inv=>?_;obtain⟨_,_,_,_,_,f⟩:=X.reads;have f0:=f 0;have f1:=f 1;have f2:=f 2;have f3:=f 3;have f4:=f 4;refine Rg.wl rfl ?_;go_simp;exact dO.out _ ⟨s3,a3,n3,c3,b3,m3,d3⟩ _ _ _ _ _ _ _ _ _ _ _ _ (X.Jt _ _ _ _ _) (RA.limb (N:=⟨s3,a3,n3,c3,b3,m3,d3⟩) L3 (l7 X _ _ _ _ _)) (rO X D3 GE _ _ _ _ _) GE
end Go.Proofs.YtijdglogadnbcaaGreat
namespace Go.Proofs
open Go.Shelf
def Tryz.lays189_ren:Go.Shelf.Ren:=⟨fun | 189=>134 | 125=>176 | 257=>175 | 128=>172 | 129=>199 | 294=>190 | 295=>191 | 296=>192 | 297=>193 | 298=>194 | 299=>195 | 216=>196 | 300=>197 | 301=>198 | 328=>203 | 329=>204 | 330=>205 | 331=>206 | 332=>207 | 215=>208 | 343=>209 | n=>n,fun | 28=>75 | 3=>3 | 46=>181 | 0=>0 | 51=>111 | 53=>169 | 4=>4 | 183=>250 | 182=>249 | 131=>223 | 5=>5 | 9=>9 | 218=>260 | 222=>264 | 228=>266 | 229=>267 | n=>n,fun | n=>n⟩
theorem Tryz.lays189:Go.Proofs.Lays.n189 prog Tryz.lays189_ren:={
 mixed:=by kernel_rfl
 f125:=func176.trans (congrArg some (by kernel_rfl))
 f128:=func172.trans (congrArg some (by kernel_rfl))
 f129:=func199.trans (congrArg some (by kernel_rfl))
 f189:=func134.trans (congrArg some (by kernel_rfl))
 f215:=func208.trans (congrArg some (by kernel_rfl))
 f216:=func196.trans (congrArg some (by kernel_rfl))
 f257:=func175.trans (congrArg some (by kernel_rfl))
 f294:=func190.trans (congrArg some (by kernel_rfl))
 f295:=func191.trans (congrArg some (by kernel_rfl))
 f296:=func192.trans (congrArg some (by kernel_rfl))
 f297:=func193.trans (congrArg some (by kernel_rfl))
 f298:=func194.trans (congrArg some (by kernel_rfl))
 f299:=func195.trans (congrArg some (by kernel_rfl))
 f300:=func197.trans (congrArg some (by kernel_rfl))
 f301:=func198.trans (congrArg some (by kernel_rfl))
 f328:=func203.trans (congrArg some (by kernel_rfl))
 f329:=func204.trans (congrArg some (by kernel_rfl))
 f330:=func205.trans (congrArg some (by kernel_rfl))
 f331:=func206.trans (congrArg some (by kernel_rfl))
 f332:=func207.trans (congrArg some (by kernel_rfl))
 f343:=func209.trans (congrArg some (by kernel_rfl))
 t0:=underlying0
 a0:=isAgg0
 z0:=sizeOf0
 v0:=zeroValue0
 t3:=underlying3
 a3:=isAgg3
 z3:=sizeOf3
 v3:=zeroValue3
 t4:=underlying4
 a4:=isAgg4
 z4:=sizeOf4
 v4:=zeroValue4
 t5:=underlying5
 a5:=isAgg5
 z5:=sizeOf5
 v5:=zeroValue5
 t9:=underlying9
 a9:=isAgg9
 z9:=sizeOf9
 v9:=zeroValue9
 t28:=underlying75
 a28:=isAgg75
 z28:=sizeOf75
 v28:=zeroValue75
 t46:=underlying181
 a46:=isAgg181
 z46:=sizeOf181
 v46:=zeroValue181
 t51:=underlying111
 a51:=isAgg111
 z51:=sizeOf111
 v51:=zeroValue111
 t53:=underlying169
 a53:=isAgg169
 z53:=sizeOf169
 v53:=zeroValue169
 t131:=underlying223
 a131:=isAgg223
 z131:=sizeOf223
 v131:=zeroValue223
 t182:=underlying249
 a182:=isAgg249
 z182:=sizeOf249
 v182:=zeroValue249
 t183:=underlying250
 a183:=isAgg250
 z183:=sizeOf250
 v183:=zeroValue250
 t218:=underlying260
 a218:=isAgg260
 z218:=sizeOf260
 v218:=zeroValue260
 t222:=underlying264
 a222:=isAgg264
 z222:=sizeOf264
 v222:=zeroValue264
 t228:=underlying266
 a228:=isAgg266
 z228:=sizeOf266
 v228:=zeroValue266
 t229:=underlying267
 a229:=isAgg267
 z229:=sizeOf267
 v229:=zeroValue267}
open Go.Sort Go.RowKit in
theorem Tryz.slices_Sort_int (blk off cap:Nat)(zs:List Int)(w:World)(hH:Holds (Value.int .i64) w blk off zs.toArray)(hblk:blk<w.heap.size)(hsz:zs.length<4611686018427387904):
  Calls prog 134 #[.slice (some ⟨blk,off,none⟩) zs.length cap] w fun e w'=>
   e= .returned (.tuple #[])∧∃n os,w'=grow (putRow (Value.int .i64) (Sort.ahead w n) blk off (zs.mergeSort fun x y=>decide (x≤y)).toArray) os:=Any.slices_Sort_int Tryz.lays189 blk off cap zs w hH hblk hsz
open Go.RowKit Go.Sort in
theorem Tryz.slices_Sort_int_none (p:Option Addr)(cap:Nat)(w:World):
  Calls prog 134 #[.slice p 0 cap] w fun e w'=>e= .returned (.tuple #[])∧w'=w:=Any.slices_Sort_int_none Tryz.lays189 p cap w
end Go.Proofs
namespace Go.Proofs.YtijdglogadnbcaaGreat
open Go.Proofs.Tryz
open Go.RowKit
theorem MH {w:World}{T n lc:Nat}{la:Option Addr}{zs:List Int}(h:w.ownsRow T 3 1 (.slice la n lc) n (zs.map (Value.int .i64)))(hl:n≤1000000)(hT:T≤w.heap.size):
  Calls prog 134 #[.slice la n lc] w fun e w'=>e= .returned (.tuple #[])∧w'.ownsRow T 3 1 (.slice la n lc) n ((zs.mergeSort fun x y=>decide (x≤y)).map (Value.int .i64))∧Below T w w'∧w.grownBy w' (Value.slice la n lc).ownBlock:=by
 have hz:zs.length=n:=by have:=h.1;simpa using this
 rcases h.2 with⟨h1,h2⟩ | ⟨g,cap,cur,h1,h2,h3,h4,h5,h6,h7⟩
 ·subst h2;have h0:zs=[]:=List.length_eq_zero_iff.1 hz;subst h0;refine(Tryz.slices_Sort_int_none la lc w).mono ?_;rintro e w' ⟨rfl,rfl⟩;exact⟨rfl,by simpa using h,Below.refl _ _,⟨rfl,rfl,rfl,Nat.le_refl _,fun _ _ _=>rfl⟩⟩
 injection h1 with e1 e2 e3
 subst e1 e3 hz;refine(Tryz.slices_Sort_int g 0 lc zs w (holds_of_blockI h3 (by simpa using h7)) (Array.getElem?_eq_some_iff.1 h3).1 (by omega)).mono ?_;rintro e w' ⟨rfl,k,os,rfl⟩;have gb:=grownBy_sortedI (w:=w) (g:=g) (n:=k) (os:=os) (zs.mergeSort fun x y=>decide (x≤y)).toArray;refine⟨rfl,ownsRow_sortedI (by simp) h2 h3 h4 h5 h6,⟨gb.os,gb.tape,gb.output,gb.size,fun b hb=>gb.block b (by omega) (fun e=>?_)⟩,gb⟩;injection e with e
 omega
end Go.Proofs.YtijdglogadnbcaaGreat
