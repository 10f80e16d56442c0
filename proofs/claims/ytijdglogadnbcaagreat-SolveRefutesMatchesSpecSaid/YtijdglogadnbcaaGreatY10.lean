/- What the simplex program computes, step by step. No program. -/
import Derived.Test.YtijdglogadnbcaaGreatY09
set_option linter.unusedVariables false
set_option linter.unusedSimpArgs false
set_option maxRecDepth 100000
set_option maxHeartbeats 40000000
namespace Go.Proofs.YtijdglogadnbcaaGreat.Bl
open Go.Proofs.Tryz
open Go.RowKit Nt
def jd (a b:V):Int:=if aV (a.m-b.m)≠0 then aV (a.m-b.m)else aV (a.s-b.s)
theorem dZ {q:Rat}:0<aV q↔0<q:=by
 unfold aV;have hz:q=0↔q.num=0:=Rat.num_eq_zero.symm;have hp:0<q↔0<q.num:=by rw[Rat.lt_iff];simp
 split
 ·rename_i h;rw[h];simp
 split
 ·rename_i h1 h2;rw[hp];omega
 rename_i h1 h2;rw[hp];rw[hz]at h1;omega
theorem aY {q:Rat}:aV q=0↔q=0:=by
 unfold aV;split
 ·rename_i h;simp[h]
 split<;>simp_all
theorem iT {q:Rat}:aV q<0↔q<0:=by
 have h1:= @dZ q;have h2:= @aY q;have h3:aV q= -1∨aV q=0∨aV q=1:=by
  unfold aV;split
  ·exact Or.inr (Or.inl rfl)
  split
  ·exact Or.inl rfl
  exact Or.inr (Or.inr rfl)
 constructor
 ·intro h;have a:¬ 0<q:=fun k=>by have:=h1.2 k;omega
  have b:q≠0:=fun k=>by have:=h2.2 k;omega
  grind
 intro h;have a:¬ 0<aV q:=fun k=>by have:=h1.1 k;grind
 have b:aV q≠0:=fun k=>by have:=h2.1 k;grind
 omega
theorem qH {a b:V}:jd a b<0↔a.lt b:=by
 unfold jd V.lt;split
 ·rename_i h;rw[iT];rw[Ne,aY]at h;grind
 rename_i h;rw[iT];rw[Classical.not_not,aY]at h;grind
theorem nN {a b:V}:0<jd a b↔b.lt a:=by
 unfold jd V.lt;split
 ·rename_i h;rw[dZ];rw[Ne,aY]at h;grind
 rename_i h;rw[dZ];rw[Classical.not_not,aY]at h;grind
def Pb.lo (P:Pb)(b:Nat):Bool:=match P.low b with | some l=>decide (jd (P.now b) l<0) | none=>false
def Pb.hi (P:Pb)(b:Nat):Bool:=match P.high b with | some h=>decide (0<jd (P.now b) h) | none=>false
def Pb.past (P:Pb)(i:Nat):Option (Nat×Bool)→Bool
 | some (r,_)=>decide (P.basic r<P.basic i)
 | none=>false
def Pb.jv (P:Pb):Nat→Option (Nat×Bool)
 | 0=>none
 | i+1=>if P.past i (P.jv i)then P.jv i else if P.lo (P.basic i)then some (i,true)else if P.hi (P.basic i)then some (i,false)else P.jv i
def Pb.brk (P:Pb):Option (Nat×Bool):=P.jv P.m
def Pb.rises (P:Pb)(v:Nat):Bool:=match P.high v with | none=>true | some h=>decide (jd (P.now v) h<0)
def Pb.falls (P:Pb)(v:Nat):Bool:=match P.low v with | none=>true | some l=>decide (0<jd (P.now v) l)
def Pb.better (P:Pb)(k:Nat):Option Nat→Bool
 | none=>true
 | some c=>decide (P.free k<P.free c)
def Pb.dir (P:Pb)(r k:Nat)(up:Bool):Int:=if up then aV (P.T r k)else-aV (P.T r k)
def Pb.helps (P:Pb)(r k:Nat)(up:Bool):Bool:=(decide (0<P.dir r k up)&&P.rises (P.free k))||(decide (P.dir r k up<0)&&P.falls (P.free k))
def Pb.kK (P:Pb)(r:Nat)(up:Bool):Nat→Option Nat
 | 0=>none
 | k+1=>if P.helps r k up&&P.better k (P.kK r up k)then some k else P.kK r up k
def Pb.hlp (P:Pb)(r:Nat)(up:Bool):Option Nat:=P.kK r up P.n
def Pb.oz (P:Pb)(c:Nat)(gU:V):Nat→Nat→V
 | 0=>fun j=>if j=P.free c then(P.now j).add gU else P.now j
 | i+1=>if P.T i c=0 then P.oz c gU i else fun j=>if j=P.basic i then(P.oz c gU i j).add (V.mul (P.T i c) gU)else P.oz c gU i j
def Pb.mv (P:Pb)(c:Nat)(gU:V):Pb:={P with now:=P.oz c gU P.m}
theorem Pb.vU {P:Pb}(h:P.Pl){c:Nat}(hc:c<P.n)(gU:V):∀i,i≤P.m→∀k,i≤k→k<P.m→P.oz c gU i (P.basic k)=P.now (P.basic k)
 | 0,_,k,_,hk=>by simp only[Pb.oz];rw[if_neg (h.tX k c hk hc)]
 | i+1,hi,k,hik,hk=>by
  have ih:=Pb.vU h hc gU i (by omega) k (by omega) hk;simp only[Pb.oz];split
  ·exact ih
  simp only;rw[if_neg (fun e=>by have:=h.FC k i hk (by omega) e;omega)];exact ih
def bJ (e a:V)(up:Bool):V:=if up then e.sub a else a.sub e
def dR (q:Rat):Rat:=if q.num<0 then-q else q
def Pb.stop (P:Pb)(g c:Nat)(rising:Bool)(i:Nat):Option V:=
 if P.T i c=0∨i=g then none
 else
  let up:=decide (0<aV (P.T i c))==rising
  match(if up then P.high (P.basic i)else P.low (P.basic i))with
  | none=>none
  | some e=>some (V.mul (1/dR (P.T i c)) (bJ e (P.now (P.basic i)) up))
def Pb.after (P:Pb)(i:Nat)(c:Int):Option Nat→Bool
 | none=>decide (0<c)||(c==0)
 | some r=>decide (0<c)||(c==0&&decide (P.basic r<P.basic i))
def Pb.lW (P:Pb)(g c:Nat)(rising:Bool):Nat→Option (V×Option Nat)
 | 0=>(if rising then P.high (P.free c)else P.low (P.free c)).map fun e=>(bJ e (P.now (P.free c)) rising,none)
 | i+1=>
  match P.stop g c rising i with
  | none=>P.lW g c rising i
  | some far=>
   match P.lW g c rising i with
   | none=>some (far,some i)
   | some (l,b)=>if P.after i (jd far l) b then some (l,b)else some (far,some i)
def Pb.rising (P:Pb)(g c:Nat):Bool:=decide (0<aV (P.T g c))
def Pb.rz (P:Pb)(g c:Nat):Option Pb:=
 (P.lW g c (P.rising g c) P.m).map fun x=>
  let Q:=P.mv c (if P.rising g c then x.1 else V.sub ⟨0,0⟩ x.1)
  match x.2 with
  | none=>Q
  | some r=>Q.pivot r c
def Pb.rowOf (P:Pb)(v:Nat):Nat→Option Nat
 | 0=>none
 | i+1=>match P.rowOf v i with | some r=>some r | none=>if P.basic i=v then some i else none
structure uz (P:Pb)(K:Nat):Prop where
 now:∀v,v<P.n+P.m→Sz (P.now v).m K∧Sz (P.now v).s K
 low:∀v e,v<P.n+P.m→P.low v=some e→Sz e.m K∧Sz e.s K
 high:∀v e,v<P.n+P.m→P.high v=some e→Sz e.m K∧Sz e.s K
 tab:∀i k,i<P.m→k<P.n→Sz (P.T i k) K
def Ci (K:Nat):Nat→Pb→Pb→Bool→Prop
 | 0,P,Q,is=>uz P K∧Q=P∧
   ((is=false∧(P.rowOf (P.n+P.m-1) P.m=none∨∃r c,P.rowOf (P.n+P.m-1) P.m=some r∧P.hlp r true=some c∧P.rz r c=none))∨
    (is=true∧∃r,P.rowOf (P.n+P.m-1) P.m=some r∧P.hlp r true=none))
 | k+1,P,Q,is=>uz P K∧∃r c P',P.rowOf (P.n+P.m-1) P.m=some r∧P.hlp r true=some c∧P.rz r c=some P'∧Ci K k P' Q is
theorem Sz.mono {q:Rat}{k l:Nat}(h:Sz q k)(hkl:k≤l):Sz q l:=⟨Nat.le_trans h.1 hkl,Nat.le_trans h.2 hkl⟩
theorem jT {neg:Bool}{p d k:Nat}(hd:d≠0)(hp:(aC p).length≤k)(hk:(aC d).length≤k):Sz (fQ neg p d) k:=
 ⟨by rw[lY hd];exact Nat.le_trans (aK (Nat.div_le_self _ _)) hp,by rw[pO hd];exact Nat.le_trans (aK (Nat.div_le_self _ _)) hk⟩
theorem Sz.mul {p q:Rat}{k l:Nat}(h:Sz p k)(h':Sz q l):Sz (p*q) (k+l):=by rw[uK];exact jT (Nat.mul_ne_zero p.den_nz q.den_nz) (aW h.1 h'.1) (aW h.2 h'.2)
theorem Sz.add {p q:Rat}{k:Nat}(h:Sz p k)(h':Sz q k):Sz (p+q) (2*k+1):=by
 have d:(aC (p.den*q.den)).length≤2*k+1:=by have:=aW h.2 h'.2;omega
 have a:(aC (p.num.natAbs*q.den)).length≤2*k:=by have:=aW h.1 h'.2;omega
 have b:(aC (q.num.natAbs*p.den)).length≤2*k:=by have:=aW h'.1 h.2;omega
 have n0:=Nat.mul_ne_zero p.den_nz q.den_nz;by_cases e:decide (p.num<0)=decide (q.num<0)
 ·rw[iP e];exact jT n0 (jU a b) d
 by_cases l:q.num.natAbs*p.den≤p.num.natAbs*q.den
 ·rw[iR e l];exact jT n0 (Nat.le_trans (aK (Nat.sub_le _ _)) (by omega)) d
 rw[jS e (by omega)];exact jT n0 (Nat.le_trans (aK (Nat.sub_le _ _)) (by omega)) d
theorem Sz.sub {p q:Rat}{k:Nat}(h:Sz p k)(h':Sz q k):Sz (p-q) (2*k+1):=by rw[Rat.sub_eq_add_neg];exact Sz.add h h'.neg
theorem Sz.one:Sz 1 1:=⟨bn (by decide),bn (by decide)⟩
theorem Sz.zero:Sz 0 1:=⟨bn (by decide),bn (by decide)⟩
theorem Sz.inv {q:Rat}{k:Nat}(h:Sz q k)(h0:q≠0):Sz (1/q) (k+1):=by
 rw[Bz h0];have n0:q.num.natAbs≠0:=by rw[Ne,Int.natAbs_eq_zero,Rat.num_eq_zero];exact h0
 exact jT (Nat.mul_ne_zero (by decide) n0) (Nat.le_trans (aW Sz.one.1 h.2) (by omega)) (Nat.le_trans (aW Sz.one.2 h.1) (by omega))
theorem Sz.small {q:Rat}(h:q.num.natAbs<4294967296)(h':q.den<4294967296):Sz q 1:=⟨bn (by omega),bn (by omega)⟩
end Go.Proofs.YtijdglogadnbcaaGreat.Bl
namespace Go.Proofs.YtijdglogadnbcaaGreat
open Go.Proofs.Tryz
open Go.RowKit Nt
theorem RA.below {w w':World}{q:Rat}{N:Nw}(h:RA w q N)(hb:Below w.heap.size w w'):RA w' q N:=aO.below h hb
def Nw.zero:Nw:=⟨false,none,0,0,none,0,0⟩
def VB (w:World)(g:Nat)(M S:Nw):Prop:=w.heap[g]? =some (.cells #[.bool M.s,.slice M.a M.n M.c,.slice M.b M.m M.d,.bool S.s,.slice S.a S.n S.c,.slice S.b S.m S.d] 174 (0,0))
def NQ (w:World)(g:Nat)(M:Nw):Prop:=w.heap[g]? =some (.cells #[.bool M.s,.slice M.a M.n M.c,.slice M.b M.m M.d] 25 (0,0))
theorem VB.reads {w:World}{g:Nat}{M S:Nw}(h:VB w g M S):
  w.cell? ⟨g,0,none⟩=some (.bool M.s)∧w.cell? ⟨g,1,none⟩=some (.slice M.a M.n M.c)∧w.cell? ⟨g,2,none⟩=some (.slice M.b M.m M.d)∧w.cell? ⟨g,3,none⟩=some (.bool S.s)∧w.cell? ⟨g,4,none⟩=some (.slice S.a S.n S.c)∧w.cell? ⟨g,5,none⟩=some (.slice S.b S.m S.d)∧∀i,w.frozen? ⟨g,i,none⟩=false:=by
 refine⟨?_,?_,?_,?_,?_,?_,fun i=>?_⟩
 ·rw[cell_of_row w g 0 _ _ _ h];rfl
 ·rw[cell_of_row w g 1 _ _ _ h];rfl
 ·rw[cell_of_row w g 2 _ _ _ h];rfl
 ·rw[cell_of_row w g 3 _ _ _ h];rfl
 ·rw[cell_of_row w g 4 _ _ _ h];rfl
 ·rw[cell_of_row w g 5 _ _ _ h];rfl
 unfold VB at h;simp[World.frozen?,h]
theorem NQ.reads {w:World}{g:Nat}{M:Nw}(h:NQ w g M):
  w.cell? ⟨g,0,none⟩=some (.bool M.s)∧w.cell? ⟨g,1,none⟩=some (.slice M.a M.n M.c)∧w.cell? ⟨g,2,none⟩=some (.slice M.b M.m M.d)∧∀i,w.frozen? ⟨g,i,none⟩=false:=NB.reads h
theorem VB.later {k g:Nat}{w w':World}{M S:Nw}(h:VB w g M S)(hb:Below k w w')(hg:g<k):VB w' g M S:=(hb.block g hg).trans h
theorem NQ.later {k g:Nat}{w w':World}{M:Nw}(h:NQ w g M)(hb:Below k w w')(hg:g<k):NQ w' g M:=(hb.block g hg).trans h
theorem VB.k6 {w:World}{g k:Nat}{M S:Nw}(h:VB w g M S)(hne:g≠k)(a b c d e f:Value):VB ((((((w.setCell ⟨k,0,none⟩ a).setCell ⟨k,1,none⟩ b).setCell ⟨k,2,none⟩ c).setCell ⟨k,3,none⟩ d).setCell ⟨k,4,none⟩ e).setCell ⟨k,5,none⟩ f) g M S:=
 (heap_setCells_other hne [a,b,c,d,e,f] 0 w).trans h
theorem NQ.k6 {w:World}{g k:Nat}{M:Nw}(h:NQ w g M)(hne:g≠k)(a b c d e f:Value):NQ ((((((w.setCell ⟨k,0,none⟩ a).setCell ⟨k,1,none⟩ b).setCell ⟨k,2,none⟩ c).setCell ⟨k,3,none⟩ d).setCell ⟨k,4,none⟩ e).setCell ⟨k,5,none⟩ f) g M:=
 (heap_setCells_other hne [a,b,c,d,e,f] 0 w).trans h
theorem tw {w:World}{g g':Nat}{M S M' S':Nw}(h:VB w g M S)(h':VB w g' M' S'):w.cell? ⟨g,0,none⟩=some (.bool M.s)∧w.cell? ⟨g,1,none⟩=some (.slice M.a M.n M.c)∧w.cell? ⟨g,2,none⟩=some (.slice M.b M.m M.d)∧w.cell? ⟨g,3,none⟩=some (.bool S.s)∧w.cell? ⟨g,4,none⟩=some (.slice S.a S.n S.c)∧w.cell? ⟨g,5,none⟩=some (.slice S.b S.m S.d)∧w.cell? ⟨g',0,none⟩=some (.bool M'.s)∧w.cell? ⟨g',1,none⟩=some (.slice M'.a M'.n M'.c)∧w.cell? ⟨g',2,none⟩=some (.slice M'.b M'.m M'.d)∧w.cell? ⟨g',3,none⟩=some (.bool S'.s)∧w.cell? ⟨g',4,none⟩=some (.slice S'.a S'.n S'.c)∧w.cell? ⟨g',5,none⟩=some (.slice S'.b S'.m S'.d):=by obtain⟨a,b,c,d,e,f,_⟩:=h.reads;obtain⟨a',b',c',d',e',f',_⟩:=h'.reads;exact⟨a,b,c,d,e,f,a',b',c',d',e',f'⟩
theorem nw {w:World}{g g':Nat}{M S M':Nw}(h:VB w g M S)(h':NQ w g' M'):w.cell? ⟨g,0,none⟩=some (.bool M.s)∧w.cell? ⟨g,1,none⟩=some (.slice M.a M.n M.c)∧w.cell? ⟨g,2,none⟩=some (.slice M.b M.m M.d)∧w.cell? ⟨g,3,none⟩=some (.bool S.s)∧w.cell? ⟨g,4,none⟩=some (.slice S.a S.n S.c)∧w.cell? ⟨g,5,none⟩=some (.slice S.b S.m S.d)∧w.cell? ⟨g',0,none⟩=some (.bool M'.s)∧w.cell? ⟨g',1,none⟩=some (.slice M'.a M'.n M'.c)∧w.cell? ⟨g',2,none⟩=some (.slice M'.b M'.m M'.d):=by obtain⟨a,b,c,d,e,f,_⟩:=h.reads;obtain⟨a',b',c',_⟩:=h'.reads;exact⟨a,b,c,d,e,f,a',b',c'⟩
theorem VB.lt {w:World}{g:Nat}{M S:Nw}(h:VB w g M S):g<w.heap.size:=(Array.getElem?_eq_some_iff.1 h).1
theorem NQ.lt {w:World}{g:Nat}{M:Nw}(h:NQ w g M):g<w.heap.size:=(Array.getElem?_eq_some_iff.1 h).1
def kV (w:World)(x:Bl.V)(e:Ending)(w':World):Prop:=
 ∃M S:Nw,e= .returned (.agg #[.bool M.s,.slice M.a M.n M.c,.slice M.b M.m M.d,.bool S.s,.slice S.a S.n S.c,.slice S.b S.m S.d])∧RA w' x.m M∧RA w' x.s S∧Below w.heap.size w w'
theorem VB.wr {w:World}{g:Nat}{M0 S0 M S:Nw}(h:VB w g M0 S0):Wr w (w.setCells g 0 (M.cs++S.cs)) g 0 (M.cs++S.cs):=by
 refine dY w g 0 _ fun j hj=>?_;obtain⟨a,b,c,d,e,f,_⟩:=h.reads;have hj:j<6:=by simpa[Nw.cs]using hj
 rw[Nat.zero_add];rcases j with _ | _ | _ | _ | _ | _ | j
 ·rw[a];rfl
 ·rw[show(0+1:Nat)=1 from rfl,b];rfl
 ·rw[show(0+1+1:Nat)=2 from rfl,c];rfl
 ·rw[show(0+1+1+1:Nat)=3 from rfl,d];rfl
 ·rw[show(0+1+1+1+1:Nat)=4 from rfl,e];rfl
 ·rw[show(0+1+1+1+1+1:Nat)=5 from rfl,f];rfl
 omega
theorem VB.limb {w w':World}{g:Nat}{M0 S0 M S:Nw}(h:VB w g M0 S0)(hw:Wr w w' g 0 (M.cs++S.cs)):aQ w w':=by
 refine hw.limb fun j x hj=>?_;obtain⟨a,b,c,d,e,f,_⟩:=h.reads;have hj:j<6:=by simpa[Nw.cs]using hj
 rw[Nat.zero_add];rcases j with _ | _ | _ | _ | _ | _ | j
 ·rw[a];simp
 ·rw[show(0+1:Nat)=1 from rfl,b];simp
 ·rw[show(0+1+1:Nat)=2 from rfl,c];simp
 ·rw[show(0+1+1+1:Nat)=3 from rfl,d];simp
 ·rw[show(0+1+1+1+1:Nat)=4 from rfl,e];simp
 ·rw[show(0+1+1+1+1+1:Nat)=5 from rfl,f];simp
 omega
theorem kV.kL {w w6:World}{x:Bl.V}{g:Nat}{M0 S0 M S:Nw}(h:VB w6 g M0 S0)(hb:Below w.heap.size w w6)(hg:w.heap.size≤g)(hm:RA w6 x.m M)(hs:RA w6 x.s S):
  kV w x (.returned (.agg #[.bool M.s,.slice M.a M.n M.c,.slice M.b M.m M.d,.bool S.s,.slice S.a S.n S.c,.slice S.b S.m S.d])) (w6.setCells g 0 (M.cs++S.cs)):=
 ⟨M,S,rfl,hm.limb (h.limb h.wr),hs.limb (h.limb h.wr),h.wr.bel _ _ hg hb⟩
theorem Cj {w:World}{x y:Bl.V}{M S M' S':Nw}(h1:RA w x.m M)(h2:RA w x.s S)(h3:RA w y.m M')(h4:RA w y.s S')(s1:Sz x.m 268435456)(s2:Sz x.s 268435456)(s3:Sz y.m 268435456)(s4:Sz y.s 268435456):
  Calls prog 186 #[.agg #[.bool M.s,.slice M.a M.n M.c,.slice M.b M.m M.d,.bool S.s,.slice S.a S.n S.c,.slice S.b S.m S.d],.agg #[.bool M'.s,.slice M'.a M'.n M'.c,.slice M'.b M'.m M'.d,.bool S'.s,.slice S'.a S'.n S'.c,.slice S'.b S'.m S'.d]] w (kV w (x.add y)):=by
 have P1:=hid h1;have P2:=hid h2;have P3:=hid h3;have P4:=hid h4;have Z1:=hid s1;have Z2:=hid s2;have Z3:=hid s3;have Z4:=hid s4;have T3:=hid (bZ w (.cells #[.bool M.s,.slice M.a M.n M.c,.slice M.b M.m M.d,.bool S.s,.slice S.a S.n S.c,.slice S.b S.m S.d] 174) (.cells #[.bool M'.s,.slice M'.a M'.n M'.c,.slice M'.b M'.m M'.d,.bool S'.s,.slice S'.a S'.n S'.c,.slice S'.b S'.m S'.d] 174) (.cells #[.bool false,.slice none 0 0,.slice none 0 0,.bool false,.slice none 0 0,.slice none 0 0] 174) _ rfl);clear h1 h2 h3 s1 s2 s3 h4 s4;go_enter func186,ntmps186;go_upto_region 1 with fail
 generalize ((w.alloc (.cells #[.bool M.s,.slice M.a M.n M.c,.slice M.b M.m M.d,.bool S.s,.slice S.a S.n S.c,.slice S.b S.m S.d] 174)).alloc (.cells #[.bool M'.s,.slice M'.a M'.n M'.c,.slice M'.b M'.m M'.d,.bool S'.s,.slice S'.a S'.n S'.c,.slice S'.b S'.m S'.d] 174)).alloc (.cells #[.bool false,.slice none 0 0,.slice none 0 0,.bool false,.slice none 0 0,.slice none 0 0] 174)=W0 at*;obtain⟨t1,t2,t3,t4,t5⟩:=T3.out;have X1:Hid (VB W0 w.heap.size M S):=t1;have X2:Hid (VB W0 (w.heap.size+1) M' S'):=t2;have X3:Hid (VB W0 (w.heap.size+2) Nw.zero Nw.zero):=t3;have B0:=hid t4;have S0:=hid t5;clear t1 t2 t3 t4 t5;obtain⟨u0,u1,u2,u3,u4,u5,_⟩:=X1.out.reads;obtain⟨v0,v1,v2,v3,v4,v5,_⟩:=X2.out.reads;have N1:=hid (iq (show RA W0.drew _ _ from(P1.out.below B0.out).below (Below.refl _ _).drew) (show RA W0.drew _ _ from(P3.out.below B0.out).below (Below.refl _ _).drew) Z1.out Z3.out);go_region_held3 (fun W=>W.cell? ⟨w.heap.size,0,none⟩=some (.bool M.s)∧W.cell? ⟨w.heap.size,1,none⟩=some (.slice M.a M.n M.c)∧W.cell? ⟨w.heap.size,2,none⟩=some (.slice M.b M.m M.d)∧W.cell? ⟨w.heap.size,3,none⟩=some (.bool S.s)∧W.cell? ⟨w.heap.size,4,none⟩=some (.slice S.a S.n S.c)∧W.cell? ⟨w.heap.size,5,none⟩=some (.slice S.b S.m S.d)∧W.cell? ⟨w.heap.size+1,0,none⟩=some (.bool M'.s)∧W.cell? ⟨w.heap.size+1,1,none⟩=some (.slice M'.a M'.n M'.c)∧W.cell? ⟨w.heap.size+1,2,none⟩=some (.slice M'.b M'.m M'.d)∧W.cell? ⟨w.heap.size+1,3,none⟩=some (.bool S'.s)∧W.cell? ⟨w.heap.size+1,4,none⟩=some (.slice S'.a S'.n S'.c)∧W.cell? ⟨w.heap.size+1,5,none⟩=some (.slice S'.b S'.m S'.d))
  (first
   | with_reducible exact⟨u0,u1,u2,u3,u4,u5,v0,v1,v2,v3,v4,v5⟩
   | with_reducible exact⟨y0,y1,y2,y3,y4,y5,y6,y7,y8,y9,y10,y11⟩
   | with_reducible exact⟨r0,r1,r2,r3,r4,r5,r6,r7,r8,r9,r10,r11⟩
   | exact tw (H1.out.k6 (by omega) _ _ _ _ _ _) (H2.out.k6 (by omega) _ _ _ _ _ _)
   | go_keep)
  (first
   | (go_at_call 133;((with_reducible refine N1.out.mono ?_));go_loud (rintro e w2 ⟨s2,a2,n2,c2,b2,m2,d2,rfl,L2,B2⟩;have B2:=aJ B2;have eX:=hid (aB B0.out B2);have K1:VB w2 w.heap.size M S:=X1.out.later B2 X1.out.lt;have K2:VB w2 (w.heap.size+1) M' S':=X2.out.later B2 X2.out.lt;have K3:VB w2 (w.heap.size+2) Nw.zero Nw.zero:=X3.out.later B2 X3.out.lt;obtain⟨y0,y1,y2,y3,y4,y5,_⟩:=K1.reads;obtain⟨y6,y7,y8,y9,y10,y11,_⟩:=K2.reads;have K1:=hid K1;have K2:=hid K2;have K3:=hid K3;have L2:=hid L2;have N2:=hid (iq (P2.out.below eX.out) (P4.out.below eX.out) Z2.out Z4.out);clear B2))
   | (go_at_call 133;((with_reducible refine N2.out.mono ?_));go_loud (rintro e w6 ⟨s6,a6,n6,c6,b6,m6,d6,rfl,L6,B6⟩;have K1:VB w6 w.heap.size M S:=K1.out.later B6 K1.out.lt;have K2:VB w6 (w.heap.size+1) M' S':=K2.out.later B6 K2.out.lt;have K3:VB w6 (w.heap.size+2) Nw.zero Nw.zero:=K3.out.later B6 K3.out.lt;obtain⟨r0,r1,r2,r3,r4,r5,_⟩:=K1.reads;obtain⟨r6,r7,r8,r9,r10,r11,_⟩:=K2.reads;obtain⟨z0,z1,z2,z3,z4,z5,f⟩:=K3.reads;have f0:=f 0;have f1:=f 1;have f2:=f 2;have f3:=f 3;have f4:=f 4;have f5:=f 5;have Tq:=K3.lt;clear f;have K3:=hid K3;have L2:=hid (aO.below L2.out B6);have L6:=hid L6;have o8:=hid (aB eX.out B6);have H1:=hid K1;have H2:=hid K2;clear B6)))
 go_wp2_with fail;exact bodyPost_ret (v:= .agg #[.bool s2,.slice a2 n2 c2,.slice b2 m2 d2,.bool s6,.slice a6 n6 c6,.slice b6 m6 d6]) (by simp[results,results186,go_sem,z0,z1,z2,z3,z4,z5]) rfl (kV.kL (M:=⟨s2,a2,n2,c2,b2,m2,d2⟩) (S:=⟨s6,a6,n6,c6,b6,m6,d6⟩) K3.out o8.out (by omega) L2.out L6.out)
theorem mW {w:World}{x y:Bl.V}{M S M' S':Nw}(h1:RA w x.m M)(h2:RA w x.s S)(h3:RA w y.m M')(h4:RA w y.s S')(s1:Sz x.m 268435456)(s2:Sz x.s 268435456)(s3:Sz y.m 268435456)(s4:Sz y.s 268435456):
  Calls prog 159 #[.agg #[.bool M.s,.slice M.a M.n M.c,.slice M.b M.m M.d,.bool S.s,.slice S.a S.n S.c,.slice S.b S.m S.d],.agg #[.bool M'.s,.slice M'.a M'.n M'.c,.slice M'.b M'.m M'.d,.bool S'.s,.slice S'.a S'.n S'.c,.slice S'.b S'.m S'.d]] w (kV w (x.sub y)):=by
 have P1:=hid h1;have P2:=hid h2;have P3:=hid h3;have P4:=hid h4;have Z1:=hid s1;have Z2:=hid s2;have Z3:=hid s3;have Z4:=hid s4;have T3:=hid (bZ w (.cells #[.bool M.s,.slice M.a M.n M.c,.slice M.b M.m M.d,.bool S.s,.slice S.a S.n S.c,.slice S.b S.m S.d] 174) (.cells #[.bool M'.s,.slice M'.a M'.n M'.c,.slice M'.b M'.m M'.d,.bool S'.s,.slice S'.a S'.n S'.c,.slice S'.b S'.m S'.d] 174) (.cells #[.bool false,.slice none 0 0,.slice none 0 0,.bool false,.slice none 0 0,.slice none 0 0] 174) _ rfl);clear h1 h2 h3 s1 s2 s3 h4 s4;go_enter func159,ntmps159;go_upto_region 1 with fail
 generalize ((w.alloc (.cells #[.bool M.s,.slice M.a M.n M.c,.slice M.b M.m M.d,.bool S.s,.slice S.a S.n S.c,.slice S.b S.m S.d] 174)).alloc (.cells #[.bool M'.s,.slice M'.a M'.n M'.c,.slice M'.b M'.m M'.d,.bool S'.s,.slice S'.a S'.n S'.c,.slice S'.b S'.m S'.d] 174)).alloc (.cells #[.bool false,.slice none 0 0,.slice none 0 0,.bool false,.slice none 0 0,.slice none 0 0] 174)=W0 at*;obtain⟨t1,t2,t3,t4,t5⟩:=T3.out;have X1:Hid (VB W0 w.heap.size M S):=t1;have X2:Hid (VB W0 (w.heap.size+1) M' S'):=t2;have X3:Hid (VB W0 (w.heap.size+2) Nw.zero Nw.zero):=t3;have B0:=hid t4;have S0:=hid t5;clear t1 t2 t3 t4 t5;obtain⟨u0,u1,u2,u3,u4,u5,_⟩:=X1.out.reads;obtain⟨v0,v1,v2,v3,v4,v5,_⟩:=X2.out.reads;have N1:=hid (vT (show RA W0.drew _ _ from(P1.out.below B0.out).below (Below.refl _ _).drew) (show RA W0.drew _ _ from(P3.out.below B0.out).below (Below.refl _ _).drew) Z1.out Z3.out);go_region_held3 (fun W=>W.cell? ⟨w.heap.size,0,none⟩=some (.bool M.s)∧W.cell? ⟨w.heap.size,1,none⟩=some (.slice M.a M.n M.c)∧W.cell? ⟨w.heap.size,2,none⟩=some (.slice M.b M.m M.d)∧W.cell? ⟨w.heap.size,3,none⟩=some (.bool S.s)∧W.cell? ⟨w.heap.size,4,none⟩=some (.slice S.a S.n S.c)∧W.cell? ⟨w.heap.size,5,none⟩=some (.slice S.b S.m S.d)∧W.cell? ⟨w.heap.size+1,0,none⟩=some (.bool M'.s)∧W.cell? ⟨w.heap.size+1,1,none⟩=some (.slice M'.a M'.n M'.c)∧W.cell? ⟨w.heap.size+1,2,none⟩=some (.slice M'.b M'.m M'.d)∧W.cell? ⟨w.heap.size+1,3,none⟩=some (.bool S'.s)∧W.cell? ⟨w.heap.size+1,4,none⟩=some (.slice S'.a S'.n S'.c)∧W.cell? ⟨w.heap.size+1,5,none⟩=some (.slice S'.b S'.m S'.d))
  (first
   | with_reducible exact⟨u0,u1,u2,u3,u4,u5,v0,v1,v2,v3,v4,v5⟩
   | with_reducible exact⟨y0,y1,y2,y3,y4,y5,y6,y7,y8,y9,y10,y11⟩
   | with_reducible exact⟨r0,r1,r2,r3,r4,r5,r6,r7,r8,r9,r10,r11⟩
   | exact tw (H1.out.k6 (by omega) _ _ _ _ _ _) (H2.out.k6 (by omega) _ _ _ _ _ _)
   | go_keep)
  (first
   | (go_at_call 120;((with_reducible refine N1.out.mono ?_));go_loud (rintro e w2 ⟨s2,a2,n2,c2,b2,m2,d2,rfl,L2,B2⟩;have B2:=aJ B2;have eX:=hid (aB B0.out B2);have K1:VB w2 w.heap.size M S:=X1.out.later B2 X1.out.lt;have K2:VB w2 (w.heap.size+1) M' S':=X2.out.later B2 X2.out.lt;have K3:VB w2 (w.heap.size+2) Nw.zero Nw.zero:=X3.out.later B2 X3.out.lt;obtain⟨y0,y1,y2,y3,y4,y5,_⟩:=K1.reads;obtain⟨y6,y7,y8,y9,y10,y11,_⟩:=K2.reads;have K1:=hid K1;have K2:=hid K2;have K3:=hid K3;have L2:=hid L2;have N2:=hid (vT (P2.out.below eX.out) (P4.out.below eX.out) Z2.out Z4.out);clear B2))
   | (go_at_call 120;((with_reducible refine N2.out.mono ?_));go_loud (rintro e w6 ⟨s6,a6,n6,c6,b6,m6,d6,rfl,L6,B6⟩;have K1:VB w6 w.heap.size M S:=K1.out.later B6 K1.out.lt;have K2:VB w6 (w.heap.size+1) M' S':=K2.out.later B6 K2.out.lt;have K3:VB w6 (w.heap.size+2) Nw.zero Nw.zero:=K3.out.later B6 K3.out.lt;obtain⟨r0,r1,r2,r3,r4,r5,_⟩:=K1.reads;obtain⟨r6,r7,r8,r9,r10,r11,_⟩:=K2.reads;obtain⟨z0,z1,z2,z3,z4,z5,f⟩:=K3.reads;have f0:=f 0;have f1:=f 1;have f2:=f 2;have f3:=f 3;have f4:=f 4;have f5:=f 5;have Tq:=K3.lt;clear f;have K3:=hid K3;have L2:=hid (aO.below L2.out B6);have L6:=hid L6;have o8:=hid (aB eX.out B6);have H1:=hid K1;have H2:=hid K2;clear B6)))
 go_wp2_with fail;exact bodyPost_ret (v:= .agg #[.bool s2,.slice a2 n2 c2,.slice b2 m2 d2,.bool s6,.slice a6 n6 c6,.slice b6 m6 d6]) (by simp[results,results159,go_sem,z0,z1,z2,z3,z4,z5]) rfl (kV.kL (M:=⟨s2,a2,n2,c2,b2,m2,d2⟩) (S:=⟨s6,a6,n6,c6,b6,m6,d6⟩) K3.out o8.out (by omega) L2.out L6.out)
theorem dH {w:World}{x:Bl.V}{q:Rat}{M S M':Nw}(h1:RA w x.m M)(h2:RA w x.s S)(h3:RA w q M')(s1:Sz x.m 268435456)(s2:Sz x.s 268435456)(s3:Sz q 268435456):
  Calls prog 160 #[.agg #[.bool M.s,.slice M.a M.n M.c,.slice M.b M.m M.d,.bool S.s,.slice S.a S.n S.c,.slice S.b S.m S.d],.agg #[.bool M'.s,.slice M'.a M'.n M'.c,.slice M'.b M'.m M'.d]] w (kV w (Bl.V.mul q x)):=by
 have P1:=hid h1;have P2:=hid h2;have P3:=hid h3;have Z1:=hid s1;have Z2:=hid s2;have Z3:=hid s3;have T3:=hid (bZ w (.cells #[.bool M.s,.slice M.a M.n M.c,.slice M.b M.m M.d,.bool S.s,.slice S.a S.n S.c,.slice S.b S.m S.d] 174) (.cells #[.bool M'.s,.slice M'.a M'.n M'.c,.slice M'.b M'.m M'.d] 25) (.cells #[.bool false,.slice none 0 0,.slice none 0 0,.bool false,.slice none 0 0,.slice none 0 0] 174) _ rfl);clear h1 h2 h3 s1 s2 s3;go_enter func160,ntmps160;go_upto_region 1 with fail
 generalize ((w.alloc (.cells #[.bool M.s,.slice M.a M.n M.c,.slice M.b M.m M.d,.bool S.s,.slice S.a S.n S.c,.slice S.b S.m S.d] 174)).alloc (.cells #[.bool M'.s,.slice M'.a M'.n M'.c,.slice M'.b M'.m M'.d] 25)).alloc (.cells #[.bool false,.slice none 0 0,.slice none 0 0,.bool false,.slice none 0 0,.slice none 0 0] 174)=W0 at*;obtain⟨t1,t2,t3,t4,t5⟩:=T3.out;have X1:Hid (VB W0 w.heap.size M S):=t1;have X2:Hid (NQ W0 (w.heap.size+1) M'):=t2;have X3:Hid (VB W0 (w.heap.size+2) Nw.zero Nw.zero):=t3;have B0:=hid t4;have S0:=hid t5;clear t1 t2 t3 t4 t5;obtain⟨u0,u1,u2,u3,u4,u5,_⟩:=X1.out.reads;obtain⟨v0,v1,v2,_⟩:=X2.out.reads;have N1:=hid (jC (show RA W0.drew _ _ from(P1.out.below B0.out).below (Below.refl _ _).drew) (show RA W0.drew _ _ from(P3.out.below B0.out).below (Below.refl _ _).drew) Z1.out Z3.out);go_region_held3 (fun W=>W.cell? ⟨w.heap.size,0,none⟩=some (.bool M.s)∧W.cell? ⟨w.heap.size,1,none⟩=some (.slice M.a M.n M.c)∧W.cell? ⟨w.heap.size,2,none⟩=some (.slice M.b M.m M.d)∧W.cell? ⟨w.heap.size,3,none⟩=some (.bool S.s)∧W.cell? ⟨w.heap.size,4,none⟩=some (.slice S.a S.n S.c)∧W.cell? ⟨w.heap.size,5,none⟩=some (.slice S.b S.m S.d)∧W.cell? ⟨w.heap.size+1,0,none⟩=some (.bool M'.s)∧W.cell? ⟨w.heap.size+1,1,none⟩=some (.slice M'.a M'.n M'.c)∧W.cell? ⟨w.heap.size+1,2,none⟩=some (.slice M'.b M'.m M'.d))
  (first
   | with_reducible exact⟨u0,u1,u2,u3,u4,u5,v0,v1,v2⟩
   | with_reducible exact⟨y0,y1,y2,y3,y4,y5,y6,y7,y8⟩
   | with_reducible exact⟨r0,r1,r2,r3,r4,r5,r6,r7,r8⟩
   | exact nw (H1.out.k6 (by omega) _ _ _ _ _ _) (H2.out.k6 (by omega) _ _ _ _ _ _)
   | go_keep)
  (first
   | (go_at_call 100;((with_reducible refine N1.out.mono ?_));go_loud (rintro e w2 ⟨s2,a2,n2,c2,b2,m2,d2,rfl,L2,B2⟩;have B2:=aJ B2;have eX:=hid (aB B0.out B2);have K1:VB w2 w.heap.size M S:=X1.out.later B2 X1.out.lt;have K2:NQ w2 (w.heap.size+1) M':=X2.out.later B2 X2.out.lt;have K3:VB w2 (w.heap.size+2) Nw.zero Nw.zero:=X3.out.later B2 X3.out.lt;obtain⟨y0,y1,y2,y3,y4,y5,_⟩:=K1.reads;obtain⟨y6,y7,y8,_⟩:=K2.reads;have K1:=hid K1;have K2:=hid K2;have K3:=hid K3;have L2:=hid L2;have N2:=hid (jC (P2.out.below eX.out) (P3.out.below eX.out) Z2.out Z3.out);clear B2))
   | (go_at_call 100;((with_reducible refine N2.out.mono ?_));go_loud (rintro e w6 ⟨s6,a6,n6,c6,b6,m6,d6,rfl,L6,B6⟩;have K1:VB w6 w.heap.size M S:=K1.out.later B6 K1.out.lt;have K2:NQ w6 (w.heap.size+1) M':=K2.out.later B6 K2.out.lt;have K3:VB w6 (w.heap.size+2) Nw.zero Nw.zero:=K3.out.later B6 K3.out.lt;obtain⟨r0,r1,r2,r3,r4,r5,_⟩:=K1.reads;obtain⟨r6,r7,r8,_⟩:=K2.reads;obtain⟨z0,z1,z2,z3,z4,z5,f⟩:=K3.reads;have f0:=f 0;have f1:=f 1;have f2:=f 2;have f3:=f 3;have f4:=f 4;have f5:=f 5;have Tq:=K3.lt;clear f;have K3:=hid K3;have L2:=hid (aO.below L2.out B6);have L6:=hid L6;have o8:=hid (aB eX.out B6);have H1:=hid K1;have H2:=hid K2;clear B6)))
 go_wp2_with fail;exact bodyPost_ret (v:= .agg #[.bool s2,.slice a2 n2 c2,.slice b2 m2 d2,.bool s6,.slice a6 n6 c6,.slice b6 m6 d6]) (by simp[results,results160,go_sem,z0,z1,z2,z3,z4,z5]) rfl (kV.kL (M:=⟨s2,a2,n2,c2,b2,m2,d2⟩) (S:=⟨s6,a6,n6,c6,b6,m6,d6⟩) K3.out o8.out (by omega) (show aO w6 (q*x.m) _ _ _ _ _ _ _ by rw[Rat.mul_comm];exact L2.out) (show aO w6 (q*x.s) _ _ _ _ _ _ _ by rw[Rat.mul_comm];exact L6.out))
end Go.Proofs.YtijdglogadnbcaaGreat
