/- Tables of the simplex method: exchanging a row and a column. No program. -/
import Derived.Test.YtijdglogadnbcaaGreatY07
import Derived.Test.YtijdglogadnbcaaGreatY06
import Derived.Laws.IdiomCopy
set_option linter.unusedVariables false
set_option linter.unusedSimpArgs false
set_option maxRecDepth 100000
set_option maxHeartbeats 40000000
namespace Go.Proofs.YtijdglogadnbcaaGreat.Bl
open Go.Proofs.Tryz
structure Pb where
 n:Nat
 m:Nat
 low:Nat→Option V
 high:Nat→Option V
 now:Nat→V
 basic:Nat→Nat
 free:Nat→Nat
 T:Nat→Nat→Rat
structure Pb.Pl (P:Pb):Prop where
 blt:∀i,i<P.m→P.basic i<P.n+P.m
 flt:∀k,k<P.n→P.free k<P.n+P.m
 FC:∀i j,i<P.m→j<P.m→P.basic i=P.basic j→i=j
 FH:∀i j,i<P.n→j<P.n→P.free i=P.free j→i=j
 tX:∀i k,i<P.m→k<P.n→P.basic i≠P.free k
 cover:∀v,v<P.n+P.m→(∃i,i<P.m∧P.basic i=v)∨∃k,k<P.n∧P.free k=v
def Pb.nb (P:Pb)(v:Nat):Prop:=∃k,k<P.n∧P.free k=v
def Pb.TW (P:Pb)(y:Nat→Rat):Prop:=∀i,i<P.m→y (P.basic i)=sm P.n fun k=>P.T i k*y (P.free k)
def Pb.TV (P:Pb)(y:Nat→V):Prop:=P.TW (fun j=>(y j).m)∧P.TW (fun j=>(y j).s)
theorem vP {n c:Nat}(hc:c<n)(f:Nat→Rat):sm n f=sm n (fun k=>if k=c then 0 else f k)+f c:=by
 have e:∀k,f k=(if k=c then 0 else f k)+(if k=c then f c else 0):=fun k=>by
  by_cases h:k=c
  ·subst h;simp;grind
  simp[h];grind
 have:sm n f=sm n (fun k=>(if k=c then 0 else f k)+(if k=c then f c else 0)):=dw fun k _=>e k;rw[this,rU,lK (r:=c) (f:=fun k=>if k=c then f c else 0) hc fun j _ hj=>by simp[hj]];simp
def Pb.pivot (P:Pb)(r c:Nat):Pb:=
 {P with
  basic:=fun i=>if i=r then P.free c else P.basic i
  free:=fun k=>if k=c then P.basic r else P.free k
  T:=fun i k=>if i=r then(if k=c then(P.T r c)⁻¹ else-(P.T r k*(P.T r c)⁻¹))
   else(if k=c then 0 else P.T i k)+P.T i c*(if k=c then(P.T r c)⁻¹ else-(P.T r k*(P.T r c)⁻¹))}
theorem Pb.Pl.pivot {P:Pb}(h:P.Pl){r c:Nat}(hr:r<P.m)(hc:c<P.n):(P.pivot r c).Pl:=by
 have b:∀i,(P.pivot r c).basic i=if i=r then P.free c else P.basic i:=fun _=>rfl
 have f:∀k,(P.pivot r c).free k=if k=c then P.basic r else P.free k:=fun _=>rfl
 refine⟨fun i hi=>?_,fun k hk=>?_,fun i j hi hj e=>?_,fun i j hi hj e=>?_,fun i k hi hk=>?_,fun v hv=>?_⟩
 ·rw[b];split
  ·exact h.flt c hc
  exact h.blt i hi
 ·rw[f];split
  ·exact h.blt r hr
  exact h.flt k hk
 ·rw[b,b]at e;split at e<;>split at e
  ·omega
  ·exact absurd e.symm (h.tX j c hj hc)
  ·exact absurd e (h.tX i c hi hc)
  exact h.FC i j hi hj e
 ·rw[f,f]at e;split at e<;>split at e
  ·omega
  ·exact absurd e (h.tX r j hr hj)
  ·exact absurd e.symm (h.tX r i hr hi)
  exact h.FH i j hi hj e
 ·rw[b,f];by_cases h1:i=r
  ·rw[if_pos h1];by_cases h2:k=c
   ·rw[if_pos h2];exact(h.tX r c hr hc).symm
   rw[if_neg h2];exact fun e=>h2 (h.FH k c hk hc e.symm)
  rw[if_neg h1];by_cases h2:k=c
  ·rw[if_pos h2];exact fun e=>h1 (h.FC i r hi hr e)
  rw[if_neg h2];exact h.tX i k hi hk
 rcases h.cover v hv with⟨i,hi,e⟩ | ⟨k,hk,e⟩
 ·by_cases h1:i=r
  ·right;exact⟨c,hc,by rw[f,if_pos rfl,←h1];exact e⟩
  left;exact⟨i,hi,by rw[b,if_neg h1];exact e⟩
 by_cases h1:k=c
 ·left;exact⟨r,hr,by rw[b,if_pos rfl,←h1];exact e⟩
 right;exact⟨k,hk,by rw[f,if_neg h1];exact e⟩
theorem Pb.Pl.BZ {P:Pb}(h:P.Pl){i:Nat}(hi:i<P.m):¬P.nb (P.basic i):=fun⟨k,hk,e⟩=>h.tX i k hi hk e.symm
theorem Pb.Pl.Cb {P:Pb}(h:P.Pl){r c:Nat}(hr:r<P.m)(hc:c<P.n)(j:Nat):(P.pivot r c).nb j↔(P.nb j∧j≠P.free c)∨j=P.basic r:=by
 have f:∀k,(P.pivot r c).free k=if k=c then P.basic r else P.free k:=fun _=>rfl
 constructor
 ·rintro⟨k,hk,e⟩;rw[f]at e;split at e
  ·exact Or.inr e.symm
  exact Or.inl ⟨⟨k,hk,e⟩,fun q=>by rename_i hne;exact hne (h.FH k c hk hc (e.trans q))⟩
 rintro(⟨⟨k,hk,e⟩,hne⟩ | e)
 ·refine⟨k,hk,?_⟩;rw[f,if_neg fun q=>hne (by rw[←e,q])];exact e
 exact⟨c,hc,by rw[f,if_pos rfl];exact e.symm⟩
theorem Pb.qF {P:Pb}(h:P.Pl){r c:Nat}(hr:r<P.m)(hc:c<P.n)(hz:P.T r c≠0)(y:Nat→Rat):P.TW y↔(P.pivot r c).TW y:=by
 have zi:P.T r c*(P.T r c)⁻¹=1:=Rat.mul_inv_cancel _ hz;have solve:y (P.basic r)=sm P.n (fun k=>P.T r k*y (P.free k))↔
   y (P.free c)=sm P.n fun k=>(if k=c then(P.T r c)⁻¹ else-(P.T r k*(P.T r c)⁻¹))*y (if k=c then P.basic r else P.free k):=by
  rw[vP hc,vP hc (fun k=>(if k=c then(P.T r c)⁻¹ else-(P.T r k*(P.T r c)⁻¹))*y (if k=c then P.basic r else P.free k))]
  have e:sm P.n (fun k=>if k=c then(0:Rat)else(if k=c then(P.T r c)⁻¹ else-(P.T r k*(P.T r c)⁻¹))*y (if k=c then P.basic r else P.free k))= -(P.T r c)⁻¹*sm P.n (fun k=>if k=c then 0 else P.T r k*y (P.free k)):=by
   rw[←rV]
   refine dw fun k _=>?_
   by_cases q:k=c
   ·simp[q]
   ·simp only[if_neg q];grind
  rw[e]
  simp only[if_true]
  generalize sm P.n (fun k=>if k=c then 0 else P.T r k*y (P.free k))=S
  generalize P.T r c=t at*
  generalize t⁻¹=u at*
  constructor
  ·intro q;rw[q]
   have:u*(S+t*y (P.free c))=u*S+(t*u)*y (P.free c):=by grind
   rw[zi]at this;grind
  ·intro q;rw[q]
   have:t*(-u*S+u*y (P.basic r))= -(t*u)*S+(t*u)*y (P.basic r):=by grind
   rw[zi]at this;grind
 have other:∀i,i≠r→y (P.free c)=sm P.n (fun k=>(if k=c then(P.T r c)⁻¹ else-(P.T r k*(P.T r c)⁻¹))*y (if k=c then P.basic r else P.free k))→
   sm P.n (fun k=>P.T i k*y (P.free k))=sm P.n fun k=>((if k=c then 0 else P.T i k)+P.T i c*(if k=c then(P.T r c)⁻¹ else-(P.T r k*(P.T r c)⁻¹)))*y (if k=c then P.basic r else P.free k):=by
  intro i _ hy
  have e:sm P.n (fun k=>((if k=c then 0 else P.T i k)+P.T i c*(if k=c then(P.T r c)⁻¹ else-(P.T r k*(P.T r c)⁻¹)))*y (if k=c then P.basic r else P.free k))=
    sm P.n (fun k=>if k=c then 0 else P.T i k*y (P.free k))+P.T i c*y (P.free c):=by
   rw[hy,←rV,←rU]
   refine dw fun k _=>?_
   by_cases q:k=c
   ·simp only[if_pos q];grind
   ·simp only[if_neg q];grind
  rw[e,vP hc]
 constructor
 ·intro H i hi;by_cases q:i=r
  ·subst q;have:=solve.1 (H i hi);simp only[Pb.pivot,if_true];exact this
  have h1:=other i q (solve.1 (H r hr));have:=H i hi;simp only[Pb.pivot,if_neg q];rw[this,h1]
 intro H;have hr':=H r hr;simp only[Pb.pivot,if_true]at hr';intro i hi;by_cases q:i=r
 ·subst q;exact solve.2 hr'
 have h1:=other i q hr';have:=H i hi;simp only[Pb.pivot,if_neg q]at this;rw[this,h1]
theorem Pb.vS {P:Pb}(h:P.Pl){r c:Nat}(hr:r<P.m)(hc:c<P.n)(hz:P.T r c≠0)(y:Nat→V):P.TV y↔(P.pivot r c).TV y:=by unfold Pb.TV;rw[Pb.qF h hr hc hz,Pb.qF h hr hc hz]
end Go.Proofs.YtijdglogadnbcaaGreat.Bl
namespace Go.Proofs.YtijdglogadnbcaaGreat
open Go.Proofs.Tryz
open Go.RowKit Nt Bl
structure Nw where
 s:Bool
 a:Option Addr
 n:Nat
 c:Nat
 b:Option Addr
 m:Nat
 d:Nat
def RA (w:World)(q:Rat)(N:Nw):Prop:=aO w q N.s N.a N.n N.c N.b N.m N.d
def dh (w:World)(g ty:Nat):Prop:=∃arr,w.heap[g]? =some (.cells arr ty (0,0))
theorem dh.free {w:World}{g ty:Nat}(h:dh w g ty)(i:Nat):w.frozen? ⟨g,i,none⟩=false:=by obtain⟨arr,h⟩:=h;simp[World.frozen?,h]
theorem dh.lt {w:World}{g ty:Nat}(h:dh w g ty):g<w.heap.size:=by obtain⟨arr,h⟩:=h;exact(Array.getElem?_eq_some_iff.1 h).1
theorem dh.ne {w:World}{g g' ty ty':Nat}(h:dh w g ty)(h':dh w g' ty')(hne:ty≠ty'):g≠g':=by obtain⟨arr,h⟩:=h;obtain⟨arr',h'⟩:=h';rintro rfl;rw[h]at h';simp only[Option.some.injEq,Obj.cells.injEq]at h';exact hne h'.2.1
theorem dh.keep {w w':World}{g ty:Nat}(h:dh w g ty)(e:w'.heap[g]? =w.heap[g]?):dh w' g ty:=by obtain⟨arr,h⟩:=h;exact⟨arr,e.trans h⟩
theorem dh.setCell {w:World}{g ty:Nat}(h:dh w g ty)(b i:Nat)(v:Value):dh (w.setCell ⟨b,i,none⟩ v) g ty:=by
 by_cases e:g=b
 ·subst e;obtain⟨arr,h⟩:=h;exact⟨_,heap_setCell_same w g i arr ty v h⟩
 exact h.keep (heap_setCell_other _ _ _ _ e)
theorem dh.setCells {g ty b:Nat}:∀(vs:List Value) (o:Nat) (w:World),dh w g ty→dh (w.setCells b o vs) g ty
 | [],_,_,h=>h
 | v::vs,o,w,h=>dh.setCells vs (o+1) _ (h.setCell b o v)
theorem heap_setCells_other {b k:Nat}(hk:k≠b):∀(vs:List Value) (o:Nat) (w:World),(w.setCells b o vs).heap[k]? =w.heap[k]?
 | [],_,_=>rfl
 | v::vs,o,w=>(heap_setCells_other hk vs (o+1) _).trans (heap_setCell_other _ _ _ _ hk)
theorem below_setCells {b k:Nat}{w0:World}(hk:k≤b):∀(vs:List Value) (o:Nat) (w:World),Below k w0 w→Below k w0 (w.setCells b o vs)
 | [],_,_,h=>h
 | v::vs,o,w,h=>below_setCells hk vs (o+1) _ (h.setCell hk v)
structure Wr (w w':World)(g o:Nat)(vs:List Value):Prop where
 jm:∀b,b≠g→w'.heap[b]? =w.heap[b]?
 rest:∀j,(j<o∨o+vs.length≤j)→w'.cell? ⟨g,j,none⟩=w.cell? ⟨g,j,none⟩
 new:∀j,j<vs.length→w'.cell? ⟨g,o+j,none⟩=vs[j]?
 blk:∀k ty,dh w k ty→dh w' k ty
 bel:∀k w0,k≤g→Below k w0 w→Below k w0 w'
theorem dY (w:World)(g o:Nat)(vs:List Value)(hex:∀j,j<vs.length→(w.cell? ⟨g,o+j,none⟩).isSome=true):Wr w (w.setCells g o vs) g o vs where
 jm b hb:=heap_setCells_other hb vs o w
 rest j hj:=World.cell?_setCells_out g vs o w ⟨g,j,none⟩ fun _ _=>hj
 new j hj:=by rw[World.cell?_setCells_in g vs o w hex j hj,List.getElem?_eq_getElem hj]
 blk k ty h:=h.setCells vs o w
 bel k w0 hk h:=below_setCells hk vs o w h
def aQ (w w':World):Prop:=∀b o x,w.cell? ⟨b,o,none⟩=some (.int .u32 x)→w'.cell? ⟨b,o,none⟩=some (.int .u32 x)
theorem aQ.refl (w:World):aQ w w:=fun _ _ _ h=>h
theorem aQ.trans {a b c:World}(h:aQ a b)(k:aQ b c):aQ a c:=fun i o x e=>k i o x (h i o x e)
theorem aQ.of_below {w w':World}(hb:Below w.heap.size w w'):aQ w w':=fun _ _ _ h=>aj hb h
theorem EI.limb {w w':World}{l:List Nat}{a:Option Addr}(h:EI w l a)(hl:aQ w w'):EI w' l a:=by intro hne;obtain⟨b,o,e,d⟩:=h hne;exact⟨b,o,e,fun i hi=>hl _ _ _ (d i hi)⟩
theorem bW.limb {w w':World}{l:List Nat}{a:Option Addr}{n c:Nat}(h:bW w l a n c)(hl:aQ w w'):bW w' l a n c:=⟨h.at_.limb hl,h.len,h.le,h.cap,h.lm⟩
theorem RA.limb {w w':World}{q:Rat}{N:Nw}(h:RA w q N)(hl:aQ w w'):RA w' q N:=⟨h.sg,h.num.limb hl,h.den.limb hl⟩
theorem Wr.limb {w w':World}{g o:Nat}{vs:List Value}(h:Wr w w' g o vs)(old:∀j x,j<vs.length→w.cell? ⟨g,o+j,none⟩≠some (.int .u32 x)):aQ w w':=by
 intro b i x e;by_cases hb:b=g
 ·subst hb;by_cases hi:i<o∨o+vs.length≤i
  ·rw[h.rest i hi];exact e
  obtain⟨j,rfl⟩:∃j,i=o+j:=⟨i-o,by omega⟩;exact absurd e (old j x (by omega))
 rw[World.cell?_of_block (h.jm b hb)];exact e
def zG (w:World)(g o:Nat)(q:Rat):Prop:=∃N:Nw,w.cell? ⟨g,o,none⟩=some (.bool N.s)∧w.cell? ⟨g,o+1,none⟩=some (.slice N.a N.n N.c)∧w.cell? ⟨g,o+2,none⟩=some (.slice N.b N.m N.d)∧RA w q N
theorem zG.keep {w w':World}{g o:Nat}{q:Rat}(h:zG w g o q)(hc:∀j,j<3→w'.cell? ⟨g,o+j,none⟩=w.cell? ⟨g,o+j,none⟩)(hl:aQ w w'):zG w' g o q:=by obtain⟨N,a,b,c,d⟩:=h;exact⟨N,(hc 0 (by omega)).trans a,(hc 1 (by omega)).trans b,(hc 2 (by omega)).trans c,d.limb hl⟩
theorem zG.Cc {w:World}{g o:Nat}{q:Rat}(h:zG w g o q)(j:Nat)(hj:j<3)(x:Int):w.cell? ⟨g,o+j,none⟩≠some (.int .u32 x):=by
 obtain⟨N,a,b,c,d⟩:=h;rcases j with _ | _ | _ | j
 ·rw[show o+0=o from rfl,a];simp
 ·rw[b];simp
 ·rw[show o+(0+1+1)=o+2 from rfl,c];simp
 omega
def zH (w:World)(g o:Nat)(v:V):Prop:=zG w g o v.m∧zG w g (o+3) v.s
theorem zH.keep {w w':World}{g o:Nat}{v:V}(h:zH w g o v)(hc:∀j,j<6→w'.cell? ⟨g,o+j,none⟩=w.cell? ⟨g,o+j,none⟩)(hl:aQ w w'):zH w' g o v:=
 ⟨h.1.keep (fun j hj=>hc j (by omega)) hl,h.2.keep (fun j hj=>by have:=hc (3+j) (by omega);rwa[←Nat.add_assoc]at this) hl⟩
theorem zH.Cc {w:World}{g o:Nat}{v:V}(h:zH w g o v)(j:Nat)(hj:j<6)(x:Int):w.cell? ⟨g,o+j,none⟩≠some (.int .u32 x):=by
 by_cases h3:j<3
 ·exact h.1.Cc j h3 x
 obtain⟨k,rfl⟩:∃k,j=3+k:=⟨j-3,by omega⟩;rw[←Nat.add_assoc];exact h.2.Cc k (by omega) x
def wZ (w:World)(g o:Nat):Option V→Prop
 | none=>w.cell? ⟨g,o,none⟩=some (.bool false)∧∃M S:Nw,w.cell? ⟨g,o+1,none⟩=some (.bool M.s)∧w.cell? ⟨g,o+2,none⟩=some (.slice M.a M.n M.c)∧w.cell? ⟨g,o+3,none⟩=some (.slice M.b M.m M.d)∧
   w.cell? ⟨g,o+4,none⟩=some (.bool S.s)∧w.cell? ⟨g,o+5,none⟩=some (.slice S.a S.n S.c)∧w.cell? ⟨g,o+6,none⟩=some (.slice S.b S.m S.d)
 | some v=>w.cell? ⟨g,o,none⟩=some (.bool true)∧zH w g (o+1) v
theorem wZ.keep {w w':World}{g o:Nat}{v:Option V}(h:wZ w g o v)(hc:∀j,j<7→w'.cell? ⟨g,o+j,none⟩=w.cell? ⟨g,o+j,none⟩)(hl:aQ w w'):wZ w' g o v:=by
 cases v with
 | none=>
  obtain⟨a,M,S,b,c,d,e,f,i⟩:=h
  exact⟨(hc 0 (by omega)).trans a,M,S,(hc 1 (by omega)).trans b,(hc 2 (by omega)).trans c,(hc 3 (by omega)).trans d,(hc 4 (by omega)).trans e,(hc 5 (by omega)).trans f,(hc 6 (by omega)).trans i⟩
 | some v=>exact⟨(hc 0 (by omega)).trans h.1,h.2.keep (fun j hj=>by have:=hc (1+j) (by omega);rwa[←Nat.add_assoc]at this) hl⟩
theorem aN {w w':World}{g:Nat}(e:w'.heap[g]? =w.heap[g]?) (i:Nat):w'.cell? ⟨g,i,none⟩=w.cell? ⟨g,i,none⟩:=World.cell?_of_block e
structure rW (ty:Nat)(w:World)(g N:Nat)(f:Nat→V):Prop where
 blk:dh w g ty
 at_:∀v,v<N→zH w g (v*6) (f v)
theorem rW.keep {ty:Nat}{w w':World}{g N:Nat}{f:Nat→V}(h:rW ty w g N f)(e:w'.heap[g]? =w.heap[g]?) (hl:aQ w w'):rW ty w' g N f:=
 ⟨h.blk.keep e,fun v hv=>(h.at_ v hv).keep (fun j _=>aN e _) hl⟩
def Nw.cs (N:Nw):List Value:=[.bool N.s,.slice N.a N.n N.c,.slice N.b N.m N.d]
theorem rW.limb {ty:Nat}{w w':World}{g N v:Nat}{f:Nat→V}{M S:Nw}(h:rW ty w g N f)(hv:v<N)(hw:Wr w w' g (v*6) (M.cs++S.cs)):aQ w w':=
 hw.limb fun j x hj=>(h.at_ v hv).Cc j (by simpa[Nw.cs]using hj) x
theorem qG {w w':World}{g o:Nat}{q:Rat}{N:Nw}(h0:w'.cell? ⟨g,o,none⟩=some (.bool N.s))(h1:w'.cell? ⟨g,o+1,none⟩=some (.slice N.a N.n N.c))(h2:w'.cell? ⟨g,o+2,none⟩=some (.slice N.b N.m N.d))(h:RA w q N)(hl:aQ w w'):zG w' g o q:=
 ⟨N,h0,h1,h2,h.limb hl⟩
theorem rW.set {ty:Nat}{w w':World}{g N v:Nat}{f:Nat→V}{M S:Nw}{x:V}(h:rW ty w g N f)(hv:v<N)(hw:Wr w w' g (v*6) (M.cs++S.cs))(hm:RA w x.m M)(hs:RA w x.s S):rW ty w' g N (fun j=>if j=v then x else f j):=by
 have hl:=h.limb hv hw;refine⟨hw.blk _ _ h.blk,fun j hj=>?_⟩;by_cases e:j=v
 ·subst e;simp only[if_true];exact⟨qG (hw.new 0 (by simp[Nw.cs])) (hw.new 1 (by simp[Nw.cs])) (hw.new 2 (by simp[Nw.cs])) hm hl,qG (hw.new 3 (by simp[Nw.cs])) (hw.new 4 (by simp[Nw.cs])) (hw.new 5 (by simp[Nw.cs])) hs hl⟩
 simp only[if_neg e];exact(h.at_ j hj).keep (fun i hi=>hw.rest _ (by simp[Nw.cs];omega)) hl
structure tY (w:World)(g N:Nat)(f:Nat→Nat):Prop where
 blk:dh w g 3
 at_:∀i,i<N→w.cell? ⟨g,i,none⟩=some (.int .i64 ((f i:Nat):Int))
theorem tY.keep {w w':World}{g N:Nat}{f:Nat→Nat}(h:tY w g N f)(e:w'.heap[g]? =w.heap[g]?):tY w' g N f:=
 ⟨h.blk.keep e,fun v hv=>(aN e v).trans (h.at_ v hv)⟩
theorem tY.limb {w w':World}{g N i x:Nat}{f:Nat→Nat}(h:tY w g N f)(hi:i<N)(hw:Wr w w' g i [.int .i64 (x:Int)]):aQ w w':=
 hw.limb fun j y hj=>by
  have:j=0:=by simpa using hj
  subst this;rw[Nat.add_zero,h.at_ i hi];simp
theorem tY.set {w w':World}{g N i x:Nat}{f:Nat→Nat}(h:tY w g N f)(hi:i<N)(hw:Wr w w' g i [.int .i64 (x:Int)]):tY w' g N (fun j=>if j=i then x else f j):=by
 refine⟨hw.blk _ _ h.blk,fun j hj=>?_⟩;by_cases e:j=i
 ·subst e;simp only[if_true];exact hw.new 0 (by simp)
 simp only[if_neg e];rw[hw.rest j (by simp;omega)];exact h.at_ j hj
structure fE (w:World)(g n:Nat)(f:Nat→Rat):Prop where
 blk:dh w g 25
 at_:∀k,k<n→zG w g (k*3) (f k)
theorem fE.keep {w w':World}{g n:Nat}{f:Nat→Rat}(h:fE w g n f)(e:w'.heap[g]? =w.heap[g]?) (hl:aQ w w'):fE w' g n f:=
 ⟨h.blk.keep e,fun v hv=>(h.at_ v hv).keep (fun j _=>aN e _) hl⟩
theorem fE.limb {w w':World}{g n k:Nat}{f:Nat→Rat}{M:Nw}(h:fE w g n f)(hk:k<n)(hw:Wr w w' g (k*3) M.cs):aQ w w':=
 hw.limb fun j x hj=>(h.at_ k hk).Cc j (by simpa[Nw.cs]using hj) x
theorem fE.set {w w':World}{g n k:Nat}{f:Nat→Rat}{M:Nw}{x:Rat}(h:fE w g n f)(hk:k<n)(hw:Wr w w' g (k*3) M.cs)(hm:RA w x M):fE w' g n (fun j=>if j=k then x else f j):=by
 have hl:=h.limb hk hw;refine⟨hw.blk _ _ h.blk,fun j hj=>?_⟩;by_cases e:j=k
 ·subst e;simp only[if_true];exact qG (hw.new 0 (by simp[Nw.cs])) (hw.new 1 (by simp[Nw.cs])) (hw.new 2 (by simp[Nw.cs])) hm hl
 simp only[if_neg e];exact(h.at_ j hj).keep (fun i hi=>hw.rest _ (by simp[Nw.cs];omega)) hl
structure lV (ty:Nat)(w:World)(g N:Nat)(f:Nat→Option V):Prop where
 blk:dh w g ty
 at_:∀v,v<N→wZ w g (v*7) (f v)
theorem lV.keep {ty:Nat}{w w':World}{g N:Nat}{f:Nat→Option V}(h:lV ty w g N f)(e:w'.heap[g]? =w.heap[g]?) (hl:aQ w w'):lV ty w' g N f:=
 ⟨h.blk.keep e,fun v hv=>(h.at_ v hv).keep (fun j _=>aN e _) hl⟩
end Go.Proofs.YtijdglogadnbcaaGreat
namespace Go.Proofs.YtijdglogadnbcaaGreat
open Go.Proofs.Tryz
open Go.RowKit Nt
def Sz (q:Rat)(k:Nat):Prop:=(aC q.num.natAbs).length≤k∧(aC q.den).length≤k
theorem aW {x y k l:Nat}(hx:(aC x).length≤k)(hy:(aC y).length≤l):(aC (x*y)).length≤k+l:=by refine bn ?_;have h1:=dD (bD x);have h2:=dD (bD y);rw[au]at h1 h2;have h3:4294967296^(aC x).length≤4294967296^k:=Nat.pow_le_pow_right (by omega) hx;have h4:4294967296^(aC y).length≤4294967296^l:=Nat.pow_le_pow_right (by omega) hy;rw[Nat.pow_add];exact Nat.mul_lt_mul'' (by omega) (by omega)
theorem aJ {W w2:World}(h:Below W.drew.heap.size W.drew w2):Below W.heap.size W w2:=⟨h.os,h.tape,h.output,h.size,h.block⟩
theorem NB.gy {w:World}{g k:Nat}{s:Bool}{a b:Option Addr}{n c m d:Nat}(h:NB w g s a n c b m d)(hne:g≠k)(x y z:Value):NB (((w.setCell ⟨k,0,none⟩ x).setCell ⟨k,1,none⟩ y).setCell ⟨k,2,none⟩ z) g s a n c b m d:=
 (ay w k x y z g hne).trans h
theorem NB.cells {w:World}{g:Nat}{s:Bool}{a b:Option Addr}{n c m d:Nat}(h:NB w g s a n c b m d):w.cell? ⟨g,0,none⟩=some (.bool s)∧w.cell? ⟨g,1,none⟩=some (.slice a n c)∧w.cell? ⟨g,2,none⟩=some (.slice b m d):=
 ⟨h.reads.1,h.reads.2.1,h.reads.2.2.1⟩
theorem six {w:World}{g k:Nat}{s t:Bool}{a b a' b':Option Addr}{n c m d n' c' m' d':Nat}(h:NB w g s a n c b m d)(h':NB w k t a' n' c' b' m' d'):
  w.cell? ⟨g,0,none⟩=some (.bool s)∧w.cell? ⟨g,1,none⟩=some (.slice a n c)∧w.cell? ⟨g,2,none⟩=some (.slice b m d)∧w.cell? ⟨k,0,none⟩=some (.bool t)∧w.cell? ⟨k,1,none⟩=some (.slice a' n' c')∧w.cell? ⟨k,2,none⟩=some (.slice b' m' d'):=
 ⟨h.cells.1,h.cells.2.1,h.cells.2.2,h'.cells.1,h'.cells.2.1,h'.cells.2.2⟩
theorem bZ (w:World)(x y z:Obj):∀W,W=((w.alloc x).alloc y).alloc z→W.heap[w.heap.size]? =some x∧W.heap[w.heap.size+1]? =some y∧W.heap[w.heap.size+2]? =some z∧Below w.heap.size w W∧W.heap.size=w.heap.size+3:=by
 rintro W rfl;have s1:(w.alloc x).heap.size=w.heap.size+1:=by simp
 have s2:((w.alloc x).alloc y).heap.size=w.heap.size+2:=by simp
 refine⟨?_,?_,?_,?_,by simp⟩
 ·rw[Below.heap_alloc _ _ _ (by rw[s2];omega),Below.heap_alloc _ _ _ (by rw[s1];omega)];exact heap_alloc_new w x
 ·rw[Below.heap_alloc _ _ _ (by rw[s2];omega),←s1];exact heap_alloc_new _ y
 ·rw[←s2];exact heap_alloc_new _ z
 exact((ah w x).alloc (by rw[s1];omega) _).alloc (by rw[s2];omega) _
theorem UE {w:World}{p q:Rat}{s t:Bool}{a b a' b':Option Addr}{n c m d n' c' m' d':Nat}(hp:aO w p s a n c b m d)(hq:aO w q t a' n' c' b' m' d')(sp:Sz p 268435456)(sq:Sz q 268435456)(p0:p≠0)(q0:q≠0):
  Calls prog 100 #[.agg #[.bool s,.slice a n c,.slice b m d],.agg #[.bool t,.slice a' n' c',.slice b' m' d']] w (iC w (p*q)):=by
 have hn:n≠0:=fun e=>p0 (hp.zero.1 e);have hn':n'≠0:=fun e=>q0 (hq.zero.1 e);have P:=hid hp;have Q:=hid hq;have s1:=sp.1;have s2:=sp.2;have s3:=sq.1;have s4:=sq.2;rw[hp.num.len]at s1;rw[hp.den.len]at s2;rw[hq.num.len]at s3;rw[hq.den.len]at s4;have nz:((n:Int)==0)=false:=by simp;exact hn
 have nz':((n':Int)==0)=false:=by simp;exact hn'
 have T3:=hid (bZ w (.cells #[.bool s,.slice a n c,.slice b m d] 25) (.cells #[.bool t,.slice a' n' c',.slice b' m' d'] 25) (.cells #[.bool false,.slice none 0 0,.slice none 0 0] 25) _ rfl);have C1:=hid (fun(W:World) (hB:Below w.heap.size w W)=>mul_any (hp.num.below hB) (hq.num.below hB) (by omega) (by omega));have C2:=hid (fun(W:World) (hB:Below w.heap.size w W)=>mul_any (hp.den.below hB) (hq.den.below hB) (by omega) (by omega));have MF:=hid (uK p q);have dz:Hid (p.den*q.den≠0):=Nat.mul_ne_zero p.den_nz q.den_nz;have VN:Hid (vl (aC p.num.natAbs)*vl (aC q.num.natAbs)=p.num.natAbs*q.num.natAbs∧vl (aC p.den)*vl (aC q.den)=p.den*q.den):=⟨by rw[au,au],by rw[au,au]⟩;have SN:Hid ((aC (p.num.natAbs*q.num.natAbs)).length≤1099511627775∧(aC (p.den*q.den)).length≤1099511627775):=
  ⟨Nat.le_trans (aW sp.1 sq.1) (by omega),Nat.le_trans (aW sp.2 sq.2) (by omega)⟩
 have SG:Hid ((s !=t)=(decide (p.num<0) !=decide (q.num<0))):=by show _=_;rw[←hp.sg,←hq.sg]
 clear hp hq sp sq p0 q0 hn hn';go_enter func100,ntmps100;go_wp2_with fail;generalize ((w.alloc (.cells #[.bool s,.slice a n c,.slice b m d] 25)).alloc (.cells #[.bool t,.slice a' n' c',.slice b' m' d'] 25)).alloc (.cells #[.bool false,.slice none 0 0,.slice none 0 0] 25)=W0 at*;obtain⟨t1,t2,t3,t4,t5⟩:=T3.out;have X1:Hid (NB W0 w.heap.size s a n c b m d):=t1;have X2:Hid (NB W0 (w.heap.size+1) t a' n' c' b' m' d'):=t2;have X3:Hid (NB W0 (w.heap.size+2) false none 0 0 none 0 0):=t3;have B0:=hid t4;have S0:=hid t5;clear t1 t2 t3 t4 t5;obtain⟨u0,u1,u2,_⟩:=X1.out.reads;obtain⟨v0,v1,v2,_⟩:=X2.out.reads;go_region_held3 (fun W=>W.cell? ⟨w.heap.size,0,none⟩=some (.bool s)∧W.cell? ⟨w.heap.size,1,none⟩=some (.slice a n c)∧W.cell? ⟨w.heap.size,2,none⟩=some (.slice b m d)∧W.cell? ⟨w.heap.size+1,0,none⟩=some (.bool t)∧W.cell? ⟨w.heap.size+1,1,none⟩=some (.slice a' n' c')∧W.cell? ⟨w.heap.size+1,2,none⟩=some (.slice b' m' d'))
  (first
   | exact⟨u0,u1,u2,v0,v1,v2⟩
   | exact⟨y0,y1,y2,y3,y4,y5⟩
   | exact⟨x0,x1,x2,x3,x4,x5⟩
   | exact⟨r0,r1,r2,r3,r4,r5⟩
   | exact six (K1.out.gy (by omega) _ _ _) (K2.out.gy (by omega) _ _ _)
   | go_keep)
  (first
   | (go_at_call 99;((with_reducible refine(C1.out W0.drew B0.out.drew).mono ?_));rintro e w2 ⟨a2,n2,c2,rfl,L2,B2⟩;have B2:=aJ B2;rw[VN.out.1]at L2;have N1:NB w2 w.heap.size s a n c b m d:=X1.out.later B2 X1.out.lt;have N2:NB w2 (w.heap.size+1) t a' n' c' b' m' d':=X2.out.later B2 X2.out.lt;have N3:NB w2 (w.heap.size+2) false none 0 0 none 0 0:=X3.out.later B2 X3.out.lt;obtain⟨y0,y1,y2,_⟩:=N1.reads;obtain⟨y3,y4,y5,_⟩:=N2.reads;have N1:=hid N1;have N2:=hid N2;have N3:=hid N3;have L2:=hid L2;have eX:=hid (aB B0.out B2);clear B2)
   | (go_at_call 99;((with_reducible refine(C2.out w2 eX.out).mono ?_));go_loud (rintro e w3 ⟨a3,n3,c3,rfl,L3,B3⟩;rw[VN.out.2]at L3;have M1:NB w3 w.heap.size s a n c b m d:=N1.out.later B3 N1.out.lt;have M2:NB w3 (w.heap.size+1) t a' n' c' b' m' d':=N2.out.later B3 N2.out.lt;have M3:NB w3 (w.heap.size+2) false none 0 0 none 0 0:=N3.out.later B3 N3.out.lt;obtain⟨x0,x1,x2,_⟩:=M1.reads;obtain⟨x3,x4,x5,_⟩:=M2.reads;have M1:=hid M1;have M2:=hid M2;have M3:=hid M3;have L32:=hid (L2.out.below B3);have L3:=hid L3;have fC:=hid (aB eX.out B3);clear B3))
   | (go_at_call 142;go_loud (refine(iZ (neg:=s !=t) L32.out L3.out dz.out (by rw[←L32.out.len];exact SN.out.1) (by rw[←L3.out.len];exact SN.out.2)).mono ?_;rintro e w4 ⟨s4,a4,n4,c4,b4,m4,d4,rfl,L4,B4⟩;rw[SG.out,←MF.out]at L4;have K1:NB w4 w.heap.size s a n c b m d:=M1.out.later B4 M1.out.lt;have K2:NB w4 (w.heap.size+1) t a' n' c' b' m' d':=M2.out.later B4 M2.out.lt;have K3:NB w4 (w.heap.size+2) false none 0 0 none 0 0:=M3.out.later B4 M3.out.lt;obtain⟨r0,r1,r2,_⟩:=K1.reads;obtain⟨r3,r4,r5,_⟩:=K2.reads;obtain⟨z0,z1,z2,f⟩:=K3.reads;have f0:=f 0;have f1:=f 1;have f2:=f 2;have lt4:=K3.lt;clear f;have K1:=hid K1;have K2:=hid K2;have K3:=hid K3;have L4:=hid L4;have zq:=hid (aB fC.out B4);clear B4)))
 go_wp2_with fail;exact bodyPost_ret (v:= .agg #[.bool s4,.slice a4 n4 c4,.slice b4 m4 d4]) (by simp[results,results100,go_sem,z0,z1,z2]) rfl ⟨s4,a4,n4,c4,b4,m4,d4,rfl,⟨L4.out.sg,L4.out.num.beside K3.out (ay _ _ _ _ _),L4.out.den.beside K3.out (ay _ _ _ _ _)⟩,aG zq.out _ (by omega) _ _ _⟩
theorem UF {w:World}{p q:Rat}{s t:Bool}{a b a' b':Option Addr}{n c m d n' c' m' d':Nat}(hp:aO w p s a n c b m d)(hq:aO w q t a' n' c' b' m' d')(sp:Sz p 268435456)(sq:Sz q 268435456)(p0:p≠0)(q0:q≠0):
  Calls prog 101 #[.agg #[.bool s,.slice a n c,.slice b m d],.agg #[.bool t,.slice a' n' c',.slice b' m' d']] w (iC w (p/q)):=by
 have hn:n≠0:=fun e=>p0 (hp.zero.1 e);have hn':n'≠0:=fun e=>q0 (hq.zero.1 e);have P:=hid hp;have Q:=hid hq;have s1:=sp.1;have s2:=sp.2;have s3:=sq.1;have s4:=sq.2;rw[hp.num.len]at s1;rw[hp.den.len]at s2;rw[hq.num.len]at s3;rw[hq.den.len]at s4;have nz:((n:Int)==0)=false:=by simp;exact hn
 have nz':((n':Int)==0)=false:=by simp;exact hn'
 have T3:=hid (bZ w (.cells #[.bool s,.slice a n c,.slice b m d] 25) (.cells #[.bool t,.slice a' n' c',.slice b' m' d'] 25) (.cells #[.bool false,.slice none 0 0,.slice none 0 0] 25) _ rfl);have C1:=hid (fun(W:World) (hB:Below w.heap.size w W)=>mul_any (hp.num.below hB) (hq.den.below hB) (by omega) (by omega));have C2:=hid (fun(W:World) (hB:Below w.heap.size w W)=>mul_any (hp.den.below hB) (hq.num.below hB) (by omega) (by omega));have MF:=hid (Bz (p:=p) q0);have dz:Hid (p.den*q.num.natAbs≠0):=Nat.mul_ne_zero p.den_nz (fun e=>q0 (Rat.num_eq_zero.1 (Int.natAbs_eq_zero.1 e)));have VN:Hid (vl (aC p.num.natAbs)*vl (aC q.den)=p.num.natAbs*q.den∧vl (aC p.den)*vl (aC q.num.natAbs)=p.den*q.num.natAbs):=⟨by rw[au,au],by rw[au,au]⟩;have SN:Hid ((aC (p.num.natAbs*q.den)).length≤1099511627775∧(aC (p.den*q.num.natAbs)).length≤1099511627775):=
  ⟨Nat.le_trans (aW sp.1 sq.2) (by omega),Nat.le_trans (aW sp.2 sq.1) (by omega)⟩
 have SG:Hid ((s !=t)=(decide (p.num<0) !=decide (q.num<0))):=by show _=_;rw[←hp.sg,←hq.sg]
 clear hp hq sp sq p0 q0 hn hn';go_enter func101,ntmps101;go_wp2_with fail;generalize ((w.alloc (.cells #[.bool s,.slice a n c,.slice b m d] 25)).alloc (.cells #[.bool t,.slice a' n' c',.slice b' m' d'] 25)).alloc (.cells #[.bool false,.slice none 0 0,.slice none 0 0] 25)=W0 at*;obtain⟨t1,t2,t3,t4,t5⟩:=T3.out;have X1:Hid (NB W0 w.heap.size s a n c b m d):=t1;have X2:Hid (NB W0 (w.heap.size+1) t a' n' c' b' m' d'):=t2;have X3:Hid (NB W0 (w.heap.size+2) false none 0 0 none 0 0):=t3;have B0:=hid t4;have S0:=hid t5;clear t1 t2 t3 t4 t5;obtain⟨u0,u1,u2,_⟩:=X1.out.reads;obtain⟨v0,v1,v2,_⟩:=X2.out.reads;go_region_held3 (fun W=>W.cell? ⟨w.heap.size,0,none⟩=some (.bool s)∧W.cell? ⟨w.heap.size,1,none⟩=some (.slice a n c)∧W.cell? ⟨w.heap.size,2,none⟩=some (.slice b m d)∧W.cell? ⟨w.heap.size+1,0,none⟩=some (.bool t)∧W.cell? ⟨w.heap.size+1,1,none⟩=some (.slice a' n' c')∧W.cell? ⟨w.heap.size+1,2,none⟩=some (.slice b' m' d'))
  (first
   | exact⟨u0,u1,u2,v0,v1,v2⟩
   | exact⟨y0,y1,y2,y3,y4,y5⟩
   | exact⟨x0,x1,x2,x3,x4,x5⟩
   | exact⟨r0,r1,r2,r3,r4,r5⟩
   | exact six (K1.out.gy (by omega) _ _ _) (K2.out.gy (by omega) _ _ _)
   | go_keep)
  (first
   | (go_at_call 99;((with_reducible refine(C1.out W0.drew B0.out.drew).mono ?_));rintro e w2 ⟨a2,n2,c2,rfl,L2,B2⟩;have B2:=aJ B2;rw[VN.out.1]at L2;have N1:NB w2 w.heap.size s a n c b m d:=X1.out.later B2 X1.out.lt;have N2:NB w2 (w.heap.size+1) t a' n' c' b' m' d':=X2.out.later B2 X2.out.lt;have N3:NB w2 (w.heap.size+2) false none 0 0 none 0 0:=X3.out.later B2 X3.out.lt;obtain⟨y0,y1,y2,_⟩:=N1.reads;obtain⟨y3,y4,y5,_⟩:=N2.reads;have N1:=hid N1;have N2:=hid N2;have N3:=hid N3;have L2:=hid L2;have eX:=hid (aB B0.out B2);clear B2)
   | (go_at_call 99;((with_reducible refine(C2.out w2 eX.out).mono ?_));go_loud (rintro e w3 ⟨a3,n3,c3,rfl,L3,B3⟩;rw[VN.out.2]at L3;have M1:NB w3 w.heap.size s a n c b m d:=N1.out.later B3 N1.out.lt;have M2:NB w3 (w.heap.size+1) t a' n' c' b' m' d':=N2.out.later B3 N2.out.lt;have M3:NB w3 (w.heap.size+2) false none 0 0 none 0 0:=N3.out.later B3 N3.out.lt;obtain⟨x0,x1,x2,_⟩:=M1.reads;obtain⟨x3,x4,x5,_⟩:=M2.reads;have M1:=hid M1;have M2:=hid M2;have M3:=hid M3;have L32:=hid (L2.out.below B3);have L3:=hid L3;have fC:=hid (aB eX.out B3);clear B3))
   | (go_at_call 142;go_loud (refine(iZ (neg:=s !=t) L32.out L3.out dz.out (by rw[←L32.out.len];exact SN.out.1) (by rw[←L3.out.len];exact SN.out.2)).mono ?_;rintro e w4 ⟨s4,a4,n4,c4,b4,m4,d4,rfl,L4,B4⟩;rw[SG.out,←MF.out]at L4;have K1:NB w4 w.heap.size s a n c b m d:=M1.out.later B4 M1.out.lt;have K2:NB w4 (w.heap.size+1) t a' n' c' b' m' d':=M2.out.later B4 M2.out.lt;have K3:NB w4 (w.heap.size+2) false none 0 0 none 0 0:=M3.out.later B4 M3.out.lt;obtain⟨r0,r1,r2,_⟩:=K1.reads;obtain⟨r3,r4,r5,_⟩:=K2.reads;obtain⟨z0,z1,z2,f⟩:=K3.reads;have f0:=f 0;have f1:=f 1;have f2:=f 2;have lt4:=K3.lt;clear f;have K1:=hid K1;have K2:=hid K2;have K3:=hid K3;have L4:=hid L4;have zq:=hid (aB fC.out B4);clear B4)))
 go_wp2_with fail;exact bodyPost_ret (v:= .agg #[.bool s4,.slice a4 n4 c4,.slice b4 m4 d4]) (by simp[results,results101,go_sem,z0,z1,z2]) rfl ⟨s4,a4,n4,c4,b4,m4,d4,rfl,⟨L4.out.sg,L4.out.num.beside K3.out (ay _ _ _ _ _),L4.out.den.beside K3.out (ay _ _ _ _ _)⟩,aG zq.out _ (by omega) _ _ _⟩
theorem JI {w:World}{p q:Rat}{s t:Bool}{a b a' b':Option Addr}{n c m d n' c' m' d':Nat}(hp:aO w p s a n c b m d)(hq:aO w q t a' n' c' b' m' d')(h0:p=0∨q=0):
  Calls prog 100 #[.agg #[.bool s,.slice a n c,.slice b m d],.agg #[.bool t,.slice a' n' c',.slice b' m' d']] w (iC w (p*q)):=by
 have E:Hid (p*q=0):=by
  show _=_;rcases h0 with e | e
  ·rw[e,Rat.zero_mul]
  rw[e,Rat.mul_zero]
 have hz:=hp.zero;have hz':=hq.zero;have T3:=hid (bZ w (.cells #[.bool s,.slice a n c,.slice b m d] 25) (.cells #[.bool t,.slice a' n' c',.slice b' m' d'] 25) (.cells #[.bool false,.slice none 0 0,.slice none 0 0] 25) _ rfl);clear hp hq;rcases Classical.em (n=0)with hn | hn;all_goals
  first
   | (have nz:((n:Int)==0)=true:=by simp;exact hn)
   | (have nz:((n:Int)==0)=false:=by simp;exact hn
      have nz':((n':Int)==0)=true:=by simp;exact hz'.2 (h0.resolve_left fun e=>hn (hz.2 e)))
  clear hz hz' h0 hn
  go_enter func100,ntmps100
  go_wp2_with fail
  generalize ((w.alloc (.cells #[.bool s,.slice a n c,.slice b m d] 25)).alloc (.cells #[.bool t,.slice a' n' c',.slice b' m' d'] 25)).alloc (.cells #[.bool false,.slice none 0 0,.slice none 0 0] 25)=W0 at*
  obtain⟨t1,t2,t3,t4,t5⟩:=T3.out
  have X3:Hid (NB W0 (w.heap.size+2) false none 0 0 none 0 0):=t3
  have B0:=hid t4
  clear t1 t2 t3 t4 t5
  refine(one_any _).mono ?_
  rintro e w3 ⟨a3,n3,c3,rfl,L3,B3⟩
  have N3:NB w3 (w.heap.size+2) false none 0 0 none 0 0:=X3.out.later B3 X3.out.lt
  obtain⟨z0,z1,z2,f⟩:=N3.reads
  have f0:=f 0;have f1:=f 1;have f2:=f 2
  have Eh:=N3.lt
  have N3:=hid N3;have L3:=hid L3
  have fC:=hid (aB B0.out B3)
  clear f B3
  go_wp2_with fail
  exact bodyPost_ret (v:= .agg #[.bool false,.slice none 0 0,.slice a3 n3 c3]) (by simp[results,results100,go_sem,z0,z1,z2]) rfl ⟨false,none,0,0,a3,n3,c3,rfl,⟨by rw[E.out];rfl,by rw[E.out];show bW _ (aC 0) _ _ _;rw[aA];exact nJ _ _ (by omega),by rw[E.out];exact L3.out.beside N3.out (ay _ _ _ _ _)⟩,aG fC.out _ (by omega) _ _ _⟩
theorem jC {w:World}{p q:Rat}{s t:Bool}{a b a' b':Option Addr}{n c m d n' c' m' d':Nat}(hp:aO w p s a n c b m d)(hq:aO w q t a' n' c' b' m' d')(sp:Sz p 268435456)(sq:Sz q 268435456):
  Calls prog 100 #[.agg #[.bool s,.slice a n c,.slice b m d],.agg #[.bool t,.slice a' n' c',.slice b' m' d']] w (iC w (p*q)):=by
 by_cases h:p=0∨q=0
 ·exact JI hp hq h
 exact UE hp hq sp sq (fun e=>h (Or.inl e)) (fun e=>h (Or.inr e))
theorem JJ {w:World}{p q:Rat}{s t:Bool}{a b a' b':Option Addr}{n c m d n' c' m' d':Nat}(hp:aO w p s a n c b m d)(h0:p=0):
  Calls prog 101 #[.agg #[.bool s,.slice a n c,.slice b m d],.agg #[.bool t,.slice a' n' c',.slice b' m' d']] w (iC w (p/q)):=by
 have E:Hid (p/q=p):=by show _=_;rw[h0,Rat.div_def,Rat.zero_mul]
 have P:=hid hp;have nz:((n:Int)==0)=true:=by simp;exact hp.zero.2 h0
 clear hp h0;go_enter func101,ntmps101;go_wp2_with fail;exact bodyPost_ret (v:= .agg #[.bool s,.slice a n c,.slice b m d]) (by simp[results,results101,go_sem]) rfl ⟨s,a,n,c,b,m,d,rfl,by rw[E.out];exact P.out.below (bZ w _ _ _ _ rfl).2.2.2.1,(bZ w _ _ _ _ rfl).2.2.2.1⟩
theorem fU {w:World}{p q:Rat}{s t:Bool}{a b a' b':Option Addr}{n c m d n' c' m' d':Nat}(hp:aO w p s a n c b m d)(hq:aO w q t a' n' c' b' m' d')(sp:Sz p 268435456)(sq:Sz q 268435456)(q0:q≠0):
  Calls prog 101 #[.agg #[.bool s,.slice a n c,.slice b m d],.agg #[.bool t,.slice a' n' c',.slice b' m' d']] w (iC w (p/q)):=by
 by_cases h:p=0
 ·exact JJ hp h
 exact UF hp hq sp sq h q0
theorem jU {x y k:Nat}(hx:(aC x).length≤k)(hy:(aC y).length≤k):(aC (x+y)).length≤k+1:=by refine bn ?_;have h1:=dD (bD x);have h2:=dD (bD y);rw[au]at h1 h2;have p1:4294967296^(aC x).length≤4294967296^k:=Nat.pow_le_pow_right (by omega) hx;have p2:4294967296^(aC y).length≤4294967296^k:=Nat.pow_le_pow_right (by omega) hy;rw[Nat.pow_succ];generalize 4294967296^k=P at*;omega
def AdL (w:World)(x y:Nat)(v i:Value)(wr:World):Prop:=
 ∃(k:Nat) (a:Option Addr) (n c:Nat),k≤2∧i= .int .i64 (k:Int)∧v= .slice a n c∧bW wr (aC (if k=0 then 0 else if k=1 then x else x+y)) a n c∧n≤1099511627776∧Below w.heap.size w wr
theorem add_any {w:World}{x y g:Nat}{a b:Option Addr}{n c m d:Nat}(hx:bW w (aC x) a n c)(hy:bW w (aC y) b m d)(h0:w.cell? ⟨g,0,none⟩=some (.slice a n c))(h1:w.cell? ⟨g,1,none⟩=some (.slice b m d))(hn:n≤1099511627775)(hm:m≤1099511627775):
  Calls prog 173 #[.slice (some ⟨g,0,none⟩) 2 2] w (iy w (x+y)):=by
 have X:=hid hx;have Y:=hid hy;have H0:=hid h0;have H1:=hid h1;have E:=hid (au x);have E2:=hid (au y);have SX:Hid ((aC x).length≤1099511627775):=by show _≤_;rw[hx.len];exact hn
 clear hx hy h0 h1;go_enter func173,ntmps173;go_wp2_with fail;go_loopw [3,8] (fun v i wr=>AdL w x y v i wr) (fun _ i _=>2-(intOf i).toNat)
 case atStart=>exact⟨0,none,0,0,by omega,rfl,rfl,by rw[if_pos rfl,aA];exact nJ _ _ (by omega),by omega,Below.refl _ _⟩
 obtain⟨k,a1,n1,c1,hk,rfl,rfl,hL,hn1,hB⟩:=hrel;have L:=hid hL;have BR:=hid hB;clear hL hB;rcases Nat.lt_trichotomy k 1 with q | q | q
 ·obtain rfl:k=0:=by omega
  have p0:=aj BR.out H0.out;have L1:Hid (bW wr (aC 0) a1 n1 c1):=by have:=L.out;rwa[if_pos rfl]at this
  have X1:=hid (X.out.below BR.out);go_wp2_with fail;refine(Bo L1.out X1.out hn1 (by omega)).mono ?_;rintro e w2 ⟨a2,n2,c2,rfl,L2,B2⟩;rw[au,E.out,Nat.zero_add]at L2;have n2b:n2≤1099511627776:=by have:=L2.len;have:=SX.out;omega
  have L2:=hid L2;have B2:=hid (aB BR.out B2);go_wp2_with fail;go_roundw
  case rel=>exact⟨1,a2,n2,c2,by omega,rfl,rfl,by rw[if_neg (by omega),if_pos rfl];exact L2.out,n2b,B2.out⟩
  simp[intOf]
 ·subst q;have p0:=aj BR.out H1.out;have L1:Hid (bW wr (aC x) a1 n1 c1):=by have:=L.out;rwa[if_neg (by omega),if_pos rfl]at this
  have Y1:=hid (Y.out.below BR.out);go_wp2_with fail;refine(Bo L1.out Y1.out hn1 (by omega)).mono ?_;rintro e w2 ⟨a2,n2,c2,rfl,L2,B2⟩;rw[E.out,E2.out]at L2;have L2:=hid L2;have B2:=hid (aB BR.out B2);go_wp2_with fail;go_roundw
  case rel=>refine⟨2,a2,n2,c2,by omega,rfl,rfl,by rw[if_neg (by omega),if_neg (by omega)];exact L2.out,?_,B2.out⟩;rw[←L2.out.len];exact Nat.le_trans (jU SX.out (by rw[Y.out.len];exact hm)) (by omega)
  simp[intOf]
 obtain rfl:k=2:=by omega
 have L1:Hid (bW wr (aC (x+y)) a1 n1 c1):=by have:=L.out;rwa[if_neg (by omega),if_neg (by omega)]at this
 go_wp2_with fail;go_ret;exact⟨a1,n1,c1,rfl,L1.out,BR.out⟩
end Go.Proofs.YtijdglogadnbcaaGreat
