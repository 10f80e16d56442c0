/- Rows of small numbers give problems of small numbers. No program. -/
import Derived.Test.YtijdglogadnbcaaGreatY30
import Derived.Deep.RegionHeld3
set_option linter.unusedVariables false
set_option linter.unusedSimpArgs false
set_option maxRecDepth 100000
set_option maxHeartbeats 40000000
namespace Go.Proofs.YtijdglogadnbcaaGreat
open Go.Proofs.Tryz
open Go.RowKit Nt Bl
def Ag (q:Rat):Prop:=q.num.natAbs<4294967296∧q.den<256
structure jk (n:Nat)(l:List (Nat×Rat)):Prop where
 len:l.length≤8
 at_:∀i,i<l.length→(cq l i).1<n∧Ag (cq l i).2
structure Rl.Good (n:Nat)(R:Rl):Prop where
 cs:jk n R.cs
 bd:Ag R.bd
def tH (l:List (Nat×Rat)):Nat→Nat
 | 0=>1
 | i+1=>tH l i*(cq l i).2.den
theorem yH (l:List (Nat×Rat)):∀i,0<tH l i
 | 0=>Nat.zero_lt_one
 | i+1=>Nat.mul_pos (yH l i) (Rat.den_pos _)
theorem yI {l:List (Nat×Rat)}{k:Nat}:∀{i:Nat},k<i→(cq l k).2.den∣tH l i
 | 0,h=>absurd h (Nat.not_lt_zero _)
 | i+1,h=>by
  by_cases e:k=i
  ·subst e;exact Nat.dvd_mul_left _ _
  exact Nat.dvd_trans (yI (i:=i) (by omega)) (Nat.dvd_mul_right _ _)
theorem DK {l:List (Nat×Rat)}:∀{i:Nat},(∀k,k<i→(cq l k).2.den<256)→tH l i≤256^i
 | 0,_=>Nat.le_refl _
 | i+1,h=>by have a:=DK (i:=i) fun k hk=>h k (by omega);have b:=h i (by omega);show tH l i*_≤256^i*256;exact Nat.mul_le_mul a (by omega)
theorem wK (l:List (Nat×Rat))(j:Nat):∀i,jq l i j=0∨∃k,k<i∧(cq l k).1=j∧jq l i j=(cq l k).2
 | 0=>Or.inl rfl
 | i+1=>by
  by_cases e:j=(cq l i).1
  ·exact Or.inr ⟨i,Nat.lt_succ_self i,e.symm,if_pos e⟩
  rcases wK l j i with h | ⟨k,h1,h2,h3⟩
  ·exact Or.inl (by show(if _ then _ else _)=_;rw[if_neg e];exact h)
  exact Or.inr ⟨k,by omega,h2,by show(if _ then _ else _)=_;rw[if_neg e];exact h3⟩
theorem DL {q:Rat}{D:Nat}(h:q.den∣D)(hs:Ag q):∃a:Int,(D:Rat)*q=(a:Rat)∧a.natAbs≤D*4294967296:=by
 obtain⟨c,rfl⟩:=h;refine⟨(c:Int)*q.num,?_,?_⟩
 ·have d0:(q.den:Rat)≠0:=by have:=q.den_nz;exact_mod_cast this
  have e:q*(q.den:Rat)=(q.num:Rat):=by have h:=Rat.num_divInt_den q;rw[Rat.divInt_eq_div]at h;have k:=Rat.div_mul_cancel (a:=(q.num:Rat)) d0;rw[show(((q.den:Nat):Int):Rat)=(q.den:Rat) from rfl]at h;rwa[h]at k
  rw[cast_mul,←e,Rat.natCast_mul];show _=(c:Rat)*_;grind
 rw[Int.natAbs_mul,Int.natAbs_natCast];have:=hs.1;have d1:1≤q.den:=Rat.den_pos q;calc c*q.num.natAbs≤(q.den*c)*q.num.natAbs:=Nat.mul_le_mul_right _ (Nat.le_mul_of_pos_left c d1)
  _≤q.den*c*4294967296:=Nat.mul_le_mul_left _ (by omega)
theorem QS {B:Nat}{a:Nat→Int}:∀{n:Nat},(∀j,j<n→(a j).natAbs≤B)→nrm n a≤n*B
 | 0,_=>Nat.zero_le _
 | n+1,h=>by have a1:=QS (n:=n) fun j hj=>h j (by omega);have a2:=h n (by omega);show nrm n a+(a n).natAbs≤(n+1)*B;rw[Nat.add_mul,Nat.one_mul];omega
def sG:Nat:=2^112
theorem wL {n:Nat}{l:List (Nat×Rat)}{bd:Rat}(hl:jk n l)(hb:Ag bd)(hn:n≤60):Ln.Small (fA l) bd n sG:=by
 have dp:=yH l l.length;have dl:tH l l.length≤256^8:=Nat.le_trans (DK fun k hk=>(hl.at_ k hk).2.2) (Nat.pow_le_pow_right (by omega) hl.len);obtain⟨D,hD⟩:∃D,tH l l.length*bd.den=D:=⟨_,rfl⟩;have D1:1≤D:=by rw[←hD];exact Nat.mul_pos dp (Rat.den_pos _)
 have D2:D≤256^9:=by
  rw[←hD];calc tH l l.length*bd.den≤256^8*256:=Nat.mul_le_mul dl (Nat.le_of_lt hb.2)
   _=256^9:=by decide
 have each:∀j,∃a:Int,(D:Rat)*fA l j=(a:Rat)∧a.natAbs≤D*4294967296:=fun j=>by
  rcases wK l j l.length with h | ⟨k,h1,h2,h3⟩
  ·refine⟨0,?_,by simp⟩;show(D:Rat)*jq l l.length j=_;rw[h];simp
  have:=DL (D:=D) (Nat.dvd_trans (yI h1) (by rw[←hD];exact Nat.dvd_mul_right _ _)) (hl.at_ k h1).2;obtain⟨a,e1,e2⟩:=this;exact⟨a,by show(D:Rat)*jq l l.length j=_;rw[h3];exact e1,e2⟩
 obtain⟨a,ha⟩:=Classical.axiomOfChoice each;obtain⟨b,e1,e2⟩:=DL (D:=D) (q:=bd) (by rw[←hD];exact Nat.dvd_mul_left _ _) hb;have N:=QS (n:=n) (a:=a) fun j _=>(ha j).2;have M:D*4294967296≤256^9*4294967296:=Nat.mul_le_mul_right _ D2;have N2:n*(D*4294967296)≤60*(256^9*4294967296):=Nat.mul_le_mul hn M;have C:60*(256^9*4294967296)+256^9*4294967296+256^9≤sG:=by decide
 obtain⟨X,hX⟩:∃X,256^9*4294967296=X:=⟨_,rfl⟩;obtain⟨Y,hY⟩:∃Y,256^9=Y:=⟨_,rfl⟩;obtain⟨Z,hZ⟩:∃Z,sG=Z:=⟨_,rfl⟩;rw[hX]at M N2 C;rw[hY]at C D2;rw[hZ]at C⊢;exact⟨D,a,b,D1,by omega,fun j _=>(ha j).1,e1,by omega,by omega⟩
theorem QV:Ag 0:=by unfold Ag;decide
theorem aby {n K:Nat}(hn:n≤60)(hK:300≤K):sG*(2*sG)^n*sG<4294967296^K:=by
 have e:sG*(2*sG)^n*sG=2^(112+113*n+112):=by rw[show 2*sG=2^113 from by unfold sG;decide,←Nat.pow_mul,show sG=2^112 from rfl,←Nat.pow_add,←Nat.pow_add]
 have f:4294967296^K=2^(32*K):=by rw[Nat.pow_mul]
 rw[e,f];exact Nat.pow_lt_pow_right (by omega) (by omega)
theorem Je {rows:List Rl}{n:Nat}{gl:List (Nat×Rat)}(hr:∀i,i<rows.length→(rq rows i).Good n)(hg:jk n gl)(hn:n≤60):∃D a,Fm (cO (dP rows) n (fA gl)) sG D a:=by
 refine cO.fm (fun i hi=>?_) (wL hg QV hn);have hi':i<rows.length:=by rw[←ku];exact hi
 have e:(dP rows)[i]=(rq rows i).ln:=by have:=uF hi';rw[List.getElem?_eq_getElem hi]at this;exact Option.some.inj this
 rw[e];exact wL (hr i hi').cs (hr i hi').bd hn
theorem Bl.Ci.Xy {K:Nat}{is:Bool}:∀{k:Nat} {P Q:Pb},Ci K k P Q is→uz Q K
 | 0,P,Q,h=>by obtain⟨h,rfl,_⟩:=h;exact h
 | k+1,P,Q,h=>by obtain⟨_,r,c,P2,_,_,_,h⟩:=h;exact Bl.Ci.Xy h
section
variable {rows:List Rl} {n:Nat} {gl:List (Nat×Rat)}
theorem wM (hr:∀i,i<rows.length→(rq rows i).Good n)(hg:jk n gl)(hn:n≤60):
  ∃k Q x,KZ 1048576 k (cO (dP rows) n (fA gl)) Q x∧
   ((x=none∧Top (cO (dP rows) n (fA gl)) (dP rows).length Q∧∃x,qj (dP rows) n x)∨
    (x≠none∧(∀r up,x=some (r,up)→Q.brk=some (r,up)∧Q.hlp r up=none)∧¬ ∃x,qj (dP rows) n x)):=by
 obtain⟨D,a,F⟩:=Je hr hg hn;obtain⟨k,Q,x,h1,h2,h3,h4⟩:=JW (cO.mid (dP rows) n (fA gl)) F (aby (K:=1048576) hn (by omega));refine⟨k,Q,x,h1,?_⟩
 cases x with
 | none=>
  have ha:=h3 rfl
  refine Or.inl ⟨rfl,h2.top ?_,P8 h2 ha⟩
  rw[h2.kin.low,h2.kin.high,h2.kin.n,h2.kin.m]
  exact ha
 | some y=>
  obtain⟨r,up⟩:=y
  exact Or.inr ⟨by simp,fun r' up' e=>by obtain⟨a1,a2,_⟩:=h4 r' up' e;exact⟨a1,a2⟩,Vb fun y ty hy=>(h4 r up rfl).2.2 y ty hy⟩
theorem Kt {Q:Pb}(hr:∀i,i<rows.length→(rq rows i).Good n)(hg:jk n gl)(hn:n≤60)(h:Top (cO (dP rows) n (fA gl)) (dP rows).length Q):
  ∃k Q2 is,Ci 1048576 k Q Q2 is∧Sz (Q2.now (n+rows.length)).m 1048576∧Sz (Q2.now (n+rows.length)).s 1048576∧
   jf (qj (dP rows) n) (val n (fA gl)) (if is then some ((Q2.now (n+rows.length)).m,decide ((Q2.now (n+rows.length)).s=0))else none):=by
 obtain⟨D,a,F⟩:=Je hr hg hn;obtain⟨k,Q2,is,h1,h2,h3,h4⟩:=JV h F (aby (K:=1048576) hn (by omega));have sz:=h1.Xy.now (n+rows.length) (by rw[h2.kin.n,h2.kin.m];show n+rows.length<n+((dP rows).length+1);rw[ku];omega)
 refine⟨k,Q2,is,h1,sz.1,sz.2,?_⟩
 cases is with
 | true=>
  have:=Qa h2 (h3 rfl)
  rw[show n+((dP rows).length+1)-1=n+rows.length from by rw[ku];omega]at this
  exact this
 | false=>
  obtain⟨c,e1,e2⟩:=h4 rfl
  exact Df h2 e1 e2
end
structure qQ (w:World)(rows:List Rl)(ra:Option Addr)(n m:Nat)(gl:List (Nat×Rat))(ga:Option Addr)(gc:Nat):Prop where
 hr:jI w rows ra
 hm:rows.length=m
 hg:iE w gl ga
 hgc:gl.length≤gc∧gc≤9223372036854775807
 hn:n≤60
 zT:m≤60
 good:∀i,i<rows.length→(rq rows i).Good n
 goal:jk n gl
theorem qQ.new {w:World}{rows:List Rl}{ra:Option Addr}{n m:Nat}{gl:List (Nat×Rat)}{ga:Option Addr}{gc:Nat}(h:qQ w rows ra n m gl ga gc):yE w rows ra n m gl ga gc:=by
 refine⟨h.hr,h.hm,h.hg,h.hgc,h.hn,h.zT,fun i hi j hj=>?_⟩;by_cases e:i<rows.length
 ·have q:rq (kQ rows gl) i=rq rows i:=iM e;rw[q]at hj⊢;exact((h.good i e).cs.at_ j hj).1
 obtain rfl:i=rows.length:=by have:=h.hm;omega
 have q:rq (kQ rows gl) rows.length=⟨gl,0,0⟩:=uD;rw[q]at hj⊢;exact(h.goal.at_ j hj).1
theorem jk.nil (n:Nat):jk n []:=⟨Nat.zero_le _,fun i hi=>absurd hi (Nat.not_lt_zero _)⟩
theorem Vz {w:World}{rows:List Rl}{ra:Option Addr}{rc n m:Nat}(h:qQ w rows ra n m [] none 0)(hx:∃x,qj (dP rows) n x):
  Calls prog 61 #[.slice ra m rc,.int .i64 (n:Int)] w fun e w'=>e= .returned (.tuple #[.slice none 0 0,.bool true])∧Below w.heap.size w w':=by
 obtain⟨k,Q,x,hF,h2 | h2⟩:=wM h.good (jk.nil n) h.hn
 ·obtain⟨rfl,_⟩:=h2;refine(Vs (R:=fun _ _=>True) h.new hF (fun _ _ _ _ e=>by simp at e)).mono ?_;rintro e w' ⟨v,rfl,h1,_,hb⟩;exact⟨by rw[h1 rfl];rfl,hb⟩
 exact absurd hx h2.2.2
theorem VD {w:World}{rows:List Rl}{ra:Option Addr}{rc n m:Nat}{gl:List (Nat×Rat)}{ga:Option Addr}{gc:Nat}(h:qQ w rows ra n m gl ga gc)(hx:∃x,qj (dP rows) n x):
  Calls prog 77 #[.slice ra m rc,.int .i64 (n:Int),.slice ga gl.length gc] w fun e w'=>Below w.heap.size w w'∧∃u,jf (qj (dP rows) n) (val n (fA gl)) u∧
   ((u=none∧e= .returned (.tuple #[.agg #[.bool false,.slice none 0 0,.slice none 0 0],.bool false,.bool false,.slice none 0 0]))∨
    (∃(a:Rat) (b:Bool) (M:Nw) (v:Value),u=some (a,b)∧e= .returned (.tuple #[.agg #[.bool M.s,.slice M.a M.n M.c,.slice M.b M.m M.d],.bool true,.bool b,v])∧RA w' a M∧Sz a 1048576)):=by
 obtain⟨k,Q,x,hF,h2 | h2⟩:=wM h.good h.goal h.hn
 ·obtain⟨rfl,hT,_⟩:=h2;obtain⟨k2,Q2,is,hG,s1,s2,hS⟩:=Kt h.good h.goal h.hn hT;rw[h.hm]at s1 s2 hS;refine(Vy h.new hF hG (fun _=>s2)).mono ?_;rintro e w' ⟨hb,⟨rfl,rfl⟩ | ⟨rfl,M,v,r,rfl,hM,_⟩⟩
  ·exact⟨hb,none,hS,Or.inl ⟨rfl,rfl⟩⟩
  exact⟨hb,_,hS,Or.inr ⟨_,_,M,v,rfl,rfl,hM,s1⟩⟩
 exact absurd hx h2.2.2
theorem Et:(prog.info? 72).map (fun i=>(i.zero,i.size,i.bytes))=some (some (.agg #[.int .i64 0,.bool false,.slice none 0 0,.slice none 0 0]),4,64):=by kernel_rfl
def Jc (x:Int)(N:Nw):List Value:=[.int .i64 x,.bool N.s,.slice N.a N.n N.c,.slice N.b N.m N.d]
structure xE (w:World)(g n k:Nat)(f:Nat→Int×Rat):Prop where
 blk:dh w g 72
 at_:∀i,i<n→∃(x:Int) (N:Nw),(∀j,j<4→w.cell? ⟨g,i*4+j,none⟩=(Jc x N)[j]?)∧(i<k→x=(f i).1∧RA w (f i).2 N)
theorem xE.keep {w w':World}{g n k:Nat}{f:Nat→Int×Rat}(h:xE w g n k f)(e:w'.heap[g]? =w.heap[g]?) (hl:aQ w w'):xE w' g n k f:=
 ⟨h.blk.keep e,fun i hi=>by obtain⟨x,N,c,r⟩:=h.at_ i hi;exact⟨x,N,fun j hj=>(aN e _).trans (c j hj),fun q=>⟨(r q).1,(r q).2.limb hl⟩⟩⟩
theorem xE.below {w w':World}{g n k:Nat}{f:Nat→Int×Rat}(h:xE w g n k f)(hb:Below w.heap.size w w'):xE w' g n k f:=h.keep (hb.block g h.blk.lt) (aQ.of_below hb)
theorem xE.made {w1:World}{b g n:Nat}{f:Nat→Int×Rat}(h:w1.ownsRow b 72 4 (.slice (some ⟨g,0,none⟩) n n) n (madeCells (Value.agg #[.int .i64 0,.bool false,.slice none 0 0,.slice none 0 0]).cells (n*4)).toList):xE w1 g n 0 f∧b≤g:=by
 rcases h.2 with⟨hv,_⟩ | ⟨g',cap,cur,hv,hb,hgg,_,_,hcs,ht⟩
 ·simp at hv
 simp only[Value.slice.injEq,Option.some.injEq,Addr.mk.injEq]at hv;obtain⟨⟨rfl,_⟩,_,rfl⟩:=hv;refine⟨⟨⟨_,hgg⟩,fun v hvn=>⟨0,Nw.zero,fun j hj=>?_,fun q=>absurd q (Nat.not_lt_zero _)⟩⟩,hb⟩;rw[cell_of_row w1 g _ _ _ _ hgg];have e:=uM (z:=(Value.agg #[.int .i64 0,.bool false,.slice none 0 0,.slice none 0 0]).cells) (k:=n) (sz:=4) (v:=v) (j:=j) rfl hj hvn;rw[←ht,List.getElem?_take]at e;have lt:v*4+j<n*4:=by omega
 rw[if_pos lt]at e;rw[←Array.getElem?_toList,e];rcases j with _ | _ | _ | _ | j<;>first | rfl | omega
theorem xE.wr {w:World}{g n k i:Nat}{f:Nat→Int×Rat}(h:xE w g n k f)(hi:i<n)(x:Int)(M:Nw):Wr w (w.setCells g (i*4) (Jc x M)) g (i*4) (Jc x M):=by
 obtain⟨y,N,c,_⟩:=h.at_ i hi;refine dY w g _ _ fun j hj=>?_;have hj:j<4:=by simpa[Jc]using hj
 rw[c j hj,List.getElem?_eq_getElem (by simpa[Jc]using hj)];rfl
theorem xE.limb {w w':World}{g n k i:Nat}{f:Nat→Int×Rat}{x:Int}{M:Nw}(h:xE w g n k f)(hi:i<n)(hw:Wr w w' g (i*4) (Jc x M)):aQ w w':=
 hw.limb fun j u hj=>by
  obtain⟨y,N,c,_⟩:=h.at_ i hi;have hj:j<4:=by simpa[Jc]using hj
  rw[c j hj];rcases j with _ | _ | _ | _ | j<;>simp[Jc]
theorem xE.set {w w':World}{g n k:Nat}{f:Nat→Int×Rat}{M:Nw}(h:xE w g n k f)(hk:k<n)(hw:Wr w w' g (k*4) (Jc (f k).1 M))(hm:RA w (f k).2 M):xE w' g n (k+1) f:=by
 have hl:=h.limb hk hw;refine⟨hw.blk _ _ h.blk,fun i hi=>?_⟩;by_cases e:i=k
 ·subst e;exact⟨_,M,fun j hj=>hw.new j (by simpa[Jc]using hj),fun _=>⟨rfl,hm.limb hl⟩⟩
 obtain⟨y,N,c,r⟩:=h.at_ i hi;exact⟨y,N,fun j hj=>(hw.rest _ (by simp[Jc];omega)).trans (c j hj),fun q=>⟨(r (by omega)).1,(r (by omega)).2.limb hl⟩⟩
theorem xE.full {w:World}{g n:Nat}{f:Nat→Int×Rat}{l:List (Nat×Rat)}(h:xE w g n n f)(hl:l.length=n)(hf:∀i,i<n→f i=(((cq l i).1:Int),(cq l i).2)):iE w l (some ⟨g,0,none⟩):=by
 intro _;refine⟨g,0,rfl,fun i hi=>?_⟩;obtain⟨x,N,c,r⟩:=h.at_ i (by omega);obtain⟨r1,r2⟩:=r (by omega);rw[hf i (by omega)]at r1 r2;have c0:=c 0 (by omega);have c1:=c 1 (by omega);have c2:=c 2 (by omega);have c3:=c 3 (by omega);refine⟨N,?_,?_,?_,?_,r2⟩
 ·rw[Nat.zero_add];rw[Nat.add_zero]at c0;rw[c0,r1];rfl
 ·rw[Nat.zero_add];exact c1
 ·rw[Nat.zero_add];exact c2
 rw[Nat.zero_add];exact c3
end Go.Proofs.YtijdglogadnbcaaGreat
namespace Go.Proofs.YtijdglogadnbcaaGreat
open Go.Proofs.Tryz
open Go.RowKit
def HB (w:World)(g:Nat)(l:List Nat):Prop:=w.heap[g]? =some (.cells (dW l).toArray 3 (0,0))
theorem HB.cell {w:World}{g:Nat}{l:List Nat}(h:HB w g l){i:Nat}(hi:i<l.length):w.cell? ⟨g,i,none⟩=some (.int .i64 ((l.getD i 0:Nat):Int)):=by rw[cell_of_row w g i _ _ _ h,List.getElem?_toArray];exact Dl l hi
theorem HB.free {w:World}{g:Nat}{l:List Nat}(h:HB w g l)(i:Nat):w.frozen? ⟨g,i,none⟩=false:=by unfold HB at h;simp[World.frozen?,h]
theorem HB.lt {w:World}{g:Nat}{l:List Nat}(h:HB w g l):g<w.heap.size:=(Array.getElem?_eq_some_iff.1 h).1
theorem HB.set {w:World}{g:Nat}{l:List Nat}(h:HB w g l)(i x:Nat):HB (w.setCell ⟨g,i,none⟩ (.int .i64 ((x:Nat):Int))) g (l.set i x):=by unfold HB;rw[heap_setCell_same w g i _ _ _ h];simp[dW,List.map_set]
theorem HB.at_ {w:World}{g:Nat}{l:List Nat}(h:HB w g l):Xd w l (some ⟨g,0,none⟩):=fun _=>⟨g,0,rfl,fun i hi=>by rw[Nat.zero_add];exact h.cell hi⟩
theorem uj {w1:World}{g n:Nat}(h:w1.ownsRow 0 3 1 (.slice (some ⟨g,0,none⟩) n n) n (madeCells (Value.int .i64 0).cells (n*1)).toList):HB w1 g (List.replicate n 0):=by
 have e:(madeCells (Value.int .i64 0).cells (n*1)).toList=dW (List.replicate n 0):=by simp only[madeCells,dW,Value.cells,Nat.mul_one];refine List.ext_getElem (by simp) fun i h1 h2=>?_;simp[Nat.mod_one]
 rw[e]at h;rcases h.2 with⟨q,_⟩ | ⟨g',cap,cur,q,_,hg,_,_,hs,ht⟩
 ·simp at q
 simp only[Value.slice.injEq,Option.some.injEq,Addr.mk.injEq]at q;obtain⟨⟨rfl,_,_⟩,_,rfl⟩:=q;unfold HB;rw[hg];congr 2;rw[Nat.mul_one]at ht hs;rw[←ht,List.take_of_length_le (by simp[hs])]
theorem uH (n:Int)(h0:0≤n)(h1:n<2^63):IntKind.i64.wrap n=n:=IntWalk.i64_in n (by omega)
theorem Gn {x y:Nat}(hx:x<65536)(hy:y<65536):bits .or .i64 ((x:Int)/2) (wrap64 (bits .and .i64 (y:Int) 1*32768))=((x/2+y%2*32768:Nat):Int):=by
 have e1:=(bits_nat .i64 63 (by decide) uH y 1 (by omega) (by decide)).1;rw[Nat.and_one_is_mod]at e1;rw[show(1:Int)=((1:Nat):Int) from rfl,e1];have hm:=Nat.mod_lt y (show 0<2 by omega);have e2:wrap64 (((y%2:Nat):Int)*32768)=((y%2:Nat):Int)*32768:=by simp only[wrap64];omega
 rw[e2,show(x:Int)/2=((x/2:Nat):Int) from rfl,show((y%2:Nat):Int)*32768=((y%2*32768:Nat):Int) from by omega];rw[(bits_nat .i64 63 (by decide) uH (x/2) (y%2*32768) (by omega) (by omega)).2];congr 1;have:=Nt.vk (s:=15) (x:=x/2) (m:=y%2) (by omega);rw[show y%2*32768=2^15*(y%2) from by omega,this]
def HfL (w:World)(g:Nat)(l:List Nat)(n:Nat)(i:Value)(wr:World):Prop:=
 ∃k:Nat,k≤n∧i= .int .i64 (k:Int)∧HB wr g ((Nh.hf l).take k++(List.replicate n 0).drop k)∧Below w.heap.size w wr
theorem QW {w:World}{l:List Nat}{a:Option Addr}{n c:Nat}(h:HAt w l a n c)(hsz:n≤1099511627776):Calls prog 166 #[.slice a n c] w (dV w (Nh.vl l/2)):=by
 have H:=hid h;have hn:=hid h.len;have hcc:=h.cap;have hle:=h.le;clear h;obtain⟨i0,hi0,hz0,hz1,hz2⟩:=info_parts info3;go_enter func166,ntmps166;go_wp2_with (at_make;refine wpList_make_full _ rfl _ _ 76 rfl 0 3 i0 (.int .i64 0) 1 underlying76 hi0 hz0 hz1 .i64 .i64 _ _ n rfl rfl (by omega) (by omega) (by rw[hz2];omega) (by unfold maxLen;omega) (Nat.zero_le _) ?_;intro w1 hown1 hg1;have U1:=hid (uj hown1);have B1:=hid (below_grown hg1);clear hown1 hg1);go_loopw [10] (fun i wr=>HfL w w.heap.size l n i wr) (fun i _=>n-(intOf i).toNat)
 case atStart=>exact⟨0,Nat.zero_le _,rfl,U1.out,B1.out⟩
 obtain⟨k,hk,rfl,hU,hB⟩:=hrel;have U:=hid hU;have BR:=hid hB;clear hU hB;by_cases hlt:k<n
 ·obtain⟨b,o,rfl,d⟩:=H.out.at_ (by intro e;have:=hn.out;rw[e]at this;simp at this;omega);have p:=aj BR.out (d k (by rw[hn.out];exact hlt));have bl:=lt_of_cell (d k (by rw[hn.out];exact hlt));clear d;obtain⟨x,hx⟩:∃x,l.getD k 0=x:=⟨_,rfl⟩;obtain⟨y,hy⟩:∃y,l.getD (k+1) 0=y:=⟨_,rfl⟩;have xb:x<65536:=by rw[←hx];exact Nh.ak H.out.lm k
  have yb:y<65536:=by rw[←hy];exact Nh.ak H.out.lm (k+1)
  rw[hx]at p;have KP:Hid (∀v,(wr.setCell ⟨w.heap.size,k,none⟩ v).drew.cell? ⟨b,o+k,none⟩=some (.int .i64 (x:Int))):=fun v=>by show(wr.setCell ⟨w.heap.size,k,none⟩ v).cell? ⟨b,o+k,none⟩=_;rw[World.cell?_setCell_other _ _ _ _ (by intro e;have:=congrArg Addr.block e;simp at this;simp at bl;omega)];exact p
  clear bl;have DG:=bC (w:=wr.drew) ((H.out.below BR.out).below (Below.refl _ _).drew) (k+1) (by omega);rw[hy]at DG;rw[show((k+1:Nat):Int)=(k:Int)+1 from by omega]at DG;have DG:=hid DG;have HX:=hid hx;have HY:=hid hy;clear hx hy;have SL:Hid (((Nh.hf l).take k).length=k):=by show _=_;rw[List.length_take,Nh.nK,hn.out];omega
  have p3:=U.out.cell (i:=k) (by rw[List.length_append,SL.out,List.length_drop,List.length_replicate];omega);have f3:=U.out.free k;obtain⟨u,hu⟩:∃u,((Nh.hf l).take k++(List.replicate n 0).drop k).getD k 0=u:=⟨_,rfl⟩;rw[hu]at p3;clear hu;have wk:IntKind.i64.wrap ((k:Int)+1)=(k:Int)+1:=IntWalk.i64_in _ (by omega);have wk0:(0:Int)≤(k:Int):=by omega
  have wk1:(k:Int)<(n:Int):=by omega
  go_wp2_with fail;go_region_held3 (fun W=>W.cell? ⟨b,o+k,none⟩=some (.int .i64 (x:Int)))
   (first
    | exact p
    | exact KP.out _
    | go_keep)
   ((go_at_call 127;refine DG.out.mono ?_;rintro e w2 ⟨rfl,rfl⟩))
  go_wp2_with fail;go_roundw
  case rel=>rw[Gn xb yb];refine⟨k+1,by omega,by go_num,?_,(BR.out.setCell (Nat.le_refl _) _).drew⟩;have:=U.out.set k (x/2+y%2*32768);rw[set_mid SL.out (by rw[List.length_replicate];exact hlt)]at this;rw[wI (by rw[Nh.nK,hn.out];exact hlt),Nh.Uw l (by rw[hn.out];exact hlt),HX.out,HY.out];exact this
  simp[intOf];omega
 obtain rfl:n=k:=by omega
 have D:Hid ((Nh.hf l).take n++(List.replicate n 0).drop n=Nh.hf l):=by show _=_;rw[List.drop_of_length_le (by simp),List.append_nil,List.take_of_length_le (by rw[Nh.nK,hn.out];exact Nat.le_refl _)]
 have L2:Hid (HAt wr (Nh.hf l) (some ⟨w.heap.size,0,none⟩) n n):=⟨(D.out▸U.out).at_,by rw[Nh.nK,hn.out],Nat.le_refl _,by omega,Nh.aaw H.out.lm⟩;have V:Hid (Nh.vl (Nh.hf l)=Nh.vl l/2):=Nh.aax l;go_wp2_with fail;refine(dL L2.out).mono ?_;rintro e w' ⟨rfl,rfl⟩;go_wp2_with fail;go_ret;exact dV.fG L2.out BR.out V.out
def Ls (w:World)(la lb:List Nat)(n:Nat)(v bo i:Value)(wr:World):Prop:=
 ∃(k:Nat) (ds:List Nat) (r:Nat),k≤n∧i= .int .i64 (k:Int)∧bo= .int .i64 (r:Int)∧Nh.jB la lb k ds r∧wr.ownsRow w.heap.size 3 1 v k (dW ds)∧Below w.heap.size w wr
theorem Ls.next {w wd w1:World}{la lb ds:List Nat}{n k r d r':Nat}{v v':Value}(hk:k<n)(I:Nh.jB la lb k ds r)(hd:d<65536)(hr:r'≤1)(he:la.getD k 0+r'*65536=d+lb.getD k 0+r)
  (B:Below w.heap.size w wd)(O:wd.ownsRow w.heap.size 3 1 v k (dW ds))(o:Obj)(O1:w1.ownsRow w.heap.size 3 1 v' (k+1) (dW ds++[Value.int .i64 (d:Int)]))(G:(wd.alloc o).grownBy w1 v.ownBlock):
  Ls w la lb n v' (.int .i64 (r':Int)) (.int .i64 ((k:Int)+1)) w1:=by
 refine⟨k+1,ds++[d],r',by omega,by go_num,rfl,I.step hd hr he,?_,?_⟩
 ·have e:dW (ds++[d])=dW ds++[Value.int .i64 (d:Int)]:=by simp[dW]
  rw[e];exact O1
 have BA:Below wd.heap.size wd (wd.alloc o):=(Below.refl _ _).alloc (Nat.le_refl _) _;refine⟨G.os.trans (BA.os.trans B.os),G.tape.trans (BA.tape.trans B.tape),G.output.trans (BA.output.trans B.output),Nat.le_trans B.size (Nat.le_trans BA.size G.size),fun q hq=>?_⟩;rw[G.block q (Nat.lt_of_lt_of_le hq (Nat.le_trans B.size BA.size)) (fun e=>by have:=(O.lt q e.symm).1;omega)];exact(BA.block q (Nat.lt_of_lt_of_le hq B.size)).trans (B.block q hq)
theorem dB (w:World)(d:Nat):∀j u,[Value.int .i64 (d:Int)][j]? =some u→(w.alloc (.cells #[.int .i64 (d:Int)] 3)).cell? ((⟨w.heap.size,0,none⟩:Addr).add j)=some u:=by intro j u hu;rw[Addr.add_lit,Nat.zero_add,cell_of_row _ w.heap.size j _ _ _ (heap_alloc_new w (.cells #[.int .i64 (d:Int)] 3))];rcases j with _ | j<;>simp at hu⊢ <;>exact hu
theorem QY {w:World}{la lb:List Nat}{a b:Option Addr}{n c m d:Nat}(ha:HAt w la a n c)(hb:HAt w lb b m d)(hmn:m≤n)(hsz:n≤1099511627776)(hle:Nh.vl lb≤Nh.vl la):
  Calls prog 167 #[.slice a n c,.slice b m d] w (dV w (Nh.vl la-Nh.vl lb)):=by
 have A:=hid ha;have B:=hid hb;have hn:=hid ha.len;have h1:=ha.cap;have h2:=ha.le;have D9:=hid hle;clear ha hb hle;obtain⟨i0,hi0,hz0,hz1,hz2⟩:=info_parts info3;go_enter func167,ntmps167;go_wp2_with fail;go_loopw [5,6,11] (fun v bo i wr=>Ls w la lb n v bo i wr) (fun _ _ i _=>n-(intOf i).toNat)
 case atStart=>exact⟨0,[],0,Nat.zero_le _,rfl,rfl,Nh.jB.nil la lb,World.ownsRow_nil _ _ _ _,Below.refl _ _⟩
 obtain⟨k,ds,r,hk,rfl,rfl,hI,hO,hB⟩:=hrel;have I:=hid hI;have O:=hid hO;have BR:=hid hB;have r1:=hI.r1;clear hI hO hB;by_cases hlt:k<n
 ·obtain⟨b1,o1,rfl,dd⟩:=A.out.at_ (by intro e;have:=hn.out;rw[e]at this;simp at this;omega);have p:=aj BR.out (dd k (by rw[hn.out];exact hlt));clear dd;obtain⟨x,hx⟩:∃x,la.getD k 0=x:=⟨_,rfl⟩;obtain⟨y,hy⟩:∃y,lb.getD k 0=y:=⟨_,rfl⟩;have xb:x<65536:=by rw[←hx];exact Nh.ak A.out.lm k
  have yb:y<65536:=by rw[←hy];exact Nh.ak B.out.lm k
  rw[hx]at p;have DG:=bC (w:=wr.drew) ((B.out.below BR.out).below (Below.refl _ _).drew) k (by omega);rw[hy]at DG;have DG:=hid DG;have HX:=hid hx;have HY:=hid hy;have OD:Hid ((wr.drew).ownsRow w.heap.size 3 1 u5 k (dW ds)):=O.out;have BD:Hid (Below w.heap.size w wr.drew):=BR.out.drew;have w1':IntKind.i64.wrap ((x:Int)-(y:Int))=(x:Int)-(y:Int):=IntWalk.i64_in _ (by omega);have w2':IntKind.i64.wrap ((x:Int)-(y:Int)-(r:Int))=(x:Int)-(y:Int)-(r:Int):=IntWalk.i64_in _ (by omega);have wk0:(0:Int)≤(k:Int):=by omega
  have wk1:(k:Int)<(n:Int):=by omega
  clear hx hy O BR;go_wp2_with fail;go_region_held3 (fun W=>W.cell? ⟨b1,o1+k,none⟩=some (.int .i64 (x:Int)))
   (first
    | exact p
    | go_keep)
   ((go_at_call 127;refine DG.out.mono ?_;rintro e w2 ⟨rfl,rfl⟩))
  clear p DG w1' w2';generalize wr.drew=wd at*;by_cases hb:y+r≤x
  ·obtain⟨e,he⟩:∃e,x-y-r=e:=⟨_,rfl⟩;have ei:(x:Int)-(y:Int)-(r:Int)=(e:Int):=by omega
   have e0:(0:Int)≤(e:Int):=by omega
   have O2:=hid (OD.out.alloc (.cells #[.int .i64 (e:Int)] 3));have EB:Hid (e<65536∧x+0*65536=e+y+r):=⟨by omega,by omega⟩;clear he hb;go_wp2_with (at_builtin;refine wpList_append_own _ rfl _ _ 76 rfl w.heap.size 3 i0 (.int .i64 0) 1 8 underlying76 hi0 hz0 hz1 hz2 rfl (by omega) u5 k _ rfl O2.out ⟨wd.heap.size,0,none⟩ 1 1 [.int .i64 (e:Int)] rfl rfl (dB wd e) (by intro u hu;simp at hu;rw[hu];rfl) (by unfold maxLen;omega) (by omega) (by have:=BD.out.size;simp;omega) ?_;intro v' w1 hown1 hgrow1 hnil1;have OW:=hid hown1;have GR:=hid hgrow1;clear hown1 hgrow1 hnil1);go_roundw
   case rel=>exact Ls.next hlt I.out EB.out.1 (r':=0) (by omega) (by rw[HX.out,HY.out];exact EB.out.2) BD.out OD.out _ OW.out GR.out
   simp[intOf];omega
  obtain⟨e,he⟩:∃e,x+65536-y-r=e:=⟨_,rfl⟩;obtain⟨f,hf⟩:∃f:Int,(x:Int)-(y:Int)-(r:Int)=f:=⟨_,rfl⟩;have aae:f<0:=by omega
  have ei:f+65536=(e:Int):=by omega
  have e0:(0:Int)≤(e:Int):=by omega
  have O2:=hid (OD.out.alloc (.cells #[.int .i64 (e:Int)] 3));have EB:Hid (e<65536∧x+1*65536=e+y+r):=⟨by omega,by omega⟩;clear he hb;go_wp2_with (at_builtin;refine wpList_append_own _ rfl _ _ 76 rfl w.heap.size 3 i0 (.int .i64 0) 1 8 underlying76 hi0 hz0 hz1 hz2 rfl (by omega) u5 k _ rfl O2.out ⟨wd.heap.size,0,none⟩ 1 1 [.int .i64 (e:Int)] rfl rfl (dB wd e) (by intro u hu;simp at hu;rw[hu];rfl) (by unfold maxLen;omega) (by omega) (by have:=BD.out.size;simp;omega) ?_;intro v' w1 hown1 hgrow1 hnil1;have OW:=hid hown1;have GR:=hid hgrow1;clear hown1 hgrow1 hnil1);go_roundw
  case rel=>exact Ls.next hlt I.out EB.out.1 (r':=1) (by omega) (by rw[HX.out,HY.out];exact EB.out.2) BD.out OD.out _ OW.out GR.out
  simp[intOf];omega
 obtain rfl:n=k:=by omega
 have DN:=hid (I.out.done (by rw[hn.out];exact Nat.le_refl _) (by rw[B.out.len];exact hmn) D9.out);obtain⟨a2,c2,rfl,L2⟩:=lF I.out.lm I.out.len O.out;have L2:=hid L2;go_wp2_with fail;refine(dL L2.out).mono ?_;rintro e w' ⟨rfl,rfl⟩;go_wp2_with fail;go_ret;exact dV.fG L2.out BR.out DN.out.2
theorem Nh.iF.aad {a b:List Nat}{n:Nat}{ds:List Nat}(h:Nh.iF a b n ds 0)(ha:a.length≤n)(hb:b.length≤n):Nh.vl ds=Nh.vl a+Nh.vl b:=by have q:=h.eq;rw[List.take_of_length_le ha,List.take_of_length_le hb,Nat.zero_mul,Nat.add_zero]at q;exact q
def Gu (w:World)(la lb:List Nat)(mx:Nat)(v ca i:Value)(wr:World):Prop:=
 ∃(k:Nat) (ds:List Nat) (c:Nat),k≤mx+1∧(k=mx+1→c=0)∧i= .int .i64 (k:Int)∧ca= .int .i64 (c:Int)∧Nh.iF la lb k ds c∧wr.ownsRow w.heap.size 3 1 v k (dW ds)∧Below w.heap.size w wr
theorem Gu.next {w wd w1:World}{la lb ds:List Nat}{mx k c s:Nat}{v v':Value}(hk:k≤mx)(hz:k=mx→s/65536=0)(ha:Nh.Lm la)(hb:Nh.Lm lb)(I:Nh.iF la lb k ds c)(hs:s=c+la.getD k 0+lb.getD k 0)
  (B:Below w.heap.size w wd)(O:wd.ownsRow w.heap.size 3 1 v k (dW ds))(o:Obj)(O1:w1.ownsRow w.heap.size 3 1 v' (k+1) (dW ds++[Value.int .i64 ((s:Int)%65536)]))(G:(wd.alloc o).grownBy w1 v.ownBlock):
  Gu w la lb mx v' (.int .i64 ((s:Int)/65536)) (.int .i64 ((k:Int)+1)) w1:=by
 refine⟨k+1,ds++[s%65536],s/65536,by omega,fun e=>hz (by omega),by go_num,by go_num,by rw[hs];exact I.step ha hb,?_,?_⟩
 ·have e:dW (ds++[s%65536])=dW ds++[Value.int .i64 ((s:Int)%65536)]:=by simp[dW]
  rw[e];exact O1
 have BA:Below wd.heap.size wd (wd.alloc o):=(Below.refl _ _).alloc (Nat.le_refl _) _;refine⟨G.os.trans (BA.os.trans B.os),G.tape.trans (BA.tape.trans B.tape),G.output.trans (BA.output.trans B.output),Nat.le_trans B.size (Nat.le_trans BA.size G.size),fun q hq=>?_⟩;rw[G.block q (Nat.lt_of_lt_of_le hq (Nat.le_trans B.size BA.size)) (fun e=>by have:=(O.lt q e.symm).1;omega)];exact(BA.block q (Nat.lt_of_lt_of_le hq B.size)).trans (B.block q hq)
theorem MS {w:World}{la lb:List Nat}{a b:Option Addr}{n c m d:Nat}(ha:HAt w la a n c)(hb:HAt w lb b m d)(hn:n≤1099511627776)(hm:m≤1099511627776):
  Calls prog 170 #[.slice a n c,.slice b m d] w (dV w (Nh.vl la+Nh.vl lb)):=by
 have A:=hid ha;have B:=hid hb;obtain⟨mx,hmx⟩:∃mx,max n m=mx:=⟨_,rfl⟩;have nM:n≤mx:=by omega
 have mM:m≤mx:=by omega
 have MX:Hid (mx=n∨mx=m):=by show _∨_;omega
 have mb:mx≤1099511627776:=by omega
 have LN:=hid ha.len;have LM:=hid hb.len;clear ha hb hmx;obtain⟨i0,hi0,hz0,hz1,hz2⟩:=info_parts info3;go_enter func170,ntmps170;go_wp2_with fail;go_loopw [5,6,7] (fun v ca i wr=>Gu w la lb mx v ca i wr) (fun _ _ i _=>mx+1-(intOf i).toNat)
 case atStart=>exact⟨0,[],0,Nat.zero_le _,fun _=>rfl,rfl,rfl,Nh.iF.nil la lb,World.ownsRow_nil _ _ _ _,Below.refl _ _⟩
 obtain⟨k,ds,cc,hk,hz,rfl,rfl,hI,hO,hB⟩:=hrel;have I:=hid hI;have O:=hid hO;have BR:=hid hB;have c1:=hI.c1;clear hI hO hB;by_cases hlt:k<n∨k<m∨0<cc
 ·have kM:k≤mx:=by refine Classical.byContradiction fun q=>?_;have:=hz (by omega);omega
  obtain⟨x,hx⟩:∃x,la.getD k 0=x:=⟨_,rfl⟩;obtain⟨y,hy⟩:∃y,lb.getD k 0=y:=⟨_,rfl⟩;have xb:x<65536:=by rw[←hx];exact Nh.ak A.out.lm k
  have yb:y<65536:=by rw[←hy];exact Nh.ak B.out.lm k
  have D1:=bC (w:=wr) (A.out.below BR.out) k (by omega);have D2:=bC (w:=wr) (B.out.below BR.out) k (by omega);rw[hx]at D1;rw[hy]at D2;have D1:=hid D1;have D2:=hid D2;have HX:Hid (cc+x+y=cc+la.getD k 0+lb.getD k 0):=by show _=_;rw[hx,hy]
  have HZ:Hid (k=mx→(cc+x+y)/65536=0):=fun e=>by
   have e1:la.getD k 0=0:=by rw[List.getD_eq_getElem?_getD,List.getElem?_eq_none (by rw[LN.out];omega)];rfl
   have e2:lb.getD k 0=0:=by rw[List.getD_eq_getElem?_getD,List.getElem?_eq_none (by rw[LM.out];omega)];rfl
   omega
  obtain⟨s,hs⟩:∃s,cc+x+y=s:=⟨_,rfl⟩;rw[hs]at HX HZ;have w1':IntKind.i64.wrap ((x:Int)+(y:Int))=(x:Int)+(y:Int):=IntWalk.i64_in _ (by omega);have w2':IntKind.i64.wrap ((x:Int)+(y:Int)+(cc:Int))=(s:Int):=by rw[IntWalk.i64_in _ (by omega)];omega
  have sb:s<262144:=by omega
  have s0:(0:Int)≤(s:Int):=by omega
  have k0:(0:Int)≤(k:Int):=by omega
  have O2:=hid (O.out.alloc (.cells #[.int .i64 ((s:Int)%65536)] 3));have F3:Hid ((wr.alloc (.cells #[.int .i64 ((s:Int)%65536)] 3)).heap[wr.heap.size]? =some (.cells #[.int .i64 ((s:Int)%65536)] 3 (0,0))):=heap_alloc_new _ _;have kk:Hid (k≤mx):=kM;clear hx hy hs xb yb hz;rcases hlt with h1 | h1
  ·have b1:(k:Int)<(n:Int):=by omega
   clear h1;go_wp2_with (first
    | (go_at_call 127;with_reducible refine D1.out.mono ?_;rintro e w2 ⟨rfl,rfl⟩)
    | (go_at_call 127;with_reducible refine D2.out.mono ?_;rintro e w2 ⟨rfl,rfl⟩)
    | (at_builtin;refine wpList_append_own _ rfl _ _ 76 rfl w.heap.size 3 i0 (.int .i64 0) 1 8 underlying76 hi0 hz0 hz1 hz2 rfl (by omega) u5 k _ rfl O2.out ⟨wr.heap.size,0,none⟩ 1 1 [.int .i64 ((s:Int)%65536)] rfl rfl (World.news_of_block F3.out) (by intro u hu;simp at hu;rw[hu];rfl) (by unfold maxLen;omega) (by omega) (by have:=BR.out.size;simp;omega) ?_;intro v' w1 hown1 hgrow1 hnil1;have OW:=hid hown1;have GR:=hid hgrow1;clear hown1 hgrow1 hnil1))
   go_roundw
   case rel=>exact Gu.next kk.out HZ.out A.out.lm B.out.lm I.out HX.out BR.out O.out _ OW.out GR.out
   simp[intOf];omega
  by_cases h2:k<n
  ·have b1:(k:Int)<(n:Int):=by omega
   clear h1;go_wp2_with (first
    | (go_at_call 127;with_reducible refine D1.out.mono ?_;rintro e w2 ⟨rfl,rfl⟩)
    | (go_at_call 127;with_reducible refine D2.out.mono ?_;rintro e w2 ⟨rfl,rfl⟩)
    | (at_builtin;refine wpList_append_own _ rfl _ _ 76 rfl w.heap.size 3 i0 (.int .i64 0) 1 8 underlying76 hi0 hz0 hz1 hz2 rfl (by omega) u5 k _ rfl O2.out ⟨wr.heap.size,0,none⟩ 1 1 [.int .i64 ((s:Int)%65536)] rfl rfl (World.news_of_block F3.out) (by intro u hu;simp at hu;rw[hu];rfl) (by unfold maxLen;omega) (by omega) (by have:=BR.out.size;simp;omega) ?_;intro v' w1 hown1 hgrow1 hnil1;have OW:=hid hown1;have GR:=hid hgrow1;clear hown1 hgrow1 hnil1))
   go_roundw
   case rel=>exact Gu.next kk.out HZ.out A.out.lm B.out.lm I.out HX.out BR.out O.out _ OW.out GR.out
   simp[intOf];omega
  have b1:¬(k:Int)<(n:Int):=by omega
  rcases h1 with h1 | h1
  ·have b2:(k:Int)<(m:Int):=by omega
   clear h1 h2;go_wp2_with (first
    | (go_at_call 127;with_reducible refine D1.out.mono ?_;rintro e w2 ⟨rfl,rfl⟩)
    | (go_at_call 127;with_reducible refine D2.out.mono ?_;rintro e w2 ⟨rfl,rfl⟩)
    | (at_builtin;refine wpList_append_own _ rfl _ _ 76 rfl w.heap.size 3 i0 (.int .i64 0) 1 8 underlying76 hi0 hz0 hz1 hz2 rfl (by omega) u5 k _ rfl O2.out ⟨wr.heap.size,0,none⟩ 1 1 [.int .i64 ((s:Int)%65536)] rfl rfl (World.news_of_block F3.out) (by intro u hu;simp at hu;rw[hu];rfl) (by unfold maxLen;omega) (by omega) (by have:=BR.out.size;simp;omega) ?_;intro v' w1 hown1 hgrow1 hnil1;have OW:=hid hown1;have GR:=hid hgrow1;clear hown1 hgrow1 hnil1))
   go_roundw
   case rel=>exact Gu.next kk.out HZ.out A.out.lm B.out.lm I.out HX.out BR.out O.out _ OW.out GR.out
   simp[intOf];omega
  by_cases h3:k<m
  ·have b2:(k:Int)<(m:Int):=by omega
   clear h1 h2 h3;go_wp2_with (first
    | (go_at_call 127;with_reducible refine D1.out.mono ?_;rintro e w2 ⟨rfl,rfl⟩)
    | (go_at_call 127;with_reducible refine D2.out.mono ?_;rintro e w2 ⟨rfl,rfl⟩)
    | (at_builtin;refine wpList_append_own _ rfl _ _ 76 rfl w.heap.size 3 i0 (.int .i64 0) 1 8 underlying76 hi0 hz0 hz1 hz2 rfl (by omega) u5 k _ rfl O2.out ⟨wr.heap.size,0,none⟩ 1 1 [.int .i64 ((s:Int)%65536)] rfl rfl (World.news_of_block F3.out) (by intro u hu;simp at hu;rw[hu];rfl) (by unfold maxLen;omega) (by omega) (by have:=BR.out.size;simp;omega) ?_;intro v' w1 hown1 hgrow1 hnil1;have OW:=hid hown1;have GR:=hid hgrow1;clear hown1 hgrow1 hnil1))
   go_roundw
   case rel=>exact Gu.next kk.out HZ.out A.out.lm B.out.lm I.out HX.out BR.out O.out _ OW.out GR.out
   simp[intOf];omega
  have b2:¬(k:Int)<(m:Int):=by omega
  have b3:(cc:Int)>0:=by omega
  clear h1 h2 h3;go_wp2_with (first
   | (go_at_call 127;with_reducible refine D1.out.mono ?_;rintro e w2 ⟨rfl,rfl⟩)
   | (go_at_call 127;with_reducible refine D2.out.mono ?_;rintro e w2 ⟨rfl,rfl⟩)
   | (at_builtin;refine wpList_append_own _ rfl _ _ 76 rfl w.heap.size 3 i0 (.int .i64 0) 1 8 underlying76 hi0 hz0 hz1 hz2 rfl (by omega) u5 k _ rfl O2.out ⟨wr.heap.size,0,none⟩ 1 1 [.int .i64 ((s:Int)%65536)] rfl rfl (World.news_of_block F3.out) (by intro u hu;simp at hu;rw[hu];rfl) (by unfold maxLen;omega) (by omega) (by have:=BR.out.size;simp;omega) ?_;intro v' w1 hown1 hgrow1 hnil1;have OW:=hid hown1;have GR:=hid hgrow1;clear hown1 hgrow1 hnil1))
  go_roundw
  case rel=>exact Gu.next kk.out HZ.out A.out.lm B.out.lm I.out HX.out BR.out O.out _ OW.out GR.out
  simp[intOf];omega
 have b1:¬(k:Int)<(n:Int):=by omega
 have b2:¬(k:Int)<(m:Int):=by omega
 obtain rfl:cc=0:=by omega
 have DN:=hid (I.out.aad (by rw[LN.out];omega) (by rw[LM.out];omega));obtain⟨a2,c2,rfl,L2⟩:=lF I.out.lm I.out.len O.out;have L2:=hid L2;clear hlt;go_wp2_with fail;refine(dL L2.out).mono ?_;rintro e w' ⟨rfl,rfl⟩;go_wp2_with fail;go_ret;exact dV.fG L2.out BR.out DN.out
end Go.Proofs.YtijdglogadnbcaaGreat
