/- The problem while lp.New builds it. No program. -/
import Derived.Test.YtijdglogadnbcaaGreatY19
set_option linter.unusedVariables false
set_option linter.unusedSimpArgs false
set_option maxRecDepth 100000
set_option maxHeartbeats 40000000
namespace Go.Proofs.YtijdglogadnbcaaGreat
open Go.Proofs.Tryz
open Go.RowKit Nt Bl
theorem Vd:(prog.info? 222).map (fun i=>(i.zero,i.size,i.bytes))=some (some (.agg #[.bool false,.bool false,.slice none 0 0,.slice none 0 0,.bool false,.slice none 0 0,.slice none 0 0]),7,120):=by kernel_rfl
theorem Dk {w1:World}{b g n:Nat}(h:w1.ownsRow b 222 7 (.slice (some ⟨g,0,none⟩) n n) n (madeCells (Value.agg #[.bool false,.bool false,.slice none 0 0,.slice none 0 0,.bool false,.slice none 0 0,.slice none 0 0]).cells (n*7)).toList):
  lV 222 w1 g n (fun _=>none)∧b≤g:=by
 rcases h.2 with⟨hv,_⟩ | ⟨g',cap,cur,hv,hb,hgg,_,_,hcs,ht⟩
 ·simp at hv
 simp only[Value.slice.injEq,Option.some.injEq,Addr.mk.injEq]at hv;obtain⟨⟨rfl,_⟩,_,rfl⟩:=hv;refine⟨⟨⟨_,hgg⟩,fun v hvn=>?_⟩,hb⟩;have c:∀j,j<7→w1.cell? ⟨g,v*7+j,none⟩=#[Value.bool false,.bool false,.slice none 0 0,.slice none 0 0,.bool false,.slice none 0 0,.slice none 0 0][j]?:=fun j hj=>by
  rw[cell_of_row w1 g _ _ _ _ hgg];have e:=uM (z:=(Value.agg #[.bool false,.bool false,.slice none 0 0,.slice none 0 0,.bool false,.slice none 0 0,.slice none 0 0]).cells) (k:=n) (sz:=7) (v:=v) (j:=j) rfl hj hvn;rw[←ht,List.getElem?_take]at e;have lt:v*7+j<n*7:=by omega
  rw[if_pos lt]at e;rw[←Array.getElem?_toList,e];rfl
 exact⟨c 0 (by omega),Nw.zero,Nw.zero,c 1 (by omega),c 2 (by omega),c 3 (by omega),c 4 (by omega),c 5 (by omega),c 6 (by omega)⟩
def ints (a k:Nat):List Value:=(List.range k).map fun j=>Value.int .i64 ((a+j:Nat):Int)
def qY (line:Nat→Nat)(n k:Nat):List Value:=(List.range k).map fun j=>Value.slice (some ⟨line j,0,none⟩) n n
theorem fP (a k:Nat):ints a (k+1)=ints a k++[Value.int .i64 ((a+k:Nat):Int)]:=by simp[ints,List.range_succ]
theorem jg (line:Nat→Nat)(n k:Nat):qY line n (k+1)=qY line n k++[Value.slice (some ⟨line k,0,none⟩) n n]:=by simp[qY,List.range_succ]
theorem JY {line line':Nat→Nat}{n k:Nat}(h:∀j,j<k→line j=line' j):qY line n k=qY line' n k:=by unfold qY;refine List.map_congr_left fun j hj=>?_;rw[h j (List.mem_range.1 hj)]
structure Gi where
 p:Nat
 low:Nat
 high:Nat
 now:Nat
 n:Nat
 N:Nat
 hb:Value
 hf:Value
 ht:Value
 bv:Value
 fv:Value
 tv:Value
 ib:Nat
 it:Nat
 nf:Nat
 nl:Nat
 line:Nat→Nat
 lo:Nat→Option V
 hi:Nat→Option V
 T:Nat→Nat→Rat
structure Pt (n0:Nat)(w:World)(Z:Gi):Prop where
 hd:w.heap[Z.p]? =some (.cells #[.int .i64 (Z.n:Int),.slice (some ⟨Z.low,0,none⟩) Z.N Z.N,.slice (some ⟨Z.high,0,none⟩) Z.N Z.N,.slice (some ⟨Z.now,0,none⟩) Z.N Z.N,Z.hb,Z.hf,Z.ht] 219 (0,0))
 lo:lV 222 w Z.low Z.N Z.lo
 hi:lV 222 w Z.high Z.N Z.hi
 no:rW 174 w Z.now Z.N (fun _=>⟨0,0⟩)
 bo:Ow w n0 3 1 Z.bv Z.ib (ints Z.n Z.ib)
 fo:Ow w n0 3 1 Z.fv Z.nf (ints 0 Z.nf)
 lN:Ow w n0 83 1 Z.tv Z.it (qY Z.line Z.n Z.it)
 li:∀k,k<Z.nl→fE w (Z.line k) Z.n (Z.T k)
 inj:∀k j,k<Z.nl→j<Z.nl→k≠j→Z.line k≠Z.line j
 lh:Z.low≠Z.high
 bf:∀g,Z.bv.ownBlock=some g→Z.fv.ownBlock≠some g
 ge:n0≤Z.p∧n0≤Z.low∧n0≤Z.high∧n0≤Z.now∧∀k,k<Z.nl→n0≤Z.line k
variable {n0:Nat} {w w' w1:World} {Z:Gi}
theorem Pt.pb (h:Pt n0 w Z):dh w Z.p 219:=⟨_,h.hd⟩
theorem Pt.below (h:Pt n0 w Z)(hb:Below w.heap.size w w'):Pt n0 w' Z:=by have hl:=aQ.of_below hb;have B:∀{g ty:Nat},dh w g ty→w'.heap[g]? =w.heap[g]?:=fun q=>hb.block _ q.lt;exact⟨(B h.pb).trans h.hd,h.lo.keep (B h.lo.blk) hl,h.hi.keep (B h.hi.blk) hl,h.no.keep (B h.no.blk) hl,h.bo.below hb,h.fo.below hb,h.lN.below hb,fun k hk=>(h.li k hk).keep (B (h.li k hk).blk) hl,h.inj,h.lh,h.bf,h.ge⟩
theorem Pt.drew (h:Pt n0 w Z):Pt n0 w.drew Z:=h.below (Below.refl _ _).drew
theorem Pt.head (h:Pt n0 w Z):w.cell? ⟨Z.p,0,none⟩=some (.int .i64 (Z.n:Int))∧w.cell? ⟨Z.p,1,none⟩=some (.slice (some ⟨Z.low,0,none⟩) Z.N Z.N)∧w.cell? ⟨Z.p,2,none⟩=some (.slice (some ⟨Z.high,0,none⟩) Z.N Z.N)∧
  w.cell? ⟨Z.p,3,none⟩=some (.slice (some ⟨Z.now,0,none⟩) Z.N Z.N)∧w.cell? ⟨Z.p,4,none⟩=some Z.hb∧w.cell? ⟨Z.p,5,none⟩=some Z.hf∧w.cell? ⟨Z.p,6,none⟩=some Z.ht∧∀i,w.frozen? ⟨Z.p,i,none⟩=false:=by
 refine⟨?_,?_,?_,?_,?_,?_,?_,fun i=>h.pb.free i⟩
 ·rw[cell_of_row w Z.p 0 _ _ _ h.hd];rfl
 ·rw[cell_of_row w Z.p 1 _ _ _ h.hd];rfl
 ·rw[cell_of_row w Z.p 2 _ _ _ h.hd];rfl
 ·rw[cell_of_row w Z.p 3 _ _ _ h.hd];rfl
 ·rw[cell_of_row w Z.p 4 _ _ _ h.hd];rfl
 ·rw[cell_of_row w Z.p 5 _ _ _ h.hd];rfl
 rw[cell_of_row w Z.p 6 _ _ _ h.hd];rfl
theorem Pt.jm {base e size n:Nat}{v:Value}{xs:List Value}(o:Ow w base e size v n xs)(g:w.grownBy w1 v.ownBlock){b ty:Nat}(hb:dh w b ty)(hne:ty≠e):w1.heap[b]? =w.heap[b]?:=
 g.block b hb.lt fun q=>(hb.ne (o.blk q.symm) hne) rfl
theorem Ow.apart {base e size n:Nat}{v:Value}{xs:List Value}{base' e' size' n':Nat}{v':Value}{xs':List Value}(o:Ow w base e size v n xs)(o':Ow w base' e' size' v' n' xs')(hne:e'≠e):v'.ownBlock=none∨v'.ownBlock≠v.ownBlock:=by
 cases q:v'.ownBlock with
 | none=>exact Or.inl rfl
 | some g=>exact Or.inr fun r=>(o'.blk q).ne (o.blk r.symm) hne rfl
theorem Pt.xA {qZ:Value}(h:Pt n0 w Z)(O:Ow w1 n0 3 1 qZ (Z.ib+1) (ints Z.n (Z.ib+1)))(G:w.grownBy w1 Z.bv.ownBlock)(hf:∀g,qZ.ownBlock=some g→Z.fv.ownBlock≠some g):Pt n0 w1 {Z with bv:=qZ,ib:=Z.ib+1}:=by
 have hl:=h.bo.limb G;have B:∀{b ty:Nat},dh w b ty→ty≠3→w1.heap[b]? =w.heap[b]?:=fun q hne=>Pt.jm h.bo G q hne;refine⟨(B h.pb (by decide)).trans h.hd,h.lo.keep (B h.lo.blk (by decide)) hl,h.hi.keep (B h.hi.blk (by decide)) hl,h.no.keep (B h.no.blk (by decide)) hl,O,?_,h.lN.kept G (Ow.apart h.bo h.lN (by decide)),fun k hk=>(h.li k hk).keep (B (h.li k hk).blk (by decide)) hl,h.inj,h.lh,hf,h.ge⟩;refine h.fo.kept G ?_
 cases q:Z.fv.ownBlock with
 | none=>exact Or.inl rfl
 | some g=>exact Or.inr fun r=>h.bf g r.symm q
theorem Pt.ab6 {fv':Value}(h:Pt n0 w Z)(O:Ow w1 n0 3 1 fv' (Z.nf+1) (ints 0 (Z.nf+1)))(G:w.grownBy w1 Z.fv.ownBlock)(hf:Z.bv.ownBlock=none):Pt n0 w1 {Z with fv:=fv',nf:=Z.nf+1}:=by have hl:=h.fo.limb G;have B:∀{b ty:Nat},dh w b ty→ty≠3→w1.heap[b]? =w.heap[b]?:=fun q hne=>Pt.jm h.fo G q hne;exact⟨(B h.pb (by decide)).trans h.hd,h.lo.keep (B h.lo.blk (by decide)) hl,h.hi.keep (B h.hi.blk (by decide)) hl,h.no.keep (B h.no.blk (by decide)) hl,h.bo.kept G (Or.inl hf),O,h.lN.kept G (Ow.apart h.fo h.lN (by decide)),fun k hk=>(h.li k hk).keep (B (h.li k hk).blk (by decide)) hl,h.inj,h.lh,fun g q=>by have q:Z.bv.ownBlock=some g:=q;rw[hf]at q;simp at q,h.ge⟩
theorem Pt.xB {tv':Value}(h:Pt n0 w Z)(O:Ow w1 n0 83 1 tv' (Z.it+1) (qY Z.line Z.n (Z.it+1)))(G:w.grownBy w1 Z.tv.ownBlock):Pt n0 w1 {Z with tv:=tv',it:=Z.it+1}:=by have hl:=h.lN.limb G;have B:∀{b ty:Nat},dh w b ty→ty≠83→w1.heap[b]? =w.heap[b]?:=fun q hne=>Pt.jm h.lN G q hne;exact⟨(B h.pb (by decide)).trans h.hd,h.lo.keep (B h.lo.blk (by decide)) hl,h.hi.keep (B h.hi.blk (by decide)) hl,h.no.keep (B h.no.blk (by decide)) hl,h.bo.kept G (Ow.apart h.lN h.bo (by decide)),h.fo.kept G (Ow.apart h.lN h.fo (by decide)),O,fun k hk=>(h.li k hk).keep (B (h.li k hk).blk (by decide)) hl,h.inj,h.lh,h.bf,h.ge⟩
theorem Pt.Ve {g:Nat}{f:Nat→Rat}(h:Pt n0 w Z)(hb:Below w.heap.size w w1)(hg:w.heap.size≤g)(hl:fE w1 g Z.n f)(hn:n0≤w.heap.size)(hit:Z.it≤Z.nl):Pt n0 w1 {Z with nl:=Z.nl+1,line:=fun k=>if k=Z.nl then g else Z.line k,T:=fun k=>if k=Z.nl then f else Z.T k}:=by
 have h1:=h.below hb;have old:∀k,k<Z.nl→Z.line k<w.heap.size:=fun k hk=>(h.li k hk).blk.lt;refine⟨h1.hd,h1.lo,h1.hi,h1.no,h1.bo,h1.fo,?_,fun k hk=>?_,fun k j hk hj hne=>?_,h1.lh,h1.bf,h1.ge.1,h1.ge.2.1,h1.ge.2.2.1,h1.ge.2.2.2.1,fun k hk=>?_⟩
 ·have e:=JY (line:=fun k=>if k=Z.nl then g else Z.line k) (line':=Z.line) (n:=Z.n) (k:=Z.it) fun j hj=>if_neg (by omega);show Ow w1 n0 83 1 Z.tv Z.it (qY _ Z.n Z.it);rw[e];exact h1.lN
 ·show fE w1 (if k=Z.nl then g else Z.line k) Z.n (if k=Z.nl then f else Z.T k);by_cases e:k=Z.nl
  ·rw[if_pos e,if_pos e];exact hl
  rw[if_neg e,if_neg e];have hk:k<Z.nl+1:=hk;exact h1.li k (by omega)
 ·show(if k=Z.nl then g else Z.line k)≠(if j=Z.nl then g else Z.line j);have hk:k<Z.nl+1:=hk;have hj:j<Z.nl+1:=hj;by_cases e:k=Z.nl
  ·rw[if_pos e,if_neg (by omega)];have:=old j (by omega);omega
  rw[if_neg e];by_cases e2:j=Z.nl
  ·rw[if_pos e2];have:=old k (by omega);omega
  rw[if_neg e2];exact h.inj k j (by omega) (by omega) hne
 show n0≤(if k=Z.nl then g else Z.line k);have hk:k<Z.nl+1:=hk;by_cases e:k=Z.nl
 ·rw[if_pos e];omega
 rw[if_neg e];exact h.ge.2.2.2.2 k (by omega)
theorem Pt.hold (h:Pt n0 w Z)(e:∀b,b≠Z.p→w1.heap[b]? =w.heap[b]?) (hl:aQ w w1) {Z':Gi} (hZ:Z'={Z with hb:=Z'.hb,hf:=Z'.hf,ht:=Z'.ht})
  (hd:w1.heap[Z'.p]? =some (.cells #[.int .i64 (Z'.n:Int),.slice (some ⟨Z'.low,0,none⟩) Z'.N Z'.N,.slice (some ⟨Z'.high,0,none⟩) Z'.N Z'.N,.slice (some ⟨Z'.now,0,none⟩) Z'.N Z'.N,Z'.hb,Z'.hf,Z'.ht] 219 (0,0))) (hs:w.heap.size=w1.heap.size) (ho:w1.os=w.os∧w1.tape=w.tape∧w1.output=w.output):Pt n0 w1 Z':=by
 have B:∀{b ty:Nat},dh w b ty→ty≠219→w1.heap[b]? =w.heap[b]?:=fun q hne=>e _ (q.ne h.pb hne);have G:w.grownBy w1 (some Z.p):=⟨ho.1,ho.2.1,ho.2.2,Nat.le_of_eq hs,fun k _ hk=>e k fun q=>hk (by rw[q])⟩;have ap:∀{base ty size n:Nat} {v:Value} {xs:List Value},Ow w base ty size v n xs→ty≠219→v.ownBlock=none∨v.ownBlock≠some Z.p:=fun{base ty size n v xs} o hne=>by
  cases q:v.ownBlock with
  | none=>exact Or.inl rfl
  | some g=>exact Or.inr fun r=>(o.blk q).ne h.pb hne (Option.some.inj r)
 have F:Pt n0 w1 Z':=by
  refine⟨hd,?_,?_,?_,?_,?_,?_,?_,?_,?_,?_,?_⟩<;>rw[hZ]
  ·exact h.lo.keep (B h.lo.blk (by decide)) hl
  ·exact h.hi.keep (B h.hi.blk (by decide)) hl
  ·exact h.no.keep (B h.no.blk (by decide)) hl
  ·exact h.bo.kept G (ap h.bo (by decide))
  ·exact h.fo.kept G (ap h.fo (by decide))
  ·exact h.lN.kept G (ap h.lN (by decide))
  ·exact fun k hk=>(h.li k hk).keep (B (h.li k hk).blk (by decide)) hl
  ·exact h.inj
  ·exact h.lh
  ·exact h.bf
  exact h.ge
 exact F
theorem lV.set {g N v:Nat}{f:Nat→Option V}{M S:Nw}{x:V}(h:lV 222 w g N f)(hv:v<N)(hw:Wr w w' g (v*7) (.bool true::(M.cs++S.cs)))(hl:aQ w w')(hm:RA w x.m M)(hs:RA w x.s S):lV 222 w' g N (fun j=>if j=v then some x else f j):=by
 refine⟨hw.blk _ _ h.blk,fun j hj=>?_⟩;by_cases e:j=v
 ·subst e;simp only[if_true];refine⟨hw.new 0 (by simp[Nw.cs]),qG ?_ ?_ ?_ hm hl,qG ?_ ?_ ?_ hs hl⟩
  ·exact hw.new 1 (by simp[Nw.cs])
  ·exact hw.new 2 (by simp[Nw.cs])
  ·exact hw.new 3 (by simp[Nw.cs])
  ·exact hw.new 4 (by simp[Nw.cs])
  ·exact hw.new 5 (by simp[Nw.cs])
  exact hw.new 6 (by simp[Nw.cs])
 simp only[if_neg e];exact(h.at_ j hj).keep (fun i hi=>hw.rest _ (by simp[Nw.cs];omega)) hl
theorem wZ.Cc {g o:Nat}{e:Option V}(h:wZ w g o e)(j:Nat)(hj:j<7)(x:Int):w.cell? ⟨g,o+j,none⟩≠some (.int .u32 x):=by
 cases e with
 | none=>
  obtain⟨a,M,S,b,c,d,e,f,i⟩:=h
  rcases j with _ | _ | _ | _ | _ | _ | _ | j
  ·rw[Nat.add_zero,a];simp
  ·rw[show o+(0+1)=o+1 from rfl,b];simp
  ·rw[show o+(0+1+1)=o+2 from rfl,c];simp
  ·rw[show o+(0+1+1+1)=o+3 from rfl,d];simp
  ·rw[show o+(0+1+1+1+1)=o+4 from rfl,e];simp
  ·rw[show o+(0+1+1+1+1+1)=o+5 from rfl,f];simp
  ·rw[show o+(0+1+1+1+1+1+1)=o+6 from rfl,i];simp
  ·omega
 | some v=>
  cases j with
  | zero=>rw[Nat.add_zero,h.1];simp
  | succ j=>have:=h.2.Cc j (by omega) x;rwa[show o+1+j=o+(j+1) from by omega]at this
theorem lV.limb {g N v:Nat}{f:Nat→Option V}{M S:Nw}(h:lV 222 w g N f)(hv:v<N)(hw:Wr w w' g (v*7) (.bool true::(M.cs++S.cs))):aQ w w':=
 hw.limb fun j x hj=>(h.at_ v hv).Cc j (by simpa[Nw.cs]using hj) x
theorem Pt.Qc {v:Nat}{M S:Nw}{x:V}(h:Pt n0 w Z)(hv:v<Z.N)(hw:Wr w w' Z.high (v*7) (.bool true::(M.cs++S.cs)))(hm:RA w x.m M)(hs:RA w x.s S)(hsz:w.heap.size=w'.heap.size)(ho:w'.os=w.os∧w'.tape=w.tape∧w'.output=w.output):Pt n0 w' {Z with hi:=fun j=>if j=v then some x else Z.hi j}:=by
 have hl:=h.hi.limb hv hw;have B:∀{b ty:Nat},dh w b ty→ty≠222→w'.heap[b]? =w.heap[b]?:=fun q hne=>hw.jm _ (q.ne h.hi.blk hne);have G:w.grownBy w' (some Z.high):=⟨ho.1,ho.2.1,ho.2.2,Nat.le_of_eq hsz,fun k _ hk=>hw.jm k fun q=>hk (by rw[q])⟩;have ap:∀{base ty size n:Nat} {v:Value} {xs:List Value},Ow w base ty size v n xs→ty≠222→v.ownBlock=none∨v.ownBlock≠some Z.high:=fun{base ty size n v xs} o hne=>by
  cases q:v.ownBlock with
  | none=>exact Or.inl rfl
  | some g=>exact Or.inr fun r=>(o.blk q).ne h.hi.blk hne (Option.some.inj r)
 exact⟨(B h.pb (by decide)).trans h.hd,h.lo.keep (hw.jm _ h.lh) hl,h.hi.set hv hw hl hm hs,h.no.keep (B h.no.blk (by decide)) hl,h.bo.kept G (ap h.bo (by decide)),h.fo.kept G (ap h.fo (by decide)),h.lN.kept G (ap h.lN (by decide)),fun k hk=>(h.li k hk).keep (B (h.li k hk).blk (by decide)) hl,h.inj,h.lh,h.bf,h.ge⟩
theorem Pt.aaL {v:Nat}{M S:Nw}{x:V}(h:Pt n0 w Z)(hv:v<Z.N)(hw:Wr w w' Z.low (v*7) (.bool true::(M.cs++S.cs)))(hm:RA w x.m M)(hs:RA w x.s S)(hsz:w.heap.size=w'.heap.size)(ho:w'.os=w.os∧w'.tape=w.tape∧w'.output=w.output):Pt n0 w' {Z with lo:=fun j=>if j=v then some x else Z.lo j}:=by
 have hl:=h.lo.limb hv hw;have B:∀{b ty:Nat},dh w b ty→ty≠222→w'.heap[b]? =w.heap[b]?:=fun q hne=>hw.jm _ (q.ne h.lo.blk hne);have G:w.grownBy w' (some Z.low):=⟨ho.1,ho.2.1,ho.2.2,Nat.le_of_eq hsz,fun k _ hk=>hw.jm k fun q=>hk (by rw[q])⟩;have ap:∀{base ty size n:Nat} {v:Value} {xs:List Value},Ow w base ty size v n xs→ty≠222→v.ownBlock=none∨v.ownBlock≠some Z.low:=fun{base ty size n v xs} o hne=>by
  cases q:v.ownBlock with
  | none=>exact Or.inl rfl
  | some g=>exact Or.inr fun r=>(o.blk q).ne h.lo.blk hne (Option.some.inj r)
 exact⟨(B h.pb (by decide)).trans h.hd,h.lo.set hv hw hl hm hs,h.hi.keep (hw.jm _ h.lh.symm) hl,h.no.keep (B h.no.blk (by decide)) hl,h.bo.kept G (ap h.bo (by decide)),h.fo.kept G (ap h.fo (by decide)),h.lN.kept G (ap h.lN (by decide)),fun k hk=>(h.li k hk).keep (B (h.li k hk).blk (by decide)) hl,h.inj,h.lh,h.bf,h.ge⟩
end Go.Proofs.YtijdglogadnbcaaGreat
namespace Go.Proofs.YtijdglogadnbcaaGreat
open Go.Proofs.Tryz
open Go.RowKit
def Xd (w:World)(l:List Nat)(a:Option Addr):Prop:=l≠[]→∃b o,a=some ⟨b,o,none⟩∧∀i,i<l.length→w.cell? ⟨b,o+i,none⟩=some (.int .i64 ((l.getD i 0:Nat):Int))
structure HAt (w:World)(l:List Nat)(a:Option Addr)(n c:Nat):Prop where
 at_:Xd w l a
 len:l.length=n
 le:n≤c
 cap:c≤9223372036854775807
 lm:Nh.Lm l
theorem Xd.below {w w':World}{l:List Nat}{a:Option Addr}(h:Xd w l a)(hb:Below w.heap.size w w'):Xd w' l a:=by intro hne;obtain⟨b,o,e,d⟩:=h hne;exact⟨b,o,e,fun i hi=>aj hb (d i hi)⟩
theorem HAt.below {w w':World}{l:List Nat}{a:Option Addr}{n c:Nat}(h:HAt w l a n c)(hb:Below w.heap.size w w'):HAt w' l a n c:=
 ⟨h.at_.below hb,h.len,h.le,h.cap,h.lm⟩
theorem bC {w:World}{l:List Nat}{a:Option Addr}{n c:Nat}(h:HAt w l a n c)(i:Nat)(hi:i≤9223372036854775807):
  Calls prog 127 #[.slice a n c,.int .i64 (i:Int)] w fun e w'=>e= .returned (.int .i64 ((l.getD i 0:Nat):Int))∧w=w':=by
 have hc:=h.cap;have hl:=h.le;by_cases hlt:i<n
 ·obtain⟨b,o,rfl,d⟩:=h.at_ (by intro e;have:=h.len;rw[e]at this;simp at this;omega);have p:=d i (by rw[h.len];exact hlt);obtain⟨x,hx⟩:∃x,l.getD i 0=x:=⟨_,rfl⟩;rw[hx]at p⊢;clear h d hx;go_enter func127,ntmps127;go_wp2_with fail;go_ret;exact⟨rfl,rfl⟩
 have e:l.getD i 0=0:=by rw[List.getD_eq_getElem?_getD,List.getElem?_eq_none (by rw[h.len];omega)];rfl
 rw[e];clear h e;have h2:(n:Int)≤(i:Int):=by omega
 go_enter func127,ntmps127;go_wp2_with fail;go_ret;exact⟨rfl,rfl⟩
def HTm (l:List Nat)(a:Option Addr)(n c:Nat)(v:Value):Prop:=∃k:Nat,k≤n∧v= .slice a k c∧Nh.gV (l.take k)=Nh.gV l
theorem wI {l:List Nat}{k:Nat}(h:k<l.length):l.take (k+1)=l.take k++[l.getD k 0]:=kT h
theorem dL {w:World}{l:List Nat}{a:Option Addr}{n c:Nat}(h:HAt w l a n c):
  Calls prog 128 #[.slice a n c] w fun e w'=>e= .returned (.slice a (Nh.gV l).length c)∧w=w':=by
 have H:=hid h;have hc:=h.le;have hm:=h.cap;clear h;go_enter func128,ntmps128;go_wp2_with fail;go_loop [0] (fun v=>HTm l a n c v) (fun v=>match v with | .slice _ k _=>k | _=>0)
 case atStart=>exact⟨n,Nat.le_refl _,rfl,by rw[List.take_of_length_le (by rw[H.out.len];exact Nat.le_refl _)]⟩
 obtain⟨k,hk,rfl,ht⟩:=hrel;have HT:=hid ht;clear ht;by_cases h0:k=0
 ·have e0:Hid ((Nh.gV l).length=0):=by show _=_;rw[←HT.out,h0];have:Nh.gV []=[]:=Nh.aA;simp[this]
  subst h0;go_wp2_with fail;go_ret;exact⟨by rw[e0.out];rfl,rfl⟩
 obtain⟨m,rfl⟩:∃m,k=m+1:=⟨k-1,by omega⟩;have hml:m<l.length:=by rw[H.out.len];omega
 obtain⟨b,o,rfl,d⟩:=H.out.at_ (by intro e;rw[e]at hml;simp at hml);have p1:=d m hml;clear d;have TL:=hid (wI hml);obtain⟨x,hx⟩:∃x,l.getD m 0=x:=⟨_,rfl⟩;rw[hx]at p1 TL;have XL:x<65536:=by rw[←hx];exact Nh.ak H.out.lm m
 clear hx;by_cases hz:x=0
 ·subst hz;have T2:Hid (Nh.gV (l.take m)=Nh.gV l):=by show _=_;rw[←HT.out,TL.out,Nh.kH]
  go_wp2_with fail;go_round
  case rel=>exact⟨m,by omega,rfl,T2.out⟩
  simp
 have hb:((x:Int)==0)=false:=by simp;omega
 have e0:Hid ((Nh.gV l).length=m+1):=by
  show _=_;rw[←HT.out,TL.out,Nh.yU]
  ·simp[List.length_take];omega
  ·intro y hy;rcases List.mem_append.1 hy with q | q
   ·exact H.out.lm y (List.mem_of_mem_take q)
   simp at q;omega
  right;simp;exact hz
 go_wp2_with fail;go_ret;exact⟨by rw[e0.out];rfl,rfl⟩
def HcL (la lb:List Nat)(n:Nat)(i:Value):Prop:=∃k:Nat,k≤n∧i= .int .i64 ((k:Int)-1)∧∀j,k≤j→la.getD j 0=lb.getD j 0
theorem Qd {w:World}{la lb:List Nat}{a b:Option Addr}{n c m d:Nat}(ha:HAt w la a n c)(hb:HAt w lb b m d):
  Calls prog 85 #[.slice a n c,.slice b m d] w fun e w'=>e= .returned (.int .i64 (bU (Nh.vl la) (Nh.vl lb)))∧w=w':=by
 have A:=hid ha;have B:=hid hb;have h1:=ha.cap;have h2:=ha.le;have h3:=hb.cap;have h4:=hb.le;have beyond:Hid (∀j,max n m≤j→la.getD j 0=lb.getD j 0):=fun j hj=>by rw[List.getD_eq_getElem?_getD,List.getElem?_eq_none (by rw[A.out.len];omega),List.getD_eq_getElem?_getD,List.getElem?_eq_none (by rw[B.out.len];omega)]
 clear ha hb;by_cases hnm:n<m
 ·have ab8:(n:Int)<(m:Int):=by omega
  have mxe:max (n:Int) (m:Int)=(m:Int):=by omega
  go_enter func85,ntmps85;go_wp2_with fail;go_loop [5] (fun i=>HcL la lb m i) (fun i=>(intOf i+1).toNat)
  case atStart=>exact⟨m,Nat.le_refl _,rfl,fun j hj=>beyond.out j (by omega)⟩
  obtain⟨k,hk,rfl,hd⟩:=hrel;have HD:=hid hd;clear hd;by_cases h0:k=0
  ·subst h0;have EQ:Hid (bU (Nh.vl la) (Nh.vl lb)=0):=by show _=_;have:=Nh.EX (a:=la) (b:=lb) fun j=>HD.out j (Nat.zero_le _);unfold bU;rw[if_neg (by omega),if_neg (by omega)]
   go_wp2_with fail;go_ret;exact⟨by rw[EQ.out];rfl,rfl⟩
  obtain⟨q,rfl⟩:∃q,k=q+1:=⟨k-1,by omega⟩;have e1:((q+1:Nat):Int)-1=(q:Int):=by omega
  rw[e1];clear e1;obtain⟨x,hx⟩:∃x,la.getD q 0=x:=⟨_,rfl⟩;obtain⟨y,hy⟩:∃y,lb.getD q 0=y:=⟨_,rfl⟩;have CA:=bC A.out q (by omega);have CB:=bC B.out q (by omega);rw[hx]at CA;rw[hy]at CB;have CA:=hid CA;have CB:=hid CB;have HX:=hid hx;have HY:=hid hy;clear hx hy;rcases Nat.lt_trichotomy x y with c1 | c1 | c1
  ·have EQ:Hid (bU (Nh.vl la) (Nh.vl lb)= -1):=by show _=_;have:=Nh.uy A.out.lm (k:=q) (fun j hj=>HD.out j (by omega)) (by rw[HX.out,HY.out];exact c1);unfold bU;rw[if_pos this]
   have l1:(x:Int)<(y:Int):=by omega
   go_wp2_with fail;refine CA.out.mono ?_;rintro e w' ⟨rfl,rfl⟩;go_wp2_with fail;refine CB.out.mono ?_;rintro e w' ⟨rfl,rfl⟩;go_wp2_with fail;go_ret;exact⟨by rw[EQ.out];rfl,rfl⟩
  ·have D2:Hid (∀j,q≤j→la.getD j 0=lb.getD j 0):=fun j hj=>by
    by_cases e:j=q
    ·rw[e,HX.out,HY.out,c1]
    exact HD.out j (by omega)
   subst c1;go_wp2_with fail;refine CA.out.mono ?_;rintro e w' ⟨rfl,rfl⟩;go_wp2_with fail;refine CB.out.mono ?_;rintro e w' ⟨rfl,rfl⟩;go_wp2_with fail;go_round
   case rel=>exact⟨q,by omega,rfl,D2.out⟩
   simp[intOf]
  have EQ:Hid (bU (Nh.vl la) (Nh.vl lb)=1):=by show _=_;have:=Nh.uy B.out.lm (k:=q) (fun j hj=>(HD.out j (by omega)).symm) (by rw[HX.out,HY.out];exact c1);unfold bU;rw[if_neg (by omega),if_pos this]
  have l1:(y:Int)<(x:Int):=by omega
  go_wp2_with fail;refine CA.out.mono ?_;rintro e w' ⟨rfl,rfl⟩;go_wp2_with fail;refine CB.out.mono ?_;rintro e w' ⟨rfl,rfl⟩;go_wp2_with fail;go_ret;exact⟨by rw[EQ.out];rfl,rfl⟩
 have ab8:(m:Int)≤(n:Int):=by omega
 have mxe:max (n:Int) (m:Int)=(n:Int):=by omega
 go_enter func85,ntmps85;go_wp2_with fail;go_loop [5] (fun i=>HcL la lb n i) (fun i=>(intOf i+1).toNat)
 case atStart=>exact⟨n,Nat.le_refl _,rfl,fun j hj=>beyond.out j (by omega)⟩
 obtain⟨k,hk,rfl,hd⟩:=hrel;have HD:=hid hd;clear hd;by_cases h0:k=0
 ·subst h0;have EQ:Hid (bU (Nh.vl la) (Nh.vl lb)=0):=by show _=_;have:=Nh.EX (a:=la) (b:=lb) fun j=>HD.out j (Nat.zero_le _);unfold bU;rw[if_neg (by omega),if_neg (by omega)]
  go_wp2_with fail;go_ret;exact⟨by rw[EQ.out];rfl,rfl⟩
 obtain⟨q,rfl⟩:∃q,k=q+1:=⟨k-1,by omega⟩;have e1:((q+1:Nat):Int)-1=(q:Int):=by omega
 rw[e1];clear e1;obtain⟨x,hx⟩:∃x,la.getD q 0=x:=⟨_,rfl⟩;obtain⟨y,hy⟩:∃y,lb.getD q 0=y:=⟨_,rfl⟩;have CA:=bC A.out q (by omega);have CB:=bC B.out q (by omega);rw[hx]at CA;rw[hy]at CB;have CA:=hid CA;have CB:=hid CB;have HX:=hid hx;have HY:=hid hy;clear hx hy;rcases Nat.lt_trichotomy x y with c1 | c1 | c1
 ·have EQ:Hid (bU (Nh.vl la) (Nh.vl lb)= -1):=by show _=_;have:=Nh.uy A.out.lm (k:=q) (fun j hj=>HD.out j (by omega)) (by rw[HX.out,HY.out];exact c1);unfold bU;rw[if_pos this]
  have l1:(x:Int)<(y:Int):=by omega
  go_wp2_with fail;refine CA.out.mono ?_;rintro e w' ⟨rfl,rfl⟩;go_wp2_with fail;refine CB.out.mono ?_;rintro e w' ⟨rfl,rfl⟩;go_wp2_with fail;go_ret;exact⟨by rw[EQ.out];rfl,rfl⟩
 ·have D2:Hid (∀j,q≤j→la.getD j 0=lb.getD j 0):=fun j hj=>by
   by_cases e:j=q
   ·rw[e,HX.out,HY.out,c1]
   exact HD.out j (by omega)
  subst c1;go_wp2_with fail;refine CA.out.mono ?_;rintro e w' ⟨rfl,rfl⟩;go_wp2_with fail;refine CB.out.mono ?_;rintro e w' ⟨rfl,rfl⟩;go_wp2_with fail;go_round
  case rel=>exact⟨q,by omega,rfl,D2.out⟩
  simp[intOf]
 have EQ:Hid (bU (Nh.vl la) (Nh.vl lb)=1):=by show _=_;have:=Nh.uy B.out.lm (k:=q) (fun j hj=>(HD.out j (by omega)).symm) (by rw[HX.out,HY.out];exact c1);unfold bU;rw[if_neg (by omega),if_pos this]
 have l1:(y:Int)<(x:Int):=by omega
 go_wp2_with fail;refine CA.out.mono ?_;rintro e w' ⟨rfl,rfl⟩;go_wp2_with fail;refine CB.out.mono ?_;rintro e w' ⟨rfl,rfl⟩;go_wp2_with fail;go_ret;exact⟨by rw[EQ.out];rfl,rfl⟩
end Go.Proofs.YtijdglogadnbcaaGreat
