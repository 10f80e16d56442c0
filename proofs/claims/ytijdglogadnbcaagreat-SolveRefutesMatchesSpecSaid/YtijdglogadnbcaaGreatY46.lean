/- combined. -/
import Derived.Test.YtijdglogadnbcaaGreatY45
set_option linter.unusedVariables false
set_option linter.unusedSimpArgs false
set_option maxRecDepth 100000
set_option maxHeartbeats 40000000
namespace Go.Proofs.YtijdglogadnbcaaGreat
open Go.Proofs.Tryz
open Go.RowKit Nt Bl
theorem oL {w:World}{b e sz n:Nat}{v:Value}{xs:List Value}(h:w.ownsRow b e sz v n xs):∃a c,v= .slice a n c∧n≤c∧c≤9223372036854775807:=by
 rcases h.2 with⟨rfl,h0⟩ | ⟨g,cap,cur,rfl,hb,hg,hc,hm,_⟩
 ·subst h0;exact⟨none,0,rfl,Nat.le_refl _,by omega⟩
 exact⟨_,cap,rfl,hc,by unfold maxLen at hm;omega⟩
structure Cl where
 l:List (Nat×Rat)
 a:Option Addr
 c:Nat
structure Cl.at_ (C:Cl)(w:World):Prop where
 q:iE w C.l C.a
 le:C.l.length≤C.c
 cap:C.c≤9223372036854775807
def stk (C:Nat→Cl)(m:Nat→Rat):Nat→St
 | 0=>⟨fun _=>none,[]⟩
 | k+1=>qV (stk C m k) (C k).l (m k) (C k).l.length
theorem uT (C:Nat→Cl)(m:Nat→Rat):∀k,(stk C m k).ok
 | 0=>⟨fun k=>by simp[stk],List.nodup_nil⟩
 | k+1=>(uT C m k).qV _ _ _
theorem alloc_at (w:World)(o:Obj)(i:Nat)(h:i=w.heap.size):(w.alloc o).heap[i]? =some o:=by subst h;exact heap_alloc_new w o
theorem abN (w:World)(a b c d e f:Obj):((((((w.alloc a).alloc b).alloc c).alloc d).alloc e).alloc f).heap[w.heap.size]? =some a∧((((((w.alloc a).alloc b).alloc c).alloc d).alloc e).alloc f).heap[w.heap.size+1]? =some b∧((((((w.alloc a).alloc b).alloc c).alloc d).alloc e).alloc f).heap[w.heap.size+1+1]? =some c∧
  ((((((w.alloc a).alloc b).alloc c).alloc d).alloc e).alloc f).heap[w.heap.size+1+1+1]? =some d∧((((((w.alloc a).alloc b).alloc c).alloc d).alloc e).alloc f).heap[w.heap.size+1+1+1+1]? =some e∧((((((w.alloc a).alloc b).alloc c).alloc d).alloc e).alloc f).heap[w.heap.size+1+1+1+1+1]? =some f∧
  Below w.heap.size w ((((((w.alloc a).alloc b).alloc c).alloc d).alloc e).alloc f):=by refine⟨by rw[Below.heap_alloc _ _ _ (by simp<;>omega),Below.heap_alloc _ _ _ (by simp<;>omega),Below.heap_alloc _ _ _ (by simp<;>omega),Below.heap_alloc _ _ _ (by simp<;>omega),Below.heap_alloc _ _ _ (by simp<;>omega)];exact alloc_at _ _ _ (by simp),by rw[Below.heap_alloc _ _ _ (by simp<;>omega),Below.heap_alloc _ _ _ (by simp<;>omega),Below.heap_alloc _ _ _ (by simp<;>omega),Below.heap_alloc _ _ _ (by simp<;>omega)];exact alloc_at _ _ _ (by simp),by rw[Below.heap_alloc _ _ _ (by simp<;>omega),Below.heap_alloc _ _ _ (by simp<;>omega),Below.heap_alloc _ _ _ (by simp<;>omega)];exact alloc_at _ _ _ (by simp),by rw[Below.heap_alloc _ _ _ (by simp<;>omega),Below.heap_alloc _ _ _ (by simp<;>omega)];exact alloc_at _ _ _ (by simp),by rw[Below.heap_alloc _ _ _ (by simp<;>omega)];exact alloc_at _ _ _ (by simp),by exact alloc_at _ _ _ (by simp),?_⟩;exact(((((ah _ _).alloc (by simp) _).alloc (by simp;omega) _).alloc (by simp;omega) _).alloc (by simp;omega) _).alloc (by simp;omega) _
def AP (C:Nat→Cl)(B M:Nat→Nw)(r:Nat→Int)(k:Nat):List Value:=[.slice (C k).a (C k).l.length (C k).c,.int .i64 (r k),.bool (B k).s,.slice (B k).a (B k).n (B k).c,.slice (B k).b (B k).m (B k).d,.bool (M k).s,.slice (M k).a (M k).n (M k).c,.slice (M k).b (M k).m (M k).d]
def Wv (W1:World)(mb:Nat)(wr:World):Prop:=∀c,c<W1.heap.size→c≠mb→wr.heap[c]? =W1.heap[c]?
def Es (l:List Nat):List Value:=l.map fun(k:Nat)=>Value.int .i64 (k:Int)
structure Ae (w W1:World)(mb:Nat)(S:St)(v:Value)(wr:World):Prop where
 ex:∃l,sK wr mb l∧Ep wr l S.s
 ow:Ow wr W1.heap.size 3 1 v S.v.length (Es S.v)
 be:Below w.heap.size w wr
 kp:Wv W1 mb wr
 sz:W1.heap.size≤wr.heap.size
def CbL (w W1:World)(mb:Nat)(C:Nat→Cl)(m:Nat→Rat)(v12 v31:Value)(wr:World):Prop:=∃k:Nat,k≤2∧v31= .int .i64 (k:Int)∧Ae w W1 mb (stk C m k) v12 wr
def CbJ (w W1:World)(mb:Nat)(C:Nat→Cl)(B M:Nat→Nw)(r:Nat→Int)(m:Nat→Rat)(k g:Nat)(v12 v39:Value)(wr:World):Prop:=∃j:Nat,j≤(C k).l.length∧v39= .int .i64 (j:Int)∧Ae w W1 mb (qV (stk C m k) (C k).l (m k) j) v12 wr∧wr.heap[g]? =some (.cells (AP C B M r k).toArray 185 (0,0))
theorem Ow.stay {w w':World}{base e size n:Nat}{v:Value}{xs:List Value}(h:Ow w base e size v n xs)(g:w.grownBy w' v.ownBlock){k ty:Nat}(hb:dh w k ty)(ne:ty≠e):w'.heap[k]? =w.heap[k]?:=
 g.block k hb.lt fun q=>(h.blk q.symm).ne hb (Ne.symm ne) rfl
theorem Ae.GH {w W1:World}{mb:Nat}{S:St}{v:Value}{wr:World}(h:Ae w W1 mb S v wr){g ty:Nat}(hb:dh wr g ty):mb≠g:=by obtain⟨l,a,_⟩:=h.ex;obtain⟨arr,e⟩:=hb;exact(a.ne e).symm
theorem Ae.gy {w W1:World}{mb g:Nat}{S:St}{v:Value}{wr:World}{M0:Nw}(h:Ae w W1 mb S v wr)(X:NQ wr g M0)(hg:W1.heap.size≤g)(hw:w.heap.size≤g)(M:Nw):Ae w W1 mb S v (((wr.setCell ⟨g,0,none⟩ (.bool M.s)).setCell ⟨g,1,none⟩ (.slice M.a M.n M.c)).setCell ⟨g,2,none⟩ (.slice M.b M.m M.d)):=by
 obtain⟨l,a,b⟩:=h.ex;have BX:dh wr g 25:=⟨_,X⟩;have ot:=ay wr g (.bool M.s) (.slice M.a M.n M.c) (.slice M.b M.m M.d);have gr:wr.grownBy (((wr.setCell ⟨g,0,none⟩ (.bool M.s)).setCell ⟨g,1,none⟩ (.slice M.a M.n M.c)).setCell ⟨g,2,none⟩ (.slice M.b M.m M.d)) (some g):=⟨rfl,rfl,rfl,by simp[World.setCell],fun k _ hne=>ot k fun e=>hne (by rw[e])⟩;refine⟨⟨l,a.of_block (ot mb (h.GH BX)),b.limb (X.oH M)⟩,h.ow.kept gr ?_,aG h.be g hw _ _ _,fun c hc hne=>(ot c (by omega)).trans (h.kp c hc hne),by simpa[World.setCell]using h.sz⟩
 cases q:v.ownBlock with
 | none=>exact Or.inl rfl
 | some c=>exact Or.inr fun e=>by injection e with e;subst e;exact(h.ow.blk q).ne BX (by decide) rfl
theorem Ae.push {w W1:World}{mb:Nat}{S:St}{v v':Value}{wr w':World}{x:Nat}(h:Ae w W1 mb S v wr)(hO:Ow w' W1.heap.size 3 1 v' (S.v.length+1) (Es S.v++[.int .i64 (x:Int)]))(hG:wr.grownBy w' v.ownBlock)(hw:w.heap.size≤W1.heap.size):Ae w W1 mb ⟨S.s,S.v++[x]⟩ v' w':=by
 obtain⟨l,a,b⟩:=h.ex;have ne:∀c,v.ownBlock=some c→W1.heap.size≤c:=fun c q=>(h.ow.own.lt c q).1;refine⟨⟨l,a.of_block (hG.block mb a.lt fun q=>?_),b.limb (h.ow.limb hG)⟩,?_,⟨hG.os.trans h.be.os,hG.tape.trans h.be.tape,hG.output.trans h.be.output,Nat.le_trans h.be.size hG.size,fun c hc=>(hG.block c (Nat.lt_of_lt_of_le hc h.be.size) fun q=>?_).trans (h.be.block c hc)⟩,fun c hc hne=>(hG.block c (Nat.lt_of_lt_of_le hc h.sz) fun q=>?_).trans (h.kp c hc hne),Nat.le_trans h.sz hG.size⟩
 ·exact h.GH (h.ow.blk q.symm) rfl
 ·rw[List.length_append,List.length_singleton];have:Es (S.v++[x])=Es S.v++[.int .i64 (x:Int)]:=by simp[Es]
  show Ow w' _ 3 1 v' _ (Es (S.v++[x]));rw[this];exact hO
 ·have:=ne c q.symm;omega
 have:=ne c q.symm;omega
theorem Ae.store {w W1:World}{mb:Nat}{S S':St}{v:Value}{wr:World}{l:List (Int×Value)}{x:Nat}{q:Rat}{N:Nw}{ob:Obj}(h:Ae w W1 mb S v wr)(hl:sK wr mb l)(hn:Ep wr l S.s)(r:RA wr q N)(hM:sK (ChangeMaps.setBlock wr mb ob) mb (Wu l x (nv N)))(hw:w.heap.size≤mb)(e1:S'.s=fun k=>if k=x then some q else S.s k)(e2:S'.v=S.v):Ae w W1 mb S' v (ChangeMaps.setBlock wr mb ob):=by
 have lb:=hl.limb ob;have ne:v.ownBlock=none∨v.ownBlock≠some mb:=by
  cases q:v.ownBlock with
  | none=>exact Or.inl rfl
  | some c=>exact Or.inr fun e=>by injection e with e;subst e;exact h.GH (h.ow.blk q) rfl
 exact⟨⟨_,hM,by rw[e1];exact(hn.limb lb).set x (r.limb lb)⟩,by rw[e2];exact h.ow.kept (uQ wr mb ob) ne,uS h.be hw ob,fun c hc hne=>(gZ hne).trans (h.kp c hc hne),by simpa[ChangeMaps.setBlock]using h.sz⟩
def abO (w W1:World)(mb:Nat)(S S':St)(x g14 g16 g17:Nat)(A14 A16:Array Value)(v12:Value)(W:World):Prop:=
 ∃N,NQ W g17 N∧RA W ((S.s x).getD 0) N∧Ae w W1 mb ⟨S.s,S'.v⟩ v12 W∧W.heap[g14]? =some (.cells A14 185 (0,0))∧W.heap[g16]? =some (.cells A16 72 (0,0))
theorem Ae.below {w W1:World}{mb:Nat}{S:St}{v:Value}{wr w':World}(h:Ae w W1 mb S v wr)(hb:Below wr.heap.size wr w'):Ae w W1 mb S v w':=by obtain⟨l,a,b⟩:=h.ex;exact⟨⟨l,a.below hb,b.limb (aQ.of_below hb)⟩,h.ow.below hb,aB h.be hb,fun c hc hne=>(hb.block c (Nat.lt_of_lt_of_le hc h.sz)).trans (h.kp c hc hne),Nat.le_trans h.sz hb.size⟩
def outT (s:Nat→Option Rat)(z:List Nat):Nat→List (Nat×Rat)
 | 0=>[]
 | i+1=>if(s (z.getD i 0)).getD 0=0 then outT s z i else outT s z i++[(z.getD i 0,(s (z.getD i 0)).getD 0)]
theorem getD_mem {z:List Nat}{i:Nat}(h:i<z.length):z.getD i 0∈z:=by rw[List.getD_eq_getElem?_getD,List.getElem?_eq_getElem h];exact List.getElem_mem h
theorem uU {s:Nat→Option Rat}{z:List Nat}(hz:∀k,k∈z→s k≠none):∀i,i≤z.length→∀p,p∈outT s z i→p.2≠0∧s p.1=some p.2∧∃j,j<i∧p.1=z.getD j 0
 | 0,_,p,h=>by simp[outT]at h
 | i+1,hi,p,h=>by
  have ih:=uU hz i (by omega) p;unfold outT at h;split at h
  ·obtain⟨a,b,j,c,d⟩:=ih h;exact⟨a,b,j,by omega,d⟩
  rename_i h0;rw[List.mem_append,List.mem_singleton]at h;rcases h with h | rfl
  ·obtain⟨a,b,j,c,d⟩:=ih h;exact⟨a,b,j,by omega,d⟩
  refine⟨h0,?_,i,by omega,rfl⟩;have:=hz _ (getD_mem (show i<z.length by omega))
  cases e:s (z.getD i 0)with
  | none=>exact absurd e this
  | some q=>rfl
theorem AQ {s:Nat→Option Rat}{z:List Nat}:∀i j q,j<i→s (z.getD j 0)=some q→q≠0→(z.getD j 0,q)∈outT s z i
 | 0,_,_,h,_,_=>absurd h (Nat.not_lt_zero _)
 | i+1,j,q,h,e,h0=>by
  unfold outT;by_cases c:j=i
  ·subst c;rw[e,if_neg (by simpa using h0)];simp
  have:=AQ i j q (by omega) e h0;split
  ·exact this
  exact List.mem_append_left _ this
theorem GK {s:Nat→Option Rat}{z:List Nat}(hz:∀k,k∈z→s k≠none)(nd:z.Nodup):∀i,i≤z.length→((outT s z i).map (·.1)).Nodup
 | 0,_=>List.nodup_nil
 | i+1,hi=>by
  have ih:=GK hz nd i (by omega);unfold outT;split
  ·exact ih
  rw[List.map_append,List.nodup_append];refine⟨ih,by simp,fun a ha b hb=>?_⟩;simp only[List.map_cons,List.map_nil,List.mem_singleton]at hb;subst hb;rintro rfl;obtain⟨p,hp,e⟩:=List.mem_map.1 ha;obtain⟨_,_,j,hj,ej⟩:=uU hz i (by omega) p hp;rw[ej]at e;rw[List.getD_eq_getElem?_getD,List.getD_eq_getElem?_getD,List.getElem?_eq_getElem (show j<z.length by omega),List.getElem?_eq_getElem (show i<z.length by omega)]at e;have:=(List.getElem_inj (h₀:=(by omega:j<z.length)) (h₁:=(by omega:i<z.length)) nd).1 e;omega
theorem AU (s:Nat→Option Rat)(z:List Nat):∀i,(outT s z i).length≤i
 | 0=>Nat.le_refl _
 | i+1=>by
  have:=AU s z i;unfold outT;split
  ·omega
  rw[List.length_append,List.length_singleton];omega
theorem TP (l:List Nat):∃z:List Nat,((l.map fun(k:Nat)=>(k:Int)).mergeSort fun x y=>decide (x≤y))=z.map (fun(k:Nat)=>(k:Int))∧z.Perm l:=by
 have p:=List.mergeSort_perm (l.map fun(k:Nat)=>(k:Int)) (fun x y=>decide (x≤y));refine⟨((l.map fun(k:Nat)=>(k:Int)).mergeSort fun x y=>decide (x≤y)).map Int.toNat,?_,?_⟩
 ·rw[List.map_map];symm;refine(List.map_congr_left fun x hx=>?_).trans (List.map_id _);obtain⟨k,_,rfl⟩:=List.mem_map.1 (p.mem_iff.1 hx);simp
 have:=p.map Int.toNat;rw[List.map_map]at this;refine this.trans ?_;have e:(Int.toNat∘fun(k:Nat)=>(k:Int))=id:=by funext k;simp
 rw[e,List.map_id]
def CfO (W9 wr:World)(v:Value)(co:List (Nat×Rat)):Prop:=∃xs,wr.ownsRow W9.heap.size 72 4 v co.length xs∧∀i,i<co.length→∃N:Nw,(∀j,j<4→xs[i*4+j]? =[Value.int .i64 ((cq co i).1:Int),.bool N.s,.slice N.a N.n N.c,.slice N.b N.m N.d][j]?)∧RA W9 (cq co i).2 N
theorem Me {W9 wr:World}{g:Nat}{r:Int}{a b c:Option Addr}{b0:Bool}{n1 c1 n2 c2 n3 c3:Nat}(X:iH W9 g #[.slice a n1 c1,.int .i64 r,.bool b0,.slice b n2 c2,.slice c n3 c3])(h:Wv W9 g wr):aQ W9 wr:=fun q o x e=>by
 have lt:q<W9.heap.size:=World.block_lt_of_cell? _ _ e;have ne:q≠g:=by rintro rfl;rw[cell_of_row W9 q o _ _ _ X]at e;rcases o with _ | _ | _ | _ | _ | o<;>simp at e
 rw[World.cell?_of_block (a:=⟨q,o,none⟩) (h q lt ne)];exact e
def CqL (w W9:World)(g19:Nat)(S:St)(z:List Nat)(rel:Int)(N:Nw)(v85:Value)(wr:World):Prop:=
 ∃(i:Nat) (v:Value),i≤z.length∧v85= .int .i64 (i:Int)∧iH wr g19 #[v,.int .i64 rel,.bool N.s,.slice N.a N.n N.c,.slice N.b N.m N.d]∧CfO W9 wr v (outT S.s z i)∧Wv W9 g19 wr∧Below w.heap.size w wr∧W9.heap.size≤wr.heap.size
theorem xK {w:World}{b e sz n i:Nat}{v u:Value}{xs:List Value}(h:w.ownsRow b e sz v n xs)(hi:xs[i]? =some u):∃g c,v= .slice (some ⟨g,0,none⟩) n c∧dh w g e∧∀j x,xs[j]? =some x→w.cell? ⟨g,j,none⟩=some x:=by
 rcases h.2 with⟨rfl,h0⟩ | ⟨g,cap,cur,rfl,hb,hg,hc,hm,_,ht⟩
 ·have:=h.1;subst h0;have:xs=[]:=List.length_eq_zero_iff.1 (by omega);subst this;simp at hi
 refine⟨g,cap,rfl,⟨_,hg⟩,fun j x hx=>?_⟩;have:=h.cells (g:=g) rfl j _ hx;rw[Addr.add_lit]at this;rw[Nat.zero_add]at this;exact this
theorem pU {w:World}{b e sz n g:Nat}{v:Value}{xs:List Value}(h:w.ownsRow b e sz v n xs)(hg:v.ownBlock=some g):dh w g e:=by
 rcases h.2 with⟨rfl,_⟩ | ⟨g',cap,cur,rfl,hb,hgg,_⟩
 ·simp[Value.ownBlock]at hg
 simp[Value.ownBlock]at hg;subst hg;exact⟨_,hgg⟩
theorem Yj {l:List (Nat×Rat)}{p:Nat×Rat}{i:Nat}(h:i<l.length):cq (l++[p]) i=cq l i:=by unfold cq;rw[List.getD_eq_getElem?_getD,List.getD_eq_getElem?_getD,List.getElem?_append_left h]
theorem TQ (l:List (Nat×Rat))(p:Nat×Rat):cq (l++[p]) l.length=p:=by unfold cq;rw[List.getD_eq_getElem?_getD,List.getElem?_append_right (Nat.le_refl _)];simp
theorem CfO.push {W9 wr w':World}{v v':Value}{co:List (Nat×Rat)}{x:Nat}{q:Rat}{N:Nw}{xs:List Value}(o:wr.ownsRow W9.heap.size 72 4 v co.length xs)(r:∀i,i<co.length→∃N:Nw,(∀j,j<4→xs[i*4+j]? =[Value.int .i64 ((cq co i).1:Int),.bool N.s,.slice N.a N.n N.c,.slice N.b N.m N.d][j]?)∧RA W9 (cq co i).2 N) (hN:RA W9 q N)
  (o':w'.ownsRow W9.heap.size 72 4 v' (co.length+1) (xs++[.int .i64 (x:Int),.bool N.s,.slice N.a N.n N.c,.slice N.b N.m N.d])):CfO W9 w' v' (co++[(x,q)]):=by
 have hl:=o.1;refine⟨_,by rw[List.length_append,List.length_singleton];exact o',fun i hi=>?_⟩;rw[List.length_append,List.length_singleton]at hi;by_cases e:i<co.length
 ·obtain⟨N',a,b⟩:=r i e;rw[Yj e];refine⟨N',fun j hj=>?_,b⟩;rw[List.getElem?_append_left (by rw[hl];omega)];exact a j hj
 obtain rfl:i=co.length:=by omega
 rw[TQ];refine⟨N,fun j hj=>?_,hN⟩;rw[List.getElem?_append_right (by rw[hl];omega),hl,Nat.add_sub_cancel_left]
theorem CfO.qf {W9 wr:World}{v:Value}{co:List (Nat×Rat)}(h:CfO W9 wr v co)(hl:aQ W9 wr):∃a c,v= .slice a co.length c∧(⟨co,a,c⟩:Cl).at_ wr∧∀ad,a=some ad→dh wr ad.block 72∧W9.heap.size≤ad.block:=by
 obtain⟨xs,o,r⟩:=h;obtain⟨a,c,rfl,h1,h2⟩:=oL o;refine⟨a,c,rfl,⟨fun hne=>?_,h1,h2⟩,fun ad e=>⟨pU o (by rw[e];rfl),(o.lt ad.block (by rw[e];rfl)).1⟩⟩;have p:0<co.length:=List.length_pos_iff.2 hne;obtain⟨N,q,_⟩:=r 0 p;obtain⟨g,c',e,_,hr⟩:=xK (i:=0) o (q 0 (by omega));injection e with e1 e2 e3
 subst e1;refine⟨g,0,rfl,fun i hi=>?_⟩;obtain⟨N,q,x⟩:=r i hi;refine⟨N,?_,?_,?_,?_,x.limb hl⟩
 ·rw[Nat.zero_add];exact hr _ _ (q 0 (by omega))
 ·rw[Nat.zero_add];exact hr _ _ (q 1 (by omega))
 ·rw[Nat.zero_add];exact hr _ _ (q 2 (by omega))
 rw[Nat.zero_add];exact hr _ _ (q 3 (by omega))
theorem iH.aah {w:World}{g:Nat}{a b c d e:Value}(h:iH w g #[a,b,c,d,e])(p:Value):iH (w.setCell ⟨g,0,none⟩ p) g #[p,b,c,d,e]:=by unfold iH at h⊢;simp[World.setCell,Array.getElem?_modify,h]
theorem CqL.next {w W9 wr:World}{g19 i x:Nat}{S:St}{z:List Nat}{rel:Int}{N Nq:Nw}{v v':Value}{q:Rat}{xs:List Value}{w5:World}(hx:z.getD i 0=x)(hi:i<z.length)(e:S.s x=some q)(h0:q≠0)(X:iH wr g19 #[v,.int .i64 rel,.bool N.s,.slice N.a N.n N.c,.slice N.b N.m N.d])
  (o:wr.ownsRow W9.heap.size 72 4 v (outT S.s z i).length xs)(r:∀j,j<(outT S.s z i).length→∃N:Nw,(∀k,k<4→xs[j*4+k]? =[Value.int .i64 ((cq (outT S.s z i) j).1:Int),.bool N.s,.slice N.a N.n N.c,.slice N.b N.m N.d][k]?)∧RA W9 (cq (outT S.s z i) j).2 N) (hN:RA W9 q Nq)
  (hK:Wv W9 g19 wr) (hB:Below w.heap.size w wr) (hs:W9.heap.size≤wr.heap.size) (hw:w.heap.size≤W9.heap.size) (hg:w.heap.size≤g19) (o':w5.ownsRow W9.heap.size 72 4 v' ((outT S.s z i).length+1) (xs++[.int .i64 (x:Int),.bool Nq.s,.slice Nq.a Nq.n Nq.c,.slice Nq.b Nq.m Nq.d])) (hG:wr.grownBy w5 v.ownBlock) {v85:Value} (h85:v85= .int .i64 ((i+1:Nat):Int)):
  CqL w W9 g19 S z rel N v85 (w5.setCell ⟨g19,0,none⟩ v'):=by
 have lb:∀c,v.ownBlock=some c→W9.heap.size≤c:=fun c q=>(o.lt c q).1;have X27:dh wr g19 27:=⟨_,X⟩;have X5:iH w5 g19 #[v,.int .i64 rel,.bool N.s,.slice N.a N.n N.c,.slice N.b N.m N.d]:=(hG.block g19 X27.lt fun q=>(pU o q.symm).ne X27 (by decide) rfl).trans X;have os:∀c,c≠g19→(w5.setCell ⟨g19,0,none⟩ v').heap[c]? =w5.heap[c]?:=fun c hc=>heap_setCell_other _ ⟨g19,0,none⟩ _ _ hc;have en:outT S.s z (i+1)=outT S.s z i++[(x,q)]:=by show(if _ then _ else _)=_;rw[hx,e,if_neg (by simpa using h0)];rfl
 have ne':v'.ownBlock=none∨v'.ownBlock≠some g19:=by
  cases c:v'.ownBlock with
  | none=>exact Or.inl rfl
  | some k=>exact Or.inr fun q=>by injection q with q;subst q;exact(pU o' c).ne ⟨_,X5⟩ (by decide) rfl
 refine⟨i+1,v',hi,h85,X5.aah v',?_,fun c hc hne=>(os c hne).trans ((hG.block c (by omega) fun q=>?_).trans (hK c hc hne)),?_,?_⟩
 ·rw[en];refine CfO.push o r hN (o'.kept (row:=some g19) ⟨rfl,rfl,rfl,by simp[World.setCell],fun k _ hne=>os k fun q=>hne (by rw[q])⟩ ne')
 ·have:=lb c q.symm;omega
 ·exact Below.setCell (p:=⟨g19,0,none⟩) ⟨hG.os.trans hB.os,hG.tape.trans hB.tape,hG.output.trans hB.output,Nat.le_trans hB.size hG.size,fun c hc=>(hG.block c (by have:=hB.size;omega) fun q=>by have:=lb c q.symm;omega).trans (hB.block c hc)⟩ hg _
 simpa[World.setCell]using Nat.le_trans hs hG.size
theorem Cl.at_.keep {C:Cl}{w w':World}(h:C.at_ w)(hk:∀ad,C.a=some ad→w'.heap[ad.block]? =w.heap[ad.block]?) (hl:aQ w w'):C.at_ w':=
 ⟨fun hne=>by obtain⟨g,o,e,k⟩:=h.q hne;have q:=fun j=>aN (hk _ e) j;refine⟨g,o,e,fun i hi=>?_⟩;obtain⟨N,a,b,c,d,x⟩:=k i hi;exact⟨N,(q _).trans a,(q _).trans b,(q _).trans c,(q _).trans d,x.limb hl⟩,h.le,h.cap⟩
def aai (w:World)(S:St)(rel:Int)(bd:Rat)(e:Ending)(w':World):Prop:=
 ∃a c co N,e= .returned (.agg #[.slice a co.length c,.int .i64 rel,.bool N.s,.slice N.a N.n N.c,.slice N.b N.m N.d])∧(⟨co,a,c⟩:Cl).at_ w'∧RA w' bd N∧Below w.heap.size w w'∧(∀p,p∈co→p.2≠0∧S.s p.1=some p.2)∧(∀k q,S.s k=some q→q≠0→(k,q)∈co)∧(co.map (·.1)).Nodup∧∀ad,a=some ad→w.heap.size≤ad.block
theorem TR {w:World}{C:Nat→Cl}{m b:Nat→Rat}{M B:Nat→Nw}{r:Nat→Int}{rel:Int}(hC:∀k,k<2→(C k).at_ w)(hM:∀k,k<2→RA w (m k) (M k))(hB:∀k,k<2→RA w (b k) (B k))
  (hs:∀k j v q,k<2→j≤(C k).l.length→(qV (stk C m k) (C k).l (m k) j).s v=some q→Sz q 1000000)(hp:∀k j,k<2→j<(C k).l.length→Sz (cq (C k).l j).2 1000000)(hm:∀k,k<2→Sz (m k) 1000)(hb:∀k,k<2→Sz (b k) 1000000)
  (hn:∀k j,k<2→j≤(C k).l.length→(qV (stk C m k) (C k).l (m k) j).v.length≤1000)(hv:∀k j,k<2→j<(C k).l.length→(cq (C k).l j).1<1000):
  Calls prog 93 #[.agg #[.slice (C 0).a (C 0).l.length (C 0).c,.int .i64 (r 0),.bool (B 0).s,.slice (B 0).a (B 0).n (B 0).c,.slice (B 0).b (B 0).m (B 0).d],nv (M 0),
   .agg #[.slice (C 1).a (C 1).l.length (C 1).c,.int .i64 (r 1),.bool (B 1).s,.slice (B 1).a (B 1).n (B 1).c,.slice (B 1).b (B 1).m (B 1).d],nv (M 1),.int .i64 rel] w (aai w (stk C m 2) rel (b 0*m 0+b 1*m 1)):=by
 obtain⟨Q,hQ⟩:∃Q:Ending→World→Prop,Q=aai w (stk C m 2) rel (b 0*m 0+b 1*m 1):=⟨_,rfl⟩;rw[←hQ];have HQ:=hid hQ;clear hQ;have SNL:Hid ((stk C m 2).v.length≤1000000):=by have:=hn 1 (C 1).l.length (by omega) (Nat.le_refl _);show(qV (stk C m 1) (C 1).l (m 1) (C 1).l.length).v.length≤_;omega
 unfold nv;have hmm:= @run_makeMap prog;obtain⟨x0,x1,x2,x3,x4,x5,xb⟩:=abN w (.cells #[.slice (C 0).a (C 0).l.length (C 0).c,.int .i64 (r 0),.bool (B 0).s,.slice (B 0).a (B 0).n (B 0).c,.slice (B 0).b (B 0).m (B 0).d] 27) (.cells #[.bool (M 0).s,.slice (M 0).a (M 0).n (M 0).c,.slice (M 0).b (M 0).m (M 0).d] 25)
  (.cells #[.slice (C 1).a (C 1).l.length (C 1).c,.int .i64 (r 1),.bool (B 1).s,.slice (B 1).a (B 1).n (B 1).c,.slice (B 1).b (B 1).m (B 1).d] 27) (.cells #[.bool (M 1).s,.slice (M 1).a (M 1).n (M 1).c,.slice (M 1).b (M 1).m (M 1).d] 25)
  (.cells #[.slice none 0 0,.int .i64 0,.bool false,.slice none 0 0,.slice none 0 0] 27) (.map #[] 0)
 have XB:=hid xb;go_enter func93,ntmps93;go_upto_region 3 with fail
 clear hmm xb;generalize (((((w.alloc (.cells #[.slice (C 0).a (C 0).l.length (C 0).c,.int .i64 (r 0),.bool (B 0).s,.slice (B 0).a (B 0).n (B 0).c,.slice (B 0).b (B 0).m (B 0).d] 27)).alloc (.cells #[.bool (M 0).s,.slice (M 0).a (M 0).n (M 0).c,.slice (M 0).b (M 0).m (M 0).d] 25)).alloc
  (.cells #[.slice (C 1).a (C 1).l.length (C 1).c,.int .i64 (r 1),.bool (B 1).s,.slice (B 1).a (B 1).n (B 1).c,.slice (B 1).b (B 1).m (B 1).d] 27)).alloc (.cells #[.bool (M 1).s,.slice (M 1).a (M 1).n (M 1).c,.slice (M 1).b (M 1).m (M 1).d] 25)).alloc
  (.cells #[.slice none 0 0,.int .i64 0,.bool false,.slice none 0 0,.slice none 0 0] 27)).alloc (.map #[] 0)=W at*
 obtain⟨gA,hgA⟩:∃g,w.heap.size=g:=⟨_,rfl⟩;rw[hgA]at x0 x1 x2 x3 x4 x5⊢;have GA:=hid hgA;obtain⟨gM,hgM⟩:∃g,gA+1=g:=⟨_,rfl⟩;rw[hgM]at x1 x2 x3 x4 x5⊢;obtain⟨gB,hgB⟩:∃g,gM+1=g:=⟨_,rfl⟩;rw[hgB]at x2 x3 x4 x5⊢;obtain⟨gN,hgN⟩:∃g,gB+1=g:=⟨_,rfl⟩;rw[hgN]at x3 x4 x5⊢;obtain⟨gO,hgO⟩:∃g,gN+1=g:=⟨_,rfl⟩;rw[hgO]at x4 x5⊢;obtain⟨mb,hmb⟩:∃g,gO+1=g:=⟨_,rfl⟩;rw[hmb]at x5⊢;have GG:Hid (gA<mb∧gM<mb∧gB<mb∧gN<mb∧gO<mb∧w.heap.size≤gO):=⟨by omega,by omega,by omega,by omega,by omega,by omega⟩;clear hgA hgM hgB hgN hgO hmb;have X0:Hid (iH W gA _):=x0;have X1:Hid (NQ W gM (M 0)):=x1;have X2:Hid (iH W gB _):=x2;have X3:Hid (NQ W gN (M 1)):=x3;have X4:Hid (iH W gO _):=x4;have X5:Hid (sK W mb []):=⟨#[],0,x5,rfl⟩;clear x0 x1 x2 x3 x4 x5;obtain⟨a0,a1,a2,a3,a4,_⟩:=X0.out.reads;obtain⟨b0,b1,b2,b3,b4,_⟩:=X2.out.reads;obtain⟨c0,c1,c2,_⟩:=X1.out.reads;obtain⟨d0,d1,d2,_⟩:=X3.out.reads;go_wp2_with fail;have NB:=ah W (.cells ((AP C B M r 0)++(AP C B M r 1)).toArray 185);have E0:(W.alloc (.cells ((AP C B M r 0)++(AP C B M r 1)).toArray 185)).heap[W.heap.size]? =some (.cells ((AP C B M r 0)++(AP C B M r 1)).toArray 185 (0,0)):=heap_alloc_new _ _;obtain⟨W1,hW1⟩:∃W1,W.alloc (.cells ((AP C B M r 0)++(AP C B M r 1)).toArray 185)=W1:=⟨_,rfl⟩;rw[hW1]at NB E0;rw[show W.alloc (.cells #[.slice (C 0).a (C 0).l.length (C 0).c,.int .i64 (r 0),.bool (B 0).s,.slice (B 0).a (B 0).n (B 0).c,.slice (B 0).b (B 0).m (B 0).d,.bool (M 0).s,.slice (M 0).a (M 0).n (M 0).c,.slice (M 0).b (M 0).m (M 0).d,
  .slice (C 1).a (C 1).l.length (C 1).c,.int .i64 (r 1),.bool (B 1).s,.slice (B 1).a (B 1).n (B 1).c,.slice (B 1).b (B 1).m (B 1).d,.bool (M 1).s,.slice (M 1).a (M 1).n (M 1).c,.slice (M 1).b (M 1).m (M 1).d] 185)=W1 from hW1]
 have GE:Hid (W.heap.size<W1.heap.size∧mb<W.heap.size):=⟨(Array.getElem?_eq_some_iff.1 E0).1,X5.out.lt⟩;obtain⟨ge,hge⟩:∃g,W.heap.size=g:=⟨_,rfl⟩;rw[hge]at E0 GE⊢;have E8:Hid (∀k j,k<2→j<8→∀W':World,Wv W1 mb W'→W'.cell? ⟨ge,k*8+j,none⟩=(AP C B M r k)[j]?):=fun k j hk hj W' hK=>by
  rw[cell_of_row W' ge _ _ _ _ ((hK ge GE.out.1 (by have:=GE.out.2;omega)).trans E0)];rcases k with _ | _ | k
  ·rcases j with _ | _ | _ | _ | _ | _ | _ | _ | j<;>first | rfl | omega
  ·rcases j with _ | _ | _ | _ | _ | _ | _ | _ | j<;>first | rfl | omega
  omega
 have K0:Hid (∀W':World,Wv W1 mb W'→∀c,c<mb→W'.heap[c]? =W.heap[c]?):=fun W' hK c hc=>(hK c (by have:=GE.out;omega) (by omega)).trans (NB.block c (by have:=GE.out;rw[hge];omega));have I0:Hid (Ae w W1 mb (stk C m 0) (.slice none 0 0) W1):=⟨⟨[],X5.out.below NB,Ep.nil _⟩,Ow.nil _ _ _ _,aB XB.out NB,fun _ _ _=>rfl,Nat.le_refl _⟩;have HW:Hid (w.heap.size≤W1.heap.size):=Nat.le_trans XB.out.size NB.size;have HWM:Hid (w.heap.size≤mb):=by have:=GG.out;show _≤_;omega
 obtain⟨i3,hi3,pV,pW,hz32⟩:=info_parts info3;obtain⟨i72,abP,aaj,aak,aal⟩:=info_parts Et;clear hW1 E0 hge NB a0 a1 a2 a3 a4 b0 b1 b2 b3 b4 c0 c1 c2 d0 d1 d2;go_loopw [12,31] (fun v12 v31 wr=>CbL w W1 mb C m v12 v31 wr) (fun _ v _=>2-(intOf v).toNat)
 case atStart=>exact⟨0,by omega,rfl,I0.out⟩
 clear I0;obtain⟨k,hk,rfl,hI⟩:=hrel;have II:=hid hI;clear hI;by_cases hlt:k<2
 ·have e:=fun j hj=>E8.out k j hlt hj wr II.out.kp;have p0:=e 0 (by omega);have p1:=e 1 (by omega);have p2:=e 2 (by omega);have p3:=e 3 (by omega);have p4:=e 4 (by omega);have p5:=e 5 (by omega);have p6:=e 6 (by omega);have p7:=e 7 (by omega);rw[Nat.add_zero]at p0;simp only[AP,List.getElem?_cons_zero,List.getElem?_cons_succ]at p0 p1 p2 p3 p4 p5 p6 p7;have k0:(0:Int)≤(k:Int):=by omega
  have k1:(k:Int)<2:=by omega
  have NB:=ah wr (.cells (AP C B M r k).toArray 185);have Tc:(wr.alloc (.cells (AP C B M r k).toArray 185)).heap[wr.heap.size]? =some (.cells (AP C B M r k).toArray 185 (0,0)):=heap_alloc_new _ _;have I2:=hid (II.out.below NB);clear e;go_upto_region 6 with fail
  clear p0 p1 p2 p3 p4 p5 p6 p7;rw[show wr.alloc (.cells #[.slice (C k).a (C k).l.length (C k).c,.int .i64 (r k),.bool (B k).s,.slice (B k).a (B k).n (B k).c,.slice (B k).b (B k).m (B k).d,.bool (M k).s,.slice (M k).a (M k).n (M k).c,.slice (M k).b (M k).m (M k).d] 185)=wr.alloc (.cells (AP C B M r k).toArray 185) from rfl];obtain⟨g14,Js⟩:∃g,wr.heap.size=g:=⟨_,rfl⟩;have Td:Hid (W1.heap.size≤g14):=by show _≤_;rw[←Js];exact II.out.sz
  rw[Js]at Tc⊢;generalize wr.alloc (.cells (AP C B M r k).toArray 185)=W5 at*;have Tc:=hid Tc;have r0':W5.cell? ⟨g14,0,none⟩=some (.slice (C k).a (C k).l.length (C k).c):=by rw[cell_of_row W5 g14 0 _ _ _ Tc.out];rfl
  clear Js NB II;go_wp2_with fail;clear r0';obtain⟨n,hn'⟩:∃n,(C k).l.length=n:=⟨_,rfl⟩;rw[hn'];have NC:n≤9223372036854775807:=by have:=(hC k hlt).le;have:=(hC k hlt).cap;omega
  have HN:Hid ((C k).l.length=n):=hn';clear hn';go_loopw [12,39] (fun v12 v39 wr=>CbJ w W1 mb C B M r m k g14 v12 v39 wr) (fun _ v _=>n-(intOf v).toNat)
  case atStart=>exact⟨0,Nat.zero_le _,rfl,I2.out,Tc.out⟩
  clear I2 Tc;obtain⟨j,hj,rfl,hI,hX⟩:=hrel;rw[HN.out]at hj;have II:=hid hI;have Tc:=hid hX;clear hI hX;by_cases TS:j<n
  ·obtain⟨gc,o,ea,kk⟩:=(hC k hlt).q (by intro e;have:=HN.out;rw[e]at this;simp at this;omega);obtain⟨Nc,p0,p1,p2,p3,rq⟩:=kk j (by rw[HN.out];exact TS);rw[ea];have p0:=aj II.out.be p0;have p1:=aj II.out.be p1;have p2:=aj II.out.be p2;have p3:=aj II.out.be p3;have RQ:=hid (show RA wr _ Nc from aO.below rq II.out.be);have RQw:=hid (show RA w _ Nc from rq);have SQ:=hid (hp k j hlt (by rw[HN.out];exact TS));have XV:=hv k j hlt (by rw[HN.out];exact TS);obtain⟨x,hx⟩:∃x,(cq (C k).l j).1=x:=⟨_,rfl⟩;obtain⟨q,hq⟩:∃q,(cq (C k).l j).2=q:=⟨_,rfl⟩;rw[hx]at p0 XV;rw[hq]at RQ SQ RQw;obtain⟨S,hS⟩:∃S,qV (stk C m k) (C k).l (m k) j=S:=⟨_,rfl⟩;have SZS:=hid (fun v s=>hs k j v s hlt (by rw[HN.out];exact hj));have SNL:=hn k j hlt (by rw[HN.out];exact hj);rw[hS]at II SZS SNL;have STN:Hid (qV (stk C m k) (C k).l (m k) (j+1)=AO S (x,q) (m k)):=by show AO (qV (stk C m k) (C k).l (m k) j) (cq (C k).l j) (m k)=_;rw[hS,←hx,←hq]
   clear kk hx hq hS rq ea;obtain⟨l,ml,mn⟩:=II.out.ex;obtain⟨N0,b0,h1,h2,h3⟩:∃N0 b0,((fi x l).map (·.2)).getD Ws=nv N0∧(fi x l).isSome=b0∧((b0=true∧∃s,S.s x=some s∧RA wr s N0)∨(b0=false∧S.s x=none)):=by
    cases e:S.s x with
    | none=>exact⟨Nw.zero,false,by rw[mn.none e];rfl,by rw[mn.none e];rfl,Or.inr ⟨rfl,rfl⟩⟩
    | some s=>
     obtain⟨N,a,b,c⟩:=mn.some e
     exact⟨N,true,a,b,Or.inl ⟨rfl,s,rfl,c⟩⟩
   have H1:=hid h1;have H2:=hid h2;have H3:=hid h3;unfold nv at H1;have NB6:=ah wr (.cells #[.int .i64 (x:Int),.bool Nc.s,.slice Nc.a Nc.n Nc.c,.slice Nc.b Nc.m Nc.d] 72);have X16:Hid ((wr.alloc (.cells #[.int .i64 (x:Int),.bool Nc.s,.slice Nc.a Nc.n Nc.c,.slice Nc.b Nc.m Nc.d] 72)).heap[wr.heap.size]? =some (.cells #[.int .i64 (x:Int),.bool Nc.s,.slice Nc.a Nc.n Nc.c,.slice Nc.b Nc.m Nc.d] 72 (0,0))):=heap_alloc_new _ _;have ML:=hid (ml.below NB6);have I6:=hid (II.out.below NB6);have R6:=hid (aO.below RQ.out NB6);have Yk:=hid ((NB6.block g14 (Array.getElem?_eq_some_iff.1 Tc.out).1).trans Tc.out);have H36:Hid ((b0=true∧∃s,S.s x=some s∧RA (wr.alloc (.cells #[.int .i64 (x:Int),.bool Nc.s,.slice Nc.a Nc.n Nc.c,.slice Nc.b Nc.m Nc.d] 72)) s N0)∨(b0=false∧S.s x=none)):=by
    rcases H3.out with⟨a,s,b,c⟩ | c
    ·exact Or.inl ⟨a,s,b,aO.below c NB6⟩
    exact Or.inr c
   have j0:(0:Int)≤(j:Int):=by omega
   have j1:(j:Int)<(n:Int):=by omega
   clear h1 h2 h3 ml mn NB6 H3;go_upto_region 9 with fail
   clear p0 p1 p2 p3 RQ;have GS:=II.out.sz;clear II Tc;generalize wr.alloc (.cells #[.int .i64 (x:Int),.bool Nc.s,.slice Nc.a Nc.n Nc.c,.slice Nc.b Nc.m Nc.d] 72)=W6 at*;obtain⟨g16,Yl⟩:∃g,wr.heap.size=g:=⟨_,rfl⟩;rw[Yl]at X16⊢;have G16:Hid (W1.heap.size≤g16):=by show _≤_;rw[←Yl];exact GS
   clear Yl GS;have t0:W6.cell? ⟨g16,0,none⟩=some (.int .i64 (x:Int)):=by rw[cell_of_row W6 g16 0 _ _ _ X16.out];rfl
   have NB7:=ah W6 (.cells #[.bool N0.s,.slice N0.a N0.n N0.c,.slice N0.b N0.m N0.d] 25);have Wx:Hid (NQ (W6.alloc (.cells #[.bool N0.s,.slice N0.a N0.n N0.c,.slice N0.b N0.m N0.d] 25)) W6.heap.size N0):=heap_alloc_new _ _;have I7:=hid (I6.out.below NB7);have R7:=hid (aO.below R6.out NB7);have MB:=hid ((NB7.block g14 (Array.getElem?_eq_some_iff.1 Yk.out).1).trans Yk.out);have MC:=hid ((NB7.block g16 (Array.getElem?_eq_some_iff.1 X16.out).1).trans X16.out);have G17:Hid (W1.heap.size≤W6.heap.size):=I6.out.sz;have H37:Hid ((b0=true∧∃s,S.s x=some s∧RA (W6.alloc (.cells #[.bool N0.s,.slice N0.a N0.n N0.c,.slice N0.b N0.m N0.d] 25)) s N0)∨(b0=false∧S.s x=none)):=by
    rcases H36.out with⟨a,s,b,c⟩ | c
    ·exact Or.inl ⟨a,s,b,aO.below c NB7⟩
    exact Or.inr c
   go_upto_region 10 with(at_lookup;refine gY _ rfl _ _ true rfl mb l (x:Int) rfl rfl ML.out ?_;rw[if_pos rfl,H1.out,H2.out])
   clear t0 I6 R6 Yk X16 H36 ML H1 H2 NB7;generalize W6.alloc (.cells #[.bool N0.s,.slice N0.a N0.n N0.c,.slice N0.b N0.m N0.d] 25)=W7 at*;obtain⟨g17,MG⟩:∃g,W6.heap.size=g:=⟨_,rfl⟩;rw[MG]at Wx G17⊢;clear MG;go_upto_if 51 with fail
   go_cut [12] (fun v12 W=>abO w W1 mb S (AO S (x,q) (m k)) x g14 g16 g17 (AP C B M r k).toArray #[.int .i64 (x:Int),.bool Nc.s,.slice Nc.a Nc.n Nc.c,.slice Nc.b Nc.m Nc.d] v12 W)
   case first=>
    rcases H37.out with⟨rfl,s,hs',hr⟩ | ⟨rfl,hnone⟩
    ·have ES:(⟨S.s,(AO S (x,q) (m k)).v⟩:St)=S:=by unfold AO;simp only;rw[if_neg (by rw[hs'];simp)]
     have RR:Hid (RA W7 ((S.s x).getD 0) N0):=by show RA _ _ _;rw[hs'];exact hr
     have IE:=I7.out;rw[←ES]at IE;have IE:=hid IE;clear hr H37;go_wp2_with fail;go_meet
     case rel=>exact⟨N0,Wx.out,RR.out,IE.out,MB.out,MC.out⟩
    have EV:Hid ((AO S (x,q) (m k)).v=S.v++[x]):=by show _=_;unfold AO;simp only;rw[if_pos hnone]
    have jo:=hid hnone;clear H37 hnone;go_upto_region 12 with(go_at_call 72;go_loud (refine(bI 0 (by omega) (by omega) _).mono ?_;rintro e w8 ⟨s8,a8,n8,c8,b8,m8,d8,rfl,hR8,Wy⟩;have R8:=hid (show RA w8 0 ⟨s8,a8,n8,c8,b8,m8,d8⟩ from hR8);have X8:=hid (Wx.out.later Wy Wx.out.lt);have I8:=hid (I7.out.below Wy);have XA8:=hid ((Wy.block g14 (Array.getElem?_eq_some_iff.1 MB.out).1).trans MB.out);have XC8:=hid ((Wy.block g16 (Array.getElem?_eq_some_iff.1 MC.out).1).trans MC.out);obtain⟨_,_,_,fz⟩:=X8.out.reads;have f0:=fz 0;have f1:=fz 1;have f2:=fz 2;clear hR8 Wy fz Wx I7 MB MC))
    have X9:=hid (X8.out.gy ⟨s8,a8,n8,c8,b8,m8,d8⟩);have R9:=hid (R8.out.limb (X8.out.oH ⟨s8,a8,n8,c8,b8,m8,d8⟩));have I9:=hid (I8.out.gy X8.out G17.out (Nat.le_trans HW.out G17.out) ⟨s8,a8,n8,c8,b8,m8,d8⟩);have B25:dh w8 g17 25:=⟨_,X8.out⟩;have XA9:=hid ((ay w8 g17 (.bool s8) (.slice a8 n8 c8) (.slice b8 m8 d8) g14 (dh.ne ⟨_,XA8.out⟩ B25 (by decide))).trans XA8.out);have XC9:=hid ((ay w8 g17 (.bool s8) (.slice a8 n8 c8) (.slice b8 m8 d8) g16 (dh.ne ⟨_,XC8.out⟩ B25 (by decide))).trans XC8.out);clear B25 f0 f1 f2 X8 R8 I8 XA8 XC8;generalize ((w8.setCell ⟨g17,0,none⟩ (.bool s8)).setCell ⟨g17,1,none⟩ (.slice a8 n8 c8)).setCell ⟨g17,2,none⟩ (.slice b8 m8 d8)=w9 at*;have t0:w9.cell? ⟨g16,0,none⟩=some (.int .i64 (x:Int)):=by rw[cell_of_row w9 g16 0 _ _ _ XC9.out];rfl
    have NBA:=ah w9 (.cells #[.int .i64 (x:Int)] 3);have FN:Hid ((w9.alloc (.cells #[.int .i64 (x:Int)] 3)).heap[w9.heap.size]? =some (.cells #[.int .i64 (x:Int)] 3 (0,0))):=heap_alloc_new _ _;have IA:=hid (I9.out.below NBA);have XA:=hid (X9.out.later NBA X9.out.lt);have RA9:=hid (aO.below R9.out NBA);have XAA:=hid ((NBA.block g14 (Array.getElem?_eq_some_iff.1 XA9.out).1).trans XA9.out);have XCA:=hid ((NBA.block g16 (Array.getElem?_eq_some_iff.1 XC9.out).1).trans XC9.out);go_wp2_with (at_builtin;refine kR rfl _ _ 75 rfl W1.heap.size 3 i3 (.int .i64 0) 1 8 underlying75 hi3 pV pW hz32 rfl (by omega) (by intro u hu;simp[Value.cells]at hu;subst hu;exact dQ _) _ S.v.length (Es S.v) rfl IA.out.ow ⟨w9.heap.size,0,none⟩ 1 1 [.int .i64 (x:Int)] rfl rfl (World.news_of_block FN.out) (by intro u hu;simp at hu;subst hu;rfl) (by intro u hu;simp at hu;subst hu;exact dQ _) (by unfold maxLen;omega) (by omega) IA.out.sz ?_;intro v10 w10 hO hG hF;have I10:=hid (IA.out.push hO hG HW.out);have X10:=hid ((IA.out.ow.stay hG (ty:=25) ⟨_,XA.out⟩ (by decide)).trans XA.out);have R10:=hid (RA.limb (N:=⟨s8,a8,n8,c8,b8,m8,d8⟩) RA9.out (IA.out.ow.limb hG));have Ym:=hid ((IA.out.ow.stay hG (ty:=185) ⟨_,XAA.out⟩ (by decide)).trans XAA.out);have abQ:=hid ((IA.out.ow.stay hG (ty:=72) ⟨_,XCA.out⟩ (by decide)).trans XCA.out);clear hO hG hF);go_meet
    case rel=>exact⟨⟨s8,a8,n8,c8,b8,m8,d8⟩,X10.out,by rw[jo.out];exact R10.out,by rw[EV.out];exact I10.out,Ym.out,abQ.out⟩
   obtain⟨N,hX,hR,hI,hA,hCc⟩:=hcut;clear Wx I7 R7 MB MC H37;have Wx:=hid hX;have RN:=hid hR;have II:=hid hI;have XA:=hid hA;have XC:=hid hCc;clear hX hR hI hA hCc;obtain⟨n0,n1,n2,_⟩:=Wx.out.reads;have y0:wc.cell? ⟨g16,0,none⟩=some (.int .i64 (x:Int)):=by rw[cell_of_row wc g16 0 _ _ _ XC.out];rfl
   have y1:wc.cell? ⟨g16,1,none⟩=some (.bool Nc.s):=by rw[cell_of_row wc g16 1 _ _ _ XC.out];rfl
   have y2:wc.cell? ⟨g16,2,none⟩=some (.slice Nc.a Nc.n Nc.c):=by rw[cell_of_row wc g16 2 _ _ _ XC.out];rfl
   have y3:wc.cell? ⟨g16,3,none⟩=some (.slice Nc.b Nc.m Nc.d):=by rw[cell_of_row wc g16 3 _ _ _ XC.out];rfl
   have m5:wc.cell? ⟨g14,5,none⟩=some (.bool (M k).s):=by rw[cell_of_row wc g14 5 _ _ _ XA.out];rfl
   have m6:wc.cell? ⟨g14,6,none⟩=some (.slice (M k).a (M k).n (M k).c):=by rw[cell_of_row wc g14 6 _ _ _ XA.out];rfl
   have m7:wc.cell? ⟨g14,7,none⟩=some (.slice (M k).b (M k).m (M k).d):=by rw[cell_of_row wc g14 7 _ _ _ XA.out];rfl
   have RQ:=hid (show RA wc q Nc from aO.below RQw.out II.out.be);have RM:=hid (show RA wc (m k) (M k) from aO.below (hM k hlt) II.out.be);have abR:=hid (jC (w:=wc.drew) (aO.below RQ.out (Below.refl _ _).drew) (aO.below RM.out (Below.refl _ _).drew) (Sz.mono SQ.out (by omega)) (Sz.mono (hm k hlt) (by omega)));have SP:=hid (Sz.mono (Sz.mul SQ.out (hm k hlt)) (show _≤268435456 by omega));have SW:Hid (Sz ((S.s x).getD 0) 268435456):=by
    show Sz _ _
    cases e:S.s x with
    | none=>exact Sz.mono (k:=1) Sz.zero (by omega)
    | some s=>exact Sz.mono (SZS.out x s e) (by omega)
   have KP:=hid (fun(W':World) (hB:Below wc.heap.size wc W')=>(show W'.cell? ⟨g16,0,none⟩=some (.int .i64 (x:Int))∧W'.cell? ⟨g17,0,none⟩=some (.bool N.s)∧W'.cell? ⟨g17,1,none⟩=some (.slice N.a N.n N.c)∧W'.cell? ⟨g17,2,none⟩=some (.slice N.b N.m N.d)∧W'.cell? ⟨g16,1,none⟩=some (.bool Nc.s)∧W'.cell? ⟨g16,2,none⟩=some (.slice Nc.a Nc.n Nc.c)∧W'.cell? ⟨g16,3,none⟩=some (.slice Nc.b Nc.m Nc.d)∧W'.cell? ⟨g14,5,none⟩=some (.bool (M k).s)∧W'.cell? ⟨g14,6,none⟩=some (.slice (M k).a (M k).n (M k).c)∧W'.cell? ⟨g14,7,none⟩=some (.slice (M k).b (M k).m (M k).d) from⟨aj hB y0,aj hB n0,aj hB n1,aj hB n2,aj hB y1,aj hB y2,aj hB y3,aj hB m5,aj hB m6,aj hB m7⟩));go_upto_region 13 with fail
   refine Rg.aH 10 [] (fun W'=>W'.cell? ⟨g16,0,none⟩=some (.int .i64 (x:Int))∧W'.cell? ⟨g17,0,none⟩=some (.bool N.s)∧W'.cell? ⟨g17,1,none⟩=some (.slice N.a N.n N.c)∧W'.cell? ⟨g17,2,none⟩=some (.slice N.b N.m N.d)∧W'.cell? ⟨g16,1,none⟩=some (.bool Nc.s)∧W'.cell? ⟨g16,2,none⟩=some (.slice Nc.a Nc.n Nc.c)∧W'.cell? ⟨g16,3,none⟩=some (.slice Nc.b Nc.m Nc.d)∧W'.cell? ⟨g14,5,none⟩=some (.bool (M k).s)∧W'.cell? ⟨g14,6,none⟩=some (.slice (M k).a (M k).n (M k).c)∧W'.cell? ⟨g14,7,none⟩=some (.slice (M k).b (M k).m (M k).d)) (by kernel_rfl) (by kernel_rfl) ?_ (fun hS ok inv=>?_)
   ·exact⟨y0,n0,n1,n2,y1,y2,y3,m5,m6,m7⟩
   refine Rg.tk 0 rfl ok inv hS fun inv=>?_;refine Rg.tk 1 rfl ok inv hS fun inv=>?_;refine Rg.tk 2 rfl ok inv hS fun inv=>?_;refine Rg.tk 3 rfl ok inv hS fun inv=>?_;refine Rg.tk 4 rfl ok inv hS fun inv=>?_;refine Rg.tk 5 rfl ok inv hS fun inv=>?_;refine Rg.tk 6 rfl ok inv hS fun inv=>?_;refine Rg.tk 7 rfl ok inv hS fun inv=>?_;refine Rg.w1 8 rfl inv fun K' hK=>?_;go_simp;go_at_call 100;refine(abR.out).mono ?_;rintro e w8 ⟨s8,a8,n8,c8,b8,m8,d8,rfl,L8,B8⟩;have B8:=aJ B8;have KS:=KP.out w8 B8;have abS:=hid (iq (aO.below RN.out B8) L8 SW.out SP.out);refine Rg.st hK ?_ fun hS inv=>?_
   ·exact KS
   clear hK K' L8;refine Rg.w1 9 rfl inv fun K' hK=>?_;go_simp;go_at_call 133;refine(abS.out).mono ?_;rintro e w9 ⟨s9,a9,n9,c9,b9,m9,d9,rfl,L9,B9⟩;have B89:=aB B8 B9;have KS:=KP.out w9 B89;have I9:=hid (II.out.below B89);have L9:Hid (RA w9 ((S.s x).getD 0+q*m k) ⟨s9,a9,n9,c9,b9,m9,d9⟩):=L9;have XA9:=hid ((B89.block g14 (Array.getElem?_eq_some_iff.1 XA.out).1).trans XA.out);obtain⟨l9,ml9,mn9⟩:=I9.out.ex;have ML9:=hid ml9;have MN9:=hid mn9;refine Rg.st hK ?_ fun hS inv=>?_
   ·exact KS
   clear hK K' B9 B89 B8 ml9 mn9;refine Rg.wl rfl ?_;refine Az _ _ _ _ rfl mb l9 (x:Int) (nv ⟨s9,a9,n9,c9,b9,m9,d9⟩) rfl rfl rfl ML9.out ?_;intro ob hMM;have I10:=hid (I9.out.store (S':=AO S (x,q) (m k)) ML9.out MN9.out L9.out hMM HWM.out (by
    funext k';show(if k'=x then some ((S.s k').getD 0+q*m k)else S.s k')=_;by_cases e:k'=x
    ·rw[if_pos e,if_pos e,e]
    rw[if_neg e,if_neg e]) rfl)
   have Ym:=hid ((gZ (o:=ob) (Ne.symm (I9.out.GH ⟨_,XA9.out⟩))).trans XA9.out);clear hMM;go_wp2_with fail;go_roundw
   case rel=>exact⟨j+1,by rw[HN.out];exact TS,by go_num,by rw[STN.out];exact I10.out,Ym.out⟩
   simp[intOf];omega
  obtain rfl:n=j:=by omega
  have IE:=II.out;rw[←HN.out,show qV (stk C m k) (C k).l (m k) (C k).l.length=stk C m (k+1) from rfl]at IE;have IE:=hid IE;go_wp2_with fail;go_roundw
  case rel=>exact⟨k+1,by omega,by go_num,IE.out⟩
  simp[intOf];omega
 obtain rfl:k=2:=by omega
 obtain⟨S,hS⟩:∃S,stk C m 2=S:=⟨_,rfl⟩;have HS:=hid hS;rw[hS]at II SNL;clear hS hlt hk E8;obtain⟨la,lc,ev,l1,l2⟩:=oL II.out.ow.own;subst ev;obtain⟨zs,hz⟩:∃zs:List Int,(S.v.map fun(k:Nat)=>(k:Int))=zs:=⟨_,rfl⟩;have ZS:=hid hz;have OW:wr.ownsRow W1.heap.size 3 1 (.slice la S.v.length lc) S.v.length (zs.map (Value.int .i64)):=by have:=II.out.ow.own;rw[←hz,List.map_map];exact this
 have SO:=hid (MH OW SNL.out II.out.sz);clear OW hz;go_upto_region 17 with(go_at_call 134;refine SO.out.mono ?_;rintro e w2 ⟨rfl,hO2,hB2,hG2⟩;have O2:=hid hO2;have B2:=hid hB2;have G2:=hid hG2;clear hO2 hB2 hG2 SO)
 obtain⟨z,hz1,hz2⟩:=TP S.v;rw[ZS.out]at hz1;have ZP:=hid hz2;have ZL:Hid (z.length=S.v.length):=hz2.length_eq;have O2:Hid (w2.ownsRow W1.heap.size 3 1 (.slice la S.v.length lc) S.v.length (z.map fun(k:Nat)=>Value.int .i64 (k:Int))):=by have:=O2.out;rw[hz1,List.map_map]at this;exact this
 clear hz1 hz2 ZS;have b_:∀c,c<mb→w2.heap[c]? =W.heap[c]?:=fun c hc=>(B2.out.block c (by have:=GE.out;omega)).trans (K0.out wr II.out.kp c hc);have gg:=GG.out;have Y0:iH w2 gA _:=(b_ gA gg.1).trans X0.out;have Y1:NQ w2 gM (M 0):=(b_ gM gg.2.1).trans X1.out;have Y2:iH w2 gB _:=(b_ gB gg.2.2.1).trans X2.out;have Y3:NQ w2 gN (M 1):=(b_ gN gg.2.2.2.1).trans X3.out;have Y4:Hid (iH w2 gO _):=(b_ gO gg.2.2.2.2.1).trans X4.out;have BW:=hid (Below.trans II.out.be (B2.out.mono HW.out));obtain⟨l,ml,mn⟩:=II.out.ex;have ML:=hid (ml.of_block (B2.out.block mb (by have:=GE.out;omega)));have MN:=hid (mn.limb (II.out.ow.limb G2.out));obtain⟨_,_,a2,a3,a4,_⟩:=Y0.reads;obtain⟨c0,c1,c2,_⟩:=Y1.reads;obtain⟨_,_,e2,e3,e4,_⟩:=Y2.reads;obtain⟨d0,d1,d2,_⟩:=Y3.reads;have GOw:Hid (w.heap.size≤gO):=gg.2.2.2.2.2;clear b_ gg Y0 Y1 Y2 Y3 ml mn II B2 G2 K0 X0 X1 X2 X3 X4 X5;refine dK (TT a2 a3 a4 c0 c1 c2 e2 e3 e4 d0 d1 d2 (aO.below (hM 0 (by omega)) BW.out) (aO.below (hB 0 (by omega)) BW.out) (aO.below (hM 1 (by omega)) BW.out) (aO.below (hB 1 (by omega)) BW.out) (hm 0 (by omega)) (hb 0 (by omega)) (hm 1 (by omega)) (hb 1 (by omega)) fun g19 N x72 x73 x74 x75 x76 x77 x78 x79 x80 x81 x82 W9 hX hR hBb hge=>?_) (fun _ _ h=>h);clear a2 a3 a4 c0 c1 c2 e2 e3 e4 d0 d1 d2;have TU:=hid hX;have RN:=hid hR;have Y9:=hid ((hBb.block gO (Array.getElem?_eq_some_iff.1 Y4.out).1).trans Y4.out);have NEO:Hid (gO≠g19):=Nat.ne_of_lt (Nat.lt_of_lt_of_le (Array.getElem?_eq_some_iff.1 Y4.out).1 hge);have ML9:=hid (ML.out.below hBb);have MN9:=hid (MN.out.limb (aQ.of_below hBb));have O9:=hid (own_below O2.out hBb);have B9:=hid (aB BW.out hBb);have G19:Hid (w.heap.size≤g19):=Nat.le_trans BW.out.size hge;clear hX hR hBb hge Y4 ML MN O2 BW;go_wp2_with fail;go_loopw [85] (fun v85 wr=>CqL w W9 g19 S z rel N v85 wr) (fun v _=>z.length-(intOf v).toNat)
 case atStart=>exact⟨0,_,Nat.zero_le _,rfl,TU.out,⟨[],World.ownsRow_nil _ _ _ _,fun i hi=>absurd hi (Nat.not_lt_zero _)⟩,fun _ _ _=>rfl,B9.out,Nat.le_refl _⟩
 obtain⟨i,v,hi,rfl,hX,hO,hK,hBr,hsz⟩:=hrel;have XR:=hid hX;have OR:=hid hO;have KR:=hid hK;have BR:=hid hBr;have SZR:=hid hsz;clear hX hO hK hBr hsz;have LB:=hid (Me TU.out KR.out);have ZLE:z.length≤1000000:=by rw[ZL.out];exact SNL.out
 by_cases hlt:i<z.length
 ·obtain⟨x,hx⟩:∃x,z.getD i 0=x:=⟨_,rfl⟩;have xi:(z.map fun(k:Nat)=>Value.int .i64 (k:Int))[i]? =some (.int .i64 (x:Int)):=by rw[List.getElem?_map,List.getElem?_eq_getElem hlt,←hx,List.getD_eq_getElem?_getD,List.getElem?_eq_getElem hlt];rfl
  obtain⟨gv,cv,ev,bv,rd⟩:=xK O9.out xi;injection ev with ev1 ev2 ev3
  subst ev1 ev3;have B27:dh W9 g19 27:=⟨_,TU.out⟩;have p0:wr.cell? ⟨gv,i,none⟩=some (.int .i64 (x:Int)):=(aN (KR.out gv bv.lt (bv.ne B27 (by decide))) i).trans (rd i _ xi);have xm:x∈S.v:=ZP.out.mem_iff.1 (by rw[←hx];exact getD_mem hlt);have Yn:=uT C m 2;rw[HS.out]at Yn;obtain⟨q,hq⟩:∃q,S.s x=some q:=by
   cases e:S.s x with
   | none=>exact absurd e ((Yn.mem x).1 xm)
   | some q=>exact⟨q,rfl⟩
  obtain⟨Nq,hg,_,rq⟩:=MN9.out.some hq;have HG:=hid hg;unfold nv at HG;have RQ9:=hid rq;have CS:=dM (RA.limb rq LB.out);have MLr:=hid (ML9.out.of_block (KR.out mb ML9.out.lt (ML9.out.ne TU.out).symm));obtain⟨y,hy⟩:∃y,aV q=y:=⟨_,rfl⟩;rw[hy]at CS;have CS:=hid CS;have i0:(0:Int)≤(i:Int):=by omega
  have i1:(i:Int)<(S.v.length:Int):=by have:=ZL.out;omega
  have HX:=hid hx;have HQq:=hid hq;clear xi rd bv B27 xm Yn hg rq hx hq;by_cases hq0:q=0
  ·have y0:y=0:=by rw[←hy,hq0];rfl
   subst y0;have EN:Hid (outT S.s z (i+1)=outT S.s z i):=by show(if _ then _ else _)=_;rw[HX.out,HQq.out,if_pos (by simpa using hq0)]
   clear hy hq0;go_wp2_with (first
    | (at_lookup;refine gY _ rfl _ _ false rfl mb l (x:Int) rfl rfl MLr.out ?_;rw[if_neg (by simp),HG.out])
    | (go_at_call 92;refine CS.out.mono ?_;rintro e w3 ⟨rfl,hB3⟩;have B3:=hid hB3;clear hB3))
   go_roundw
   case rel=>obtain⟨xs,o,r⟩:=OR.out;exact⟨i+1,v,hlt,by go_num,XR.out.below B3.out,by rw[EN.out];exact⟨xs,own_below o B3.out,r⟩,fun c hc hne=>(B3.out.block c (by have:=SZR.out;omega)).trans (KR.out c hc hne),aB BR.out B3.out,Nat.le_trans SZR.out B3.out.size⟩
   simp[intOf];omega
  have yb:(y !=0)=true:=by
   have:y≠0:=by rw[←hy,Ne,aY];exact hq0
   simpa using this
  have HQ0:=hid hq0;have OLE:(outT S.s z i).length≤i:=AU S.s z i;clear hy hq0;go_upto_region 22 with(first
   | (at_lookup;refine gY _ rfl _ _ false rfl mb l (x:Int) rfl rfl MLr.out ?_;rw[if_neg (by simp),HG.out])
   | (go_at_call 92;refine CS.out.mono ?_;rintro e w3 ⟨rfl,hB3⟩;have B3:=hid hB3;clear hB3))
  have X3:=hid (XR.out.below B3.out);have ML3:=hid (MLr.out.below B3.out);obtain⟨xs,ho,hr⟩:=OR.out;have HRR:=hid hr;have KR3:Hid (Wv W9 g19 w3):=fun c hc hne=>(B3.out.block c (by have:=SZR.out;omega)).trans (KR.out c hc hne);have BR3:=hid (aB BR.out B3.out);have SZ3:=hid (Nat.le_trans SZR.out B3.out.size);obtain⟨t0,_,_,_,_,_⟩:=X3.out.reads;have qX:=ah w3 (.cells #[.int .i64 (x:Int),.bool Nq.s,.slice Nq.a Nq.n Nq.c,.slice Nq.b Nq.m Nq.d] 72);have FG:Hid ((w3.alloc (.cells #[.int .i64 (x:Int),.bool Nq.s,.slice Nq.a Nq.n Nq.c,.slice Nq.b Nq.m Nq.d] 72)).heap[w3.heap.size]? =some (.cells #[.int .i64 (x:Int),.bool Nq.s,.slice Nq.a Nq.n Nq.c,.slice Nq.b Nq.m Nq.d] 72 (0,0))):=heap_alloc_new _ _;have OA:=hid (World.ownsRow.alloc (own_below ho B3.out) (.cells #[.int .i64 (x:Int),.bool Nq.s,.slice Nq.a Nq.n Nq.c,.slice Nq.b Nq.m Nq.d] 72));have XA:=hid (X3.out.below qX);have KA:Hid (Wv W9 g19 (w3.alloc (.cells #[.int .i64 (x:Int),.bool Nq.s,.slice Nq.a Nq.n Nq.c,.slice Nq.b Nq.m Nq.d] 72))):=fun c hc hne=>(qX.block c (by have:=SZ3.out;omega)).trans (KR3.out c hc hne);have BA:=hid (aB BR3.out qX);have SA:=hid (Nat.le_trans SZ3.out qX.size);clear ho hr qX XR KR BR SZR MLr CS X3;go_wp2_with (first
   | (at_lookup;refine gY _ rfl _ _ false rfl mb l (x:Int) rfl rfl ML3.out ?_;rw[if_neg (by simp),HG.out])
   | (at_builtin;refine wpList_append_own _ rfl _ _ 22 rfl W9.heap.size 72 i72 _ 4 64 underlying22 abP aaj aak aal rfl (by omega) _ (outT S.s z i).length xs rfl OA.out ⟨w3.heap.size,0,none⟩ 1 1 [.int .i64 (x:Int),.bool Nq.s,.slice Nq.a Nq.n Nq.c,.slice Nq.b Nq.m Nq.d] rfl rfl (World.news_of_block FG.out) (by intro u hu;simp at hu;rcases hu with rfl | rfl | rfl | rfl<;>rfl) (by unfold maxLen;omega) (by omega) SA.out ?_;intro v5 w5 Af hg5 MI;obtain⟨a5,c5,rfl,_,_⟩:=oL Af;have HO5:=hid Af;have HG5:=hid hg5;have X5:iH w5 g19 #[v,.int .i64 rel,.bool N.s,.slice N.a N.n N.c,.slice N.b N.m N.d]:=(hg5.block g19 (Array.getElem?_eq_some_iff.1 XA.out).1 fun q=>(pU OA.out q.symm).ne ⟨_,XA.out⟩ (by decide) rfl).trans XA.out;obtain⟨g0,_,_,_,_,fz⟩:=X5.reads;have f0:=fz 0;clear Af hg5 MI fz X5))
  go_roundw
  case rel=>exact CqL.next HX.out hlt HQq.out HQ0.out XA.out OA.out HRR.out RQ9.out KA.out BA.out SA.out B9.out.size G19.out HO5.out HG5.out (by go_num)
  simp[intOf];omega
 obtain rfl:i=z.length:=by omega
 obtain⟨a,c,ev,CA,CB⟩:=OR.out.qf LB.out;have CB:=hid CB;subst ev;obtain⟨t0,t1,t2,t3,t4,_⟩:=XR.out.reads;have YR:iH wr gO _:=(KR.out gO (Array.getElem?_eq_some_iff.1 Y9.out).1 NEO.out).trans Y9.out;obtain⟨y0,y1,y2,y3,y4,fz⟩:=YR.reads;have f0:=fz 0;have f1:=fz 1;have f2:=fz 2;have f3:=fz 3;have f4:=fz 4;have YR:=hid YR;have CA:=hid CA;have RNr:=hid (RA.limb RN.out LB.out);have Yn:=uT C m 2;rw[HS.out]at Yn;have SOK:=hid Yn;clear fz Yn;have nl:¬((z.length:Int)<(S.v.length:Int)):=by have:=ZL.out;omega
 go_wp2_with fail;have Y5:=YR.out.Jt (.slice a (outT S.s z z.length).length c) (.int .i64 rel) (.bool N.s) (.slice N.a N.n N.c) (.slice N.b N.m N.d);have LM:=l7 YR.out (.slice a (outT S.s z z.length).length c) (.int .i64 rel) (.bool N.s) (.slice N.a N.n N.c) (.slice N.b N.m N.d);have OT:∀q,q≠gO→(((((wr.setCell ⟨gO,0,none⟩ (.slice a (outT S.s z z.length).length c)).setCell ⟨gO,1,none⟩ (.int .i64 rel)).setCell ⟨gO,2,none⟩ (.bool N.s)).setCell ⟨gO,3,none⟩ (.slice N.a N.n N.c)).setCell ⟨gO,4,none⟩ (.slice N.b N.m N.d)).heap[q]? =wr.heap[q]?:=fun q hq=>by rw[heap_setCell_other _ ⟨gO,4,none⟩ _ _ hq,heap_setCell_other _ ⟨gO,3,none⟩ _ _ hq,heap_setCell_other _ ⟨gO,2,none⟩ _ _ hq,heap_setCell_other _ ⟨gO,1,none⟩ _ _ hq,heap_setCell_other _ ⟨gO,0,none⟩ _ _ hq]
 have BL:=((((BR.out.setCell (p:=⟨gO,0,none⟩) GOw.out (.slice a (outT S.s z z.length).length c)).setCell (p:=⟨gO,1,none⟩) GOw.out (.int .i64 rel)).setCell (p:=⟨gO,2,none⟩) GOw.out (.bool N.s)).setCell (p:=⟨gO,3,none⟩) GOw.out (.slice N.a N.n N.c)).setCell (p:=⟨gO,4,none⟩) GOw.out (.slice N.b N.m N.d);have B27:dh wr gO 27:=⟨_,YR.out⟩;have CE:=CA.out.keep (fun ad e=>OT ad.block ((CB.out ad e).1.ne B27 (by decide))) LM;have RE:=RA.limb RNr.out LM;clear LM OT B27;have FIN:Hid (Q (.returned (.agg #[.slice a (outT S.s z z.length).length c,.int .i64 rel,.bool N.s,.slice N.a N.n N.c,.slice N.b N.m N.d])) (((((wr.setCell ⟨gO,0,none⟩ (.slice a (outT S.s z z.length).length c)).setCell ⟨gO,1,none⟩ (.int .i64 rel)).setCell ⟨gO,2,none⟩ (.bool N.s)).setCell ⟨gO,3,none⟩ (.slice N.a N.n N.c)).setCell ⟨gO,4,none⟩ (.slice N.b N.m N.d))):=by
  show Q _ _;have zm:∀k,k∈z→S.s k≠none:=fun k hk=>(SOK.out.mem k).1 (ZP.out.mem_iff.1 hk);rw[HQ.out,HS.out];refine⟨a,c,_,N,rfl,CE,RE,BL,fun p hp=>?_,fun k q hk h0=>?_,GK zm (ZP.out.nodup_iff.2 SOK.out.nd) _ (Nat.le_refl _),fun ad e=>Nat.le_trans B9.out.size (CB.out ad e).2⟩
  ·obtain⟨h1,h2,_⟩:=uU zm _ (Nat.le_refl _) p hp;exact⟨h1,h2⟩
  have:k∈z:=ZP.out.mem_iff.2 ((SOK.out.mem k).2 (by rw[hk];simp));obtain⟨j,hj,e⟩:=List.getElem_of_mem this;have e2:z.getD j 0=k:=by rw[List.getD_eq_getElem?_getD,List.getElem?_eq_getElem hj];exact e
  have:=AQ (s:=S.s) (z:=z) z.length j q hj (by rw[e2];exact hk) h0;rwa[e2]at this
 obtain⟨z0,z1,z2,z3,z4,_⟩:=Y5.reads;clear Y5 BL CE RE;generalize ((((wr.setCell ⟨gO,0,none⟩ (.slice a (outT S.s z z.length).length c)).setCell ⟨gO,1,none⟩ (.int .i64 rel)).setCell ⟨gO,2,none⟩ (.bool N.s)).setCell ⟨gO,3,none⟩ (.slice N.a N.n N.c)).setCell ⟨gO,4,none⟩ (.slice N.b N.m N.d)=wf at*;generalize (outT S.s z z.length).length=no at*;exact bodyPost_ret (v:= .agg #[.slice a no c,.int .i64 rel,.bool N.s,.slice N.a N.n N.c,.slice N.b N.m N.d]) (by simp[results,results93,go_sem,z0,z1,z2,z3,z4]) rfl FIN.out
end Go.Proofs.YtijdglogadnbcaaGreat
