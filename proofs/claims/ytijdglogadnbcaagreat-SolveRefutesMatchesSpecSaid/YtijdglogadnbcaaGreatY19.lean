/- Rows in memory, with their numbers; slices.Clone of rows. -/
import Derived.Test.YtijdglogadnbcaaGreatY18
import Derived.Laws.CopyOwn
set_option linter.unusedVariables false
set_option linter.unusedSimpArgs false
set_option maxRecDepth 100000
set_option maxHeartbeats 40000000
namespace Go.Proofs.YtijdglogadnbcaaGreat
open Go.Proofs.Tryz
open Go.RowKit Nt Bl
structure Rl where
 cs:List (Nat×Rat)
 rel:Int
 bd:Rat
instance:Inhabited Rl:=⟨⟨[],0,0⟩⟩
def cq (l:List (Nat×Rat))(i:Nat):Nat×Rat:=l.getD i (0,0)
def rq (l:List Rl)(i:Nat):Rl:=l.getD i default
def iE (w:World)(l:List (Nat×Rat))(ca:Option Addr):Prop:=
 l≠[]→∃g o,ca=some ⟨g,o,none⟩∧∀i,i<l.length→∃N:Nw,w.cell? ⟨g,o+i*4,none⟩=some (.int .i64 ((cq l i).1:Int))∧w.cell? ⟨g,o+i*4+1,none⟩=some (.bool N.s)∧
  w.cell? ⟨g,o+i*4+2,none⟩=some (.slice N.a N.n N.c)∧w.cell? ⟨g,o+i*4+3,none⟩=some (.slice N.b N.m N.d)∧RA w (cq l i).2 N
theorem iE.below {w w':World}{l:List (Nat×Rat)}{ca:Option Addr}(h:iE w l ca)(hb:Below w.heap.size w w'):iE w' l ca:=by intro hne;obtain⟨g,o,e,k⟩:=h hne;refine⟨g,o,e,fun i hi=>?_⟩;obtain⟨N,a,b,c,d,r⟩:=k i hi;exact⟨N,aj hb a,aj hb b,aj hb c,aj hb d,aO.below r hb⟩
theorem iE.nil (w:World)(ca:Option Addr):iE w [] ca:=fun h=>absurd rfl h
structure R5 (w:World)(R:Rl)(ca:Option Addr)(cc:Nat)(N:Nw):Prop where
 co:iE w R.cs ca
 le:R.cs.length≤cc
 cap:cc≤9223372036854775807
 bd:RA w R.bd N
theorem R5.below {w w':World}{R:Rl}{ca:Option Addr}{cc:Nat}{N:Nw}(h:R5 w R ca cc N)(hb:Below w.heap.size w w'):R5 w' R ca cc N:=⟨h.co.below hb,h.le,h.cap,aO.below h.bd hb⟩
def wH (R:Rl)(ca:Option Addr)(cc:Nat)(N:Nw):List Value:=[.slice ca R.cs.length cc,.int .i64 R.rel,.bool N.s,.slice N.a N.n N.c,.slice N.b N.m N.d]
def Di (w:World)(l:List Rl)(vs:List Value):Prop:=vs.length=l.length*5∧∀i,i<l.length→∃ca cc N,(∀k,k<5→vs[i*5+k]? =(wH (rq l i) ca cc N)[k]?)∧R5 w (rq l i) ca cc N
theorem Di.below {w w':World}{l:List Rl}{vs:List Value}(h:Di w l vs)(hb:Below w.heap.size w w'):Di w' l vs:=
 ⟨h.1,fun i hi=>by obtain⟨ca,cc,N,a,b⟩:=h.2 i hi;exact⟨ca,cc,N,a,b.below hb⟩⟩
theorem Di.nil (w:World):Di w [] []:=⟨rfl,fun i hi=>absurd hi (Nat.not_lt_zero _)⟩
theorem iM {l:List Rl}{R:Rl}{i:Nat}(h:i<l.length):rq (l++[R]) i=rq l i:=by unfold rq;rw[List.getD_eq_getElem?_getD,List.getD_eq_getElem?_getD,List.getElem?_append_left h]
theorem uD {l:List Rl}{R:Rl}:rq (l++[R]) l.length=R:=by unfold rq;rw[List.getD_eq_getElem?_getD,List.getElem?_append_right (Nat.le_refl _)];simp
theorem Di.push {w:World}{l:List Rl}{vs:List Value}{R:Rl}{ca:Option Addr}{cc:Nat}{N:Nw}(h:Di w l vs)(r:R5 w R ca cc N):Di w (l++[R]) (vs++wH R ca cc N):=by
 refine⟨by simp[h.1,wH];omega,fun i hi=>?_⟩;rw[List.length_append,List.length_singleton]at hi;by_cases e:i<l.length
 ·obtain⟨ca',cc',N',a,b⟩:=h.2 i e;rw[iM e];refine⟨ca',cc',N',fun k hk=>?_,b⟩;rw[List.getElem?_append_left (by rw[h.1];omega)];exact a k hk
 obtain rfl:i=l.length:=by omega
 rw[uD];refine⟨ca,cc,N,fun k hk=>?_,r⟩;rw[List.getElem?_append_right (by rw[h.1];omega),h.1,Nat.add_sub_cancel_left]
theorem Qb {R:Rl}{ca:Option Addr}{cc:Nat}{N:Nw}:∀u∈wH R ca cc N,u.oneCell'=true:=by intro u hu;simp[wH]at hu;rcases hu with rfl | rfl | rfl | rfl | rfl<;>rfl
theorem Di.one {w:World}{l:List Rl}{vs:List Value}(h:Di w l vs):∀u∈vs,u.oneCell'=true:=by
 intro u hu;obtain⟨j,hj,rfl⟩:=List.getElem_of_mem hu;have hj':j/5<l.length:=by rw[h.1]at hj;omega
 obtain⟨ca,cc,N,a,b⟩:=h.2 (j/5) hj';have e:=a (j%5) (by omega);rw[show j/5*5+j%5=j from by omega,List.getElem?_eq_getElem hj]at e;have lt:j%5<(wH (rq l (j/5)) ca cc N).length:=by simp[wH];omega
 rw[List.getElem?_eq_getElem lt]at e;injection e with e
 rw[e];exact Qb _ (List.getElem_mem lt)
def jI (w:World)(l:List Rl)(ra:Option Addr):Prop:=∃vs,Di w l vs∧(l≠[]→∃g o,ra=some ⟨g,o,none⟩∧∀j u,vs[j]? =some u→w.cell? ⟨g,o+j,none⟩=some u)
theorem jI.below {w w':World}{l:List Rl}{ra:Option Addr}(h:jI w l ra)(hb:Below w.heap.size w w'):jI w' l ra:=by obtain⟨vs,a,b⟩:=h;refine⟨vs,a.below hb,fun hne=>?_⟩;obtain⟨g,o,e,k⟩:=b hne;exact⟨g,o,e,fun j u hu=>aj hb (k j u hu)⟩
theorem Gf (g o j:Nat):(⟨g,o,none⟩:Addr).add j=⟨g,o+j,none⟩:=by unfold Addr.add;split<;>simp_all
theorem Gg:(prog.info? 27).map (fun i=>(i.zero,i.size,i.bytes))=some (some (.agg #[.slice none 0 0,.int .i64 0,.bool false,.slice none 0 0,.slice none 0 0]),5,88):=by kernel_rfl
theorem fH {w w1:World}{v:Value}{e sz k:Nat}{xs:List Value}{T:Nat}{w0:World}(B:Below T w0 w)(O:w.ownsRow T e sz v k xs)(hT:T≤w.heap.size)(G:w.grownBy w1 v.ownBlock):Below T w0 w1:=
 ⟨G.os.trans B.os,G.tape.trans B.tape,G.output.trans B.output,Nat.le_trans B.size G.size,fun q hq=>(G.block q (Nat.lt_of_lt_of_le hq hT) (fun e=>by have:=(O.lt q e.symm).1;omega)).trans (B.block q hq)⟩
theorem Gh (w:World)(e sz:Nat):(w.alloc (.cells #[] e)).ownsRow w.heap.size e sz (.slice (some ⟨w.heap.size,0,none⟩) 0 0) 0 []:=
 World.ownsRow_made w #[] 0 (Nat.le_refl _) (Nat.zero_le _) (by simp)
theorem xq {w:World}{l:List Rl}{vs:List Value}{ra:Option Addr}{n rc:Nat}(hv:Di w l vs)(ha:l≠[]→∃g o,ra=some ⟨g,o,none⟩∧∀j u,vs[j]? =some u→w.cell? ⟨g,o+j,none⟩=some u) (hn:l.length=n) (acQ:n≤1000):
  Calls prog 78 #[.slice ra n rc] w fun e w'=>∃v',e= .returned v'∧w'.ownsRow w.heap.size 27 5 v' n vs∧Below w.heap.size w w':=by
 have VL:Hid (vs.length=n*5):=by show _=_;rw[hv.1,hn]
 have VO:=hid hv.one;obtain⟨i0,hi0,hz0,hz1,hz2⟩:=info_parts Gg
 cases ra with
 | none=>
  have l0:l=[]:=by
   refine Classical.byContradiction fun q=>?_
   obtain⟨g,o,e,_⟩:=ha q
   simp at e
  have n0:n=0:=by rw[←hn,l0];rfl
  subst n0
  have v0:vs=[]:=List.eq_nil_of_length_eq_zero VL.out
  clear VL VO hv ha hn
  subst v0
  have he:=fun(w:World)=>Lib.run_eql_slice_nil (P:=prog) w 34 27 none 0 rc 0 0 underlying34
  go_enter func78,ntmps78
  go_wp2_with fail
  go_ret
  exact⟨_,rfl,World.ownsRow_nil _ _ _ _,Below.refl _ _⟩
 | some ad=>
  have SRC:Hid (∀j u,vs[j]? =some u→(w.alloc (.cells #[] 27)).cell? (ad.add j)=some u):=by
   intro j u hu
   have hne:l≠[]:=fun e=>by rw[List.eq_nil_of_length_eq_zero (l:=vs) (by rw[hv.1,e];rfl)]at hu;simp at hu
   obtain⟨g,o,e,k⟩:=ha hne
   simp only[Option.some.injEq]at e
   subst e
   rw[Gf]
   exact cell_later (ah w _) (Nat.le_refl _) (k j u hu)
  have OW:Hid ((w.alloc (.cells #[] 27)).ownsRow w.heap.size 27 5 (.slice (some ⟨w.heap.size,0,none⟩) 0 0) 0 []):=Gh w 27 5
  have B0:Hid (Below w.heap.size w (w.alloc (.cells #[] 27))):=ah w _
  have he:=fun(w:World)=>Lib.run_eql_slice_nil (P:=prog) w 34 27 (some ad) n rc 0 0 underlying34
  clear hv ha hn
  go_enter func78,ntmps78
  go_wp2_with (at_builtin;refine wpList_append_own _ rfl _ _ 34 rfl w.heap.size 27 i0 _ 5 88 underlying34 hi0 hz0 hz1 hz2 rfl (by omega) (.slice (some ⟨w.heap.size,0,none⟩) 0 0) 0 [] rfl OW.out ad n rc vs rfl VL.out SRC.out VO.out (by unfold maxLen;omega) (by omega) B0.out.size ?_;intro v4 w4 hown4 hgrow4 ab5;have OW4:=hid hown4;have GR4:=hid hgrow4;clear hown4 hgrow4 ab5)
  go_ret
  have o:=OW4.out
  rw[Nat.zero_add,List.nil_append]at o
  exact⟨_,rfl,o,fH B0.out OW.out B0.out.size GR4.out⟩
def Nu (u:Value):Prop:=∀x,u≠ .int .u32 x
structure Ow (w:World)(base e size:Nat)(v:Value)(n:Nat)(xs:List Value):Prop where
 own:w.ownsRow base e size v n xs
 nu:∀g,v.ownBlock=some g→∀o u,w.cell? ⟨g,o,none⟩=some u→Nu u
theorem Ow.nil (w:World)(base e size:Nat):Ow w base e size (.slice none 0 0) 0 []:=⟨World.ownsRow_nil w base e size,fun g h=>by simp[Value.ownBlock]at h⟩
theorem Dj {w w':World}(h:Below w.heap.size w w')(row:Option Nat):w.grownBy w' row:=⟨h.os,h.tape,h.output,h.size,fun k hk _=>h.block k hk⟩
theorem Ow.kept {w w':World}{base e size n:Nat}{v:Value}{xs:List Value}{row:Option Nat}(h:Ow w base e size v n xs)(g:w.grownBy w' row)(hne:v.ownBlock=none∨v.ownBlock≠row):Ow w' base e size v n xs:=by
 refine⟨h.own.kept g hne,fun b hb o u hu=>h.nu b hb o u ?_⟩;have lt:=(h.own.lt b hb).2;rw[←hu];symm;refine World.cell?_of_block (g.block b lt fun q=>?_);rcases hne with e | e
 ·rw[e]at hb;simp at hb
 exact e (hb.trans q)
theorem Ow.below {w w':World}{base e size n:Nat}{v:Value}{xs:List Value}(h:Ow w base e size v n xs)(hb:Below w.heap.size w w'):Ow w' base e size v n xs:=
 h.kept (Dj hb none) (by cases v.ownBlock<;>simp)
theorem Ow.blk {w:World}{base e size n:Nat}{v:Value}{xs:List Value}(h:Ow w base e size v n xs){g:Nat}(hg:v.ownBlock=some g):dh w g e:=by
 rcases h.own.2 with⟨rfl,_⟩ | ⟨g',cap,cur,rfl,hb,hgg,_⟩
 ·simp[Value.ownBlock]at hg
 simp[Value.ownBlock]at hg;subst hg;exact⟨_,hgg⟩
theorem Ow.limb {w w':World}{base e size n:Nat}{v:Value}{xs:List Value}(h:Ow w base e size v n xs)(g:w.grownBy w' v.ownBlock):aQ w w':=by
 intro b o x hc;have lt:b<w.heap.size:=World.block_lt_of_cell? _ _ hc;by_cases q:some b=v.ownBlock
 ·exact absurd rfl (h.nu b q.symm o _ hc x)
 rw[World.cell?_of_block (a:=⟨b,o,none⟩) (g.block b lt q)];exact hc
theorem zQ {w:World}{g:Nat}{l:List Value}{t:TypeId}{fr:Nat×Nat}(hg:w.heap[g]? =some (.cells l.toArray t fr)) (hl:∀u∈l,Nu u):∀o u,w.cell? ⟨g,o,none⟩=some u→Nu u:=by intro o u hu;rw[cell_of_row w g o _ t fr hg,List.getElem?_toArray]at hu;exact hl u (List.mem_of_getElem? hu)
theorem Zd {w:World}{g:Nat}{cur:Array Value}{t:TypeId}{fr:Nat×Nat}(hg:w.heap[g]? =some (.cells cur t fr)) (h:∀o u,w.cell? ⟨g,o,none⟩=some u→Nu u):∀u∈cur.toList,Nu u:=by intro u hu;obtain⟨j,hj,rfl⟩:=List.getElem_of_mem hu;refine h j _ ?_;rw[cell_of_row w g j _ t fr hg];simp at hj;simp[hj]
theorem IU {z:Array Value}(h:∀u∈z.toList,Nu u)(h0:0<z.size)(n:Nat):∀u∈(Builtin.zeroCells z n).toList,Nu u:=by intro u hu;simp only[Builtin.zeroCells,Array.toList_map,List.mem_map]at hu;obtain⟨i,_,rfl⟩:=hu;have lt:i%z.size<z.size:=Nat.mod_lt _ h0;rw[getElem!_pos z _ lt];exact h _ (by simp)
theorem xu {P:Program}(w:World)(base:Nat)(t ty e:TypeId)(i:TypeInfo)(z:Value)(size bytes:Nat)(ht:P.underlying t=some (.slice e))(hi:P.info? e=some i)(hz:i.zero=some z)
  (hsize:i.size=size)(hby:i.bytes=bytes)(hzs:z.cells.size=size)(hsz:0<size)(zn:∀u∈z.cells.toList,Nu u)
  (v:Value)(n:Nat)(xs:List Value)(how:Ow w base e size v n xs)
  (a:Addr)(m c:Nat)(news:List Value)(hl:news.length=m*size)(hnews:∀j u,news[j]? =some u→w.cell? (a.add j)=some u) (h1:∀u∈news,u.oneCell'=true) (hnu:∀u∈news,Nu u)
  (h63:n+m≤maxLen) (hbytes:(n+m)*bytes≤140737488355328) (hbase:base≤w.heap.size):
  ∃v' w',(Builtin.append_ #[t,t] ty #[v,.slice (some a) m c]).run P w= .ok v' w'∧Ow w' base e size v' (n+m) (xs++news)∧w.grownBy w' v.ownBlock∧∀g,v'.ownBlock=some g→v.ownBlock=some g∨w.heap.size≤g:=by
 have hown:=how.own;obtain⟨v',w',hr,o,g,_⟩:=run_append_own (P:=P) w base t ty e i z size bytes ht hi hz hsize hby hzs hsz v n xs hown a m c news hl hnews h1 h63 hbytes hbase;suffices F:∀g',v'.ownBlock=some g'→(v.ownBlock=some g'∨w.heap.size≤g')∧∀o u,w'.cell? ⟨g',o,none⟩=some u→Nu u from⟨v',w',hr,⟨o,fun g' h=>(F g' h).2⟩,g,fun g' h=>(F g' h).1⟩
 subst hsize;subst hby;intro g' hg';have h63':((n+m:Nat):Int)≤9223372036854775807:=by simp only[maxLen]at h63;omega
 rcases hown.2 with⟨rfl,rfl⟩ | ⟨g0,cap,cur,rfl,hbg,hg,hnc,hcm,hcs,htake⟩
 ·by_cases hm:m=0
  ·subst hm;have hn:news=[]:=List.eq_nil_of_length_eq_zero (by simpa using hl);subst hn;have e1:(Builtin.append_ #[t,t] ty #[.slice none 0 0,.slice (some a) 0 c]).run P w= .ok (.slice none 0 0) w:=by simp[Builtin.append_,run_underlying ht,sizeOf,typeInfo,hi,Builtin.lenOf,Builtin.firstCells,loadCells,loadCellsFrom]
   rw[e1]at hr;injection hr with hr1 hr2
   subst hr1;simp[Value.ownBlock]at hg'
  have e1:=run_append_nil (P:=P) w t ty e i z ht hi hz a m c news hl hnews (by omega) (by omega) (by have hb:=hbytes;simp only[Nat.zero_add]at hb;omega);rw[e1]at hr;injection hr with hr1 hr2
  subst hr1 hr2;simp only[Value.ownBlock,Option.some.injEq]at hg';subst hg';have hh:(w.drew.alloc (.cells (news.toArray++Builtin.zeroCells z.cells (grownCap w m 0 e-m)) e)).heap[w.heap.size]? =some (.cells (news++(Builtin.zeroCells z.cells (grownCap w m 0 e-m)).toList).toArray e (0,0)):=by have:=heap_alloc_new w.drew (.cells (news.toArray++Builtin.zeroCells z.cells (grownCap w m 0 e-m)) e);rw[show w.drew.heap.size=w.heap.size from rfl]at this;rw[this];congr 2;exact Array.ext' (by simp)
  refine⟨Or.inr (Nat.le_refl _),zQ hh fun u hu=>?_⟩;rcases List.mem_append.1 hu with q | q
  ·exact hnu u q
  exact IU zn (by omega) _ u q
 have old:=Zd hg (how.nu g0 rfl);by_cases hroom:n+m≤cap
 ·have hfit:n*i.size+news.length≤cur.size:=by rw[hl,hcs,←Nat.add_mul];exact Nat.mul_le_mul_right _ hroom
  have e1:=run_append_room (P:=P) w t ty e i ht hi g0 n cap cur hg a m c news hl hnews h1 hroom hfit;rw[e1]at hr;injection hr with hr1 hr2
  subst hr1 hr2;simp only[Value.ownBlock,Option.some.injEq]at hg';subst hg';refine⟨Or.inl rfl,zQ (setRow_heap w g0 cur _ e _ hg) fun u hu=>?_⟩;rcases List.mem_append.1 hu with q | q
  ·rcases List.mem_append.1 q with q | q
   ·exact old u (List.mem_of_mem_take q)
   exact hnu u q
  exact old u (List.mem_of_mem_drop q)
 have holds:∀j u,xs[j]? =some u→w.cell? ((⟨g0,0,none⟩:Addr).add j)=some u:=hown.cells (g:=g0) rfl;have e1:=run_append_grow (P:=P) w t ty e i z ht hi hz ⟨g0,0,none⟩ n cap xs hown.1 holds a m c news hl hnews (by omega) (by omega) (growslice_fits (by omega) hbytes);rw[e1]at hr;injection hr with hr1 hr2
 subst hr1 hr2;simp only[Value.ownBlock,Option.some.injEq]at hg';subst hg';have hh:(w.drew.alloc (.cells (xs.toArray++news.toArray++Builtin.zeroCells z.cells (grownCap w (n+m) cap e-(n+m))) e)).heap[w.heap.size]? =some (.cells (xs++news++(Builtin.zeroCells z.cells (grownCap w (n+m) cap e-(n+m))).toList).toArray e (0,0)):=by have:=heap_alloc_new w.drew (.cells (xs.toArray++news.toArray++Builtin.zeroCells z.cells (grownCap w (n+m) cap e-(n+m))) e);rw[show w.drew.heap.size=w.heap.size from rfl]at this;rw[this];congr 2;exact Array.ext' (by simp)
 refine⟨Or.inr (Nat.le_refl _),zQ hh fun u hu=>?_⟩;rcases List.mem_append.1 hu with q | q
 ·rcases List.mem_append.1 q with q | q
  ·rw[←htake]at q;exact old u (List.mem_of_mem_take q)
  exact hnu u q
 exact IU zn (by omega) _ u q
theorem aT {P:Program}{w:World}{o:Oper}{a:Act}{K:Act→World→Prop}{Q:Exit→Act→World→Prop}(s x:Operand)(t:TypeId)
  (ho:o.op= .call {callee:= .builtin .append,args:=#[s,x],argTypes:=#[t,t]})
  (base:Nat)(e:TypeId)(i:TypeInfo)(z:Value)(size bytes:Nat)(ht:P.underlying t=some (.slice e))(hi:P.info? e=some i)(hz:i.zero=some z)
  (hsize:i.size=size)(hby:i.bytes=bytes)(hzs:z.cells.size=size)(hsz:0<size)(zn:∀u∈z.cells.toList,Nu u)
  (v:Value)(n:Nat)(xs:List Value)(hs:a.eval s=v)(hown:Ow w base e size v n xs)
  (ad:Addr)(m c:Nat)(news:List Value)(hx:a.eval x= .slice (some ad) m c)(hl:news.length=m*size)(hnews:∀j u,news[j]? =some u→w.cell? (ad.add j)=some u) (h1:∀u∈news,u.oneCell'=true) (hnu:∀u∈news,Nu u)
  (h63:n+m≤maxLen) (hbytes:(n+m)*bytes≤140737488355328) (hbase:base≤w.heap.size)
  (h:∀v' w',Ow w' base e size v' (n+m) (xs++news)→w.grownBy w' v.ownBlock→(∀g,v'.ownBlock=some g→v.ownBlock=some g∨w.heap.size≤g)→K (a.put o.dst v') w'):o.wp P a w K Q:=by obtain⟨v',w',hr,h2,h3,h4⟩:=xu (P:=P) w base t o.type e i z size bytes ht hi hz hsize hby hzs hsz zn v n xs hown ad m c news hl hnews h1 hnu h63 hbytes hbase;unfold Oper.wp execOp;simp only[ho,resolve,invoke,builtin,Sem.run_bind,Sem.run_pure,Result.andThen_ok,List.map_toArray,List.map_cons,List.map_nil,hs,hx,hr];exact h v' w' h2 h3 h4
theorem kR {P:Program}{w:World}{ops:Array Oper}{rest:List Oper}{o:Oper}{a:Act}{Q:Exit→Act→World→Prop}(hgd:o.guard=none)(s x:Operand)(t:TypeId)
  (ho:o.op= .call {callee:= .builtin .append,args:=#[s,x],argTypes:=#[t,t]})
  (base:Nat)(e:TypeId)(i:TypeInfo)(z:Value)(size bytes:Nat)(ht:P.underlying t=some (.slice e))(hi:P.info? e=some i)(hz:i.zero=some z)
  (hsize:i.size=size)(hby:i.bytes=bytes)(hzs:z.cells.size=size)(hsz:0<size)(zn:∀u∈z.cells.toList,Nu u)
  (v:Value)(n:Nat)(xs:List Value)(hs:a.eval s=v)(hown:Ow w base e size v n xs)
  (ad:Addr)(m c:Nat)(news:List Value)(hx:a.eval x= .slice (some ad) m c)(hl:news.length=m*size)(hnews:∀j u,news[j]? =some u→w.cell? (ad.add j)=some u) (h1:∀u∈news,u.oneCell'=true) (hnu:∀u∈news,Nu u)
  (h63:n+m≤maxLen) (hbytes:(n+m)*bytes≤140737488355328) (hbase:base≤w.heap.size)
  (h:∀v' w',Ow w' base e size v' (n+m) (xs++news)→w.grownBy w' v.ownBlock→(∀g,v'.ownBlock=some g→v.ownBlock=some g∨w.heap.size≤g)→wpList P ops Q rest (a.put o.dst v') w'):wpList P ops Q (o::rest) a w:=
 wpList_plain hgd fun _ hK=>aT s x t ho base e i z size bytes ht hi hz hsize hby hzs hsz zn v n xs hs hown ad m c news hx hl hnews h1 hnu h63 hbytes hbase fun v' w' h2 h3 h4=>hK _ _ (h v' w' h2 h3 h4)
theorem qN {P:Program}{w:World}{o:Oper}{a:Act}{K:Act→World→Prop}{Q:Exit→Act→World→Prop}(l c:Operand)(t:TypeId)(hop:o.op=Op.makeSlice t l c)
  (base:Nat)(e:TypeId)(i:TypeInfo)(z:Value)(size:Nat)(h1:P.underlying t=some (.slice e))(h2:P.info? e=some i)(h3:i.zero=some z)(h4:i.size=size)
  (kl kc:IntKind)(L C:Int)(n:Nat)(hl:a.eval l= .int kl L)(hc:a.eval c= .int kc C)(hL:L=(n:Int))(hC:C=(n:Int))(b2:i.bytes*n≤281474976710656)(b3:n≤maxLen)(b4:base≤w.heap.size)
  (hK:∀w',w'.ownsRow base e size (.slice (some ⟨w.heap.size,0,none⟩) n n) n (madeCells z.cells (n*size)).toList→w.grownBy w' none→K (a.put o.dst (.slice (some ⟨w.heap.size,0,none⟩) n n)) w'):o.wp P a w K Q:=by obtain⟨w',hrun,r1,r2⟩:=run_make_full (P:=P) w base t e i z size h1 h2 h3 h4 kl kc n b2 b3 b4;subst hL;subst hC;unfold Oper.wp;simp[execOp,hop,hl,hc,hrun,Result.andThen];exact hK w' r1 r2
theorem uM {z:Array Value}{k sz v j:Nat}(hs:z.size=sz)(hj:j<sz)(hk:v<k):(madeCells z (k*sz)).toList[v*sz+j]? =z[j]?:=by
 have lt:v*sz+j<k*sz:=by have:=Nat.mul_le_mul_right sz (show v+1≤k by omega);rw[Nat.add_mul,Nat.one_mul]at this;omega
 subst hs;have e:(v*z.size+j)%z.size=j:=by rw[Nat.add_comm,Nat.add_mul_mod_self_right,Nat.mod_eq_of_lt hj]
 rw[Array.getElem?_toList];simp only[madeCells];rw[Array.getElem?_map,Array.getElem?_range];simp only[lt,if_true,Option.map_some];rw[e,getElem!_pos z j hj,getElem?_pos z j hj]
end Go.Proofs.YtijdglogadnbcaaGreat
namespace Go.Proofs.YtijdglogadnbcaaGreat
open Go.Proofs.Tryz
open Go.RowKit
theorem xw {P:Program}(w:World)(dT sT ty elem:TypeId)(g o dLen dCap:Nat)(a:Addr)(sLen sCap sz:Nat)(cur:Array Value)(t:TypeId)(cs:List Value)
  (hu:P.underlying dT=some (.slice elem))(hs:(P.info? elem).map (·.size)=some sz)
  (hg:w.heap[g]? =some (.cells cur t (0,0))) (hn:cs.length=Nat.min sLen dLen*sz)
  (hsrc:∀j v,cs[j]? =some v→w.cell? (a.add j)=some v) (hfit:o+cs.length≤cur.size) (h1:∀v∈cs,v.oneCell'=true):
  (Builtin.copy_ #[dT,sT] ty #[.slice (some ⟨g,o,none⟩) dLen dCap,.slice (some a) sLen sCap]).run P w=
   .ok (goInt (Nat.min sLen dLen)) (w.setRow g (cur.toList.take o++cs++cur.toList.drop (o+cs.length)).toArray):=by
 have hl:=run_loadCells_list (P:=P) w a cs hsrc;have hst:=run_storeCells_at P g o t cs 0 cur w hg (by simpa using hfit) h1
 cases hq:P.info? elem with
 | none=>simp[hq]at hs
 | some i=>
  have hi:i.size=sz:=by simpa[hq]using hs
  simp[Builtin.copy_,run_underlying hu,Builtin.lenOf,Builtin.firstCells,sizeOf,typeInfo,hq,hi,←hn,hl,hst]
theorem qO {P:Program}{ops:Array Oper}{o:Oper}{a:Act}{w:World}{K:Act→World→Prop}{Q:Exit→Act→World→Prop}(d s:Operand)(dT sT:TypeId)
  (ho:o.op= .call {callee:= .builtin .copy,args:=#[d,s],argTypes:=#[dT,sT]})(elem:TypeId)(sz:Nat)(hu:P.underlying dT=some (.slice elem))(hsz:(P.info? elem).map (·.size)=some sz)
  (g off dLen dCap:Nat)(ad:Addr)(sLen sCap m:Nat)(hd:a.eval d= .slice (some ⟨g,off,none⟩) dLen dCap)(hs:a.eval s= .slice (some ad) sLen sCap)(hm:Nat.min sLen dLen=m)
  (cur:List Value)(t:TypeId)(hg:w.heap[g]? =some (.cells cur.toArray t (0,0))) (cs:List Value) (hn:cs.length=m*sz)
  (hsrc:∀j v,cs[j]? =some v→w.cell? (ad.add j)=some v) (hfit:off+cs.length≤cur.length) (h1:∀v∈cs,v.oneCell'=true) (B:Nat) (w0:World) (hb:Below B w0 w) (hBg:B≤g)
  (h:∀w',Hid (w'.heap[g]? =some (.cells (splice cur off cs).toArray t (0,0)))→Below B w0 w'→w'.heap.size=w.heap.size→K (a.put o.dst (goInt m)) w'):Oper.wp P o a w K Q:=by subst hm;have hrun:=xw (P:=P) w dT sT o.type elem g off dLen dCap ad sLen sCap sz cur.toArray t cs hu hsz hg hn hsrc (by simpa using hfit) h1;unfold Oper.wp;simp[execOp,ho,resolve,invoke,builtin,hd,hs,hrun,Result.andThen];exact h _ (show _=_ by simpa[splice]using setRow_heap w g _ _ t _ hg) (below_setRow hb hBg _) (by simp[World.setRow])
theorem kW {P:Program}{ops:Array Oper}{rest:List Oper}{o:Oper}{a:Act}{w:World}{Q:Exit→Act→World→Prop}(hgd:o.guard=none)(d s:Operand)(dT sT:TypeId)
  (ho:o.op= .call {callee:= .builtin .copy,args:=#[d,s],argTypes:=#[dT,sT]})(elem:TypeId)(sz:Nat)(hu:P.underlying dT=some (.slice elem))(hsz:(P.info? elem).map (·.size)=some sz)
  (g off dLen dCap:Nat)(ad:Addr)(sLen sCap m:Nat)(hd:a.eval d= .slice (some ⟨g,off,none⟩) dLen dCap)(hs:a.eval s= .slice (some ad) sLen sCap)(hm:Nat.min sLen dLen=m)
  (cur:List Value)(t:TypeId)(hg:w.heap[g]? =some (.cells cur.toArray t (0,0))) (cs:List Value) (hn:cs.length=m*sz)
  (hsrc:∀j v,cs[j]? =some v→w.cell? (ad.add j)=some v) (hfit:off+cs.length≤cur.length) (h1:∀v∈cs,v.oneCell'=true) (B:Nat) (w0:World) (hb:Below B w0 w) (hBg:B≤g)
  (h:∀w',Hid (w'.heap[g]? =some (.cells (splice cur off cs).toArray t (0,0)))→Below B w0 w'→w'.heap.size=w.heap.size→wpList P ops Q rest (a.put o.dst (goInt m)) w'):wpList P ops Q (o::rest) a w:=
 wpList_plain hgd fun _ hK=>qO (ops:=ops) d s dT sT ho elem sz hu hsz g off dLen dCap ad sLen sCap m hd hs hm cur t hg cs hn hsrc hfit h1 B w0 hb hBg fun w' h1 h2 h3=>hK _ _ (h w' h1 h2 h3)
theorem ni {P:Program}{ops:Array Oper}{o:Oper}{a:Act}{w:World}{K:Act→World→Prop}{Q:Exit→Act→World→Prop}{E:Prop}(hgd:o.guard=none)(d s:Operand)(dT sT:TypeId)
  (ho:o.op= .call {callee:= .builtin .copy,args:=#[d,s],argTypes:=#[dT,sT]})(elem:TypeId)(sz:Nat)(hu:P.underlying dT=some (.slice elem))(hsz:(P.info? elem).map (·.size)=some sz)
  (g off dLen dCap:Nat)(ad:Addr)(sLen sCap m:Nat)(hd:a.eval d= .slice (some ⟨g,off,none⟩) dLen dCap)(hs:a.eval s= .slice (some ad) sLen sCap)(hm:Nat.min sLen dLen=m)
  (cur:List Value)(t:TypeId)(hg:w.heap[g]? =some (.cells cur.toArray t (0,0))) (cs:List Value) (hn:cs.length=m*sz)
  (hsrc:∀j v,cs[j]? =some v→w.cell? (ad.add j)=some v) (hfit:off+cs.length≤cur.length) (h1:∀v∈cs,v.oneCell'=true) (B:Nat) (w0:World) (hb:Below B w0 w) (hBg:B≤g)
  (h:∀w',Hid (w'.heap[g]? =some (.cells (splice cur off cs).toArray t (0,0)))→Below B w0 w'→w'.heap.size=w.heap.size→K (a.put o.dst (goInt m)) w'):
  if Region.wanted o (yielded ops a.tmps)=true then Oper.wp P o a w K Q else E:=by
 have hw:Region.wanted o (yielded ops a.tmps)=true:=by simp[Region.wanted,hgd]
 rw[if_pos hw];exact qO (ops:=ops) d s dT sT ho elem sz hu hsz g off dLen dCap ad sLen sCap m hd hs hm cur t hg cs hn hsrc hfit h1 B w0 hb hBg h
def flat (cs:List Value):Nat→List Value
 | 0=>[]
 | n+1=>flat cs n++cs
theorem dJ (cs:List Value):∀n,(flat cs n).length=n*cs.length
 | 0=>by simp[flat]
 | n+1=>by show(flat cs n++cs).length=_;rw[List.length_append,dJ cs n,Nat.add_mul,Nat.one_mul]
theorem nC (cs:List Value)(a:Nat):∀b,flat cs (a+b)=flat cs a++flat cs b
 | 0=>by simp[flat]
 | b+1=>by show flat cs (a+b)++cs=flat cs a++(flat cs b++cs);rw[nC cs a b,List.append_assoc]
theorem JX (cs:List Value){a n:Nat}(h:a≤n):(flat cs n).take (a*cs.length)=flat cs a:=by obtain⟨b,rfl⟩:∃b,n=a+b:=⟨n-a,by omega⟩;rw[nC,←dJ,List.take_left'];rfl
theorem flat_get (cs:List Value){v n j:Nat}(hv:v<n)(hj:j<cs.length):(flat cs n)[v*cs.length+j]? =cs[j]?:=by obtain⟨b,rfl⟩:∃b,n=v+(1+b):=⟨n-v-1,by omega⟩;rw[nC,nC,List.getElem?_append_right (by rw[dJ];omega),dJ,Nat.add_sub_cancel_left,List.getElem?_append_left (by simpa[flat]using hj)];simp[flat]
theorem nD (cs:List Value)(h:∀v∈cs,v.oneCell'=true):∀n,∀v∈flat cs n,v.oneCell'=true
 | 0,v,hv=>by simp[flat]at hv
 | n+1,v,hv=>by
  have hv:v∈flat cs n++cs:=hv;rcases List.mem_append.1 hv with k | k
  ·exact nD cs h n v k
  exact h v k
def Laid (w:World)(g ty:Nat)(cs:List Value)(N k:Nat):Prop:=∃cur:List Value,w.heap[g]? =some (.cells cur.toArray ty (0,0))∧cur.length=N*cs.length∧cur.take (k*cs.length)=flat cs k
theorem Laid.cell {w:World}{g ty:Nat}{cs:List Value}{N k:Nat}(h:Laid w g ty cs N k){v j:Nat}(hv:v<k)(hj:j<cs.length):w.cell? ⟨g,v*cs.length+j,none⟩=cs[j]?:=by
 obtain⟨cur,hg,hl,ht⟩:=h;rw[cell_of_row w g _ _ _ _ hg];have e:=flat_get cs hv hj;rw[←ht,List.getElem?_take]at e;split at e
 ·rw[List.getElem?_toArray];exact e
 rename_i q;exfalso;apply q;have:(v+1)*cs.length≤k*cs.length:=Nat.mul_le_mul_right _ hv;rw[Nat.add_mul,Nat.one_mul]at this;omega
theorem Laid.blk {w:World}{g ty:Nat}{cs:List Value}{N k:Nat}(h:Laid w g ty cs N k):dh w g ty:=by obtain⟨cur,hg,_⟩:=h;exact⟨_,hg⟩
theorem Laid.later {b:Nat}{w w':World}{g ty:Nat}{cs:List Value}{N k:Nat}(h:Laid w g ty cs N k)(hb:Below b w w')(hg:g<b):Laid w' g ty cs N k:=by obtain⟨cur,e,r⟩:=h;exact⟨cur,(hb.block g hg).trans e,r⟩
theorem nV {cur cs:List Value}{N k m:Nat}(hl:cur.length=N*cs.length)(ht:cur.take (k*cs.length)=flat cs k)(hkm:k+m≤N):(splice cur (k*cs.length) (flat cs m)).length=N*cs.length∧(splice cur (k*cs.length) (flat cs m)).take ((k+m)*cs.length)=flat cs (k+m):=by
 have le:k*cs.length+m*cs.length≤N*cs.length:=by rw[←Nat.add_mul];exact Nat.mul_le_mul_right _ hkm
 have fit:k*cs.length+(flat cs m).length≤cur.length:=by rw[dJ,hl];exact le
 refine⟨(length_splice _ _ _ fit).trans hl,?_⟩;unfold splice;rw[ht,←List.append_assoc,←nC,←dJ cs (k+m),List.take_left'];rfl
theorem Laid.src {w:World}{g ty:Nat}{cs:List Value}{N k m:Nat}(h:Laid w g ty cs N k)(hm:m≤k):∀j v,(flat cs m)[j]? =some v→w.cell? ((⟨g,0,none⟩:Addr).add j)=some v:=by
 intro j v hv;have hadd:(⟨g,0,none⟩:Addr).add j=⟨g,j,none⟩:=by unfold Addr.add;split<;>simp_all
 obtain⟨cur,hg,hl,ht⟩:=h;rw[hadd,cell_of_row w g _ _ _ _ hg,List.getElem?_toArray];have hlt:j<m*cs.length:=by have:=(List.getElem?_eq_some_iff.1 hv).1;rwa[dJ]at this
 have:m*cs.length≤k*cs.length:=Nat.mul_le_mul_right _ hm;rw[←JX cs hm,List.getElem?_take,if_pos hlt,←ht,List.getElem?_take,if_pos (by omega)]at hv;exact hv
end Go.Proofs.YtijdglogadnbcaaGreat
