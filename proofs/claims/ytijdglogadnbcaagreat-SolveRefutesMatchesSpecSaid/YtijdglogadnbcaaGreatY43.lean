/- The reference's LinesOf. -/
import Derived.Test.YtijdglogadnbcaaGreatY42
set_option linter.unusedVariables false
set_option linter.unusedSimpArgs false
set_option maxRecDepth 100000
set_option maxHeartbeats 40000000
namespace Go.Proofs.YtijdglogadnbcaaGreat
open Go.Proofs.Tryz
open Go.RowKit Nt Bl
theorem Yz:(prog.info? 80).map (fun i=>(i.zero,i.size,i.bytes))=some (some (.agg #[.slice none 0 0,.int .i64 0,.bool false,.slice none 0 0,.slice none 0 0]),5,88):=by kernel_rfl
def Z9 (R:Rw)(n:Nat)(a:Option Addr)(c:Nat)(N:Nw):List Value:=[.slice a n c,.int .i64 R.rel,.bool N.s,.slice N.a N.n N.c,.slice N.b N.m N.d]
structure Ah (w:World)(k:Nat)(R:Rw)(n:Nat)(a:Option Addr)(c:Nat)(N:Nw):Prop where
 gU:nI w k (.slice a n c) (FT R.l n)
 bd:HN w k (bF R.B) N
theorem Ah.below {w w':World}{k:Nat}{R:Rw}{n:Nat}{a:Option Addr}{c:Nat}{N:Nw}(h:Ah w k R n a c N)(hb:Below w.heap.size w w'):Ah w' k R n a c N:=⟨h.gU.below hb,h.bd.below hb⟩
theorem Ah.mono {w:World}{k j:Nat}{R:Rw}{n:Nat}{a:Option Addr}{c:Nat}{N:Nw}(h:Ah w k R n a c N)(hj:j≤k):Ah w j R n a c N:=⟨h.gU.mono hj,h.bd.mono hj⟩
theorem Ah.jm {w w':World}{k g ty:Nat}{R:Rw}{n:Nat}{a:Option Addr}{c:Nat}{N:Nw}(h:Ah w k R n a c N)(hb:dh w g ty)(h78:ty≠78)(h3:ty≠3)(hw:w.grownBy w' (some g)):Ah w' k R n a c N:=
 ⟨h.gU.jm hb h78 h3 hw,h.bd.keep fun b hb3=>hw.block b hb3.lt fun e=>by injection e with e;exact hb.ne (e▸hb3) h3 rfl⟩
theorem Ah.row {w w':World}{k b e sz m:Nat}{v:Value}{xs:List Value}{R:Rw}{n:Nat}{a:Option Addr}{c:Nat}{N:Nw}(h:Ah w k R n a c N)(o:w.ownsRow b e sz v m xs)(h78:e≠78)(h3:e≠3)(hw:w.grownBy w' v.ownBlock):Ah w' k R n a c N:=by
 cases q:v.ownBlock with
 | none=>rw[q]at hw;exact h.below ⟨hw.os,hw.tape,hw.output,hw.size,fun b hb=>hw.block b hb (by simp)⟩
 | some g=>rw[q]at hw;exact h.jm (yT o q) h78 h3 hw
def Np (w:World)(k n:Nat)(l:List Rw)(vs:List Value):Prop:=vs.length=l.length*5∧∀i,i<l.length→∃a c N,(∀j,j<5→vs[i*5+j]? =(Z9 (aX l i) n a c N)[j]?)∧Ah w k (aX l i) n a c N
theorem Np.nil (w:World)(k n:Nat):Np w k n [] []:=⟨rfl,fun i hi=>absurd hi (Nat.not_lt_zero _)⟩
theorem Np.map {w w':World}{k n:Nat}{l:List Rw}{vs:List Value}(h:Np w k n l vs)(f:∀R a c N,Ah w k R n a c N→Ah w' k R n a c N):Np w' k n l vs:=
 ⟨h.1,fun i hi=>by obtain⟨a,c,N,p,q⟩:=h.2 i hi;exact⟨a,c,N,p,f _ _ _ _ q⟩⟩
theorem Np.push {w:World}{k n:Nat}{l:List Rw}{vs:List Value}{R:Rw}{a:Option Addr}{c:Nat}{N:Nw}(h:Np w k n l vs)(r:Ah w k R n a c N):Np w k n (l++[R]) (vs++Z9 R n a c N):=by
 refine⟨by simp[h.1,Z9];omega,fun i hi=>?_⟩;rw[List.length_append,List.length_singleton]at hi;by_cases e:i<l.length
 ·obtain⟨a',c',N',p,q⟩:=h.2 i e;rw[sN e];refine⟨a',c',N',fun k hk=>?_,q⟩;rw[List.getElem?_append_left (by rw[h.1];omega)];exact p k hk
 obtain rfl:i=l.length:=by omega
 rw[xR];refine⟨a,c,N,fun k hk=>?_,r⟩;rw[List.getElem?_append_right (by rw[h.1];omega),h.1,Nat.add_sub_cancel_left]
def KO (w:World)(k n:Nat)(v:Value)(l:List Rw):Prop:=∃xs,w.ownsRow k 80 5 v l.length xs∧Np w k n l xs
theorem KO.below {w w':World}{k n:Nat}{v:Value}{l:List Rw}(h:KO w k n v l)(hb:Below w.heap.size w w'):KO w' k n v l:=by obtain⟨xs,o,r⟩:=h;exact⟨xs,own_below o hb,r.map fun _ _ _ _ q=>q.below hb⟩
theorem KO.push {w w1:World}{k n:Nat}{v v':Value}{l:List Rw}{R:Rw}{a:Option Addr}{c:Nat}{N:Nw}{xs:List Value}(o:w.ownsRow k 80 5 v l.length xs)(r:Np w k n l xs)(hN:Ah w k R n a c N)(o':w1.ownsRow k 80 5 v' (l.length+1) (xs++Z9 R n a c N))(hw:w.grownBy w1 v.ownBlock):KO w1 k n v' (l++[R]):=
 ⟨xs++Z9 R n a c N,by rw[List.length_append];exact o',(r.push hN).map fun _ _ _ _ q=>q.row o (by decide) (by decide) hw⟩
def LsL (w:World)(l:List Rw)(n:Nat)(v5 v6:Value)(wr:World):Prop:=
 ∃i:Nat,i≤l.length∧v6= .int .i64 (i:Int)∧KO wr w.heap.size n v5 (l.take i)∧Below w.heap.size w wr
def Ny (w:World)(l:List Rw)(n:Nat)(e:Ending)(w':World):Prop:=∃v,e= .returned v∧KO w' w.heap.size n v l∧Below w.heap.size w w'
theorem lines_any {w:World}{l:List Rw}{ra:Option Addr}{k cc n:Nat}(h:lT w l ra)(hk:l.length=k)(hc:k≤cc)(hc2:cc≤9223372036854775807)(hs:k≤1048576)(hn:n≤24)(hv:∀i,i<l.length→(∀j,j<(aX l i).l.length→0≤(cf (aX l i).l j).var∧aP (cf (aX l i).l j).gU=0)∧aP (aX l i).B=0):
  Calls prog 28 #[.slice ra k cc,.int .i64 (n:Int)] w (Ny w l n):=by
 have H0:=hid h;have HK:=hid hk;have HV:=hid hv;obtain⟨Q,hQ⟩:∃Q:Ending→World→Prop,Q=Ny w l n:=⟨_,rfl⟩;rw[←hQ];have HQ:=hid hQ;obtain⟨i80,abY,aap,aaq,aar⟩:=info_parts Yz;clear h hk hv hQ;go_enter func28,ntmps28;go_wp2_with fail;go_loopw [5,6] (fun v5 v6 wr=>LsL w l n v5 v6 wr) (fun _ v _=>k-(intOf v).toNat)
 case atStart=>exact⟨0,Nat.zero_le _,rfl,⟨[],World.ownsRow_nil _ _ _ _,Np.nil w _ n⟩,Below.refl _ _⟩
 obtain⟨i,hi,rfl,hO,hB⟩:=hrel;have O5:=hid hO;have BI:=hid hB;rw[HK.out]at hi;clear hO hB;by_cases hlt:i<k
 ·obtain⟨g,o,ca,nc,N,rfl,q5,p0,p1,p2,p3,p4⟩:=H0.out.row (i:=i) (by rw[HK.out];exact hlt);have p0:=aj BI.out p0;have p1:=aj BI.out p1;have p2:=aj BI.out p2;have p3:=aj BI.out p3;have p4:=aj BI.out p4;obtain⟨hvl,hvb⟩:=HV.out i (by rw[HK.out];exact hlt);have TN:=hid (Jw (l:=l) (i:=i) (by rw[HK.out];exact hlt));have LT:(l.take i).length=i:=by rw[List.length_take,HK.out];omega
  have Bd:=hid (q5.below BI.out);clear q5;obtain⟨R,hRR⟩:∃R,aX l i=R:=⟨_,rfl⟩;rw[hRR]at p0 p1 p2 Bd TN hvl hvb;clear hRR;have i0:(0:Int)≤(i:Int):=by omega
  have i1:(i:Int)<(k:Int):=by omega
  have C:=hid (Nl (n:=n) (rel:=R.rel) Bd.out.co Bd.out.bd rfl Bd.out.le Bd.out.cap hn hvl hvb);clear hvl hvb;go_wp2_with (first
   | (go_at_call 36;refine C.out.mono ?_;rintro e w2 ⟨a2,c2,N2,rfl,hr,hb,hB2⟩;have L2:=hid (Ah.mono (R:=R) (N:=N2) (a:=a2) (c:=c2) ⟨hr,hb⟩ BI.out.size);have B2:=hid (aB BI.out hB2);have O2:=hid (O5.out.below hB2);clear hr hb hB2 p0 p1 p2 p3 p4 C O5;obtain⟨xs,ho,Nk⟩:=O2.out;have qX:=hid (ah w2 (.cells #[.slice a2 n c2,.int .i64 R.rel,.bool N2.s,.slice N2.a N2.n N2.c,.slice N2.b N2.m N2.d] 80));have FG:Hid ((w2.alloc (.cells #[.slice a2 n c2,.int .i64 R.rel,.bool N2.s,.slice N2.a N2.n N2.c,.slice N2.b N2.m N2.d] 80)).heap[w2.heap.size]? =some (.cells #[.slice a2 n c2,.int .i64 R.rel,.bool N2.s,.slice N2.a N2.n N2.c,.slice N2.b N2.m N2.d] 80 (0,0))):=heap_alloc_new _ _;have OA:=hid (World.ownsRow.alloc ho (.cells #[.slice a2 n c2,.int .i64 R.rel,.bool N2.s,.slice N2.a N2.n N2.c,.slice N2.b N2.m N2.d] 80));have RV:=hid (Nk.map fun _ _ _ _ q=>q.below qX.out);have HA:=hid (L2.out.below qX.out);clear ho Nk)
   | (at_builtin;refine wpList_append_own _ rfl _ _ 61 rfl w.heap.size 80 i80 _ 5 88 underlying61 abY aap aaq aar rfl (by omega) _ (l.take i).length xs rfl OA.out ⟨w2.heap.size,0,none⟩ 1 1 [.slice a2 n c2,.int .i64 R.rel,.bool N2.s,.slice N2.a N2.n N2.c,.slice N2.b N2.m N2.d] rfl rfl (World.news_of_block FG.out) (by intro u hu;simp at hu;rcases hu with rfl | rfl | rfl | rfl | rfl<;>rfl) (by rw[LT];unfold maxLen;omega) (by rw[LT];omega) (Nat.le_trans B2.out.size (ah w2 _).size) ?_;intro v5 w5 Af hg5 MI;have B5:=hid (fH (aB B2.out qX.out) OA.out (Nat.le_trans B2.out.size qX.out.size) hg5);have O6:=hid (KO.push (R:=R) (N:=N2) OA.out RV.out HA.out Af hg5);clear Af hg5 MI))
  go_roundw
  case rel=>exact⟨i+1,by rw[HK.out];omega,by go_num,by rw[TN.out];exact O6.out,B5.out⟩
  simp[intOf];omega
 obtain rfl:k=i:=by omega
 go_wp2_with fail;rw[HQ.out];have:=O5.out;rw[List.take_of_length_le (by rw[HK.out];exact Nat.le_refl _)]at this;exact⟨_,rfl,this,BI.out⟩
structure Kp (w w':World):Prop where
 l:∀b o x,w.cell? ⟨b,o,none⟩=some (.int .i64 x)→w'.cell? ⟨b,o,none⟩=some (.int .i64 x)
 b:∀g ty,dh w g ty→dh w' g ty
theorem Kp.of_below {w w':World}(hb:Below w.heap.size w w'):Kp w w':=⟨fun _ _ _ h=>aj hb h,fun g _ h=>h.keep (hb.block g h.lt)⟩
theorem HAt.kp {w w':World}{l:List Nat}{a:Option Addr}{n c:Nat}(h:HAt w l a n c)(hl:Kp w w'):HAt w' l a n c:=by refine⟨fun hne=>?_,h.len,h.le,h.cap,h.lm⟩;obtain⟨b,o,e,d⟩:=h.at_ hne;exact⟨b,o,e,fun i hi=>hl.l _ _ _ (d i hi)⟩
theorem NF.kp {w w':World}{F:Nat→Prop}{a:Option Addr}(h:NF w F a)(hl:Kp w w'):NF w' F a:=fun ad e=>⟨(h ad e).1,hl.b _ _ (h ad e).2⟩
def HX (w:World)(F:Nat→Prop)(q:Rat)(N:Nw):Prop:=oZ w F q N.s N.a N.n N.c N.b N.m N.d
theorem HX.kp {w w':World}{F:Nat→Prop}{q:Rat}{N:Nw}(h:HX w F q N)(hl:Kp w w'):HX w' F q N:=⟨⟨h.sg,h.num.kp hl,h.den.kp hl⟩,NF.kp h.na hl,NF.kp h.nb hl⟩
theorem HX.below {w w':World}{F:Nat→Prop}{q:Rat}{N:Nw}(h:HX w F q N)(hb:Below w.heap.size w w'):HX w' F q N:=h.kp (Kp.of_below hb)
def All (_:Nat):Prop:=True
theorem HN.hx {w:World}{k:Nat}{q:Rat}{N:Nw}(h:HN w k q N){F:Nat→Prop}(hF:Ab F k):HX w F q N:=⟨h.hr,h.na.nf hF,h.nb.nf hF⟩
def NmC (w:World)(F:Nat→Prop)(g o:Nat)(q:Rat):Prop:=∃N:Nw,w.cell? ⟨g,o,none⟩=some (.bool N.s)∧w.cell? ⟨g,o+1,none⟩=some (.slice N.a N.n N.c)∧w.cell? ⟨g,o+2,none⟩=some (.slice N.b N.m N.d)∧HX w F q N
theorem NmC.keep {w w':World}{F:Nat→Prop}{g o:Nat}{q:Rat}(h:NmC w F g o q)(hc:∀j,j<3→w'.cell? ⟨g,o+j,none⟩=w.cell? ⟨g,o+j,none⟩)(hl:Kp w w'):NmC w' F g o q:=by obtain⟨N,a,b,c,d⟩:=h;exact⟨N,(hc 0 (by omega)).trans a,(hc 1 (by omega)).trans b,(hc 2 (by omega)).trans c,d.kp hl⟩
theorem Wr.kp {w w':World}{g o:Nat}{vs:List Value}(h:Wr w w' g o vs)(old:∀j x,j<vs.length→w.cell? ⟨g,o+j,none⟩≠some (.int .i64 x)):Kp w w':=by
 refine⟨fun b i x e=>?_,h.blk⟩;by_cases hb:b=g
 ·subst hb;by_cases hi:i<o∨o+vs.length≤i
  ·rw[h.rest i hi];exact e
  obtain⟨j,rfl⟩:∃j,i=o+j:=⟨i-o,by omega⟩;exact absurd e (old j x (by omega))
 rw[World.cell?_of_block (h.jm b hb)];exact e
structure Yd (w:World)(F:Nat→Prop)(g n:Nat)(f:Nat→Rat):Prop where
 blk:dh w g 78
 at_:∀k,k<n→NmC w F g (k*3) (f k)
theorem Yd.keep {w w':World}{F:Nat→Prop}{g n:Nat}{f:Nat→Rat}(h:Yd w F g n f)(e:w'.heap[g]? =w.heap[g]?) (hl:Kp w w'):Yd w' F g n f:=
 ⟨hl.b _ _ h.blk,fun v hv=>(h.at_ v hv).keep (fun j _=>aN e _) hl⟩
theorem Yd.below {w w':World}{F:Nat→Prop}{g n:Nat}{f:Nat→Rat}(h:Yd w F g n f)(hb:Below w.heap.size w w'):Yd w' F g n f:=h.keep (hb.block g h.blk.lt) (Kp.of_below hb)
def Z7 (w:World)(F:Nat→Prop)(v:Value)(n:Nat)(f:Nat→Rat):Prop:=∃a c,v= .slice a n c∧n≤c∧c≤9223372036854775807∧(0<n→∃g,a=some ⟨g,0,none⟩∧Yd w F g n f)
theorem Z7.below {w w':World}{F:Nat→Prop}{v:Value}{n:Nat}{f:Nat→Rat}(h:Z7 w F v n f)(hb:Below w.heap.size w w'):Z7 w' F v n f:=by obtain⟨a,c,e,h1,h2,h3⟩:=h;exact⟨a,c,e,h1,h2,fun p=>by obtain⟨g,q,r⟩:=h3 p;exact⟨g,q,r.below hb⟩⟩
theorem Am {w:World}{b e sz n i:Nat}{v u:Value}{xs:List Value}(h:w.ownsRow b e sz v n xs)(hi:xs[i]? =some u):∃g c,v= .slice (some ⟨g,0,none⟩) n c∧n≤c∧c≤9223372036854775807∧dh w g e∧b≤g∧∀j x,xs[j]? =some x→w.cell? ⟨g,j,none⟩=some x:=by
 rcases h.2 with⟨rfl,h0⟩ | ⟨g,cap,cur,rfl,hb,hg,hc,hm,_,ht⟩
 ·have:=h.1;subst h0;have:xs=[]:=List.length_eq_zero_iff.1 (by omega);subst this;simp at hi
 refine⟨g,cap,rfl,hc,by unfold maxLen at hm;omega,⟨_,hg⟩,hb,fun j x hx=>?_⟩;have:=h.cells (g:=g) rfl j _ hx;rw[Addr.add_lit]at this;rw[Nat.zero_add]at this;exact this
def RO (w:World)(k:Nat)(F:Nat→Prop)(v:Value)(n:Nat)(f:Nat→Rat):Prop:=∃xs,w.ownsRow k 78 3 v n xs∧∀i,i<n→∃N,(∀j,j<3→xs[i*3+j]? =N.cs[j]?)∧HX w F (f i) N
theorem xJ {w:World}{b e sz n:Nat}{v:Value}{xs:List Value}(h:w.ownsRow b e sz v n xs):∃a c,v= .slice a n c∧n≤c∧c≤9223372036854775807:=by
 rcases h.2 with⟨rfl,h0⟩ | ⟨g,cap,cur,rfl,hb,hg,hc,hm,_⟩
 ·subst h0;exact⟨none,0,rfl,Nat.le_refl _,by omega⟩
 exact⟨_,cap,rfl,hc,by unfold maxLen at hm;omega⟩
theorem RO.rsa {w:World}{k:Nat}{F:Nat→Prop}{v:Value}{n:Nat}{f:Nat→Rat}(h:RO w k F v n f):Z7 w F v n f:=by
 obtain⟨xs,o,r⟩:=h;obtain⟨a,c,rfl,h1,h2⟩:=xJ o;refine⟨a,c,rfl,h1,h2,fun p=>?_⟩;obtain⟨N,q,_⟩:=r 0 p;obtain⟨g,c',e,_,_,hb,_,hr⟩:=Am (i:=0) o (u:= .bool N.s) (by have:=q 0 (by omega);simpa[Nw.cs]using this);injection e with e1 e2 e3
 subst e1;refine⟨g,rfl,hb,fun i hi=>?_⟩;obtain⟨N,q,x⟩:=r i hi;exact⟨N,hr _ _ (q 0 (by omega)),hr _ _ (q 1 (by omega)),hr _ _ (q 2 (by omega)),x⟩
theorem nI.ro {w:World}{k:Nat}{v:Value}{l:List Rat}(h:nI w k v l){F:Nat→Prop}(hF:Ab F k):RO w k F v l.length (fun i=>l.getD i 0):=by obtain⟨xs,o,r⟩:=h.ex;exact⟨xs,o,fun i hi=>by obtain⟨N,a,b⟩:=r.2 i hi;exact⟨N,a,b.hx hF⟩⟩
structure LnC (w:World)(F:Nat→Prop)(n g o:Nat)(L:Ln):Prop where
 ex:∃vb N,w.cell? ⟨g,o,none⟩=some vb∧w.cell? ⟨g,o+1,none⟩=some (.int .i64 L.rel)∧w.cell? ⟨g,o+2,none⟩=some (.bool N.s)∧w.cell? ⟨g,o+3,none⟩=some (.slice N.a N.n N.c)∧w.cell? ⟨g,o+4,none⟩=some (.slice N.b N.m N.d)∧Z7 w F vb n L.co∧HX w F L.bd N
def LsA (w:World)(F:Nat→Prop)(n:Nat)(v:Value)(k:Nat)(L:Nat→Ln):Prop:=∃a c,v= .slice a k c∧k≤c∧c≤9223372036854775807∧(0<k→∃g,a=some ⟨g,0,none⟩∧dh w g 80∧∀i,i<k→LnC w F n g (i*5) (L i))
def Gx (n:Nat)(R:Rw):Ln:=⟨fun j=>(FT R.l n).getD j 0,R.rel,bF R.B⟩
theorem KO.lsa {w:World}{k n:Nat}{v:Value}{l:List Rw}(h:KO w k n v l){F:Nat→Prop}(hF:Ab F k):LsA w F n v l.length fun i=>Gx n (aX l i):=by
 obtain⟨xs,o,r⟩:=h;obtain⟨a,c,rfl,h1,h2⟩:=xJ o;refine⟨a,c,rfl,h1,h2,fun p=>?_⟩;obtain⟨a0,c0,N0,q,_⟩:=r.2 0 p;obtain⟨g,c',e,_,_,hb,_,hr⟩:=Am (i:=0) o (u:= .slice a0 n c0) (by have:=q 0 (by omega);simpa[Z9]using this);injection e with e1 e2 e3
 subst e1;refine⟨g,rfl,hb,fun i hi=>?_⟩;obtain⟨a1,c1,N,q,x⟩:=r.2 i hi;have rs:=(x.gU.ro hF).rsa;rw[Ej]at rs;exact⟨⟨.slice a1 n c1,N,hr _ _ (q 0 (by omega)),hr _ _ (q 1 (by omega)),hr _ _ (q 2 (by omega)),hr _ _ (q 3 (by omega)),hr _ _ (q 4 (by omega)),rs,x.bd.hx hF⟩⟩
def Zs (q:Rat)(k:Nat):Prop:=(Nh.aC q.num.natAbs).length≤k∧(Nh.aC q.den).length≤k
structure um (w:World)(F:Nat→Prop)(g n k:Nat)(f:Nat→Rat):Prop where
 blk:dh w g 78
 at_:∀i,i<n→∃N:Nw,w.cell? ⟨g,i*3,none⟩=some (.bool N.s)∧w.cell? ⟨g,i*3+1,none⟩=some (.slice N.a N.n N.c)∧w.cell? ⟨g,i*3+2,none⟩=some (.slice N.b N.m N.d)∧(i<k→HX w F (f i) N)
theorem um.keep {w w':World}{F:Nat→Prop}{g n k:Nat}{f:Nat→Rat}(h:um w F g n k f)(e:w'.heap[g]? =w.heap[g]?) (hl:Kp w w'):um w' F g n k f:=
 ⟨hl.b _ _ h.blk,fun i hi=>by obtain⟨N,a,b,c,d⟩:=h.at_ i hi;exact⟨N,(aN e _).trans a,(aN e _).trans b,(aN e _).trans c,fun q=>(d q).kp hl⟩⟩
theorem um.below {w w':World}{F:Nat→Prop}{g n k:Nat}{f:Nat→Rat}(h:um w F g n k f)(hb:Below w.heap.size w w'):um w' F g n k f:=h.keep (hb.block g h.blk.lt) (Kp.of_below hb)
theorem um.wr {w:World}{F:Nat→Prop}{g n k i:Nat}{f:Nat→Rat}(h:um w F g n k f)(hi:i<n)(M:Nw):Wr w (w.setCells g (i*3) M.cs) g (i*3) M.cs:=by
 obtain⟨N,a0,a1,a2,_⟩:=h.at_ i hi;refine dY w g _ _ fun j hj=>?_;have hj:j<3:=by simpa[Nw.cs]using hj
 rcases j with _ | _ | _ | j
 ·rw[Nat.add_zero,a0];rfl
 ·rw[show i*3+(0+1)=i*3+1 from rfl,a1];rfl
 ·rw[show i*3+(0+1+1)=i*3+2 from rfl,a2];rfl
 omega
theorem um.kp {w w':World}{F:Nat→Prop}{g n k i:Nat}{f:Nat→Rat}{M:Nw}(h:um w F g n k f)(hi:i<n)(hw:Wr w w' g (i*3) M.cs):Kp w w':=
 hw.kp fun j x hj=>by
  obtain⟨N,a0,a1,a2,_⟩:=h.at_ i hi;have hj:j<3:=by simpa[Nw.cs]using hj
  rcases j with _ | _ | _ | j
  ·rw[Nat.add_zero,a0];simp
  ·rw[show i*3+(0+1)=i*3+1 from rfl,a1];simp
  ·rw[show i*3+(0+1+1)=i*3+2 from rfl,a2];simp
  omega
theorem um.set {w w':World}{F:Nat→Prop}{g n k i:Nat}{f f':Nat→Rat}{M:Nw}{k':Nat}(h:um w F g n k f)(hi:i<n)(hw:Wr w w' g (i*3) M.cs)(hm:HX w F (f' i) M)(hf:∀j,j<k'→j≠i→j<k∧f j=f' j):um w' F g n k' f':=by
 have hl:=h.kp hi hw;refine⟨hw.blk _ _ h.blk,fun j hj=>?_⟩;by_cases e:j=i
 ·subst e;exact⟨M,hw.new 0 (by simp[Nw.cs]),hw.new 1 (by simp[Nw.cs]),hw.new 2 (by simp[Nw.cs]),fun _=>hm.kp hl⟩
 obtain⟨N,a,b,c,d⟩:=h.at_ j hj;refine⟨N,(hw.rest _ (by simp[Nw.cs];omega)).trans a,(hw.rest _ (by simp[Nw.cs];omega)).trans b,(hw.rest _ (by simp[Nw.cs];omega)).trans c,fun q=>?_⟩;obtain⟨q1,q2⟩:=hf j q e;rw[←q2];exact(d q1).kp hl
theorem um.congr {w:World}{F:Nat→Prop}{g n k:Nat}{f f':Nat→Rat}(h:um w F g n k f)(e:∀i,i<k→f i=f' i):um w F g n k f':=
 ⟨h.blk,fun i hi=>by obtain⟨N,a,b,c,d⟩:=h.at_ i hi;exact⟨N,a,b,c,fun q=>by rw[←e i q];exact d q⟩⟩
theorem um.num {w:World}{F:Nat→Prop}{g n k i:Nat}{f:Nat→Rat}(h:um w F g n k f)(hi:i<n)(hk:i<k):∃N:Nw,w.cell? ⟨g,i*3,none⟩=some (.bool N.s)∧w.cell? ⟨g,i*3+1,none⟩=some (.slice N.a N.n N.c)∧w.cell? ⟨g,i*3+2,none⟩=some (.slice N.b N.m N.d)∧HX w F (f i) N:=by obtain⟨N,a,b,c,d⟩:=h.at_ i hi;exact⟨N,a,b,c,d hk⟩
theorem um.made {w1:World}{b g n:Nat}{F:Nat→Prop}{f:Nat→Rat}(h:w1.ownsRow b 78 3 (.slice (some ⟨g,0,none⟩) n n) n (madeCells (Value.agg #[.bool false,.slice none 0 0,.slice none 0 0]).cells (n*3)).toList):um w1 F g n 0 f∧b≤g:=by
 rcases h.2 with⟨hv,_⟩ | ⟨g',cap,cur,hv,hb,hgg,_,_,hcs,ht⟩
 ·simp at hv
 simp only[Value.slice.injEq,Option.some.injEq,Addr.mk.injEq]at hv;obtain⟨⟨rfl,_⟩,_,rfl⟩:=hv;refine⟨⟨⟨_,hgg⟩,fun v hvn=>?_⟩,hb⟩;have c:∀j,j<3→w1.cell? ⟨g,v*3+j,none⟩=#[Value.bool false,.slice none 0 0,.slice none 0 0][j]?:=fun j hj=>by
  rw[cell_of_row w1 g _ _ _ _ hgg];have e:=uM (z:=(Value.agg #[.bool false,.slice none 0 0,.slice none 0 0]).cells) (k:=n) (sz:=3) (v:=v) (j:=j) rfl hj hvn;rw[←ht,List.getElem?_take]at e;have lt:v*3+j<n*3:=by omega
  rw[if_pos lt]at e;rw[←Array.getElem?_toList,e];rfl
 exact⟨Nw.zero,c 0 (by omega),c 1 (by omega),c 2 (by omega),fun q=>absurd q (Nat.not_lt_zero _)⟩
theorem Gy {x k:Nat}(h:(aC x).length≤k):(Nh.aC x).length≤2*k:=Nh.bn (by have h1:=dD (bD x);rw[au]at h1;have h1:=Nat.lt_of_lt_of_le h1 (Nat.pow_le_pow_right (by omega) h);rwa[show(4294967296:Nat)=65536^2 from by decide,←Nat.pow_mul]at h1)
theorem HX.Ac {w:World}{F:Nat→Prop}{q:Rat}{N:Nw}{k:Nat}(h:HX w F q N)(z:Sz q k):N.n≤2*k∧N.m≤2*k:=⟨by rw[←h.num.len];exact Gy z.1,by rw[←h.den.len];exact Gy z.2⟩
theorem Sz.add2 {p q:Rat}{k l:Nat}(h:Sz p k)(h':Sz q l):Sz (p+q) (k+l+1):=by
 have d:(aC (p.den*q.den)).length≤k+l+1:=by have:=aW h.2 h'.2;omega
 have a:(aC (p.num.natAbs*q.den)).length≤k+l:=by have:=aW h.1 h'.2;omega
 have b:(aC (q.num.natAbs*p.den)).length≤k+l:=by have:=aW h'.1 h.2;omega
 have n0:=Nat.mul_ne_zero p.den_nz q.den_nz;by_cases e:decide (p.num<0)=decide (q.num<0)
 ·rw[iP e];exact jT n0 (jU a b) d
 by_cases l:q.num.natAbs*p.den≤p.num.natAbs*q.den
 ·rw[iR e l];exact jT n0 (Nat.le_trans (aK (Nat.sub_le _ _)) (by omega)) d
 rw[jS e (by omega)];exact jT n0 (Nat.le_trans (aK (Nat.sub_le _ _)) (by omega)) d
theorem Aq {f:Nat→Rat}{K:Nat}:∀k,(∀j,j<k→Sz (f j) K)→Sz (sm k f) (k*(K+1)+1)
 | 0,_=>by rw[Nat.zero_mul];exact Sz.zero
 | k+1,h=>by have:=Sz.add2 (Aq k fun j hj=>h j (by omega)) (h k (by omega));refine Sz.mono (k:=k*(K+1)+1+K+1) this ?_;rw[Nat.add_mul];omega
structure TM (k n:Nat)(L:Nat→Ln)(q:Nat→Rat):Prop where
 up:∀i,i<k→q i<0→(L i).rel=3
 zero:∀v,v<n→sm k (fun j=>q j*(L j).co v)=0
 bd:sm k (fun j=>q j*(L j).bd)<0∨sm k (fun j=>q j*(L j).bd)=0∧∃i,i<k∧(L i).rel=2∧0<q i
def oK (L:Nat→Ln)(q:Nat→Rat):Nat→Bool
 | 0=>false
 | i+1=>oK L q i||(decide ((L i).rel=2)&&decide (0<q i))
theorem uN (L:Nat→Ln)(q:Nat→Rat):∀k,oK L q k=true↔∃i,i<k∧(L i).rel=2∧0<q i
 | 0=>by simp[oK]
 | k+1=>by
  unfold oK;rw[Bool.or_eq_true,uN L q k,Bool.and_eq_true,decide_eq_true_eq,decide_eq_true_eq];constructor
  ·rintro(⟨i,a,b⟩ | b)
   ·exact⟨i,by omega,b⟩
   exact⟨k,by omega,b⟩
  rintro⟨i,a,b⟩;by_cases e:i=k
  ·subst e;exact Or.inr b
  exact Or.inl ⟨i,by omega,b⟩
end Go.Proofs.YtijdglogadnbcaaGreat
