/- Values of the simplex program: cmp, distance, plain. -/
import Derived.Test.YtijdglogadnbcaaGreatY10
set_option linter.unusedVariables false
set_option linter.unusedSimpArgs false
set_option maxRecDepth 100000
set_option maxHeartbeats 40000000
namespace Go.Proofs.YtijdglogadnbcaaGreat
open Go.Proofs.Tryz
open Go.RowKit Nt
theorem mX {w:World}{x y:Bl.V}{M S M' S':Nw}(h1:RA w x.m M)(h2:RA w x.s S)(h3:RA w y.m M')(h4:RA w y.s S')(s1:Sz x.m 268435456)(s2:Sz x.s 268435456)(s3:Sz y.m 268435456)(s4:Sz y.s 268435456):
  Calls prog 183 #[.agg #[.bool M.s,.slice M.a M.n M.c,.slice M.b M.m M.d,.bool S.s,.slice S.a S.n S.c,.slice S.b S.m S.d],.agg #[.bool M'.s,.slice M'.a M'.n M'.c,.slice M'.b M'.m M'.d,.bool S'.s,.slice S'.a S'.n S'.c,.slice S'.b S'.m S'.d]] w fun e w'=>e= .returned (.int .i64 (Bl.jd x y))∧Below w.heap.size w w':=by
 have B0:Hid (Below w.heap.size w ((w.alloc (.cells #[.bool M.s,.slice M.a M.n M.c,.slice M.b M.m M.d,.bool S.s,.slice S.a S.n S.c,.slice S.b S.m S.d] 174)).alloc (.cells #[.bool M'.s,.slice M'.a M'.n M'.c,.slice M'.b M'.m M'.d,.bool S'.s,.slice S'.a S'.n S'.c,.slice S'.b S'.m S'.d] 174))):=(ah _ _).alloc (by simp) _;have X1:Hid (VB ((w.alloc (.cells #[.bool M.s,.slice M.a M.n M.c,.slice M.b M.m M.d,.bool S.s,.slice S.a S.n S.c,.slice S.b S.m S.d] 174)).alloc (.cells #[.bool M'.s,.slice M'.a M'.n M'.c,.slice M'.b M'.m M'.d,.bool S'.s,.slice S'.a S'.n S'.c,.slice S'.b S'.m S'.d] 174)) w.heap.size M S):=by show VB _ _ _ _;unfold VB;rw[Below.heap_alloc _ _ _ (by simp)];exact heap_alloc_new w _
 have X2:Hid (VB ((w.alloc (.cells #[.bool M.s,.slice M.a M.n M.c,.slice M.b M.m M.d,.bool S.s,.slice S.a S.n S.c,.slice S.b S.m S.d] 174)).alloc (.cells #[.bool M'.s,.slice M'.a M'.n M'.c,.slice M'.b M'.m M'.d,.bool S'.s,.slice S'.a S'.n S'.c,.slice S'.b S'.m S'.d] 174)) (w.heap.size+1) M' S'):=by have:=heap_alloc_new (w.alloc (.cells #[.bool M.s,.slice M.a M.n M.c,.slice M.b M.m M.d,.bool S.s,.slice S.a S.n S.c,.slice S.b S.m S.d] 174)) (.cells #[.bool M'.s,.slice M'.a M'.n M'.c,.slice M'.b M'.m M'.d,.bool S'.s,.slice S'.a S'.n S'.c,.slice S'.b S'.m S'.d] 174);rwa[show(w.alloc (.cells #[.bool M.s,.slice M.a M.n M.c,.slice M.b M.m M.d,.bool S.s,.slice S.a S.n S.c,.slice S.b S.m S.d] 174)).heap.size=w.heap.size+1 from by simp]at this
 have P1:=hid (h1.below B0.out);have P2:=hid (h2.below B0.out);have P3:=hid (h3.below B0.out);have P4:=hid (h4.below B0.out);have C1:=hid (Ce P1.out P3.out s1 s3);have Z2:=hid s2;have Z4:=hid s4;have E:Hid (Bl.jd x y=if aV (x.m-y.m)≠0 then aV (x.m-y.m)else aV (x.s-y.s)):=rfl;obtain⟨z,hz⟩:∃z,aV (x.m-y.m)=z:=⟨_,rfl⟩;rw[hz]at C1 E;clear h1 h2 h3 h4 s1 s2 s3 s4 hz;go_enter func183,ntmps183;go_upto_region 1 with fail
 generalize (w.alloc (.cells #[.bool M.s,.slice M.a M.n M.c,.slice M.b M.m M.d,.bool S.s,.slice S.a S.n S.c,.slice S.b S.m S.d] 174)).alloc (.cells #[.bool M'.s,.slice M'.a M'.n M'.c,.slice M'.b M'.m M'.d,.bool S'.s,.slice S'.a S'.n S'.c,.slice S'.b S'.m S'.d] 174)=W0 at*;obtain⟨u0,u1,u2,u3,u4,u5,_⟩:=X1.out.reads;obtain⟨v0,v1,v2,v3,v4,v5,_⟩:=X2.out.reads;go_wp2_with fail;refine C1.out.mono ?_;rintro e w2 ⟨rfl,B2⟩;have K1:=X1.out.later B2 X1.out.lt;have K2:=X2.out.later B2 X2.out.lt;have eX:=hid (aB B0.out B2);have C2:=hid (Ce (P2.out.below B2) (P4.out.below B2) Z2.out Z4.out);clear u0 u1 u2 u3 u4 u5 v0 v1 v2 v3 v4 v5 B2;obtain⟨u0,u1,u2,u3,u4,u5,_⟩:=K1.reads;obtain⟨v0,v1,v2,v3,v4,v5,_⟩:=K2.reads;clear K1 K2;by_cases z0:z=0
 ·have E2:Hid (Bl.jd x y=aV (x.s-y.s)):=by show _=_;rw[E.out,if_neg (by rw[z0];simp)]
  obtain⟨t,ht⟩:∃t,aV (x.s-y.s)=t:=⟨_,rfl⟩;rw[ht]at C2 E2;subst z0;clear ht E;go_wp2_with fail;refine C2.out.mono ?_;rintro e w3 ⟨rfl,B3⟩;have B3:=hid (aB eX.out B3);go_wp2_with fail;go_ret;exact⟨by rw[E2.out];rfl,B3.out⟩
 have E2:Hid (Bl.jd x y=z):=by show _=_;rw[E.out,if_pos z0]
 have zb:(z !=0)=true:=by simp;exact z0
 clear E z0;go_wp2_with fail;go_ret;exact⟨by rw[E2.out];rfl,eX.out⟩
theorem rX {w:World}{x y:Bl.V}{M S M' S':Nw}{up:Bool}(h1:RA w x.m M)(h2:RA w x.s S)(h3:RA w y.m M')(h4:RA w y.s S')(s1:Sz x.m 268435456)(s2:Sz x.s 268435456)(s3:Sz y.m 268435456)(s4:Sz y.s 268435456):
  Calls prog 187 #[.agg #[.bool M.s,.slice M.a M.n M.c,.slice M.b M.m M.d,.bool S.s,.slice S.a S.n S.c,.slice S.b S.m S.d],.agg #[.bool M'.s,.slice M'.a M'.n M'.c,.slice M'.b M'.m M'.d,.bool S'.s,.slice S'.a S'.n S'.c,.slice S'.b S'.m S'.d],.bool up] w (kV w (Bl.bJ x y up)):=by
 have T3:=hid (bZ w (.cells #[.bool M.s,.slice M.a M.n M.c,.slice M.b M.m M.d,.bool S.s,.slice S.a S.n S.c,.slice S.b S.m S.d] 174) (.cells #[.bool M'.s,.slice M'.a M'.n M'.c,.slice M'.b M'.m M'.d,.bool S'.s,.slice S'.a S'.n S'.c,.slice S'.b S'.m S'.d] 174) (.cells #[.bool false,.slice none 0 0,.slice none 0 0,.bool false,.slice none 0 0,.slice none 0 0] 174) _ rfl);have P1:=hid h1;have P2:=hid h2;have P3:=hid h3;have P4:=hid h4;have Z1:=hid s1;have Z2:=hid s2;have Z3:=hid s3;have Z4:=hid s4;clear h1 h2 h3 h4 s1 s2 s3 s4;go_enter func187,ntmps187;go_upto_region 1 with fail
 generalize ((w.alloc (.cells #[.bool M.s,.slice M.a M.n M.c,.slice M.b M.m M.d,.bool S.s,.slice S.a S.n S.c,.slice S.b S.m S.d] 174)).alloc (.cells #[.bool M'.s,.slice M'.a M'.n M'.c,.slice M'.b M'.m M'.d,.bool S'.s,.slice S'.a S'.n S'.c,.slice S'.b S'.m S'.d] 174)).alloc (.cells #[.bool false,.slice none 0 0,.slice none 0 0,.bool false,.slice none 0 0,.slice none 0 0] 174)=W0 at*;obtain⟨t1,t2,t3,t4,t5⟩:=T3.out;have X1:Hid (VB W0 w.heap.size M S):=t1;have X2:Hid (VB W0 (w.heap.size+1) M' S'):=t2;have X3:Hid (VB W0 (w.heap.size+2) Nw.zero Nw.zero):=t3;have B0:=hid t4;clear t1 t2 t3 t4 t5;obtain⟨u0,u1,u2,u3,u4,u5,_⟩:=X1.out.reads;obtain⟨v0,v1,v2,v3,v4,v5,_⟩:=X2.out.reads
 cases up with
 | true=>
  have C:=hid (mW (P1.out.below B0.out) (P2.out.below B0.out) (P3.out.below B0.out) (P4.out.below B0.out) Z1.out Z2.out Z3.out Z4.out)
  go_wp2_with fail
  refine C.out.mono ?_
  rintro e w2 ⟨Ma,Sa,rfl,L1,L2,B2⟩
  have K3:=X3.out.later B2 X3.out.lt
  have eX:=hid (aB B0.out B2)
  have L1:=hid L1;have L2:=hid L2
  obtain⟨z0,z1,z2,z3,z4,z5,f⟩:=K3.reads
  have f0:=f 0;have f1:=f 1;have f2:=f 2;have f3:=f 3;have f4:=f 4;have f5:=f 5
  have Tq:=K3.lt
  have K3:=hid K3
  clear f B2 u0 u1 u2 u3 u4 u5 v0 v1 v2 v3 v4 v5
  go_wp2_with fail
  exact bodyPost_ret (v:= .agg #[.bool Ma.s,.slice Ma.a Ma.n Ma.c,.slice Ma.b Ma.m Ma.d,.bool Sa.s,.slice Sa.a Sa.n Sa.c,.slice Sa.b Sa.m Sa.d]) (by simp[results,results187,go_sem,z0,z1,z2,z3,z4,z5]) rfl (kV.kL K3.out eX.out (by omega) L1.out L2.out)
 | false=>
  have C:=hid (mW (P3.out.below B0.out) (P4.out.below B0.out) (P1.out.below B0.out) (P2.out.below B0.out) Z3.out Z4.out Z1.out Z2.out)
  go_wp2_with fail
  refine C.out.mono ?_
  rintro e w2 ⟨Ma,Sa,rfl,L1,L2,B2⟩
  have K3:=X3.out.later B2 X3.out.lt
  have eX:=hid (aB B0.out B2)
  have L1:=hid L1;have L2:=hid L2
  obtain⟨z0,z1,z2,z3,z4,z5,f⟩:=K3.reads
  have f0:=f 0;have f1:=f 1;have f2:=f 2;have f3:=f 3;have f4:=f 4;have f5:=f 5
  have Tq:=K3.lt
  have K3:=hid K3
  clear f B2 u0 u1 u2 u3 u4 u5 v0 v1 v2 v3 v4 v5
  go_wp2_with fail
  exact bodyPost_ret (v:= .agg #[.bool Ma.s,.slice Ma.a Ma.n Ma.c,.slice Ma.b Ma.m Ma.d,.bool Sa.s,.slice Sa.a Sa.n Sa.c,.slice Sa.b Sa.m Sa.d]) (by simp[results,results187,go_sem,z0,z1,z2,z3,z4,z5]) rfl (kV.kL K3.out eX.out (by omega) L1.out L2.out)
theorem nq3 {w:World}{g:Nat}{M:Nw}(h:NQ w g M):w.cell? ⟨g,0,none⟩=some (.bool M.s)∧w.cell? ⟨g,1,none⟩=some (.slice M.a M.n M.c)∧w.cell? ⟨g,2,none⟩=some (.slice M.b M.m M.d):=
 ⟨h.reads.1,h.reads.2.1,h.reads.2.2.1⟩
theorem vV {w:World}{q:Rat}{M:Nw}(h1:RA w q M):Calls prog 154 #[.agg #[.bool M.s,.slice M.a M.n M.c,.slice M.b M.m M.d]] w (kV w ⟨q,0⟩):=by
 have B0:Hid (Below w.heap.size w ((w.alloc (.cells #[.bool M.s,.slice M.a M.n M.c,.slice M.b M.m M.d] 25)).alloc (.cells #[.bool false,.slice none 0 0,.slice none 0 0,.bool false,.slice none 0 0,.slice none 0 0] 174))):=(ah _ _).alloc (by simp) _;have X1:Hid (NQ ((w.alloc (.cells #[.bool M.s,.slice M.a M.n M.c,.slice M.b M.m M.d] 25)).alloc (.cells #[.bool false,.slice none 0 0,.slice none 0 0,.bool false,.slice none 0 0,.slice none 0 0] 174)) w.heap.size M):=by show NQ _ _ _;unfold NQ;rw[Below.heap_alloc _ _ _ (by simp)];exact heap_alloc_new w _
 have X3:Hid (VB ((w.alloc (.cells #[.bool M.s,.slice M.a M.n M.c,.slice M.b M.m M.d] 25)).alloc (.cells #[.bool false,.slice none 0 0,.slice none 0 0,.bool false,.slice none 0 0,.slice none 0 0] 174)) (w.heap.size+1) Nw.zero Nw.zero):=by have:=heap_alloc_new (w.alloc (.cells #[.bool M.s,.slice M.a M.n M.c,.slice M.b M.m M.d] 25)) (.cells #[.bool false,.slice none 0 0,.slice none 0 0,.bool false,.slice none 0 0,.slice none 0 0] 174);rwa[show(w.alloc (.cells #[.bool M.s,.slice M.a M.n M.c,.slice M.b M.m M.d] 25)).heap.size=w.heap.size+1 from by simp]at this
 have P1:=hid (h1.below B0.out);clear h1;go_enter func154,ntmps154;go_upto_region 1 with fail
 generalize (w.alloc (.cells #[.bool M.s,.slice M.a M.n M.c,.slice M.b M.m M.d] 25)).alloc (.cells #[.bool false,.slice none 0 0,.slice none 0 0,.bool false,.slice none 0 0,.slice none 0 0] 174)=W0 at*;obtain⟨u0,u1,u2,_⟩:=X1.out.reads;have N1:=hid (bI 0 (by omega) (by omega) W0.drew);go_region_held3 (fun W=>W.cell? ⟨w.heap.size,0,none⟩=some (.bool M.s)∧W.cell? ⟨w.heap.size,1,none⟩=some (.slice M.a M.n M.c)∧W.cell? ⟨w.heap.size,2,none⟩=some (.slice M.b M.m M.d))
  (first
   | with_reducible exact⟨u0,u1,u2⟩
   | with_reducible exact⟨y0,y1,y2⟩
   | exact nq3 (H1.out.k6 (by omega) _ _ _ _ _ _)
   | go_keep)
  ((go_at_call 72;((with_reducible refine N1.out.mono ?_));go_loud (rintro e w6 ⟨s6,a6,n6,c6,b6,m6,d6,rfl,L6,B6⟩;have B6:=aJ B6;have K1:NQ w6 w.heap.size M:=X1.out.later B6 X1.out.lt;have K3:VB w6 (w.heap.size+1) Nw.zero Nw.zero:=X3.out.later B6 X3.out.lt;obtain⟨y0,y1,y2,_⟩:=K1.reads;obtain⟨z0,z1,z2,z3,z4,z5,f⟩:=K3.reads;have f0:=f 0;have f1:=f 1;have f2:=f 2;have f3:=f 3;have f4:=f 4;have f5:=f 5;have Tq:=K3.lt;clear f;have K3:=hid K3;have L2:=hid (P1.out.below B6);have L6:=hid L6;have o8:=hid (aB B0.out B6);have H1:=hid K1;clear B6)))
 go_wp2_with fail;exact bodyPost_ret (v:= .agg #[.bool M.s,.slice M.a M.n M.c,.slice M.b M.m M.d,.bool s6,.slice a6 n6 c6,.slice b6 m6 d6]) (by simp[results,results154,go_sem,z0,z1,z2,z3,z4,z5]) rfl (kV.kL (M:=M) (S:=⟨s6,a6,n6,c6,b6,m6,d6⟩) K3.out o8.out (by omega) L2.out L6.out)
end Go.Proofs.YtijdglogadnbcaaGreat
namespace Go.Proofs.YtijdglogadnbcaaGreat
open Go.Proofs.Tryz
open Go.RowKit Nt Bl
structure Lay where
 p:Nat
 low:Nat
 high:Nat
 now:Nat
 mY:Nat
 tab:Nat
 jw:Nat
 JL:Option Addr
 qI:Nat
 rY:Nat
 tZ:Nat
 line:Nat→Nat
 WV:Nat→Option Addr
structure eY (n0:Nat)(w:World)(L:Lay)(P:Pb):Prop where
 hd:w.heap[L.p]? =some (.cells #[.int .i64 (P.n:Int),.slice (some ⟨L.low,0,none⟩) (P.n+P.m) (P.n+P.m),.slice (some ⟨L.high,0,none⟩) (P.n+P.m) (P.n+P.m),.slice (some ⟨L.now,0,none⟩) (P.n+P.m) (P.n+P.m),.slice (some ⟨L.mY,0,none⟩) P.m L.qI,.slice L.JL P.n L.rY,.slice (some ⟨L.tab,0,none⟩) P.m L.tZ] 219 (0,0))
 lo:lV 222 w L.low (P.n+P.m) P.low
 hi:lV 222 w L.high (P.n+P.m) P.high
 no:rW 174 w L.now (P.n+P.m) P.now
 ba:tY w L.mY P.m P.basic
 fr:0<P.n→L.JL=some ⟨L.jw,0,none⟩∧tY w L.jw P.n P.free
 tb:dh w L.tab 83
 ta:∀i,i<P.m→w.cell? ⟨L.tab,i,none⟩=some (.slice (L.WV i) P.n P.n)
 li:0<P.n→∀i,i<P.m→L.WV i=some ⟨L.line i,0,none⟩∧fE w (L.line i) P.n (P.T i)
 inj:∀i j,i<P.m→j<P.m→i≠j→L.line i≠L.line j
 bf:L.mY≠L.jw
 ge:n0≤L.now∧n0≤L.mY∧n0≤L.jw∧∀i,i<P.m→n0≤L.line i
 cp:P.m≤L.qI∧L.qI≤9223372036854775807∧P.n≤L.rY∧L.rY≤9223372036854775807∧P.m≤L.tZ∧L.tZ≤9223372036854775807
 nm:P.n≤64∧P.m≤64∧0<P.m
theorem eY.pb {n0:Nat}{w:World}{L:Lay}{P:Pb}(h:eY n0 w L P):dh w L.p 219:=⟨_,h.hd⟩
theorem eY.head {n0:Nat}{w:World}{L:Lay}{P:Pb}(h:eY n0 w L P):
  w.cell? ⟨L.p,0,none⟩=some (.int .i64 (P.n:Int))∧w.cell? ⟨L.p,1,none⟩=some (.slice (some ⟨L.low,0,none⟩) (P.n+P.m) (P.n+P.m))∧w.cell? ⟨L.p,2,none⟩=some (.slice (some ⟨L.high,0,none⟩) (P.n+P.m) (P.n+P.m))∧
   w.cell? ⟨L.p,3,none⟩=some (.slice (some ⟨L.now,0,none⟩) (P.n+P.m) (P.n+P.m))∧w.cell? ⟨L.p,4,none⟩=some (.slice (some ⟨L.mY,0,none⟩) P.m L.qI)∧w.cell? ⟨L.p,5,none⟩=some (.slice L.JL P.n L.rY)∧w.cell? ⟨L.p,6,none⟩=some (.slice (some ⟨L.tab,0,none⟩) P.m L.tZ):=by
 refine⟨?_,?_,?_,?_,?_,?_,?_⟩
 ·rw[cell_of_row w L.p 0 _ _ _ h.hd];rfl
 ·rw[cell_of_row w L.p 1 _ _ _ h.hd];rfl
 ·rw[cell_of_row w L.p 2 _ _ _ h.hd];rfl
 ·rw[cell_of_row w L.p 3 _ _ _ h.hd];rfl
 ·rw[cell_of_row w L.p 4 _ _ _ h.hd];rfl
 ·rw[cell_of_row w L.p 5 _ _ _ h.hd];rfl
 rw[cell_of_row w L.p 6 _ _ _ h.hd];rfl
theorem eY.below {n0:Nat}{w w':World}{L:Lay}{P:Pb}(h:eY n0 w L P)(hb:Below w.heap.size w w'):eY n0 w' L P:=by
 have hl:=aQ.of_below hb;have B:∀{g ty:Nat},dh w g ty→w'.heap[g]? =w.heap[g]?:=fun q=>hb.block _ q.lt;exact⟨(B h.pb).trans h.hd,h.lo.keep (B h.lo.blk) hl,h.hi.keep (B h.hi.blk) hl,h.no.keep (B h.no.blk) hl,h.ba.keep (B h.ba.blk),
  fun q=>⟨(h.fr q).1,(h.fr q).2.keep (B (h.fr q).2.blk)⟩,h.tb.keep (B h.tb),fun i hi=>(aN (B h.tb) i).trans (h.ta i hi),
  fun q i hi=>⟨(h.li q i hi).1,(h.li q i hi).2.keep (B (h.li q i hi).2.blk) hl⟩,h.inj,h.bf,h.ge,h.cp,h.nm⟩
theorem eY.drew {n0:Nat}{w:World}{L:Lay}{P:Pb}(h:eY n0 w L P):eY n0 w.drew L P:=h.below (Below.refl _ _).drew
theorem eY.OE {n0 v:Nat}{w w':World}{L:Lay}{P:Pb}{x:V}{M S:Nw}(h:eY n0 w L P)(hv:v<P.n+P.m)(hw:Wr w w' L.now (v*6) (M.cs++S.cs))(hm:RA w x.m M)(hs:RA w x.s S):
  eY n0 w' L {P with now:=fun j=>if j=v then x else P.now j}:=by
 have hl:=h.no.limb hv hw;have B:∀{g ty:Nat},dh w g ty→ty≠174→w'.heap[g]? =w.heap[g]?:=fun q hne=>hw.jm _ (q.ne h.no.blk hne);exact⟨(B h.pb (by decide)).trans h.hd,h.lo.keep (B h.lo.blk (by decide)) hl,h.hi.keep (B h.hi.blk (by decide)) hl,h.no.set hv hw hm hs,h.ba.keep (B h.ba.blk (by decide)),
  fun q=>⟨(h.fr q).1,(h.fr q).2.keep (B (h.fr q).2.blk (by decide))⟩,h.tb.keep (B h.tb (by decide)),fun i hi=>(aN (B h.tb (by decide)) i).trans (h.ta i hi),
  fun q i hi=>⟨(h.li q i hi).1,(h.li q i hi).2.keep (B (h.li q i hi).2.blk (by decide)) hl⟩,h.inj,h.bf,h.ge,h.cp,h.nm⟩
theorem eY.UJ {n0 i k:Nat}{w w':World}{L:Lay}{P:Pb}{x:Rat}{M:Nw}(h:eY n0 w L P)(hi:i<P.m)(hk:k<P.n)(hw:Wr w w' (L.line i) (k*3) M.cs)(hm:RA w x M):
  eY n0 w' L {P with T:=fun i' k'=>if i'=i then(if k'=k then x else P.T i k')else P.T i' k'}:=by
 have n0p:0<P.n:=by omega
 have li:=(h.li n0p i hi).2;have hl:=li.limb hk hw;have B:∀{g ty:Nat},dh w g ty→ty≠25→w'.heap[g]? =w.heap[g]?:=fun q hne=>hw.jm _ (q.ne li.blk hne);refine⟨(B h.pb (by decide)).trans h.hd,h.lo.keep (B h.lo.blk (by decide)) hl,h.hi.keep (B h.hi.blk (by decide)) hl,h.no.keep (B h.no.blk (by decide)) hl,h.ba.keep (B h.ba.blk (by decide)),
  fun q=>⟨(h.fr q).1,(h.fr q).2.keep (B (h.fr q).2.blk (by decide))⟩,h.tb.keep (B h.tb (by decide)),fun i hi=>(aN (B h.tb (by decide)) i).trans (h.ta i hi),
  fun q j hj=>⟨(h.li q j hj).1,?_⟩,h.inj,h.bf,h.ge,h.cp,h.nm⟩
 by_cases e:j=i
 ·subst e;simp only[if_true];exact li.set hk hw hm
 simp only[if_neg e];exact(h.li q j hj).2.keep (hw.jm _ (h.inj j i hj hi e)) hl
theorem eY.YV {n0 i x:Nat}{w w':World}{L:Lay}{P:Pb}(h:eY n0 w L P)(hi:i<P.m)(hw:Wr w w' L.mY i [.int .i64 (x:Int)]):
  eY n0 w' L {P with basic:=fun j=>if j=i then x else P.basic j}:=by
 have hl:=h.ba.limb hi hw;have B:∀{g ty:Nat},dh w g ty→ty≠3→w'.heap[g]? =w.heap[g]?:=fun q hne=>hw.jm _ (q.ne h.ba.blk hne);exact⟨(B h.pb (by decide)).trans h.hd,h.lo.keep (B h.lo.blk (by decide)) hl,h.hi.keep (B h.hi.blk (by decide)) hl,h.no.keep (B h.no.blk (by decide)) hl,h.ba.set hi hw,
  fun q=>⟨(h.fr q).1,(h.fr q).2.keep (hw.jm _ h.bf.symm)⟩,h.tb.keep (B h.tb (by decide)),fun i hi=>(aN (B h.tb (by decide)) i).trans (h.ta i hi),
  fun q j hj=>⟨(h.li q j hj).1,(h.li q j hj).2.keep (B (h.li q j hj).2.blk (by decide)) hl⟩,h.inj,h.bf,h.ge,h.cp,h.nm⟩
theorem eY.YW {n0 i x:Nat}{w w':World}{L:Lay}{P:Pb}(h:eY n0 w L P)(hi:i<P.n)(hw:Wr w w' L.jw i [.int .i64 (x:Int)]):
  eY n0 w' L {P with free:=fun j=>if j=i then x else P.free j}:=by
 have n0p:0<P.n:=by omega
 have fr:=(h.fr n0p).2;have hl:=fr.limb hi hw;have B:∀{g ty:Nat},dh w g ty→ty≠3→w'.heap[g]? =w.heap[g]?:=fun q hne=>hw.jm _ (q.ne fr.blk hne);exact⟨(B h.pb (by decide)).trans h.hd,h.lo.keep (B h.lo.blk (by decide)) hl,h.hi.keep (B h.hi.blk (by decide)) hl,h.no.keep (B h.no.blk (by decide)) hl,h.ba.keep (hw.jm _ h.bf),
  fun q=>⟨(h.fr q).1,fr.set hi hw⟩,h.tb.keep (B h.tb (by decide)),fun i hi=>(aN (B h.tb (by decide)) i).trans (h.ta i hi),
  fun q j hj=>⟨(h.li q j hj).1,(h.li q j hj).2.keep (B (h.li q j hj).2.blk (by decide)) hl⟩,h.inj,h.bf,h.ge,h.cp,h.nm⟩
theorem eY.congr {n0:Nat}{w:World}{L:Lay}{P Q:Pb}(h:eY n0 w L P)(e:P=Q):eY n0 w L Q:=e▸h
def C6 (w:World)(g o:Nat)(M S:Nw):Prop:=w.cell? ⟨g,o,none⟩=some (.bool M.s)∧w.cell? ⟨g,o+1,none⟩=some (.slice M.a M.n M.c)∧w.cell? ⟨g,o+2,none⟩=some (.slice M.b M.m M.d)∧w.cell? ⟨g,o+3,none⟩=some (.bool S.s)∧w.cell? ⟨g,o+4,none⟩=some (.slice S.a S.n S.c)∧w.cell? ⟨g,o+5,none⟩=some (.slice S.b S.m S.d)
theorem zH.reads {w:World}{g o:Nat}{v:V}(h:zH w g o v):∃M S:Nw,RA w v.m M∧RA w v.s S∧C6 w g o M S:=by obtain⟨⟨M,a,b,c,d⟩,⟨S,e,f,i,j⟩⟩:=h;exact⟨M,S,d,j,a,b,c,e,f,i⟩
theorem wZ.jE {w:World}{g o:Nat}{v:V}(h:wZ w g o (some v)):w.cell? ⟨g,o,none⟩=some (.bool true)∧∃M S:Nw,RA w v.m M∧RA w v.s S∧w.cell? ⟨g,o+1,none⟩=some (.bool M.s)∧w.cell? ⟨g,o+2,none⟩=some (.slice M.a M.n M.c)∧w.cell? ⟨g,o+3,none⟩=some (.slice M.b M.m M.d)∧w.cell? ⟨g,o+4,none⟩=some (.bool S.s)∧w.cell? ⟨g,o+5,none⟩=some (.slice S.a S.n S.c)∧w.cell? ⟨g,o+6,none⟩=some (.slice S.b S.m S.d):=by obtain⟨t,q⟩:=h;obtain⟨M,S,a,b,c⟩:=q.reads;exact⟨t,M,S,a,b,c⟩
theorem Cm {n0 v:Nat}{w:World}{L:Lay}{P:Pb}(h:eY n0 w L P)(hv:v<P.n+P.m)(hs:uz P 1048576):
  Calls prog 184 #[.pointer (some ⟨L.p,0,none⟩),.int .i64 (v:Int)] w fun e w'=>e= .returned (.bool (P.rises v))∧Below w.heap.size w w':=by
 obtain⟨q0,q1,q2,q3,q4,q5,q6⟩:=h.head;have nm:=h.nm;have bh:=h.hi.at_ v hv;obtain⟨N,hN⟩:∃N,P.n+P.m=N:=⟨_,rfl⟩;rw[hN]at q1 q2 q3 hv;have Nb:N≤128:=by omega
 have v0:(0:Int)≤(v:Int):=by omega
 have v1:(v:Int)<(N:Int):=by omega
 cases hh:P.high v with
 | none=>
  have E:Hid (P.rises v=true):=by show _=_;unfold Pb.rises;rw[hh]
  rw[hh]at bh
  have b0:=bh.1
  clear h bh hs hh
  go_enter func184,ntmps184
  go_upto_region 1 with fail
  go_quiet (fail)
  go_wp2_with fail
  go_ret
  exact⟨by rw[E.out];rfl,Qt.below ⟨nq,rfl⟩⟩
 | some u=>
  obtain⟨z,hz⟩:∃z,jd (P.now v) u=z:=⟨_,rfl⟩
  have E:Hid (P.rises v=decide (z<0)):=by show _=_;unfold Pb.rises;rw[hh];rw[←hz]
  rw[hh]at bh
  obtain⟨b0,M',S',r3,r4,b1,b2,b3,b4,b5,b6⟩:=bh.jE
  obtain⟨M,S,r1,r2,c0,c1,c2,c3,c4,c5⟩:=(h.no.at_ v (by rw[hN];exact hv)).reads
  have s1:=hs.now v (by rw[hN];exact hv)
  have s2:=hs.high v u (by rw[hN];exact hv) hh
  have C:=mX (w:=w.drew) (r1.below (Below.refl _ _).drew) (r2.below (Below.refl _ _).drew) (r3.below (Below.refl _ _).drew) (r4.below (Below.refl _ _).drew) (Sz.mono s1.1 (by omega)) (Sz.mono s1.2 (by omega)) (Sz.mono s2.1 (by omega)) (Sz.mono s2.2 (by omega))
  rw[hz]at C
  have C:=hid C
  have KP:=hid (fun(W:World) (hB:Below w.heap.size w W)=>(show W.cell? ⟨L.p,2,none⟩=some (.slice (some ⟨L.high,0,none⟩) N N)∧W.cell? ⟨L.p,3,none⟩=some (.slice (some ⟨L.now,0,none⟩) N N)∧W.cell? ⟨L.high,v*7,none⟩=some (.bool true)∧W.cell? ⟨L.high,v*7+1,none⟩=some (.bool M'.s)∧W.cell? ⟨L.high,v*7+2,none⟩=some (.slice M'.a M'.n M'.c)∧W.cell? ⟨L.high,v*7+3,none⟩=some (.slice M'.b M'.m M'.d)∧W.cell? ⟨L.high,v*7+4,none⟩=some (.bool S'.s)∧W.cell? ⟨L.high,v*7+5,none⟩=some (.slice S'.a S'.n S'.c)∧W.cell? ⟨L.high,v*7+6,none⟩=some (.slice S'.b S'.m S'.d)∧W.cell? ⟨L.now,v*6,none⟩=some (.bool M.s)∧W.cell? ⟨L.now,v*6+1,none⟩=some (.slice M.a M.n M.c)∧W.cell? ⟨L.now,v*6+2,none⟩=some (.slice M.b M.m M.d)∧W.cell? ⟨L.now,v*6+3,none⟩=some (.bool S.s)∧W.cell? ⟨L.now,v*6+4,none⟩=some (.slice S.a S.n S.c)∧W.cell? ⟨L.now,v*6+5,none⟩=some (.slice S.b S.m S.d) from⟨aj hB q2,aj hB q3,aj hB b0,aj hB b1,aj hB b2,aj hB b3,aj hB b4,aj hB b5,aj hB b6,aj hB c0,aj hB c1,aj hB c2,aj hB c3,aj hB c4,aj hB c5⟩))
  clear h bh hs hh r1 r2 r3 r4 s1 s2 hz
  go_enter func184,ntmps184
  go_upto_region 1 with fail
  go_region_held3 (fun W=>W.cell? ⟨L.p,2,none⟩=some (.slice (some ⟨L.high,0,none⟩) N N)∧W.cell? ⟨L.p,3,none⟩=some (.slice (some ⟨L.now,0,none⟩) N N)∧W.cell? ⟨L.high,v*7,none⟩=some (.bool true)∧W.cell? ⟨L.high,v*7+1,none⟩=some (.bool M'.s)∧W.cell? ⟨L.high,v*7+2,none⟩=some (.slice M'.a M'.n M'.c)∧W.cell? ⟨L.high,v*7+3,none⟩=some (.slice M'.b M'.m M'.d)∧W.cell? ⟨L.high,v*7+4,none⟩=some (.bool S'.s)∧W.cell? ⟨L.high,v*7+5,none⟩=some (.slice S'.a S'.n S'.c)∧W.cell? ⟨L.high,v*7+6,none⟩=some (.slice S'.b S'.m S'.d)∧W.cell? ⟨L.now,v*6,none⟩=some (.bool M.s)∧W.cell? ⟨L.now,v*6+1,none⟩=some (.slice M.a M.n M.c)∧W.cell? ⟨L.now,v*6+2,none⟩=some (.slice M.b M.m M.d)∧W.cell? ⟨L.now,v*6+3,none⟩=some (.bool S.s)∧W.cell? ⟨L.now,v*6+4,none⟩=some (.slice S.a S.n S.c)∧W.cell? ⟨L.now,v*6+5,none⟩=some (.slice S.b S.m S.d))
   (first
    | with_reducible exact⟨q2,q3,b0,b1,b2,b3,b4,b5,b6,c0,c1,c2,c3,c4,c5⟩
    | with_reducible exact KS
    | go_keep)
   ((go_at_call 183;((with_reducible refine C.out.mono ?_));go_loud (rintro e w2 ⟨rfl,B2⟩;have KS:=KP.out w2 (aJ B2);have B2:=hid (aJ B2))))
  go_wp2_with fail
  go_ret
  exact⟨by rw[E.out];rfl,B2.out⟩
theorem CJ {n0 v:Nat}{w:World}{L:Lay}{P:Pb}(h:eY n0 w L P)(hv:v<P.n+P.m)(hs:uz P 1048576):
  Calls prog 185 #[.pointer (some ⟨L.p,0,none⟩),.int .i64 (v:Int)] w fun e w'=>e= .returned (.bool (P.falls v))∧Below w.heap.size w w':=by
 obtain⟨q0,q1,q2,q3,q4,q5,q6⟩:=h.head;have nm:=h.nm;have bh:=h.lo.at_ v hv;obtain⟨N,hN⟩:∃N,P.n+P.m=N:=⟨_,rfl⟩;rw[hN]at q1 q2 q3 hv;have Nb:N≤128:=by omega
 have v0:(0:Int)≤(v:Int):=by omega
 have v1:(v:Int)<(N:Int):=by omega
 cases hh:P.low v with
 | none=>
  have E:Hid (P.falls v=true):=by show _=_;unfold Pb.falls;rw[hh]
  rw[hh]at bh
  have b0:=bh.1
  clear h bh hs hh
  go_enter func185,ntmps185
  go_upto_region 1 with fail
  go_quiet (fail)
  go_wp2_with fail
  go_ret
  exact⟨by rw[E.out];rfl,Qt.below ⟨nq,rfl⟩⟩
 | some u=>
  obtain⟨z,hz⟩:∃z,jd (P.now v) u=z:=⟨_,rfl⟩
  have E:Hid (P.falls v=decide (0<z)):=by show _=_;unfold Pb.falls;rw[hh];rw[←hz]
  rw[hh]at bh
  obtain⟨b0,M',S',r3,r4,b1,b2,b3,b4,b5,b6⟩:=bh.jE
  obtain⟨M,S,r1,r2,c0,c1,c2,c3,c4,c5⟩:=(h.no.at_ v (by rw[hN];exact hv)).reads
  have s1:=hs.now v (by rw[hN];exact hv)
  have s2:=hs.low v u (by rw[hN];exact hv) hh
  have C:=mX (w:=w.drew) (r1.below (Below.refl _ _).drew) (r2.below (Below.refl _ _).drew) (r3.below (Below.refl _ _).drew) (r4.below (Below.refl _ _).drew) (Sz.mono s1.1 (by omega)) (Sz.mono s1.2 (by omega)) (Sz.mono s2.1 (by omega)) (Sz.mono s2.2 (by omega))
  rw[hz]at C
  have C:=hid C
  have KP:=hid (fun(W:World) (hB:Below w.heap.size w W)=>(show W.cell? ⟨L.p,1,none⟩=some (.slice (some ⟨L.low,0,none⟩) N N)∧W.cell? ⟨L.p,3,none⟩=some (.slice (some ⟨L.now,0,none⟩) N N)∧W.cell? ⟨L.low,v*7,none⟩=some (.bool true)∧W.cell? ⟨L.low,v*7+1,none⟩=some (.bool M'.s)∧W.cell? ⟨L.low,v*7+2,none⟩=some (.slice M'.a M'.n M'.c)∧W.cell? ⟨L.low,v*7+3,none⟩=some (.slice M'.b M'.m M'.d)∧W.cell? ⟨L.low,v*7+4,none⟩=some (.bool S'.s)∧W.cell? ⟨L.low,v*7+5,none⟩=some (.slice S'.a S'.n S'.c)∧W.cell? ⟨L.low,v*7+6,none⟩=some (.slice S'.b S'.m S'.d)∧W.cell? ⟨L.now,v*6,none⟩=some (.bool M.s)∧W.cell? ⟨L.now,v*6+1,none⟩=some (.slice M.a M.n M.c)∧W.cell? ⟨L.now,v*6+2,none⟩=some (.slice M.b M.m M.d)∧W.cell? ⟨L.now,v*6+3,none⟩=some (.bool S.s)∧W.cell? ⟨L.now,v*6+4,none⟩=some (.slice S.a S.n S.c)∧W.cell? ⟨L.now,v*6+5,none⟩=some (.slice S.b S.m S.d) from⟨aj hB q1,aj hB q3,aj hB b0,aj hB b1,aj hB b2,aj hB b3,aj hB b4,aj hB b5,aj hB b6,aj hB c0,aj hB c1,aj hB c2,aj hB c3,aj hB c4,aj hB c5⟩))
  clear h bh hs hh r1 r2 r3 r4 s1 s2 hz
  go_enter func185,ntmps185
  go_upto_region 1 with fail
  go_region_held3 (fun W=>W.cell? ⟨L.p,1,none⟩=some (.slice (some ⟨L.low,0,none⟩) N N)∧W.cell? ⟨L.p,3,none⟩=some (.slice (some ⟨L.now,0,none⟩) N N)∧W.cell? ⟨L.low,v*7,none⟩=some (.bool true)∧W.cell? ⟨L.low,v*7+1,none⟩=some (.bool M'.s)∧W.cell? ⟨L.low,v*7+2,none⟩=some (.slice M'.a M'.n M'.c)∧W.cell? ⟨L.low,v*7+3,none⟩=some (.slice M'.b M'.m M'.d)∧W.cell? ⟨L.low,v*7+4,none⟩=some (.bool S'.s)∧W.cell? ⟨L.low,v*7+5,none⟩=some (.slice S'.a S'.n S'.c)∧W.cell? ⟨L.low,v*7+6,none⟩=some (.slice S'.b S'.m S'.d)∧W.cell? ⟨L.now,v*6,none⟩=some (.bool M.s)∧W.cell? ⟨L.now,v*6+1,none⟩=some (.slice M.a M.n M.c)∧W.cell? ⟨L.now,v*6+2,none⟩=some (.slice M.b M.m M.d)∧W.cell? ⟨L.now,v*6+3,none⟩=some (.bool S.s)∧W.cell? ⟨L.now,v*6+4,none⟩=some (.slice S.a S.n S.c)∧W.cell? ⟨L.now,v*6+5,none⟩=some (.slice S.b S.m S.d))
   (first
    | with_reducible exact⟨q1,q3,b0,b1,b2,b3,b4,b5,b6,c0,c1,c2,c3,c4,c5⟩
    | with_reducible exact KS
    | go_keep)
   ((go_at_call 183;((with_reducible refine C.out.mono ?_));go_loud (rintro e w2 ⟨rfl,B2⟩;have KS:=KP.out w2 (aJ B2);have B2:=hid (aJ B2))))
  go_wp2_with fail
  go_ret
  exact⟨by rw[E.out];rfl,B2.out⟩
end Go.Proofs.YtijdglogadnbcaaGreat
