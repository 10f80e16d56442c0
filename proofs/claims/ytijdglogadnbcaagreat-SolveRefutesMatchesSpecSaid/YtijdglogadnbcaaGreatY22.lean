/- slices.Repeat at []Value and []Number. Printed by genRq.py. -/
import Derived.Test.YtijdglogadnbcaaGreatY21
import Derived.Deep.RegionLaw
set_option linter.unusedVariables false
set_option linter.unusedSimpArgs false
set_option maxRecDepth 100000
set_option maxHeartbeats 40000000
namespace Go.Proofs.YtijdglogadnbcaaGreat
open Go.Proofs.Tryz
open Go.RowKit
theorem Vg:(prog.info? 174).map (fun i=>(i.zero,i.size,i.bytes))=some (some (.agg #[.bool false,.slice none 0 0,.slice none 0 0,.bool false,.slice none 0 0,.slice none 0 0]),6,112):=by kernel_rfl
theorem Qk:(prog.info? 174).map (·.size)=some 6:=by kernel_rfl
theorem Ql {w:World}{g n:Nat}{M S:Nw}(h:VB w g M S)(hn:n≤200):
  Calls prog 153 #[.slice (some ⟨g,0,none⟩) 1 1,.int .i64 (n:Int)] w fun e w'=>∃g2,e= .returned (.slice (some ⟨g2,0,none⟩) n n)∧Laid w' g2 174 (M.cs++S.cs) n n∧w.heap.size≤g2∧Below w.heap.size w w':=by
 obtain⟨cs,hcs⟩:∃cs:List Value,cs=M.cs++S.cs:=⟨_,rfl⟩;have CL:Hid (cs.length=6):=by show _=_;rw[hcs];rfl
 have CO:Hid (∀v∈cs,v.oneCell'=true):=by show ∀v∈cs,_;rw[hcs];intro v hv;simp[Nw.cs]at hv;rcases hv with rfl | rfl | rfl | rfl | rfl | rfl<;>rfl
 have SRC:Hid (Laid w g 174 cs 1 1):=⟨cs,by rw[hcs];exact h,by rw[Nat.one_mul],by rw[Nat.one_mul,List.take_length];simp[flat]⟩;have GL:Hid (g<w.heap.size):=(Array.getElem?_eq_some_iff.1 h).1;rw[←hcs];clear hcs h;obtain⟨i0,hi0,hz0,hz1,hz2⟩:=info_parts Vg;have n1:(1*n/18446744073709551616:Nat)=0:=by omega
 have n2:(1*n%18446744073709551616:Nat)=n:=by omega
 have BM:=Tryz.bits_Mul 1 n (by omega) (by omega) w;rw[n1,n2]at BM;have BM:=hid BM;clear n1 n2;have c1:IntKind.u64.wrap (1:Int)=1:=by rw[IntKind.wrap_u64];omega
 have c2:IntKind.u64.wrap ((n:Nat):Int)=(n:Int):=by rw[IntKind.wrap_u64];omega
 have c3:IntKind.i64.wrap ((n:Nat):Int)=(n:Int):=by rw[IntKind.wrap_i64];omega
 go_enter func153,ntmps153;go_upto_region 6 with(go_at_call 182;refine BM.out.mono ?_;rintro e w9 ⟨rfl,hw⟩;rw[hw])
 go_upto_region 7 with(at_make;refine wpList_make_full _ rfl _ _ 214 rfl 0 174 i0 (.agg #[.bool false,.slice none 0 0,.slice none 0 0,.bool false,.slice none 0 0,.slice none 0 0]) 6 underlying214 hi0 hz0 hz1 .i64 .i64 _ _ n rfl rfl (by omega) (by omega) (by rw[hz2];omega) (by unfold maxLen;omega) (Nat.zero_le _) ?_;intro w1 hown1 hg1;have OW:=hid hown1;have B1:=hid (below_grown hg1);clear hown1 hg1)
 obtain⟨g2,hg2⟩:∃g2,w.heap.size=g2:=⟨_,rfl⟩;have L0:Hid (Laid w1 g2 174 cs n 0):=by
  obtain⟨hl,hv⟩:=OW.out;rcases hv with⟨hv,_⟩ | ⟨g',cap,cur,hv,_,hgg,_,_,hcs,ht⟩
  ·simp at hv
  simp only[Value.slice.injEq,Option.some.injEq,Addr.mk.injEq]at hv;obtain⟨⟨e1,_⟩,_,e2⟩:=hv;subst e2;refine⟨cur.toList,by rw[←hg2,e1];exact hgg,by rw[CL.out];simpa using hcs,by simp[flat]⟩
 have S1:=hid (SRC.out.later B1.out GL.out);have GE:Hid (w.heap.size≤g2):=Nat.le_of_eq hg2;clear OW;rw[hg2];obtain⟨m0,hm0⟩:∃m0,Nat.min 1 n=m0:=⟨_,rfl⟩;have Ze:m0≤n:=by rw[←hm0];exact Nat.min_le_right _ _
 have m01:m0≤1:=by rw[←hm0];exact Nat.min_le_left _ _
 have mpos:0<n→0<m0:=fun h=>by rw[←hm0];exact Nat.lt_min.2 ⟨by omega,h⟩
 obtain⟨cur,c1',c2',c3'⟩:=L0.out;have C1:=hid c1';have C2:=hid c2';have C3:=hid c3';have GR:=hid (Below.refl w.heap.size w);have F0:Hid (0+(flat cs m0).length≤cur.length):=by show _≤_;rw[dJ,C2.out,Nat.zero_add];exact Nat.mul_le_mul_right _ Ze
 have FO:=hid (nD cs CO.out m0);have FL:Hid ((flat cs m0).length=m0*6):=by show _=_;rw[dJ,CL.out]
 have SR:=hid (S1.out.src m01);clear c1' c2' c3' hg2;go_upto_region 8 with(refine kW rfl (.tmp 31) (.tmp 32) 214 214 rfl 174 6 underlying214 Qk g2 0 n n ⟨g,0,none⟩ 1 1 m0 rfl rfl hm0 cur 174 C1.out (flat cs m0) FL.out SR.out F0.out FO.out w.heap.size w B1.out GE.out ?_;intro w2 Qm hb2 hs2;have HG2:=Qm;have B2:=hid hb2;clear Qm hb2 hs2)
 have L2:Hid (Laid w2 g2 174 cs n m0):=by have e:=nV (k:=0) (m:=m0) C2.out C3.out (by omega);rw[Nat.zero_mul,Nat.zero_add]at e;exact⟨_,HG2.out,e⟩
 clear HG2 F0 FO FL SR C1 C2 C3 L0 S1 B1 GR hm0;go_loopw [8] (fun v wr=>∃k:Nat,k≤n∧(0<n→0<k)∧v= .int .i64 (k:Int)∧Laid wr g2 174 cs n k∧Below w.heap.size w wr) (fun v _=>n-(intOf v).toNat)
 case atStart=>exact⟨m0,Ze,mpos,rfl,L2.out,B2.out⟩
 obtain⟨k,hk,kpos,rfl,hL,hB⟩:=hrel;have L3:=hid hL;have B3:=hid hB;clear L2 B2 hL hB mpos Ze m01;by_cases hlt:k<n
 ·have kp:=kpos (by omega);obtain⟨m,hm⟩:∃m,Nat.min k (n-k)=m:=⟨_,rfl⟩;have mk:m≤k:=by rw[←hm];exact Nat.min_le_left _ _
  have mn:k+m≤n:=by have:m≤n-k:=(by rw[←hm];exact Nat.min_le_right _ _);omega
  have mp:0<m:=by rw[←hm];exact Nat.lt_min.2 ⟨kp,by omega⟩
  obtain⟨cur,c1',c2',c3'⟩:=L3.out;have C1:=hid c1';have C2:=hid c2';have C3:=hid c3';have F0:Hid (k*6+(flat cs m).length≤cur.length):=by show _≤_;rw[dJ,C2.out,CL.out,←Nat.add_mul];exact Nat.mul_le_mul_right _ mn
  have FO:=hid (nD cs CO.out m);have FL:Hid ((flat cs m).length=m*6):=by show _=_;rw[dJ,CL.out]
  have SR:=hid (L3.out.src mk);clear c1' c2' c3';have k0:(0:Int)≤(k:Int):=by omega
  have k1:(k:Int)≤(n:Int):=by omega
  go_upto_region 9 with fail
  have ne:¬(n=k):=by omega
  have wk:IntKind.i64.wrap ((k:Int)+(m:Int))=((k+m:Nat):Int):=by rw[IntKind.wrap_i64];omega
  go_region_law (refine ni (by rfl) (.tmp 41) (.tmp 44) 214 214 (by rfl) 174 6 underlying214 Qk g2 (k*6) (n-k) (n-k) ⟨g2,0,none⟩ k n m (by go_simp) (by go_simp) hm cur 174 C1.out (flat cs m) FL.out SR.out F0.out FO.out w.heap.size w B3.out.drew GE.out ?_;intro w4 hg4 hb4 hs4;have HG4:=hg4;have B4:=hid hb4;clear hg4 hb4 hs4);have L4:Hid (Laid w4 g2 174 cs n (k+m)):=by have e:=nV (k:=k) (m:=m) C2.out C3.out mn;rw[CL.out]at e;exact⟨_,HG4.out,by rw[CL.out];exact e.1,by rw[CL.out];exact e.2⟩
  simp only[Act.put,List.getElem_toArray,List.getElem_cons_zero,List.getElem_cons_succ,List.setIfInBounds_toArray,List.set_cons_zero,List.set_cons_succ,wk];go_roundw
  case rel=>exact⟨_,_,_,_,_,_,_,_,_,_,_,_,_,_,⟨k+m,mn,fun _=>by omega,by rw[Int.natCast_add],L4.out,B4.out⟩,rfl⟩
  simp[intOf];omega
 obtain rfl:n=k:=by omega
 go_wp2_with fail;go_ret;exact⟨g2,rfl,L3.out,GE.out,B3.out⟩
theorem info25:(prog.info? 25).map (fun i=>(i.zero,i.size,i.bytes))=some (some (.agg #[.bool false,.slice none 0 0,.slice none 0 0]),3,56):=by kernel_rfl
theorem Xe:(prog.info? 25).map (·.size)=some 3:=by kernel_rfl
theorem Qn {w:World}{g n:Nat}{M:Nw}(h:NQ w g M)(hn:n≤200):
  Calls prog 155 #[.slice (some ⟨g,0,none⟩) 1 1,.int .i64 (n:Int)] w fun e w'=>∃g2,e= .returned (.slice (some ⟨g2,0,none⟩) n n)∧Laid w' g2 25 (M.cs) n n∧w.heap.size≤g2∧Below w.heap.size w w':=by
 obtain⟨cs,hcs⟩:∃cs:List Value,cs=M.cs:=⟨_,rfl⟩;have CL:Hid (cs.length=3):=by show _=_;rw[hcs];rfl
 have CO:Hid (∀v∈cs,v.oneCell'=true):=by show ∀v∈cs,_;rw[hcs];intro v hv;simp[Nw.cs]at hv;rcases hv with rfl | rfl | rfl<;>rfl
 have SRC:Hid (Laid w g 25 cs 1 1):=⟨cs,by rw[hcs];exact h,by rw[Nat.one_mul],by rw[Nat.one_mul,List.take_length];simp[flat]⟩;have GL:Hid (g<w.heap.size):=(Array.getElem?_eq_some_iff.1 h).1;rw[←hcs];clear hcs h;obtain⟨i0,hi0,hz0,hz1,hz2⟩:=info_parts info25;have n1:(1*n/18446744073709551616:Nat)=0:=by omega
 have n2:(1*n%18446744073709551616:Nat)=n:=by omega
 have BM:=Tryz.bits_Mul 1 n (by omega) (by omega) w;rw[n1,n2]at BM;have BM:=hid BM;clear n1 n2;have c1:IntKind.u64.wrap (1:Int)=1:=by rw[IntKind.wrap_u64];omega
 have c2:IntKind.u64.wrap ((n:Nat):Int)=(n:Int):=by rw[IntKind.wrap_u64];omega
 have c3:IntKind.i64.wrap ((n:Nat):Int)=(n:Int):=by rw[IntKind.wrap_i64];omega
 go_enter func155,ntmps155;go_upto_region 6 with(go_at_call 182;refine BM.out.mono ?_;rintro e w9 ⟨rfl,hw⟩;rw[hw])
 go_upto_region 7 with(at_make;refine wpList_make_full _ rfl _ _ 83 rfl 0 25 i0 (.agg #[.bool false,.slice none 0 0,.slice none 0 0]) 3 underlying83 hi0 hz0 hz1 .i64 .i64 _ _ n rfl rfl (by omega) (by omega) (by rw[hz2];omega) (by unfold maxLen;omega) (Nat.zero_le _) ?_;intro w1 hown1 hg1;have OW:=hid hown1;have B1:=hid (below_grown hg1);clear hown1 hg1)
 obtain⟨g2,hg2⟩:∃g2,w.heap.size=g2:=⟨_,rfl⟩;have L0:Hid (Laid w1 g2 25 cs n 0):=by
  obtain⟨hl,hv⟩:=OW.out;rcases hv with⟨hv,_⟩ | ⟨g',cap,cur,hv,_,hgg,_,_,hcs,ht⟩
  ·simp at hv
  simp only[Value.slice.injEq,Option.some.injEq,Addr.mk.injEq]at hv;obtain⟨⟨e1,_⟩,_,e2⟩:=hv;subst e2;refine⟨cur.toList,by rw[←hg2,e1];exact hgg,by rw[CL.out];simpa using hcs,by simp[flat]⟩
 have S1:=hid (SRC.out.later B1.out GL.out);have GE:Hid (w.heap.size≤g2):=Nat.le_of_eq hg2;clear OW;rw[hg2];obtain⟨m0,hm0⟩:∃m0,Nat.min 1 n=m0:=⟨_,rfl⟩;have Ze:m0≤n:=by rw[←hm0];exact Nat.min_le_right _ _
 have m01:m0≤1:=by rw[←hm0];exact Nat.min_le_left _ _
 have mpos:0<n→0<m0:=fun h=>by rw[←hm0];exact Nat.lt_min.2 ⟨by omega,h⟩
 obtain⟨cur,c1',c2',c3'⟩:=L0.out;have C1:=hid c1';have C2:=hid c2';have C3:=hid c3';have GR:=hid (Below.refl w.heap.size w);have F0:Hid (0+(flat cs m0).length≤cur.length):=by show _≤_;rw[dJ,C2.out,Nat.zero_add];exact Nat.mul_le_mul_right _ Ze
 have FO:=hid (nD cs CO.out m0);have FL:Hid ((flat cs m0).length=m0*3):=by show _=_;rw[dJ,CL.out]
 have SR:=hid (S1.out.src m01);clear c1' c2' c3' hg2;go_upto_region 8 with(refine kW rfl (.tmp 31) (.tmp 32) 83 83 rfl 25 3 underlying83 Xe g2 0 n n ⟨g,0,none⟩ 1 1 m0 rfl rfl hm0 cur 25 C1.out (flat cs m0) FL.out SR.out F0.out FO.out w.heap.size w B1.out GE.out ?_;intro w2 Qm hb2 hs2;have HG2:=Qm;have B2:=hid hb2;clear Qm hb2 hs2)
 have L2:Hid (Laid w2 g2 25 cs n m0):=by have e:=nV (k:=0) (m:=m0) C2.out C3.out (by omega);rw[Nat.zero_mul,Nat.zero_add]at e;exact⟨_,HG2.out,e⟩
 clear HG2 F0 FO FL SR C1 C2 C3 L0 S1 B1 GR hm0;go_loopw [8] (fun v wr=>∃k:Nat,k≤n∧(0<n→0<k)∧v= .int .i64 (k:Int)∧Laid wr g2 25 cs n k∧Below w.heap.size w wr) (fun v _=>n-(intOf v).toNat)
 case atStart=>exact⟨m0,Ze,mpos,rfl,L2.out,B2.out⟩
 obtain⟨k,hk,kpos,rfl,hL,hB⟩:=hrel;have L3:=hid hL;have B3:=hid hB;clear L2 B2 hL hB mpos Ze m01;by_cases hlt:k<n
 ·have kp:=kpos (by omega);obtain⟨m,hm⟩:∃m,Nat.min k (n-k)=m:=⟨_,rfl⟩;have mk:m≤k:=by rw[←hm];exact Nat.min_le_left _ _
  have mn:k+m≤n:=by have:m≤n-k:=(by rw[←hm];exact Nat.min_le_right _ _);omega
  have mp:0<m:=by rw[←hm];exact Nat.lt_min.2 ⟨kp,by omega⟩
  obtain⟨cur,c1',c2',c3'⟩:=L3.out;have C1:=hid c1';have C2:=hid c2';have C3:=hid c3';have F0:Hid (k*3+(flat cs m).length≤cur.length):=by show _≤_;rw[dJ,C2.out,CL.out,←Nat.add_mul];exact Nat.mul_le_mul_right _ mn
  have FO:=hid (nD cs CO.out m);have FL:Hid ((flat cs m).length=m*3):=by show _=_;rw[dJ,CL.out]
  have SR:=hid (L3.out.src mk);clear c1' c2' c3';have k0:(0:Int)≤(k:Int):=by omega
  have k1:(k:Int)≤(n:Int):=by omega
  go_upto_region 9 with fail
  have ne:¬(n=k):=by omega
  have wk:IntKind.i64.wrap ((k:Int)+(m:Int))=((k+m:Nat):Int):=by rw[IntKind.wrap_i64];omega
  go_region_law (refine ni (by rfl) (.tmp 41) (.tmp 44) 83 83 (by rfl) 25 3 underlying83 Xe g2 (k*3) (n-k) (n-k) ⟨g2,0,none⟩ k n m (by go_simp) (by go_simp) hm cur 25 C1.out (flat cs m) FL.out SR.out F0.out FO.out w.heap.size w B3.out.drew GE.out ?_;intro w4 hg4 hb4 hs4;have HG4:=hg4;have B4:=hid hb4;clear hg4 hb4 hs4);have L4:Hid (Laid w4 g2 25 cs n (k+m)):=by have e:=nV (k:=k) (m:=m) C2.out C3.out mn;rw[CL.out]at e;exact⟨_,HG4.out,by rw[CL.out];exact e.1,by rw[CL.out];exact e.2⟩
  simp only[Act.put,List.getElem_toArray,List.getElem_cons_zero,List.getElem_cons_succ,List.setIfInBounds_toArray,List.set_cons_zero,List.set_cons_succ,wk];go_roundw
  case rel=>exact⟨_,_,_,_,_,_,_,_,_,_,_,_,_,_,⟨k+m,mn,fun _=>by omega,by rw[Int.natCast_add],L4.out,B4.out⟩,rfl⟩
  simp[intOf];omega
 obtain rfl:n=k:=by omega
 go_wp2_with fail;go_ret;exact⟨g2,rfl,L3.out,GE.out,B3.out⟩
end Go.Proofs.YtijdglogadnbcaaGreat
namespace Go.Proofs.YtijdglogadnbcaaGreat
open Go.Proofs.Tryz
open Go.RowKit Nt
theorem Gj (w:World)(M:Nw):Calls prog 154 #[.agg #[.bool M.s,.slice M.a M.n M.c,.slice M.b M.m M.d]] w fun e w'=>∃S:Nw,e= .returned (.agg #[.bool M.s,.slice M.a M.n M.c,.slice M.b M.m M.d,.bool S.s,.slice S.a S.n S.c,.slice S.b S.m S.d])∧RA w' 0 S∧Below w.heap.size w w':=by
 have B0:Hid (Below w.heap.size w ((w.alloc (.cells #[.bool M.s,.slice M.a M.n M.c,.slice M.b M.m M.d] 25)).alloc (.cells #[.bool false,.slice none 0 0,.slice none 0 0,.bool false,.slice none 0 0,.slice none 0 0] 174))):=(ah _ _).alloc (by simp) _;have X1:Hid (NQ ((w.alloc (.cells #[.bool M.s,.slice M.a M.n M.c,.slice M.b M.m M.d] 25)).alloc (.cells #[.bool false,.slice none 0 0,.slice none 0 0,.bool false,.slice none 0 0,.slice none 0 0] 174)) w.heap.size M):=by show NQ _ _ _;unfold NQ;rw[Below.heap_alloc _ _ _ (by simp)];exact heap_alloc_new w _
 have X3:Hid (VB ((w.alloc (.cells #[.bool M.s,.slice M.a M.n M.c,.slice M.b M.m M.d] 25)).alloc (.cells #[.bool false,.slice none 0 0,.slice none 0 0,.bool false,.slice none 0 0,.slice none 0 0] 174)) (w.heap.size+1) Nw.zero Nw.zero):=by have:=heap_alloc_new (w.alloc (.cells #[.bool M.s,.slice M.a M.n M.c,.slice M.b M.m M.d] 25)) (.cells #[.bool false,.slice none 0 0,.slice none 0 0,.bool false,.slice none 0 0,.slice none 0 0] 174);rwa[show(w.alloc (.cells #[.bool M.s,.slice M.a M.n M.c,.slice M.b M.m M.d] 25)).heap.size=w.heap.size+1 from by simp]at this
 go_enter func154,ntmps154;go_upto_region 1 with fail
 generalize (w.alloc (.cells #[.bool M.s,.slice M.a M.n M.c,.slice M.b M.m M.d] 25)).alloc (.cells #[.bool false,.slice none 0 0,.slice none 0 0,.bool false,.slice none 0 0,.slice none 0 0] 174)=W0 at*;obtain⟨u0,u1,u2,_⟩:=X1.out.reads;have N1:=hid (bI 0 (by omega) (by omega) W0.drew);go_region_held3 (fun W=>W.cell? ⟨w.heap.size,0,none⟩=some (.bool M.s)∧W.cell? ⟨w.heap.size,1,none⟩=some (.slice M.a M.n M.c)∧W.cell? ⟨w.heap.size,2,none⟩=some (.slice M.b M.m M.d))
  (first
   | with_reducible exact⟨u0,u1,u2⟩
   | with_reducible exact⟨y0,y1,y2⟩
   | exact nq3 (H1.out.k6 (by omega) _ _ _ _ _ _)
   | go_keep)
  ((go_at_call 72;((with_reducible refine N1.out.mono ?_));go_loud (rintro e w6 ⟨s6,a6,n6,c6,b6,m6,d6,rfl,L6,B6⟩;have B6:=aJ B6;have K1:NQ w6 w.heap.size M:=X1.out.later B6 X1.out.lt;have K3:VB w6 (w.heap.size+1) Nw.zero Nw.zero:=X3.out.later B6 X3.out.lt;obtain⟨y0,y1,y2,_⟩:=K1.reads;obtain⟨z0,z1,z2,z3,z4,z5,f⟩:=K3.reads;have f0:=f 0;have f1:=f 1;have f2:=f 2;have f3:=f 3;have f4:=f 4;have f5:=f 5;have Tq:=K3.lt;clear f;have K3:=hid K3;have L6:=hid L6;have o8:=hid (aB B0.out B6);have H1:=hid K1;clear B6)))
 go_wp2_with fail;exact bodyPost_ret (v:= .agg #[.bool M.s,.slice M.a M.n M.c,.slice M.b M.m M.d,.bool s6,.slice a6 n6 c6,.slice b6 m6 d6]) (by simp[results,results154,go_sem,z0,z1,z2,z3,z4,z5]) rfl ⟨⟨s6,a6,n6,c6,b6,m6,d6⟩,rfl,RA.limb (N:=⟨s6,a6,n6,c6,b6,m6,d6⟩) L6.out (K3.out.limb (K3.out.wr (M:=M) (S:=⟨s6,a6,n6,c6,b6,m6,d6⟩))),(K3.out.wr (M:=M) (S:=⟨s6,a6,n6,c6,b6,m6,d6⟩)).bel _ _ (by omega) o8.out⟩
end Go.Proofs.YtijdglogadnbcaaGreat
namespace Go.Proofs.YtijdglogadnbcaaGreat
open Go.Proofs.Tryz
open Go.RowKit Nt Bl
def lQ (n0:Nat)(w:World)(N g:Nat):Prop:=lV 222 w g N (fun _=>none)∧n0≤g
theorem lQ.below {n0:Nat}{w w':World}{N g:Nat}(h:lQ n0 w N g)(hb:Below w.heap.size w w'):lQ n0 w' N g:=⟨h.1.keep (hb.block _ h.1.blk.lt) (aQ.of_below hb),h.2⟩
theorem Pt.Qo {n0:Nat}{w w1:World}{Z:Gi}{g:Nat}(h:Pt n0 w Z)(hb:Below w.heap.size w w1)(hg:w.heap.size≤g)(hl:fE w1 g Z.n (Z.T Z.nl))(hn:n0≤w.heap.size)(hit:Z.it≤Z.nl):Pt n0 w1 {Z with nl:=Z.nl+1,line:=fun k=>if k=Z.nl then g else Z.line k}:=by
 have k:=h.Ve hb hg hl hn hit;have e:(fun k=>if k=Z.nl then Z.T Z.nl else Z.T k)=Z.T:=by
  funext j;by_cases q:j=Z.nl
  ·rw[if_pos q,q]
  rw[if_neg q]
 rw[e]at k;exact k
theorem Zf:(prog.info? 83).map (fun i=>(i.zero,i.size,i.bytes))=some (some (.slice none 0 0),1,24):=by kernel_rfl
theorem wJ {w:World}{g i:Nat}{v old:Value}(h:w.cell? ⟨g,i,none⟩=some old)(hn:Nu old):aQ w (w.setCell ⟨g,i,none⟩ v):=by
 have hw:=dY w g i [v] fun j hj=>by
  obtain rfl:j=0:=by simpa using hj
  rw[Nat.add_zero,h];rfl
 exact hw.limb fun j x hj=>by
  obtain rfl:j=0:=by simpa using hj
  rw[Nat.add_zero,h];exact fun e=>hn x (Option.some.inj e)
theorem Ow.nuv {w:World}{base e size n:Nat}{v:Value}{xs:List Value}(h:Ow w base e size v n xs):Nu v:=by rcases h.own.2 with⟨rfl,_⟩ | ⟨g,cap,cur,rfl,_⟩<;>intro x hx<;>simp at hx
theorem dQ (x:Int):Nu (.int .i64 x):=fun y h=>by simp at h
theorem dA (a:Option Addr)(n c:Nat):Nu (.slice a n c):=fun y h=>by simp at h
variable {n0:Nat} {w W:World} {Z:Gi}
theorem Pt.setB {v:Value}(h:Pt n0 w Z)(hn:Nu Z.hb):Pt n0 (w.setCell ⟨Z.p,4,none⟩ v) {Z with hb:=v}:=by refine h.hold (fun b hb=>heap_setCell_other _ _ _ _ hb) (wJ h.head.2.2.2.2.1 hn) rfl ?_ (by simp) ⟨rfl,rfl,rfl⟩;have:=heap_setCell_same w Z.p 4 _ _ v h.hd;simpa using this
theorem Pt.acd {v:Value}(h:Pt n0 w Z)(hn:Nu Z.hf):Pt n0 (w.setCell ⟨Z.p,5,none⟩ v) {Z with hf:=v}:=by refine h.hold (fun b hb=>heap_setCell_other _ _ _ _ hb) (wJ h.head.2.2.2.2.2.1 hn) rfl ?_ (by simp) ⟨rfl,rfl,rfl⟩;have:=heap_setCell_same w Z.p 5 _ _ v h.hd;simpa using this
theorem Pt.Du {v:Value}(h:Pt n0 w Z)(hn:Nu Z.ht):Pt n0 (w.setCell ⟨Z.p,6,none⟩ v) {Z with ht:=v}:=by refine h.hold (fun b hb=>heap_setCell_other _ _ _ _ hb) (wJ h.head.2.2.2.2.2.2.1 hn) rfl ?_ (by simp) ⟨rfl,rfl,rfl⟩;have:=heap_setCell_same w Z.p 6 _ _ v h.hd;simpa using this
structure Qq (n0:Nat)(W cur:World)(Z:Gi):Prop where
 pt:Pt n0 cur Z
 bl:Below n0 W cur
 sz:W.heap.size≤cur.heap.size
 ot:∀b ty,dh W b ty→ty≠3→ty≠83→cur.heap[b]? =W.heap[b]?
theorem Qq.later {cur Tv:World}(h:Qq n0 W cur Z)(hn:n0≤W.heap.size)(hb:Below cur.heap.size cur Tv):Qq n0 W Tv Z:=
 ⟨h.pt.below hb,Below.trans h.bl (hb.mono (Nat.le_trans hn h.sz)),Nat.le_trans h.sz hb.size,fun b ty q h1 h2=>(hb.block b (Nat.lt_of_lt_of_le q.lt h.sz)).trans (h.ot b ty q h1 h2)⟩
theorem Qq.xA {cur Tv:World}{qZ:Value}(h:Qq n0 W cur Z)(hn:n0≤W.heap.size)(O:Ow Tv n0 3 1 qZ (Z.ib+1) (ints Z.n (Z.ib+1)))(G:cur.grownBy Tv Z.bv.ownBlock)(far:∀g,qZ.ownBlock=some g→Z.bv.ownBlock=some g∨cur.heap.size≤g):Qq n0 W Tv {Z with bv:=qZ,ib:=Z.ib+1}:=by
 refine⟨h.pt.xA O G fun g q e=>?_,fH h.bl h.pt.bo.own (Nat.le_trans hn h.sz) G,Nat.le_trans h.sz G.size,fun b ty q h1 h2=>?_⟩
 ·rcases far g q with r | r
  ·exact h.pt.bf g r e
  have:=(h.pt.fo.blk e).lt;omega
 have qc:dh cur b ty:=q.keep (h.ot b ty q h1 h2);exact(Pt.jm h.pt.bo G qc h1).trans (h.ot b ty q h1 h2)
theorem Qq.xB {cur Tv:World}{tv':Value}(h:Qq n0 W cur Z)(hn:n0≤W.heap.size)(O:Ow Tv n0 83 1 tv' (Z.it+1) (qY Z.line Z.n (Z.it+1)))(G:cur.grownBy Tv Z.tv.ownBlock):Qq n0 W Tv {Z with tv:=tv',it:=Z.it+1}:=by refine⟨h.pt.xB O G,fH h.bl h.pt.lN.own (Nat.le_trans hn h.sz) G,Nat.le_trans h.sz G.size,fun b ty q h1 h2=>?_⟩;have qc:dh cur b ty:=q.keep (h.ot b ty q h1 h2);exact(Pt.jm h.pt.lN G qc h2).trans (h.ot b ty q h1 h2)
theorem lV.wr {w:World}{g N v:Nat}{f:Nat→Option V}(h:lV 222 w g N f)(hv:v<N)(M S:Nw):Wr w (w.setCells g (v*7) (.bool true::(M.cs++S.cs))) g (v*7) (.bool true::(M.cs++S.cs)):=by
 obtain⟨is,M',S',_,a0,a1,a2,a3,a4,a5,a6⟩:=(h.at_ v hv).r7;refine dY w g _ _ fun j hj=>?_;have hj:j<7:=by simpa[Nw.cs]using hj
 rcases j with _ | _ | _ | _ | _ | _ | _ | j
 ·rw[Nat.add_zero,a0];rfl
 ·rw[show v*7+(0+1)=v*7+1 from rfl,a1];rfl
 ·rw[show v*7+(0+1+1)=v*7+2 from rfl,a2];rfl
 ·rw[show v*7+(0+1+1+1)=v*7+3 from rfl,a3];rfl
 ·rw[show v*7+(0+1+1+1+1)=v*7+4 from rfl,a4];rfl
 ·rw[show v*7+(0+1+1+1+1+1)=v*7+5 from rfl,a5];rfl
 ·rw[show v*7+(0+1+1+1+1+1+1)=v*7+6 from rfl,a6];rfl
 omega
theorem fF {g:Nat}:∀(vs:List Value) (o:Nat) (w:World),w.heap.size=(w.setCells g o vs).heap.size∧(w.setCells g o vs).os=w.os∧(w.setCells g o vs).tape=w.tape∧(w.setCells g o vs).output=w.output
 | [],_,_=>⟨rfl,rfl,rfl,rfl⟩
 | v::vs,o,w=>by obtain⟨a,b,c,d⟩:=fF (g:=g) vs (o+1) (w.setCell ⟨g,o,none⟩ v);exact⟨by rw[show w.setCells g o (v::vs)=(w.setCell ⟨g,o,none⟩ v).setCells g (o+1) vs from rfl,←a];simp,b,c,d⟩
end Go.Proofs.YtijdglogadnbcaaGreat
namespace Go.Proofs.YtijdglogadnbcaaGreat
open Go.Proofs.Tryz
open Go.RowKit Nt Bl
def FrL (n0:Nat)(w:World)(p low high now n N:Nat)(T:Nat→Nat→Rat)(v:Value)(wr:World):Prop:=
 ∃(k:Nat) (fv:Value),k≤n∧v= .int .i64 (k:Int)∧Pt n0 wr {Z0 p low high now n N T with hf:=fv,fv:=fv,nf:=k}∧Below n0 w wr
theorem Vh {n0 p low high now n N k:Nat}{T:Nat→Nat→Rat}{W1 w4 w:World}{fv v4:Value}(PA:Pt n0 W1 {Z0 p low high now n N T with hf:=fv,fv:=fv,nf:=k})(hO:Ow w4 n0 3 1 v4 (k+1) (ints 0 k++[.int .i64 (k:Int)]))(hG:W1.grownBy w4 fv.ownBlock)(hB:Below n0 w W1)(hs:n0≤W1.heap.size):
  w4.cell? ⟨p,5,none⟩=some fv∧w4.frozen? ⟨p,5,none⟩=false∧Pt n0 (w4.setCell ⟨p,5,none⟩ v4) {Z0 p low high now n N T with hf:=v4,fv:=v4,nf:=k+1}∧Below n0 w (w4.setCell ⟨p,5,none⟩ v4):=by
 have e:ints 0 (k+1)=ints 0 k++[.int .i64 (k:Int)]:=by rw[fP,Nat.zero_add]
 have P4:=PA.ab6 (fv':=v4) (by rw[show({Z0 p low high now n N T with hf:=fv,fv:=fv,nf:=k}:Gi).nf=k from rfl,e];exact hO) hG rfl;have nf:Nu fv:=PA.fo.nuv;exact⟨P4.head.2.2.2.2.2.1,P4.head.2.2.2.2.2.2.2 5,P4.acd nf,(fH hB PA.fo.own hs hG).setCell PA.ge.1 _⟩
def Dv (W:World)(gA:Nat)(xs:List Value):Prop:=∃cur:Array Value,W.heap[gA]? =some (.cells cur 27 (0,0))∧cur.toList.take xs.length=xs
theorem Dv.cell {W:World}{gA j:Nat}{xs:List Value}{u:Value}(h:Dv W gA xs)(hu:xs[j]? =some u):W.cell? ⟨gA,j,none⟩=some u:=by
 obtain⟨cur,hg,ht⟩:=h;rw[cell_of_row W gA j _ _ _ hg];rw[←ht,List.getElem?_take]at hu;split at hu
 ·simpa using hu
 simp at hu
theorem Dv.blk {W:World}{gA:Nat}{xs:List Value}(h:Dv W gA xs):dh W gA 27:=by obtain⟨cur,hg,_⟩:=h;exact⟨_,hg⟩
theorem Dv.keep {W W':World}{gA:Nat}{xs:List Value}(h:Dv W gA xs)(e:W'.heap[gA]? =W.heap[gA]?):Dv W' gA xs:=by obtain⟨cur,hg,r⟩:=h;exact⟨cur,e.trans hg,r⟩
theorem Dv.below {W W':World}{gA:Nat}{xs:List Value}(h:Dv W gA xs)(hb:Below W.heap.size W W'):Dv W' gA xs:=h.keep (hb.block _ h.blk.lt)
theorem Qr {w5:World}{b n:Nat}{v5:Value}{xs:List Value}(h:w5.ownsRow b 27 5 v5 n xs)(hn:0<n):∃gA cA,v5= .slice (some ⟨gA,0,none⟩) n cA∧Dv w5 gA xs:=by
 rcases h.2 with⟨_,e⟩ | ⟨g,cap,cur,rfl,hb,hg,_,_,_,ht⟩
 ·omega
 exact⟨g,cap,rfl,cur,hg,by rw[h.1];exact ht⟩
def AlV (W:World)(al:List Rl)(m:Nat)(xs:List Value):Prop:=xs.length=(m+1)*5∧∀i,i<m+1→∃ca cc N,(∀k,k<5→xs[i*5+k]? =(wH (rq al i) ca cc N)[k]?)∧iE W (rq al i).cs ca∧(rq al i).cs.length≤cc∧cc≤9223372036854775807∧(i<m→RA W (rq al i).bd N)
theorem Zg {W:World}{rows:List Rl}{vs:List Value}{gl:List (Nat×Rat)}{ga:Option Addr}{gc m:Nat}(hv:Di W rows vs)(hm:rows.length=m)(hg:iE W gl ga)(hc:gl.length≤gc)(hc2:gc≤9223372036854775807):AlV W (kQ rows gl) m (vs++[.slice ga gl.length gc,.int .i64 0,.bool false,.slice none 0 0,.slice none 0 0]):=by
 subst hm;refine⟨by simp[hv.1];omega,fun i hi=>?_⟩;by_cases e:i<rows.length
 ·obtain⟨ca,cc,N,a,b⟩:=hv.2 i e;have er:rq (kQ rows gl) i=rq rows i:=by unfold kQ;exact iM e
  rw[er];refine⟨ca,cc,N,fun k hk=>?_,b.co,b.le,b.cap,fun _=>b.bd⟩;rw[List.getElem?_append_left (by rw[hv.1];omega)];exact a k hk
 obtain rfl:i=rows.length:=by omega
 have er:rq (kQ rows gl) rows.length=⟨gl,0,0⟩:=by unfold kQ;exact uD
 rw[er];refine⟨ga,gc,Nw.zero,fun k hk=>?_,hg,hc,hc2,fun q=>absurd q (Nat.lt_irrefl _)⟩;rw[List.getElem?_append_right (by rw[hv.1];omega),hv.1,Nat.add_sub_cancel_left];rfl
theorem Dv.row {W:World}{gA i:Nat}{al:List Rl}{xs:List Value}{ca:Option Addr}{cc:Nat}{N:Nw}(h:Dv W gA xs)(hi:∀k,k<5→xs[i*5+k]? =(wH (rq al i) ca cc N)[k]?):
  W.cell? ⟨gA,i*5,none⟩=some (.slice ca (rq al i).cs.length cc)∧W.cell? ⟨gA,i*5+1,none⟩=some (.int .i64 (rq al i).rel)∧W.cell? ⟨gA,i*5+2,none⟩=some (.bool N.s)∧W.cell? ⟨gA,i*5+3,none⟩=some (.slice N.a N.n N.c)∧W.cell? ⟨gA,i*5+4,none⟩=some (.slice N.b N.m N.d):=
 ⟨h.cell (hi 0 (by omega)),h.cell (hi 1 (by omega)),h.cell (hi 2 (by omega)),h.cell (hi 3 (by omega)),h.cell (hi 4 (by omega))⟩
def Zi (p low high now n N:Nat)(PB:Pb)(fv bv tv:Value)(line:Nat→Nat)(i:Nat):Gi:=⟨p,low,high,now,n,N,bv,fv,tv,bv,fv,tv,i,i,n,i,line,sF PB i,hiT PB i,PB.T⟩
def NwL (n0:Nat)(w:World)(p low high now n N m:Nat)(PB:Pb)(fv:Value)(gA:Nat)(xs:List Value)(v:Value)(wr:World):Prop:=
 ∃(i:Nat) (bv tv:Value) (line:Nat→Nat),i≤m+1∧v= .int .i64 (i:Int)∧Pt n0 wr (Zi p low high now n N PB fv bv tv line i)∧Dv wr gA xs∧Below n0 w wr
def CoL (wr:World)(g2 n r:Nat)(cs:List (Nat×Rat))(cells:Array Value)(v:Value)(W:World):Prop:=
 ∃j:Nat,j≤cs.length∧v= .int .i64 (j:Int)∧fE W g2 n (jq cs j)∧Below wr.heap.size wr W∧W.heap[r]? =some (.cells cells 27 (0,0))
theorem Vj {n0 p low high now n N:Nat}{rows:List Rl}{gl:List (Nat×Rat)}{fv:Value}{wr:World}(h:Pt n0 wr {Z0 p low high now n N (cO (dP rows) n (fA gl)).T with hf:=fv,fv:=fv,nf:=n}):
  Pt n0 wr (Zi p low high now n N (cO (dP rows) n (fA gl)) fv (.slice none 0 0) (.slice none 0 0) (fun _=>0) 0):=by
 have e1:sF (cO (dP rows) n (fA gl)) 0=fun _=>none:=by
  funext v;unfold sF;split
  ·rename_i hv;exact I4 (Or.inl hv)
  rfl
 have e2:hiT (cO (dP rows) n (fA gl)) 0=fun _=>none:=by
  funext v;unfold hiT;split
  ·rename_i hv;exact Dp (Or.inl hv)
  rfl
 unfold Zi;rw[e1,e2];exact h
theorem aaN {n0 p low high now n N m:Nat}{rows:List Rl}{gl:List (Nat×Rat)}{fv bv tv:Value}{line:Nat→Nat}{wr:World}(h:Pt n0 wr (Zi p low high now n N (cO (dP rows) n (fA gl)) fv bv tv line (m+1)))(hm:rows.length=m)(hN:N=n+m+1)(b:n≤60∧m≤60):∃L,L.p=p∧eY n0 wr L (cO (dP rows) n (fA gl)):=by
 have em:(cO (dP rows) n (fA gl)).m=m+1:=by show(dP rows).length+1=_;rw[ku,hm]
 have en:(cO (dP rows) n (fA gl)).n=n:=rfl;refine h.done (P:=cO (dP rows) n (fA gl)) ⟨rfl,rfl,rfl⟩ ⟨em.symm,em.symm,em.symm,rfl⟩ rfl ?_ (by omega) ⟨by omega,by omega⟩ (fun v hv=>?_) (fun v hv=>?_) (fun _=>rfl) (fun _=>rfl) (fun _=>rfl) (fun _ _=>rfl)
 ·show N=_;omega
 ·show sF _ (m+1) v=_;unfold sF;rw[if_pos (by omega)]
 show hiT _ (m+1) v=_;unfold hiT;rw[if_pos (by omega)]
def Zw (p low high now n N:Nat)(PB:Pb)(fv bv tv:Value)(line:Nat→Nat)(i:Nat)(lo hi:Nat→Option V):Gi:=⟨p,low,high,now,n,N,bv,fv,tv,bv,fv,tv,i,i,n,i,line,lo,hi,PB.T⟩
theorem zS {rows:List Rl}{gl:List (Nat×Rat)}{n i:Nat}(h:i<rows.length):hiT (cO (dP rows) n (fA gl)) (i+1)=fun j=>if j=n+i then some ⟨(rq (kQ rows gl) i).bd,if(rq (kQ rows gl) i).rel=2 then-1 else 0⟩else hiT (cO (dP rows) n (fA gl)) i j:=by have e:=Qg (cO (dP rows) n (fA gl)) i;have en:(cO (dP rows) n (fA gl)).n=n:=rfl;rw[en,Qe h]at e;rw[←e,show rq (kQ rows gl) i=rq rows i from by unfold kQ;exact iM h]
theorem Vk {rows:List Rl}{gl:List (Nat×Rat)}{n i:Nat}(h:i<rows.length)(hr:(rq (kQ rows gl) i).rel≠1∧(rq (kQ rows gl) i).rel≠2):sF (cO (dP rows) n (fA gl)) (i+1)=fun j=>if j=n+i then some ⟨(rq (kQ rows gl) i).bd,0⟩else sF (cO (dP rows) n (fA gl)) i j:=by
 have e:=Qh (cO (dP rows) n (fA gl)) i;have en:(cO (dP rows) n (fA gl)).n=n:=rfl;have er:rq (kQ rows gl) i=rq rows i:=by unfold kQ;exact iM h
 rw[er]at hr⊢;rw[en,IY h,if_neg (fun q=>q.elim hr.1 hr.2)]at e;exact e.symm
theorem Ja {rows:List Rl}{gl:List (Nat×Rat)}{n i:Nat}(h:i<rows.length)(hr:(rq (kQ rows gl) i).rel=1∨(rq (kQ rows gl) i).rel=2):sF (cO (dP rows) n (fA gl)) (i+1)=sF (cO (dP rows) n (fA gl)) i:=by
 have er:rq (kQ rows gl) i=rq rows i:=by unfold kQ;exact iM h
 rw[er]at hr;refine Dq ?_;show(cO (dP rows) n (fA gl)).low (n+i)=none;rw[IY h,if_pos hr]
theorem Vl {rows:List Rl}{gl:List (Nat×Rat)}{n i:Nat}(h:rows.length≤i):sF (cO (dP rows) n (fA gl)) (i+1)=sF (cO (dP rows) n (fA gl)) i:=
 Dq (I4 (Or.inr (by show n+rows.length≤n+i;omega)))
theorem Vm {rows:List Rl}{gl:List (Nat×Rat)}{n i:Nat}(h:rows.length≤i):hiT (cO (dP rows) n (fA gl)) (i+1)=hiT (cO (dP rows) n (fA gl)) i:=
 Qi (Dp (Or.inr (by show n+rows.length≤n+i;omega)))
theorem Jb {n0 p low high now n N:Nat}{PB:Pb}{fv bv tv:Value}{line:Nat→Nat}{i:Nat}{lo hi:Nat→Option V}{W:World}(h:Pt n0 W (Zw p low high now n N PB fv bv tv line (i+1) lo hi))(e1:sF PB (i+1)=lo)(e2:hiT PB (i+1)=hi):Pt n0 W (Zi p low high now n N PB fv bv tv line (i+1)):=by unfold Zi;rw[e1,e2];exact h
theorem Zh {rows:List Rl}{gl:List (Nat×Rat)}{n m i b:Nat}{PB:Pb}(Qs:cO (dP rows) n (fA gl)=PB)(hm:rows.length=m)(h:i<m)(hb:b=n+i)(hr:(rq (kQ rows gl) i).rel=1):
  sF PB (i+1)=sF PB i∧hiT PB (i+1)=fun j=>if j=b then some ⟨(rq (kQ rows gl) i).bd,0⟩else hiT PB i j:=by subst Qs hm hb;have e:=zS (gl:=gl) (n:=n) h;rw[hr]at e;exact⟨Ja h (Or.inl hr),e⟩
theorem Zj {rows:List Rl}{gl:List (Nat×Rat)}{n m i b:Nat}{PB:Pb}(Qs:cO (dP rows) n (fA gl)=PB)(hm:rows.length=m)(h:i<m)(hb:b=n+i)(hr:(rq (kQ rows gl) i).rel=2):
  sF PB (i+1)=sF PB i∧hiT PB (i+1)=fun j=>if j=b then some ⟨(rq (kQ rows gl) i).bd,-1⟩else hiT PB i j:=by subst Qs hm hb;have e:=zS (gl:=gl) (n:=n) h;rw[hr]at e;exact⟨Ja h (Or.inr hr),e⟩
theorem Zk {rows:List Rl}{gl:List (Nat×Rat)}{n m i b:Nat}{PB:Pb}(Qs:cO (dP rows) n (fA gl)=PB)(hm:rows.length=m)(h:i<m)(hb:b=n+i)(h1:(rq (kQ rows gl) i).rel≠1)(h2:(rq (kQ rows gl) i).rel≠2):
  (sF PB (i+1)=fun j=>if j=b then some ⟨(rq (kQ rows gl) i).bd,0⟩else sF PB i j)∧hiT PB (i+1)=fun j=>if j=b then some ⟨(rq (kQ rows gl) i).bd,0⟩else hiT PB i j:=by subst Qs hm hb;have e:=zS (gl:=gl) (n:=n) h;rw[if_neg h2]at e;exact⟨Vk h ⟨h1,h2⟩,e⟩
theorem Zl {rows:List Rl}{gl:List (Nat×Rat)}{n m i:Nat}{PB:Pb}(Qs:cO (dP rows) n (fA gl)=PB)(hm:rows.length=m)(h:m≤i):sF PB (i+1)=sF PB i∧hiT PB (i+1)=hiT PB i:=by subst Qs hm;exact⟨Vl h,Vm h⟩
end Go.Proofs.YtijdglogadnbcaaGreat
