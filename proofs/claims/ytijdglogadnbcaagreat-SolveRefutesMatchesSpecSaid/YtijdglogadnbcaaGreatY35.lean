/- The reference's RowFault. -/
import Derived.Test.YtijdglogadnbcaaGreatY34
set_option linter.unusedVariables false
set_option linter.unusedSimpArgs false
set_option maxRecDepth 100000
set_option maxHeartbeats 40000000
namespace Go.Proofs.YtijdglogadnbcaaGreat
open Go.Proofs.Tryz
open Go.RowKit Nt
theorem Gq (R:Raw):oW R false=bQ R:=by
 unfold oW bQ;by_cases h:aP R≠0
 ·rw[if_pos h,if_pos h]
 rw[if_neg h,if_neg (by simp)]
theorem Rn {w:World}{u rel:Int}{l:List Cf}{B:Raw}{ca a b:Option Addr}{nc cc n c m d:Nat}(hr:rel≠1∧rel≠2∧rel≠3):
  Calls prog 15 #[.agg #[.slice ca nc cc,.int .i64 rel,.bool B.neg,.slice a n c,.slice b m d],.int .i64 u] w (bP w (bV u rel l B)):=by
 have E:Hid (bV u rel l B=1):=by show _=_;unfold bV;rw[if_pos hr]
 have b1:(rel !=1)=true:=by simp;exact hr.1
 have b2:(rel !=2)=true:=by simp;exact hr.2.1
 have b3:(rel !=3)=true:=by simp;exact hr.2.2
 clear hr;go_enter func15,ntmps15;go_wp2_with fail;go_ret;exact⟨by rw[E.out];rfl,ah _ _⟩
theorem KD {w:World}{u rel:Int}{l:List Cf}{B:Raw}{ca a b:Option Addr}{nc cc n c m d:Nat}(hn:l.length=nc)(hc:nc≤cc)(hc2:cc≤9223372036854775807)(hr:rel=1∨rel=2∨rel=3)(h8:8<nc):
  Calls prog 15 #[.agg #[.slice ca nc cc,.int .i64 rel,.bool B.neg,.slice a n c,.slice b m d],.int .i64 u] w (bP w (bV u rel l B)):=by
 have E:Hid (bV u rel l B=3):=by show _=_;unfold bV;rw[if_neg (by omega),if_pos (by omega)]
 clear hn;have h9:(8:Int)<(nc:Int):=by omega
 rcases hr with rfl | rfl | rfl;all_goals
  go_enter func15,ntmps15
  go_wp2_with fail
  go_ret
  exact⟨by rw[E.out];rfl,ah _ _⟩
theorem Gs {w:World}{u rel:Int}{l:List Cf}{B:Raw}{ca a b:Option Addr}{nc cc n c m d:Nat}(hl:kG w l ca)(hB:dG w B a n c b m d)(hn:l.length=nc)(hc:nc≤cc)(hc2:cc≤9223372036854775807)(hr:rel=1∨rel=2∨rel=3)(h8:nc≤8):
  Calls prog 15 #[.agg #[.slice ca nc cc,.int .i64 rel,.bool B.neg,.slice a n c,.slice b m d],.int .i64 u] w (bP w (bV u rel l B)):=by
 have E:Hid (bV u rel l B=if bK u l l.length≠0 then bK u l l.length else bQ B):=by show _=_;unfold bV;rw[if_neg (by omega),if_neg (by omega)]
 have HL:=hid hl;have HB:=hid hB;have HN:=hid hn;have B0:Hid (Below w.heap.size w (w.alloc (.cells #[.slice ca nc cc,.int .i64 rel,.bool B.neg,.slice a n c,.slice b m d] 27))):=ah _ _;have X0:Hid ((w.alloc (.cells #[.slice ca nc cc,.int .i64 rel,.bool B.neg,.slice a n c,.slice b m d] 27)).heap[w.heap.size]? =some (.cells #[.slice ca nc cc,.int .i64 rel,.bool B.neg,.slice a n c,.slice b m d] 27 (0,0))):=heap_alloc_new w _;have S0:Hid ((w.alloc (.cells #[.slice ca nc cc,.int .i64 rel,.bool B.neg,.slice a n c,.slice b m d] 27)).heap.size=w.heap.size+1):=by show _=_;simp
 clear hl hB hn;have RD:=hid (fun(W:World) (h:W.heap[w.heap.size]? =some (.cells #[.slice ca nc cc,.int .i64 rel,.bool B.neg,.slice a n c,.slice b m d] 27 (0,0)))=>
  (show W.cell? ⟨w.heap.size,0,none⟩=some (.slice ca nc cc)∧W.cell? ⟨w.heap.size,2,none⟩=some (.bool B.neg)∧W.cell? ⟨w.heap.size,3,none⟩=some (.slice a n c)∧W.cell? ⟨w.heap.size,4,none⟩=some (.slice b m d) from
   ⟨by rw[cell_of_row W w.heap.size 0 _ _ _ h];rfl,by rw[cell_of_row W w.heap.size 2 _ _ _ h];rfl,by rw[cell_of_row W w.heap.size 3 _ _ _ h];rfl,by rw[cell_of_row W w.heap.size 4 _ _ _ h];rfl⟩))
 go_enter func15,ntmps15;go_upto_region 1 with fail
 generalize w.alloc (.cells #[.slice ca nc cc,.int .i64 rel,.bool B.neg,.slice a n c,.slice b m d] 27)=W0 at*;have Y0:Hid (W0.cell? ⟨w.heap.size,1,none⟩=some (.int .i64 rel)):=by show _=_;rw[cell_of_row W0 w.heap.size 1 _ _ _ X0.out];rfl
 go_cut [20] (fun v W=>v= .bool false∧W=W0)
 case first=>
  have y0:=Y0.out;obtain⟨q0,q2,q3,q4⟩:=RD.out W0 X0.out;rcases hr with rfl | rfl | rfl;all_goals
   go_wp2_with fail
   go_meet
   case rel=>exact⟨rfl,rfl⟩
 obtain⟨rfl,rfl⟩:=hcut;obtain⟨W1,rfl⟩:∃W1:World,W1=wc:=⟨_,rfl⟩;obtain⟨q0,q2,q3,q4⟩:=RD.out W1 X0.out;go_wp2_with fail;go_loopw [5] (fun i wr=>CrL W1 u l i wr) (fun i _=>nc-(intOf i).toNat)
 case atStart=>exact⟨0,Nat.zero_le _,rfl,rfl,Below.refl _ _⟩
 obtain⟨k,hk,rfl,hz,hBr⟩:=hrel;have Z:=hid hz;have BR:=hid hBr;have X1:=hid ((hBr.block w.heap.size (by rw[S0.out];omega)).trans X0.out);have B1:=hid (aB B0.out hBr);rw[HN.out]at hk;clear hz hBr q0 q2 q3 q4;obtain⟨q0,q2,q3,q4⟩:=RD.out wr X1.out;by_cases hlt:k<nc
 ·obtain⟨g,o,rfl,dd⟩:=HL.out (by intro e;have:=HN.out;rw[e]at this;simp at this;omega);obtain⟨ra,rn,rc,rb,rm,rd,p0,p1,p2,p3,hR⟩:=dd k (by rw[HN.out];exact hlt);have ST:=hid (fun(z:Int) (h:fD u l k=z) (h0:z≠0)=>(show bV u rel l B=z by rw[E.out,HN.out,qA Z.out (by rw[h];exact h0) hlt,h,if_pos h0]));have CA:Hid (fD u l k=if(cf l k).var<0∨u≤(cf l k).var then 1 else if 0<k∧(cf l k).var≤(cf l (k-1)).var then 2 else if aP (cf l k).gU≠0 then aP (cf l k).gU else if(cf l k).gU.num.length=0 then 2 else bQ (cf l k).gU):=rfl;have PV:=hid (fun(h:0<k)=>(show ∃z,w.cell? ⟨g,o+(k-1)*4,none⟩=some (.int .i64 z)∧(cf l (k-1)).var=z from by obtain⟨_,_,_,_,_,_,e,_⟩:=dd (k-1) (by rw[HN.out];omega);exact⟨_,e,rfl⟩))
  clear dd;obtain⟨v,hv⟩:∃v,(cf l k).var=v:=⟨_,rfl⟩;obtain⟨R,hRR⟩:∃R,(cf l k).gU=R:=⟨_,rfl⟩;rw[hv]at p0 CA;rw[hRR]at p1 hR CA;have HR:=hid hR;have p0:=aj B1.out p0;have p1:=aj B1.out p1;have p2:=aj B1.out p2;have p3:=aj B1.out p3;clear hv hRR hR;by_cases c1:v<0
  ·have E1:=hid (ST.out 1 (by rw[CA.out,if_pos (Or.inl c1)]) (by omega));go_wp2_with fail;go_ret;exact⟨by rw[E1.out];rfl,B1.out⟩
  have v0:0≤v:=by omega
  by_cases c2:u≤v
  ·have E1:=hid (ST.out 1 (by rw[CA.out,if_pos (Or.inr c2)]) (by omega));clear c1;go_wp2_with fail;go_ret;exact⟨by rw[E1.out];rfl,B1.out⟩
  have c2':v<u:=by omega
  have CA2:Hid (fD u l k=if 0<k∧v≤(cf l (k-1)).var then 2 else oW R true):=by show _=_;rw[CA.out,if_neg (by omega)];unfold oW;simp only[true_and]
  clear c1 c2 CA;by_cases c3:0<k∧v≤(cf l (k-1)).var
  ·obtain⟨z,pz,hz⟩:=PV.out c3.1;have E1:=hid (ST.out 2 (by rw[CA2.out,if_pos c3]) (by omega));have pz:=aj B1.out pz;have kz:(0:Int)<(k:Int):=by have:=c3.1;omega
   have i1:((k:Int)-1)=((k-1:Nat):Int):=by have:=c3.1;omega
   have zl:v≤z:=by rw[←hz];exact c3.2
   have kz':decide (0<k)=true:=by simp;exact c3.1
   have kz2:0<k:=c3.1;have zl':decide (v≤z)=true:=by simp;exact zl
   have kl:(((k-1:Nat):Int))<(nc:Int):=by omega
   have kl0:(0:Int)≤((k-1:Nat):Int):=by omega
   clear c3 hz;go_wp2_with fail;go_ret;exact⟨by rw[E1.out];rfl,B1.out⟩
  have WS:Hid (fD u l k=oW R true):=by show _=_;rw[CA2.out,if_neg c3]
  go_upto_region 11 with fail
  go_cut [57] (fun t W=>t= .bool false∧W=wr)
  case first=>
   by_cases k0:k=0
   ·subst k0;clear c3;go_wp2_with fail;go_meet
    case rel=>exact⟨rfl,rfl⟩
   obtain⟨z,pz,hz⟩:=PV.out (by omega);have pz:=aj B1.out pz;have kz:(0:Int)<(k:Int):=by omega
   have i1:((k:Int)-1)=((k-1:Nat):Int):=by omega
   have zl:z<v:=by rw[←hz];omega
   have kz':decide (0<k)=true:=by simp;omega
   have kz2:0<k:=by omega
   have zl':decide (v≤z)=false:=by simp;exact zl
   have kl:(((k-1:Nat):Int))<(nc:Int):=by omega
   have kl0:(0:Int)≤((k-1:Nat):Int):=by omega
   clear c3 hz;go_wp2_with fail;go_meet
   case rel=>exact⟨rfl,rfl⟩
  obtain⟨rfl,rfl⟩:=hcut;clear c3;have C:=hid (Ji (kY:=true) (HR.out.below B1.out));obtain⟨z,hz⟩:∃z,oW R true=z:=⟨_,rfl⟩;rw[hz]at WS C;clear hz;go_wp2_with fail;refine C.out.mono ?_;rintro e w6 ⟨rfl,B6⟩;have uI:=hid (aB BR.out B6);have B6:=hid (aB B1.out B6);by_cases z0:z=0
  ·have NX:=hid (qB Z.out (by rw[WS.out];exact z0));subst z0;go_wp2_with fail;go_roundw
   case rel=>exact⟨k+1,by rw[HN.out];omega,by go_num,NX.out,uI.out⟩
   simp[intOf];omega
  have E1:=hid (ST.out z WS.out z0);have zb:(z !=0)=true:=by simp;exact z0
  clear z0;go_wp2_with fail;go_ret;exact⟨by rw[E1.out];rfl,B6.out⟩
 obtain rfl:nc=k:=by omega
 have E2:Hid (bV u rel l B=bQ B):=by show _=_;rw[E.out,HN.out,if_neg (by rw[Z.out];simp)]
 have C:=Ji (kY:=false) (HB.out.below B1.out);rw[Gq]at C;have C:=hid C;go_wp2_with fail;refine C.out.mono ?_;rintro e w2 ⟨rfl,B2⟩;have B2:=hid (aB B1.out B2);go_wp2_with fail;go_ret;exact⟨by rw[E2.out];rfl,B2.out⟩
theorem Na {w:World}{u rel:Int}{l:List Cf}{B:Raw}{ca a b:Option Addr}{nc cc n c m d:Nat}(hl:kG w l ca)(hB:dG w B a n c b m d)(hn:l.length=nc)(hc:nc≤cc)(hc2:cc≤9223372036854775807):
  Calls prog 15 #[.agg #[.slice ca nc cc,.int .i64 rel,.bool B.neg,.slice a n c,.slice b m d],.int .i64 u] w (bP w (bV u rel l B)):=by
 by_cases hr:rel≠1∧rel≠2∧rel≠3
 ·exact Rn hr
 by_cases h8:8<nc
 ·exact KD hn hc hc2 (by omega) h8
 exact Gs hl hB hn hc hc2 (by omega) (by omega)
end Go.Proofs.YtijdglogadnbcaaGreat
namespace Go.Proofs.YtijdglogadnbcaaGreat
open Go.Proofs.Tryz
open Go.RowKit
theorem KE (x:Nat)(h:x<18446744073709551616):bits .and .u64 (x:Int) 65535=((x%65536:Nat):Int):=by have:=(bits_nat .u64 64 (by decide) (fun n h0 h1=>by rw[IntKind.wrap_u64];omega) x 65535 (by omega) (by decide)).1;rw[show(65535:Int)=((65535:Nat):Int) from rfl,this];congr 1;exact Nat.and_two_pow_sub_one_eq_mod x 16
def OiL (w:World)(x:Nat)(v0 v3:Value)(wr:World):Prop:=
 ∃(out:List Nat) (n:Nat),v0= .int .u64 (n:Int)∧n<18446744073709551616∧Nh.aC x=out++Nh.aC n∧out.length≤64∧Nh.Lm out∧(n≠0→n<65536^(64-out.length))∧wr.ownsRow w.heap.size 3 1 v3 out.length (dW out)∧Below w.heap.size w wr
theorem KG (x:Nat)(hx:x<18446744073709551616)(w:World):Calls prog 121 #[.int .u64 (x:Int)] w (dV w x):=by
 obtain⟨i0,hi0,hz0,hz1,hz2⟩:=info_parts info3;have abA:x<65536^64:=Nat.lt_trans hx (by decide);have HX:=hid abA;clear abA;go_enter func121,ntmps121;go_wp2_with fail;go_loopw [0,3] (fun v0 v3 wr=>OiL w x v0 v3 wr) (fun v _ _=>(intOf v).toNat)
 case atStart=>exact⟨[],x,rfl,hx,rfl,by simp,fun y hy=>by simp at hy,fun _=>HX.out,World.ownsRow_nil _ _ _ _,Below.refl _ _⟩
 obtain⟨out,n,rfl,hn,he,ho,hl,hs,hO,hB⟩:=hrel;have O:=hid hO;have BR:=hid hB;have HE:=hid he;have HL:=hid hl;by_cases n0:n=0
 ·have E:Hid (Nh.aC x=out):=by show _=_;rw[he,n0,Nh.aA,List.append_nil]
  obtain⟨a2,c2,rfl,L2⟩:=lF hl rfl hO;have L2:=hid L2;subst n0;clear he hO hB hl hs;go_wp2_with fail;go_ret;exact⟨a2,_,c2,rfl,by rw[E.out];exact L2.out,BR.out⟩
 have o2:out.length<64:=by
  refine Classical.byContradiction fun q=>?_;have e:64-out.length=0:=by omega
  have:=hs n0;rw[e]at this;simp at this;exact n0 this
 have an:=KE n hn;obtain⟨y,hy⟩:∃y,n%65536=y:=⟨_,rfl⟩;obtain⟨z,hz⟩:∃z,n/65536=z:=⟨_,rfl⟩;rw[hy]at an;have dz:(n:Int)/65536=(z:Int):=by omega
 have yb:y<65536:=by omega
 have NX:Hid (Nh.aC x=(out++[y])++Nh.aC z):=by show _=_;rw[he,Nh.bM n0,hy,hz];simp
 have ZB:Hid (z≠0→z<65536^(64-(out++[y]).length)):=fun _=>by have:=hs n0;rw[show 64-out.length=(64-(out++[y]).length)+1 from by simp;omega,Nat.pow_succ]at this;rw[←hz];exact Nat.div_lt_of_lt_mul (by rw[Nat.mul_comm];exact this)
 have ZL:z<n:=by omega
 have n1:(0:Int)<(n:Int):=by omega
 have LY:=hid (Nh.fZ hl yb);have O2:=hid (hO.alloc (.cells #[.int .i64 (y:Int)] 3));obtain⟨k,hk⟩:∃k,out.length=k:=⟨_,rfl⟩;have HK:=hid hk;rw[hk]at O2 O o2;have zb2:z<18446744073709551616:=by omega
 clear he hO hB hl hs hy hz hk ho n0;go_wp2_with (at_builtin;refine wpList_append_own _ rfl _ _ 76 rfl w.heap.size 3 i0 (.int .i64 0) 1 8 underlying76 hi0 hz0 hz1 hz2 rfl (by omega) u3 k _ rfl O2.out ⟨wr.heap.size,0,none⟩ 1 1 [.int .i64 (y:Int)] rfl rfl (dB wr y) (by intro u hu;simp at hu;rw[hu];rfl) (by unfold maxLen;omega) (by omega) (by have:=BR.out.size;simp;omega) ?_;intro v' w1 hown1 hgrow1 hnil1;rw[sH]at hown1;have OW:=hid hown1;have GR:=hid hgrow1;clear hown1 hgrow1 hnil1);have BF:=hid (lS _ BR.out O.out GR.out);go_roundw
 case rel=>exact⟨out++[y],z,rfl,zb2,NX.out,by simp[HK.out];omega,LY.out,ZB.out,by simp only[List.length_append,HK.out,List.length_cons,List.length_nil];exact OW.out,BF.out⟩
 simp[intOf];omega
theorem KH (l:List Nat)(d:Nat):dU l++[Value.int .u32 (d:Int)]=dU (l++[d]):=by simp[dU]
theorem DX (w:World)(d:Nat):∀j u,[Value.int .u32 (d:Int)][j]? =some u→(w.alloc (.cells #[.int .u32 (d:Int)] 111)).cell? ((⟨w.heap.size,0,none⟩:Addr).add j)=some u:=by intro j u hu;rw[Addr.add_lit,Nat.zero_add,cell_of_row _ w.heap.size j _ _ _ (heap_alloc_new w (.cells #[.int .u32 (d:Int)] 111))];rcases j with _ | j<;>simp at hu⊢ <;>exact hu
theorem VH {w:World}{b n:Nat}{v:Value}{l:List Nat}(hl:Nt.Lm l)(hn:l.length=n)(h:w.ownsRow b 111 1 v n (dU l)):∃a c,v= .slice a n c∧bW w l a n c:=by
 rcases h.2 with⟨rfl,h0⟩ | ⟨g,cap,cur,rfl,_,hg,hc,hm,_,ht⟩
 ·subst h0;have e:l=[]:=List.length_eq_zero_iff.1 hn;subst e;exact⟨none,0,rfl,fun q=>absurd rfl q,rfl,Nat.le_refl _,by omega,fun x hx=>by simp at hx⟩
 refine⟨some ⟨g,0,none⟩,cap,rfl,fun _=>⟨g,0,rfl,fun i hi=>?_⟩,hn,hc,hm,hl⟩;have:=h.cells (g:=g) rfl i _ (qw l hi);rw[Addr.add_lit]at this;exact this
theorem xG {w wd w1:World}{v:Value}{e sz k:Nat}{xs:List Value}(o:Obj)(B:Below w.heap.size w wd)(O:wd.ownsRow w.heap.size e sz v k xs)(G:(wd.alloc o).grownBy w1 v.ownBlock):Below w.heap.size w w1:=by have BA:Below wd.heap.size wd (wd.alloc o):=(Below.refl _ _).alloc (Nat.le_refl _) _;refine⟨G.os.trans (BA.os.trans B.os),G.tape.trans (BA.tape.trans B.tape),G.output.trans (BA.output.trans B.output),Nat.le_trans B.size (Nat.le_trans BA.size G.size),fun q hq=>?_⟩;rw[G.block q (Nat.lt_of_lt_of_le hq (Nat.le_trans B.size BA.size)) (fun e=>by have:=(O.lt q e.symm).1;omega)];exact(BA.block q (Nat.lt_of_lt_of_le hq B.size)).trans (B.block q hq)
theorem DY (x:Nat):∀j,(Nh.aC x).getD j 0=x/65536^j%65536:=by
 intro j;induction j generalizing x with
 | zero=>
  by_cases h:x=0
  ·subst h;rw[Nh.aA];rfl
  ·rw[Nh.bM h];simp
 | succ j ih=>
  by_cases h:x=0
  ·subst h;rw[Nh.aA];simp
  ·rw[Nh.bM h,List.getD_cons_succ,ih,Nat.div_div_eq_div_mul,Nat.pow_succ,Nat.mul_comm]
theorem Ro {d e t:Nat}(hd:d<65536)(he:e<65536)(ht:d+65536*e=t):bits .or .u32 (d:Int) ((e:Int)*65536)=(t:Int):=by rw[show(e:Int)*65536=((e*65536:Nat):Int) from by omega,YF d (e*65536) (by omega) (by omega)];congr 1;have:=Nt.vk (s:=16) (x:=d) (m:=e) hd;rw[show e*65536=2^16*e from by omega,this];omega
def LmL (w:World)(x n:Nat)(v3 v4:Value)(wr:World):Prop:=
 ∃(k j:Nat) (out:List Nat),j=2*k∧j≤n+1∧v4= .int .i64 (j:Int)∧Nt.aC x=out++Nt.aC (x/65536^j)∧out.length=k∧Nt.Lm out∧wr.ownsRow w.heap.size 111 1 v3 k (dU out)∧Below w.heap.size w wr
theorem kZ {w:World}{x:Nat}{a:Option Addr}{n c:Nat}(h:HAt w (Nh.aC x) a n c)(hsz:n≤1099511627776):Calls prog 116 #[.slice a n c] w (iy w x):=by
 have H:=hid h;have hn:=hid h.len;have hc:=h.cap;have hle:=h.le;clear h;obtain⟨i0,hi0,hz0,hz1,hz2⟩:=info_parts jr;go_enter func116,ntmps116;go_wp2_with fail;go_loopw [3,4] (fun v3 v4 wr=>LmL w x n v3 v4 wr) (fun _ v _=>n+1-(intOf v).toNat)
 case atStart=>exact⟨0,0,[],rfl,by omega,rfl,by simp,rfl,fun y hy=>by simp at hy,World.ownsRow_nil _ _ _ _,Below.refl _ _⟩
 obtain⟨k,j,out,hj,hk,rfl,he,hL,hlm,hO,hB⟩:=hrel;have HJ:=hid hj;have O:=hid hO;have BR:=hid hB;have HL:=hid hL;by_cases hlt:j<n
 ·obtain⟨g,o,rfl,dd⟩:=H.out.at_ (by intro e;have:=hn.out;rw[e]at this;simp at this;omega);have p:=aj hB (dd (j) (by rw[hn.out];exact hlt));clear dd;obtain⟨d,hd⟩:∃d,(Nh.aC x).getD (j) 0=d:=⟨_,rfl⟩;obtain⟨f,hf⟩:∃f,(Nh.aC x).getD (j+1) 0=f:=⟨_,rfl⟩;have d1:d<65536:=by rw[←hd];exact Nh.ak H.out.lm _
  have f1:f<65536:=by rw[←hf];exact Nh.ak H.out.lm _
  have DG:=bC (w:=wr.drew) ((H.out.below hB).below (Below.refl _ _).drew) (j+1) (by omega);rw[hf]at DG;rw[hd]at p;rw[show((j+1:Nat):Int)=(j:Int)+1 from by omega]at DG;have DG:=hid DG;obtain⟨t,ht⟩:∃t,d+65536*f=t:=⟨_,rfl⟩;have J:bits .or .u32 (IntKind.u32.wrap (d:Int)) (IntKind.u32.wrap (IntKind.u32.wrap (f:Int)*65536))=(t:Int):=by rw[wraps_u32 (d:Int) (by omega) (by omega),wraps_u32 (f:Int) (by omega) (by omega),wraps_u32 ((f:Int)*65536) (by omega) (by omega)];exact Ro d1 f1 ht
  obtain⟨y,hy⟩:∃y,x/65536^(j)=y:=⟨_,rfl⟩;have y0:y≠0:=by
   intro e;have x0:x≠0:=by intro q;subst q;have:=hn.out;rw[Nh.aA]at this;simp at this;omega
   have g1:=Nh.YO x0;rw[hn.out]at g1;have g2:65536^(j)≤65536^(n-1):=Nat.pow_le_pow_right (by omega) (by omega);have:=Nat.div_pos (Nat.le_trans g2 g1) (Nat.pow_pos (n:=j) (show 0<65536 by omega));rw[hy,e]at this;exact Nat.lt_irrefl _ this
  have ey:y%4294967296=t:=by have a1:=DY x (j);have a2:=DY x (j+1);rw[hd,hy]at a1;rw[hf,Nat.pow_succ,←Nat.div_div_eq_div_mul,hy]at a2;omega
  have NX:Hid (Nt.aC x=(out++[t])++Nt.aC (x/65536^((j+2)))):=by
   show _=_;have e2:x/65536^((j+2))=y/4294967296:=by rw[←hy,Nat.div_div_eq_div_mul,Nat.pow_add]
   rw[e2,he,hy,Nt.bM y0,ey];simp
  have LT:Hid (Nt.Lm (out++[t])):=by
   intro z hz;rcases List.mem_append.1 hz with q | q
   ·exact hlm z q
   simp at q;omega
  have tb:t<4294967296:=by omega
  have k0:(0:Int)≤(j:Int):=by omega
  have k1:(j:Int)<(n:Int):=by omega
  have wk:IntKind.i64.wrap ((j:Int)+1)=(j:Int)+1:=IntWalk.i64_in _ (by omega);have O2:=hid (hO.alloc (.cells #[.int .u32 (t:Int)] 111));have KP:=hid (fun(W:World) (hB:Below wr.heap.size wr W)=>(show W.cell? ⟨g,o+j,none⟩=some (.int .i64 (d:Int)) from aj hB p));have KQ:=hid (fun(W:World) (hB':Below w.heap.size w W)=>(show W.cell? ⟨g,o+j,none⟩=some (.int .i64 (d:Int)) from by obtain⟨g',o',e',dd⟩:=H.out.at_ (by intro e;have:=hn.out;rw[e]at this;simp at this;omega);simp only[Option.some.injEq,Addr.mk.injEq]at e';obtain⟨rfl,rfl,_⟩:=e';have:=aj hB' (dd (j) (by rw[hn.out];exact hlt));rw[hd]at this;exact this))
  have kb:k≤1099511627776:=by omega
  clear he hL hlm hO hB hd hf ht hy y0 ey hj;go_upto_region 5 with fail
  refine Rg.aH 15 [] (fun W=>W.cell? ⟨g,o+j,none⟩=some (.int .i64 (d:Int))) (by kernel_rfl) (by kernel_rfl) ?_ (fun hS ok inv=>?_)
  ·exact p
  refine Rg.tk 0 rfl ok inv hS fun inv=>?_;refine Rg.tk 1 rfl ok inv hS fun inv=>?_;refine Rg.tk 2 rfl ok inv hS fun inv=>?_;refine Rg.tk 3 rfl ok inv hS fun inv=>?_;refine Rg.tk 4 rfl ok inv hS fun inv=>?_;refine Rg.tk 5 rfl ok inv hS fun inv=>?_;refine Rg.tk 6 rfl ok inv hS fun inv=>?_;refine Rg.tk 7 rfl ok inv hS fun inv=>?_;refine Rg.tk 8 rfl ok inv hS fun inv=>?_;refine Rg.w1 9 rfl inv fun K' hK=>?_;go_simp;go_at_call 127;refine(DG.out).mono ?_;rintro e w2 ⟨rfl,rfl⟩;refine Rg.st hK ?_ fun hS inv=>?_
  ·exact hS
  clear hK K';refine Rg.tk 10 rfl ok inv hS fun inv=>?_;refine Rg.tk 11 rfl ok inv hS fun inv=>?_;refine Rg.tk 12 rfl ok inv hS fun inv=>?_;refine Rg.w1 13 rfl inv fun K' hK=>?_;(try simp only[zA,zB,zC]);go_simp;refine Rg.st hK ?_ fun hS inv=>?_
  ·exact KP.out _ (ah _ _).drew
  clear hK K';refine Rg.w1 14 rfl inv fun K' hK=>?_;refine wp_append_own _ _ _ 23 rfl w.heap.size 111 i0 (.int .u32 0) 1 4 underlying23 hi0 hz0 hz1 hz2 rfl (by omega) u3 k (dU out) rfl (show(wr.alloc (.cells #[.int .u32 (t:Int)] 111)).drew.ownsRow w.heap.size 111 1 u3 k (dU out) from O2.out) ⟨wr.heap.size,0,none⟩ 1 1 [.int .u32 (t:Int)] (by first | rfl | (simp only[Act.eval];rfl)) rfl (DX wr t) (by intro u hu;simp at hu;rw[hu];rfl) (by unfold maxLen;omega) (by omega) (by have:=BR.out.size;simp;omega) ?_;intro v' w1 hown1 hgrow1 hnil1;rw[KH]at hown1;have OW:=hid hown1;have BF:=hid (xG (wd:=wr) (.cells #[.int .u32 (t:Int)] 111) BR.out O.out ⟨hgrow1.os,hgrow1.tape,hgrow1.output,hgrow1.size,hgrow1.block⟩);clear hnil1 hown1;refine Rg.st hK ?_ fun hS inv=>?_
  ·exact KQ.out _ BF.out
  clear hK K';refine Rg.wl rfl ?_;go_simp;go_wp2_with fail;go_roundw
  case rel=>exact⟨k+1,j+2,out++[t],by rw[HJ.out];omega,by omega,by go_num,NX.out,by simp[HL.out],LT.out,OW.out,BF.out⟩
  simp[intOf];omega
 have E:Hid (Nt.aC x=out):=by
  show _=_;have z:x/65536^(j)=0:=by refine Nat.div_eq_of_lt ?_;have h1:=Nh.dD (Nh.bD x);rw[Nh.au,hn.out]at h1;exact Nat.lt_of_lt_of_le h1 (Nat.pow_le_pow_right (by omega) (by omega))
  rw[he,z,Nt.aA,List.append_nil]
 obtain⟨a2,c2,rfl,L2⟩:=VH hlm hL hO;have L2:=hid L2;clear he hO hB hlm hL;go_wp2_with fail;go_ret;exact⟨a2,k,c2,rfl,by rw[E.out];exact L2.out,BR.out⟩
end Go.Proofs.YtijdglogadnbcaaGreat
