/- Package rat: one, Sign, Neg, Int. -/
import Derived.Test.YtijdglogadnbcaaGreatY04
import Derived.Deep.RegionHeld3
set_option linter.unusedVariables false
set_option linter.unusedSimpArgs false
set_option maxRecDepth 100000
set_option maxHeartbeats 40000000
namespace Go.Proofs.YtijdglogadnbcaaGreat
open Go.Proofs.Tryz
open Go.RowKit Nt
structure aO (w:World)(q:Rat)(s:Bool)(a:Option Addr)(n c:Nat)(b:Option Addr)(m d:Nat):Prop where
 sg:s=decide (q.num<0)
 num:bW w (aC q.num.natAbs) a n c
 den:bW w (aC q.den) b m d
theorem aO.below {w w':World}{q:Rat}{s:Bool}{a b:Option Addr}{n c m d:Nat}(h:aO w q s a n c b m d)(hb:Below w.heap.size w w'):aO w' q s a n c b m d:=⟨h.sg,h.num.below hb,h.den.below hb⟩
def iC (w:World)(q:Rat)(e:Ending)(w':World):Prop:=
 ∃s a n c b m d,e= .returned (.agg #[.bool s,.slice a n c,.slice b m d])∧aO w' q s a n c b m d∧Below w.heap.size w w'
theorem qy {x:Nat}:(aC x).length=0↔x=0:=by
 constructor
 ·intro h;have:=au x;rw[List.length_eq_zero_iff.1 h]at this;exact this.symm
 intro h;subst h;rw[aA];rfl
theorem aO.zero {w:World}{q:Rat}{s:Bool}{a b:Option Addr}{n c m d:Nat}(h:aO w q s a n c b m d):n=0↔q=0:=by rw[←h.num.len,qy,Int.natAbs_eq_zero,Rat.num_eq_zero]
def aV (q:Rat):Int:=if q=0 then 0 else if q.num<0 then-1 else 1
theorem dM {w:World}{q:Rat}{s:Bool}{a b:Option Addr}{n c m d:Nat}(h:aO w q s a n c b m d):
  Calls prog 92 #[.agg #[.bool s,.slice a n c,.slice b m d]] w fun e w'=>e= .returned (.int .i64 (aV q))∧Below w.heap.size w w':=by
 have H:=hid h;have hz:=h.zero;by_cases h0:n=0
 ·have E:Hid (aV q=0):=by show _=_;unfold aV;rw[if_pos (hz.1 h0)]
  have hn:((n:Int)==0)=true:=by simp;exact h0
  clear h hz;subst h0;go_enter func92,ntmps92;go_wp2_with fail;go_ret;exact⟨by rw[E.out];rfl,(Below.refl _ _).alloc (Nat.le_refl _) _⟩
 have hn:((n:Int)==0)=false:=by simp;exact h0
 have hq:q≠0:=fun e=>h0 (hz.2 e)
 cases s with
 | true=>
  have E:Hid (aV q= -1):=by
   show _=_
   unfold aV;rw[if_neg hq,if_pos (of_decide_eq_true h.sg.symm)]
  clear h hz h0 hq
  go_enter func92,ntmps92
  go_wp2_with fail
  go_ret
  exact⟨by rw[E.out];rfl,(Below.refl _ _).alloc (Nat.le_refl _) _⟩
 | false=>
  have E:Hid (aV q=1):=by
   show _=_
   unfold aV;rw[if_neg hq,if_neg (of_decide_eq_false h.sg.symm)]
  clear h hz h0 hq
  go_enter func92,ntmps92
  go_wp2_with fail
  go_ret
  exact⟨by rw[E.out];rfl,(Below.refl _ _).alloc (Nat.le_refl _) _⟩
theorem one_any (w:World):Calls prog 119 #[] w (iy w 1):=by
 have L:Hid (bW (w.alloc (.cells #[.int .u32 1] 111)) (aC 1) (some ⟨w.heap.size,0,none⟩) 1 1):=by have U:UB (w.alloc (.cells #[.int .u32 1] 111)) w.heap.size [1]:=heap_alloc_new w _;rw[yV];exact⟨U.at_,rfl,Nat.le_refl _,by omega,fun y hy=>by simp at hy;omega⟩
 have B:Hid (Below w.heap.size w (w.alloc (.cells #[.int .u32 1] 111))):=(Below.refl _ _).alloc (Nat.le_refl _) _;go_enter func119,ntmps119;go_wp2_with fail;go_ret;exact⟨_,_,_,rfl,L.out,B.out⟩
theorem mP {w:World}{q:Rat}{s:Bool}{a b:Option Addr}{n c m d:Nat}(h:aO w q s a n c b m d):
  Calls prog 79 #[.agg #[.bool s,.slice a n c,.slice b m d]] w (iC w (-q)):=by
 have H:=hid h;have hz:=h.zero;by_cases h0:n=0
 ·have q0:q=0:=hz.1 h0;have NQ:Hid (-q=q):=by show _=_;rw[q0];rfl
  clear h hz q0;subst h0;go_enter func79,ntmps79;go_wp2_with fail;refine bodyPost_ret (v:= .agg #[.bool s,.slice a 0 c,.slice b m d]) (by simp[results,results79,go_sem]) rfl ⟨s,a,0,c,b,m,d,rfl,?_,?_⟩
  ·rw[NQ.out];exact H.out.below (((Below.refl _ _).alloc (Nat.le_refl _) _).alloc (by simp) _)
  exact((Below.refl _ _).alloc (Nat.le_refl _) _).alloc (by simp) _
 have n0:(0:Int)<(n:Int):=by omega
 have q0:q≠0:=fun e=>h0 (hz.2 e);have SG:Hid ((!s)=decide ((-q).num<0)):=by
  show _=_;rw[h.sg,Rat.neg_num];have:q.num≠0:=fun e=>q0 (Rat.num_eq_zero.1 e);by_cases l:q.num<0
  ·rw[decide_eq_true l,decide_eq_false (by omega)];rfl
  rw[decide_eq_false l,decide_eq_true (by omega)];rfl
 clear h hz q0 h0;go_enter func79,ntmps79;go_wp2_with fail;refine bodyPost_ret (v:= .agg #[.bool (!s),.slice a n c,.slice b m d]) (by simp[results,results79,go_sem]) rfl ⟨!s,a,n,c,b,m,d,rfl,?_,?_⟩
 ·have B:Below w.heap.size w ((w.alloc (Obj.cells #[Value.bool (!s),Value.slice a n c,Value.slice b m d] 25)).alloc (Obj.cells #[Value.bool (!s),Value.slice a n c,Value.slice b m d] 25)):=((Below.refl _ _).alloc (Nat.le_refl _) _).alloc (by simp) _;exact⟨SG.out,by rw[Rat.neg_num,Int.natAbs_neg];exact H.out.num.below B,H.out.den.below B⟩
 exact((Below.refl _ _).alloc (Nat.le_refl _) _).alloc (by simp) _
def NB (w:World)(g:Nat)(s:Bool)(a:Option Addr)(n c:Nat)(b:Option Addr)(m d:Nat):Prop:=w.heap[g]? =some (.cells #[.bool s,.slice a n c,.slice b m d] 25 (0,0))
theorem NB.reads {w:World}{g:Nat}{s:Bool}{a b:Option Addr}{n c m d:Nat}(h:NB w g s a n c b m d):
  w.cell? ⟨g,0,none⟩=some (.bool s)∧w.cell? ⟨g,1,none⟩=some (.slice a n c)∧w.cell? ⟨g,2,none⟩=some (.slice b m d)∧∀i,w.frozen? ⟨g,i,none⟩=false:=by
 refine⟨?_,?_,?_,fun i=>?_⟩
 ·rw[cell_of_row w g 0 _ _ _ h];rfl
 ·rw[cell_of_row w g 1 _ _ _ h];rfl
 ·rw[cell_of_row w g 2 _ _ _ h];rfl
 unfold NB at h;simp[World.frozen?,h]
theorem NB.later {k g:Nat}{w w':World}{s:Bool}{a b:Option Addr}{n c m d:Nat}(h:NB w g s a n c b m d)(hb:Below k w w')(hg:g<k):NB w' g s a n c b m d:=(hb.block g hg).trans h
theorem NB.lt {w:World}{g:Nat}{s:Bool}{a b:Option Addr}{n c m d:Nat}(h:NB w g s a n c b m d):g<w.heap.size:=(Array.getElem?_eq_some_iff.1 h).1
theorem EI.beside {w w':World}{g:Nat}{s:Bool}{a b:Option Addr}{n c m d:Nat}{l:List Nat}{ad:Option Addr}(h:EI w l ad)(hg:NB w g s a n c b m d)(hw:∀k,k≠g→w'.heap[k]? =w.heap[k]?):EI w' l ad:=by
 intro hne;obtain⟨b1,o1,e,dd⟩:=h hne;have hl:0<l.length:=by cases l with | nil=>exact absurd rfl hne | cons x l=>simp
 have hb:b1≠g:=by intro q;have:=dd 0 hl;rw[q,cell_of_row w g _ _ _ _ hg]at this;rcases o1 with _ | _ | _ | o1<;>simp at this
 exact⟨b1,o1,e,fun i hi=>(World.cell?_of_block (hw b1 hb)).trans (dd i hi)⟩
theorem bW.beside {w w':World}{g:Nat}{s:Bool}{a b:Option Addr}{n c m d:Nat}{l:List Nat}{ad:Option Addr}{k e:Nat}(h:bW w l ad k e)(hg:NB w g s a n c b m d)(hw:∀k,k≠g→w'.heap[k]? =w.heap[k]?):bW w' l ad k e:=
 ⟨h.at_.beside hg hw,h.len,h.le,h.cap,h.lm⟩
theorem ay (w:World)(g:Nat)(x y z:Value):∀k,k≠g→(((w.setCell ⟨g,0,none⟩ x).setCell ⟨g,1,none⟩ y).setCell ⟨g,2,none⟩ z).heap[k]? =w.heap[k]?:=by intro k hk;rw[heap_setCell_other _ _ _ _ hk,heap_setCell_other _ _ _ _ hk,heap_setCell_other _ _ _ _ hk]
theorem aG {w w1:World}(h:Below w.heap.size w w1)(g:Nat)(hg:w.heap.size≤g)(x y z:Value):Below w.heap.size w (((w1.setCell ⟨g,0,none⟩ x).setCell ⟨g,1,none⟩ y).setCell ⟨g,2,none⟩ z):=
 ((h.setCell (by exact hg) _).setCell (by exact hg) _).setCell (by exact hg) _
theorem ah (w:World)(o:Obj):Below w.heap.size w (w.alloc o):=(Below.refl _ _).alloc (Nat.le_refl _) _
theorem bI (z:Int)(hz1: -9223372036854775807≤z)(hz2:z≤9223372036854775807)(w:World):Calls prog 72 #[.int .i64 z] w (iC w (z:Rat)):=by
 have X0:Hid (NB (w.alloc (.cells #[.bool false,.slice none 0 0,.slice none 0 0] 25)) w.heap.size false none 0 0 none 0 0):=heap_alloc_new w _;have B0:Hid (Below w.heap.size w (w.alloc (.cells #[.bool false,.slice none 0 0,.slice none 0 0] 25))):=ah w _;have S0:Hid ((w.alloc (.cells #[.bool false,.slice none 0 0,.slice none 0 0] 25)).heap.size=w.heap.size+1):=by show _=_;simp
 obtain⟨x,hx⟩:∃x:Nat,z.natAbs=x:=⟨_,rfl⟩;have xb:x<18446744073709551616:=by omega
 have HX:=hid hx;have fin:Hid (∀w2 w3 a2 n2 c2 a3 n3 c3,bW w2 (aC x) a2 n2 c2→Below (w.alloc (.cells #[.bool false,.slice none 0 0,.slice none 0 0] 25)).heap.size (w.alloc (.cells #[.bool false,.slice none 0 0,.slice none 0 0] 25)) w2→bW w3 (aC 1) a3 n3 c3→Below w2.heap.size w2 w3→
   NB w3 w.heap.size false none 0 0 none 0 0∧∀W,(∀k,k≠w.heap.size→W.heap[k]? =w3.heap[k]?)→Below w.heap.size w W→∀e,e= .returned (.agg #[.bool (decide (z<0)),.slice a2 n2 c2,.slice a3 n3 c3])→iC w (z:Rat) e W):=by
  intro w2 w3 a2 n2 c2 a3 n3 c3 L2 B2 L3 B3
  have N3:=(X0.out.later B2 (by rw[S0.out];omega)).later B3 (by have:=B2.size;rw[S0.out]at this;omega)
  refine⟨N3,fun W hW hB e he=>⟨_,_,_,_,_,_,_,he,⟨rfl,?_,?_⟩,hB⟩⟩
  ·show bW W (aC z.natAbs) _ _ _
   rw[HX.out];exact(L2.below B3).beside N3 hW
  ·exact L3.beside N3 hW
 clear hx;by_cases h0:z<0
 ·have dz:decide (z<0)=true:=decide_eq_true h0;have e1:Hid (IntKind.u64.wrap (-(IntKind.u64.wrap z))=(x:Int)):=by show _=_;rw[IntKind.wrap_u64,IntKind.wrap_u64];have:=HX.out;omega
  rw[dz]at fin;clear dz;go_enter func72,ntmps72;go_wp2_with fail;rw[e1.out];refine(EY x xb _).mono ?_;rintro e w2 ⟨a2,n2,c2,rfl,L2,B2⟩;have L2:=hid L2;have B2:=hid B2;go_wp2_with fail;refine(one_any _).mono ?_;rintro e w3 ⟨a3,n3,c3,rfl,L3,B3⟩;obtain⟨N3,F3⟩:=fin.out w2 w3 a2 n2 c2 a3 n3 c3 L2.out B2.out L3 B3;obtain⟨z0,z1,z2,f⟩:=N3.reads;have f0:=f 0;have f1:=f 1;have f2:=f 2;have Eh:=N3.lt;have F3:=hid F3;have fC:=hid (Below.over (aB B0.out B2.out) (Nat.le_trans B0.out.size B2.out.size) B3);clear f L3 B3 N3;go_wp2_with fail;refine bodyPost_ret (v:= .agg #[.bool true,.slice a2 n2 c2,.slice a3 n3 c3]) (by simp[results,results72,go_sem,z0,z1,z2]) rfl (F3.out _ (ay _ _ _ _ _) (aG fC.out _ (Nat.le_refl _) _ _ _) _ rfl)
 have dz:decide (z<0)=false:=decide_eq_false h0;have e1:(x:Int)=z:=by have:=HX.out;omega
 have C:=EY x xb (w.alloc (.cells #[.bool false,.slice none 0 0,.slice none 0 0] 25));rw[e1]at C;have C:=hid C;clear e1;have h1:0≤z:=by omega
 rw[dz]at fin;clear dz;go_enter func72,ntmps72;go_wp2_with fail;refine C.out.mono ?_;rintro e w2 ⟨a2,n2,c2,rfl,L2,B2⟩;have L2:=hid L2;have B2:=hid B2;go_wp2_with fail;refine(one_any _).mono ?_;rintro e w3 ⟨a3,n3,c3,rfl,L3,B3⟩;obtain⟨N3,F3⟩:=fin.out w2 w3 a2 n2 c2 a3 n3 c3 L2.out B2.out L3 B3;obtain⟨z0,z1,z2,f⟩:=N3.reads;have f0:=f 0;have f1:=f 1;have f2:=f 2;have Eh:=N3.lt;have F3:=hid F3;have fC:=hid (Below.over (aB B0.out B2.out) (Nat.le_trans B0.out.size B2.out.size) B3);clear f L3 B3 N3;go_wp2_with fail;refine bodyPost_ret (v:= .agg #[.bool false,.slice a2 n2 c2,.slice a3 n3 c3]) (by simp[results,results72,go_sem,z0,z1,z2]) rfl (F3.out _ (ay _ _ _ _ _) (aG fC.out _ (Nat.le_refl _) _ _ _) _ rfl)
end Go.Proofs.YtijdglogadnbcaaGreat
namespace Go.Proofs.YtijdglogadnbcaaGreat.Nt
open Go.Proofs.Tryz
def fQ (neg:Bool)(p d:Nat):Rat:=mkRat (if neg then-(p:Int)else p) d
theorem rD (neg:Bool)(d:Nat):fQ neg 0 d=0:=by unfold fQ;cases neg<;>simp
theorem lY {neg:Bool}{p d:Nat}(hd:d≠0):(fQ neg p d).num.natAbs=p/Nat.gcd p d:=by
 unfold fQ;rw[Rat.num_mkRat,if_neg hd];have hg:=Nat.gcd_dvd_left p d
 cases neg with
 | true=>
  simp only[if_true,Int.natAbs_neg,Int.natAbs_natCast]
  rw[Nat.gcd_comm d p,Int.neg_ediv_of_dvd (by exact_mod_cast hg),Int.natAbs_neg]
  rfl
 | false=>
  simp only[Bool.false_eq_true,if_false,Int.natAbs_natCast]
  rw[Nat.gcd_comm d p]
  rfl
theorem pO {neg:Bool}{p d:Nat}(hd:d≠0):(fQ neg p d).den=d/Nat.gcd p d:=by
 unfold fQ;rw[Rat.den_mkRat,if_neg hd]
 cases neg with
 | true=>simp only[if_true,Int.natAbs_neg,Int.natAbs_natCast];rw[Nat.gcd_comm d p]
 | false=>simp only[Bool.false_eq_true,if_false,Int.natAbs_natCast];rw[Nat.gcd_comm d p]
theorem rG {neg:Bool}{p d:Nat}(hd:d≠0)(hp:p≠0):decide ((fQ neg p d).num<0)=neg:=by
 have h1:=lY (neg:=neg) (p:=p) hd;have h2:p/Nat.gcd p d≠0:=by have:=Nat.div_pos (Nat.le_of_dvd (by omega) (Nat.gcd_dvd_left p d)) (Nat.gcd_pos_of_pos_left d (by omega:0<p));omega
 unfold fQ at*;rw[Rat.num_mkRat,if_neg hd]at*
 cases neg with
 | true=>
  simp only[if_true]at*
  have:(-(p:Int))/((Nat.gcd d (-(p:Int)).natAbs:Nat):Int)≤0:=by
   rw[Int.natAbs_neg,Int.natAbs_natCast,Nat.gcd_comm,Int.neg_ediv_of_dvd (by exact_mod_cast Nat.gcd_dvd_left p d)]
   have:(0:Int)≤(p:Int)/((Nat.gcd p d:Nat):Int):=Int.ediv_nonneg (by omega) (by omega)
   omega
  exact decide_eq_true (by omega)
 | false=>
  simp only[Bool.false_eq_true,if_false]at*
  have:(0:Int)≤(p:Int)/((Nat.gcd d ((p:Int)).natAbs:Nat):Int):=Int.ediv_nonneg (by omega) (by omega)
  exact decide_eq_false (by omega)
theorem mQ (q:Rat):∃P:Nat,q.num.natAbs=P∧((decide (q.num<0)=false∧q.num=(P:Int))∨(decide (q.num<0)=true∧q.num= -(P:Int))):=by
 refine⟨q.num.natAbs,rfl,?_⟩;by_cases h:q.num<0
 ·right;exact⟨decide_eq_true h,by omega⟩
 left;exact⟨decide_eq_false h,by omega⟩
theorem uK (p q:Rat):p*q=fQ (decide (p.num<0) !=decide (q.num<0)) (p.num.natAbs*q.num.natAbs) (p.den*q.den):=by rw[Rat.mul_def'];unfold fQ;congr 1;obtain⟨P,hP,h1⟩:=mQ p;obtain⟨Q,hQ,h2⟩:=mQ q;rw[hP,hQ];rcases h1 with⟨d1,e1⟩ | ⟨d1,e1⟩<;>rcases h2 with⟨d2,e2⟩ | ⟨d2,e2⟩<;>rw[d1,d2,e1,e2]<;>simp[Int.natCast_mul]<;>grind
theorem Bz {p q:Rat}(hq:q≠0):p/q=fQ (decide (p.num<0) !=decide (q.num<0)) (p.num.natAbs*q.den) (p.den*q.num.natAbs):=by
 have hn:q.num≠0:=fun e=>hq (Rat.num_eq_zero.1 e);have pd:=p.den_nz;have qd:=q.den_nz;have e:p/q*q=fQ (decide (p.num<0) !=decide (q.num<0)) (p.num.natAbs*q.den) (p.den*q.num.natAbs)*q:=by
  rw[Rat.div_mul_cancel hq];conv=>rhs;rhs;rw[←Rat.mkRat_self q]
  unfold fQ;rw[Rat.mkRat_mul_mkRat];conv=>lhs;rw[←Rat.mkRat_self p]
  rw[Rat.mkRat_eq_iff pd (Nat.mul_ne_zero (Nat.mul_ne_zero pd (by omega)) qd)];obtain⟨P,hP,h1⟩:=mQ p;obtain⟨Q,hQ,h2⟩:=mQ q;rw[hP,hQ];generalize p.den=a at*;generalize q.den=b at*;rcases h1 with⟨d1,e1⟩ | ⟨d1,e1⟩<;>rcases h2 with⟨d2,e2⟩ | ⟨d2,e2⟩<;>rw[d1,d2,e1,e2]<;>simp only[Int.natCast_mul,bne_self_eq_false,Bool.false_eq_true,if_false,Bool.bne_true,Bool.bne_false,if_true,Bool.not_false,Bool.not_true]<;>clear d1 d2 e1 e2 hP hQ<;>grind
 have:=congrArg (· *q⁻¹) e;simp only[Rat.mul_assoc,Rat.mul_inv_cancel q hq,Rat.mul_one]at this;exact this
theorem iP {p q:Rat}(h:decide (p.num<0)=decide (q.num<0)):p+q=fQ (decide (p.num<0)) (p.num.natAbs*q.den+q.num.natAbs*p.den) (p.den*q.den):=by rw[Rat.add_def'];unfold fQ;congr 1;obtain⟨P,hP,h1⟩:=mQ p;obtain⟨Q,hQ,h2⟩:=mQ q;rw[hP,hQ];rcases h1 with⟨d1,e1⟩ | ⟨d1,e1⟩<;>rcases h2 with⟨d2,e2⟩ | ⟨d2,e2⟩<;>rw[d1,d2]at h<;>(try cases h)<;>rw[d1,e1,e2]<;>simp only[Int.natCast_mul,Int.natCast_add,Bool.false_eq_true,if_false,if_true];clear d1 d2 e1 e2 hP hQ;grind
theorem iR {p q:Rat}(h:decide (p.num<0)≠decide (q.num<0))(hle:q.num.natAbs*p.den≤p.num.natAbs*q.den):p+q=fQ (decide (p.num<0)) (p.num.natAbs*q.den-q.num.natAbs*p.den) (p.den*q.den):=by
 rw[Rat.add_def'];unfold fQ;congr 1;rw[Int.ofNat_sub hle];obtain⟨P,hP,h1⟩:=mQ p;obtain⟨Q,hQ,h2⟩:=mQ q;rw[hP,hQ];rcases h1 with⟨d1,e1⟩ | ⟨d1,e1⟩<;>rcases h2 with⟨d2,e2⟩ | ⟨d2,e2⟩<;>rw[d1,d2]at h
 ·exact absurd rfl h
 ·rw[d1,e1,e2];simp only[Int.natCast_mul,Bool.false_eq_true,if_false];clear d1 d2 e1 e2 hP hQ h hle;grind
 ·rw[d1,e1,e2];simp only[Int.natCast_mul,if_true];clear d1 d2 e1 e2 hP hQ h hle;grind
 exact absurd rfl h
theorem jS {p q:Rat}(h:decide (p.num<0)≠decide (q.num<0))(hle:p.num.natAbs*q.den≤q.num.natAbs*p.den):p+q=fQ (decide (q.num<0)) (q.num.natAbs*p.den-p.num.natAbs*q.den) (p.den*q.den):=by rw[Rat.add_comm,iR (p:=q) (q:=p) (fun e=>h e.symm) hle,Nat.mul_comm q.den p.den]
end Go.Proofs.YtijdglogadnbcaaGreat.Nt
namespace Go.Proofs.YtijdglogadnbcaaGreat
open Go.Proofs.Tryz
open Go.RowKit Nt
theorem aS {w:World}{x n c:Nat}{a:Option Addr}(h:bW w (aC x) a n c):
  Calls prog 111 #[.slice a n c] w fun e w'=>e= .returned (.bool (decide (x=1)))∧w=w':=by have:=JA (c:=c) h.at_ (by have:=h.len;have:=h.le;have:=h.cap;omega);rwa[h.len]at this
theorem YS {w w3 W:World}{q:Rat}{s:Bool}{a b:Option Addr}{n c m d:Nat}(N:NB w3 w.heap.size false none 0 0 none 0 0)(hW:∀k,k≠w.heap.size→W.heap[k]? =w3.heap[k]?) (hB:Below w.heap.size w W)
  (hs:s=decide (q.num<0)) (L2:bW w3 (aC q.num.natAbs) a n c) (L3:bW w3 (aC q.den) b m d) {e:Ending} (he:e= .returned (.agg #[.bool s,.slice a n c,.slice b m d])):iC w q e W:=
 ⟨s,a,n,c,b,m,d,he,⟨hs,L2.beside N hW,L3.beside N hW⟩,hB⟩
theorem iZ {w:World}{p x:Nat}{neg:Bool}{a b:Option Addr}{n c m d:Nat}(hp:bW w (aC p) a n c)(hx:bW w (aC x) b m d)(h0:x≠0)(hn:n≤1099511627775)(hm:m≤1099511627775):
  Calls prog 142 #[.bool neg,.slice a n c,.slice b m d] w (iC w (fQ neg p x)):=by
 have X0:Hid (NB (w.alloc (.cells #[.bool false,.slice none 0 0,.slice none 0 0] 25)) w.heap.size false none 0 0 none 0 0):=heap_alloc_new w _;have B0:Hid (Below w.heap.size w (w.alloc (.cells #[.bool false,.slice none 0 0,.slice none 0 0] 25))):=ah w _;have S0:Hid ((w.alloc (.cells #[.bool false,.slice none 0 0,.slice none 0 0] 25)).heap.size=w.heap.size+1):=by show _=_;simp
 have P:=hid hp;have XX:=hid hx;by_cases hz:n=0
 ·have p0:p=0:=qy.1 (by rw[hp.len];exact hz);have E:Hid (fQ neg p x=0):=by show _=_;rw[p0];exact rD neg x
  clear hp hx p0 hn;subst hz;go_enter func142,ntmps142;go_wp2_with fail;refine(one_any _).mono ?_;rintro e w3 ⟨a3,n3,c3,rfl,L3,B3⟩;have N3:=X0.out.later B3 (by rw[S0.out];omega);obtain⟨z0,z1,z2,f⟩:=N3.reads;have f0:=f 0;have f1:=f 1;have f2:=f 2;have Eh:=N3.lt;have N3:=hid N3;have L3:=hid L3;have fC:=hid (aB B0.out B3);clear f B3;go_wp2_with fail;refine bodyPost_ret (v:= .agg #[.bool false,.slice none 0 0,.slice a3 n3 c3]) (by simp[results,results142,go_sem,z0,z1,z2]) rfl (YS N3.out (ay _ _ _ _ _) (aG fC.out _ (Nat.le_refl _) _ _ _) (by rw[E.out];rfl) (by rw[E.out];show bW _ (aC 0) _ _ _;rw[aA];exact nJ _ _ (by omega)) (by rw[E.out];exact L3.out) rfl)
 have p0:p≠0:=fun e=>hz (by rw[←hp.len];exact qy.2 e);have FN:=hid (lY (neg:=neg) (p:=p) h0);have FD:=hid (pO (neg:=neg) (p:=p) h0);have FS:=hid (rG (neg:=neg) h0 p0);have nz:((n:Int)==0)=false:=by simp;exact hz
 have P1:=hid (hp.below B0.out);have X1:=hid (hx.below B0.out);obtain⟨z0,z1,z2,f⟩:=X0.out.reads;have f0:=f 0;have f1:=f 1;have f2:=f 2;clear f hp hx;by_cases hone:x=1∨p=1
 ·have G:Hid (Nat.gcd p x=1):=by
   show _=_;rcases hone with e | e
   ·rw[e,Nat.gcd_one_right]
   rw[e,Nat.gcd_one_left]
  rcases Classical.em (x=1)with hx1 | hx1
  ·have D1:Hid (decide (x=1)=true):=decide_eq_true hx1;clear hone hx1 hz;go_enter func142,ntmps142;go_wp2_with (go_at_call 111;refine(aS X1.out).mono ?_;rintro e w' ⟨rfl,rfl⟩;rw[D1.out]);refine bodyPost_ret (v:= .agg #[.bool neg,.slice a n c,.slice b m d]) (by simp[results,results142,go_sem,z0,z1,z2]) rfl ?_;exact⟨neg,a,n,c,b,m,d,rfl,⟨FS.out.symm,by rw[FN.out,G.out,Nat.div_one];exact P.out.below (ah _ _),by rw[FD.out,G.out,Nat.div_one];exact XX.out.below (ah _ _)⟩,ah _ _⟩
  have hp1:p=1:=hone.resolve_left hx1;have D1:Hid (decide (x=1)=false):=decide_eq_false hx1;have D2:Hid (decide (p=1)=true):=decide_eq_true hp1;clear hone hx1 hz hp1;go_enter func142,ntmps142;go_wp2_with fail;refine(aS X1.out).mono ?_;rintro e w' ⟨rfl,rfl⟩;rw[D1.out];go_wp2_with fail;refine(aS P1.out).mono ?_;rintro e w' ⟨rfl,rfl⟩;rw[D2.out];go_wp2_with fail;refine bodyPost_ret (v:= .agg #[.bool neg,.slice a n c,.slice b m d]) (by simp[results,results142,go_sem,z0,z1,z2]) rfl ?_;exact⟨neg,a,n,c,b,m,d,rfl,⟨FS.out.symm,by rw[FN.out,G.out,Nat.div_one];exact P.out.below (ah _ _),by rw[FD.out,G.out,Nat.div_one];exact XX.out.below (ah _ _)⟩,ah _ _⟩
 have D1:Hid (decide (x=1)=false):=decide_eq_false fun e=>hone (Or.inl e);have D2:Hid (decide (p=1)=false):=decide_eq_false fun e=>hone (Or.inr e);have G0:Hid (Nat.gcd p x≠0):=fun e=>h0 (Nat.gcd_eq_zero_iff.1 e).2;obtain⟨g,hg⟩:∃g,Nat.gcd p x=g:=⟨_,rfl⟩;rw[hg]at FN FD G0;have HG:=hid hg;clear hone hz hg z0 z1 z2 f0 f1 f2;go_enter func142,ntmps142;go_wp2_with fail;refine(aS X1.out).mono ?_;rintro e w' ⟨rfl,rfl⟩;rw[D1.out];go_wp2_with fail;refine(aS P1.out).mono ?_;rintro e w' ⟨rfl,rfl⟩;rw[D2.out];go_wp2_with fail;refine(zo P1.out X1.out hn hm).mono ?_;rintro e w2 ⟨a2,n2,c2,rfl,L2,B2⟩;rw[HG.out]at L2;have P2:=hid (P1.out.below B2);have X2:=hid (X1.out.below B2);have N2:=hid (X0.out.later B2 (by rw[S0.out];omega));have eX:=hid (aB B0.out B2);have L2:=hid L2;clear B2;by_cases g1:g=1
 ·have D3:Hid (decide (g=1)=true):=decide_eq_true g1;have G1:Hid (g=1):=g1;clear g1;obtain⟨z0,z1,z2,f⟩:=N2.out.reads;have f0:=f 0;have f1:=f 1;have f2:=f 2;have Eh:=N2.out.lt;clear f;go_wp2_with fail;refine(aS L2.out).mono ?_;rintro e w' ⟨rfl,rfl⟩;rw[D3.out];go_wp2_with fail;exact bodyPost_ret (v:= .agg #[.bool neg,.slice a n c,.slice b m d]) (by simp[results,results142,go_sem,z0,z1,z2]) rfl (YS N2.out (ay _ _ _ _ _) (aG eX.out _ (Nat.le_refl _) _ _ _) FS.out.symm (by rw[FN.out,G1.out,Nat.div_one];exact P2.out) (by rw[FD.out,G1.out,Nat.div_one];exact X2.out) rfl)
 have D3:Hid (decide (g=1)=false):=decide_eq_false g1;clear g1;go_wp2_with fail;refine(aS L2.out).mono ?_;rintro e w' ⟨rfl,rfl⟩;rw[D3.out];go_wp2_with fail;refine(oP P2.out L2.out hn G0.out).mono ?_;rintro e w3 ⟨a3,n3,c3,a4,n4,c4,rfl,L3,_,B3⟩;have L3:=hid L3;have X3:=hid (X2.out.below B3);have L23:=hid (L2.out.below B3);have N3:=hid (N2.out.later B3 N2.out.lt);have fC:=hid (aB eX.out B3);clear B3;go_wp2_with fail;refine(oP X3.out L23.out hm G0.out).mono ?_;rintro e w4 ⟨a5,n5,c5,a6,n6,c6,rfl,L5,_,B4⟩;have L5:=hid L5;have L34:=hid (L3.out.below B4);have N4:=hid (N3.out.later B4 N3.out.lt);have zq:=hid (aB fC.out B4);obtain⟨z0,z1,z2,f⟩:=N4.out.reads;have f0:=f 0;have f1:=f 1;have f2:=f 2;have Eh:=N4.out.lt;clear f B4;go_wp2_with fail;exact bodyPost_ret (v:= .agg #[.bool neg,.slice a3 n3 c3,.slice a5 n5 c5]) (by simp[results,results142,go_sem,z0,z1,z2]) rfl (YS N4.out (ay _ _ _ _ _) (aG zq.out _ (Nat.le_refl _) _ _ _) FS.out.symm (by rw[FN.out];exact L34.out) (by rw[FD.out];exact L5.out) rfl)
structure Raw where
 neg:Bool
 num:List Nat
 den:List Nat
def bH (l:List Nat):Bool:=decide (0<l.length∧l.getD (l.length-1) 0=0)
def aP (R:Raw):Int:=
 if 128<R.num.length∨128<R.den.length then 3
 else if bH R.num=true∨bH R.den=true∨R.den=[]then 2
 else if vl R.num=0∧(R.neg=true∨vl R.den≠1)then 2
 else if Nat.gcd (vl R.num) (vl R.den)≠1 then 2
 else 0
theorem canon {l:List Nat}(h:Lm l)(hz:bH l=false):l=aC (vl l):=by
 refine(yU h ?_).symm;by_cases e:l=[]
 ·exact Or.inl e
 right;intro q;have hp:0<l.length:=by cases l with | nil=>exact absurd rfl e | cons x l=>simp
 have:=of_decide_eq_false hz;apply this;refine⟨hp,?_⟩;rw[List.getLast?_eq_getElem?]at q;rw[List.getD_eq_getElem?_getD,q];rfl
structure dG (w:World)(R:Raw)(a:Option Addr)(n c:Nat)(b:Option Addr)(m d:Nat):Prop where
 num:bW w R.num a n c
 den:bW w R.den b m d
theorem dG.below {w w':World}{R:Raw}{a b:Option Addr}{n c m d:Nat}(h:dG w R a n c b m d)(hb:Below w.heap.size w w'):dG w' R a n c b m d:=⟨h.num.below hb,h.den.below hb⟩
theorem last_any {w:World}{l:List Nat}{a:Option Addr}{n c:Nat}(h:bW w l a n c):Calls prog 110 #[.slice a n c] w fun e w'=>e= .returned (.bool (bH l))∧w=w':=by
 by_cases h0:n=0
 ·have E:Hid (bH l=false):=decide_eq_false (by rw[h.len];omega);clear h;subst h0;go_enter func110,ntmps110;go_wp2_with fail;go_ret;exact⟨by rw[E.out];rfl,rfl⟩
 obtain⟨m,rfl⟩:∃m,n=m+1:=⟨n-1,by omega⟩;have hc:=h.cap;have hl:=h.le;obtain⟨b,o,rfl,d⟩:=h.at_ (by intro e;have:=h.len;rw[e]at this;simp at this);have p:=d m (by rw[h.len];omega);have E:Hid (bH l=decide (l.getD m 0=0)):=by show _=_;unfold bH;rw[h.len,Nat.add_sub_cancel];simp
 clear h d h0;obtain⟨x,hx⟩:∃x,l.getD m 0=x:=⟨_,rfl⟩;rw[hx]at p E;clear hx;by_cases hx0:x=0
 ·have D:Hid (decide (x=0)=true):=decide_eq_true hx0;subst hx0;go_enter func110,ntmps110;go_wp2_with fail;go_ret;exact⟨by rw[E.out,D.out];rfl,rfl⟩
 have D:Hid (decide (x=0)=false):=decide_eq_false hx0;have hb:((x:Int)==0)=false:=by simp;exact hx0
 go_enter func110,ntmps110;go_wp2_with fail;go_ret;exact⟨by rw[E.out,D.out];rfl,rfl⟩
def bP (w:World)(z:Int)(e:Ending)(w':World):Prop:=e= .returned (.int .i64 z)∧Below w.heap.size w w'
theorem Fe {w:World}{R:Raw}{a b:Option Addr}{n c m d:Nat}(h:dG w R a n c b m d)(hl:128<n∨128<m):
  Calls prog 52 #[.agg #[.bool R.neg,.slice a n c,.slice b m d]] w (bP w (aP R)):=by
 have E:Hid (aP R=3):=by show _=_;unfold aP;rw[h.num.len,h.den.len,if_pos hl]
 clear h;rcases Classical.em (128<n)with h1 | h1
 ·go_enter func52,ntmps52;go_wp2_with fail;go_ret;exact⟨by rw[E.out];rfl,ah _ _⟩
 have h2:128<m:=hl.resolve_left h1;clear hl;go_enter func52,ntmps52;go_wp2_with fail;go_ret;exact⟨by rw[E.out];rfl,ah _ _⟩
theorem Fg {w:World}{R:Raw}{a b:Option Addr}{n c m d:Nat}(h:dG w R a n c b m d)(hn:n≤128)(hm:m≤128)(hl:bH R.num=true∨bH R.den=true∨m=0):
  Calls prog 52 #[.agg #[.bool R.neg,.slice a n c,.slice b m d]] w (bP w (aP R)):=by
 have E:Hid (aP R=2):=by
  show _=_;unfold aP;rw[h.num.len,h.den.len,if_neg (by omega),if_pos];rcases hl with e | e | e
  ·exact Or.inl e
  ·exact Or.inr (Or.inl e)
  exact Or.inr (Or.inr (List.length_eq_zero_iff.1 (by rw[h.den.len];exact e)))
 have L1:=hid (h.num.below (ah w (.cells #[.bool R.neg,.slice a n c,.slice b m d] 25)));have L2:=hid (h.den.below (ah w (.cells #[.bool R.neg,.slice a n c,.slice b m d] 25)));clear h
 cases h1:bH R.num with
 | true=>
  have H1:=hid h1;clear h1 hl
  go_enter func52,ntmps52
  go_wp2_with fail
  refine(last_any L1.out).mono ?_
  rintro e w' ⟨rfl,rfl⟩
  rw[H1.out]
  go_wp2_with fail
  go_ret
  exact⟨by rw[E.out];rfl,ah _ _⟩
 | false=>
  cases h2:bH R.den with
  | true=>
   have H1:=hid h1;have H2:=hid h2;clear h1 h2 hl
   go_enter func52,ntmps52
   go_wp2_with fail
   refine(last_any L1.out).mono ?_
   rintro e w' ⟨rfl,rfl⟩
   rw[H1.out]
   go_wp2_with fail
   refine(last_any L2.out).mono ?_
   rintro e w' ⟨rfl,rfl⟩
   rw[H2.out]
   go_wp2_with fail
   go_ret
   exact⟨by rw[E.out];rfl,ah _ _⟩
  | false=>
   have hm0:m=0:=by
    rcases hl with e | e | e
    ·rw[h1]at e;cases e
    ·rw[h2]at e;cases e
    ·exact e
   have mz:((m:Int)==0)=true:=by simp;exact hm0
   have H1:=hid h1;have H2:=hid h2;clear h1 h2 hl hm0
   go_enter func52,ntmps52
   go_wp2_with fail
   refine(last_any L1.out).mono ?_
   rintro e w' ⟨rfl,rfl⟩
   rw[H1.out]
   go_wp2_with fail
   refine(last_any L2.out).mono ?_
   rintro e w' ⟨rfl,rfl⟩
   rw[H2.out]
   go_wp2_with fail
   go_ret
   exact⟨by rw[E.out];rfl,ah _ _⟩
end Go.Proofs.YtijdglogadnbcaaGreat
