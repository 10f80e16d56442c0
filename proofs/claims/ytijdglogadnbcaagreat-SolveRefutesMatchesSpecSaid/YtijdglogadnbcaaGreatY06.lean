/- number.Check at limbs without a last 0; number.Check whole. -/
import Derived.Test.YtijdglogadnbcaaGreatY05
import Derived.Test.YtijdglogadnbcaaGreatRows
import Derived.Deep.Strs
import Derived.Lib.SmallJoins
set_option linter.unusedVariables false
set_option linter.unusedSimpArgs false
set_option maxRecDepth 100000
set_option maxHeartbeats 40000000
namespace Go.Proofs.YtijdglogadnbcaaGreat
open Go.Proofs.Tryz
open Go.RowKit Nt
theorem BG {w:World}{R:Raw}{a b:Option Addr}{n c m d:Nat}(h:dG w R a n c b m d)(hn:n≤128)(hm:m≤128)(h1:bH R.num=false)(h2:bH R.den=false)(h3:m≠0):
  Calls prog 52 #[.agg #[.bool R.neg,.slice a n c,.slice b m d]] w (bP w (aP R)):=by
 obtain⟨neg,num,den⟩:=R;have cn:=canon h.num.lm h1;have cd:=canon h.den.lm h2;have hn2:=h.num.len;have hm2:=h.den.len;simp only at cn cd h1 h2 hn2 hm2;obtain⟨P,hP⟩:∃P,vl num=P:=⟨_,rfl⟩;obtain⟨D,hD⟩:∃D,vl den=D:=⟨_,rfl⟩;rw[hP]at cn;rw[hD]at cd;have L1:=hid (h.num.below (ah w (.cells #[.bool neg,.slice a n c,.slice b m d] 25)));have L2:=hid (h.den.below (ah w (.cells #[.bool neg,.slice a n c,.slice b m d] 25)));simp only at L1 L2;have K1:Hid (bW (w.alloc (.cells #[.bool neg,.slice a n c,.slice b m d] 25)) (aC P) a n c):=by have:=L1.out;rwa[cn]at this
 have K2:Hid (bW (w.alloc (.cells #[.bool neg,.slice a n c,.slice b m d] 25)) (aC D) b m d):=by have:=L2.out;rwa[cd]at this
 have D0:D≠0:=fun e=>h3 (by rw[←hm2,cd,e,aA];rfl);have E0:aP ⟨neg,num,den⟩=if P=0∧(neg=true∨D≠1)then 2 else if Nat.gcd P D≠1 then 2 else 0:=by
  unfold aP;simp only[hP,hD];rw[if_neg (by omega),if_neg];rintro(e | e | e)
  ·rw[h1]at e;cases e
  ·rw[h2]at e;cases e
  apply h3;rw[←hm2,e];rfl
 have H1:=hid h1;have H2:=hid h2;have nP:n=0↔P=0:=by rw[←hn2,cn];exact qy
 have mz:((m:Int)==0)=false:=by simp;exact h3
 clear h h1 h2 h3 cn cd hn2 hm2 hP hD;by_cases hP0:P=0
 ·have nz:((n:Int)==0)=true:=by simp;exact nP.2 hP0
  cases neg with
  | true=>
   have E:Hid (aP ⟨true,num,den⟩=2):=by show _=_;rw[E0,if_pos ⟨hP0,Or.inl rfl⟩]
   have D1:=hid (rfl:decide (D=1)=decide (D=1))
   have D2:=hid (rfl:decide (P=1)=decide (P=1))
   clear E0 hP0 nP D0
   go_enter func52,ntmps52
   go_wp2_with (first
    | (go_at_call 110;((with_reducible refine(last_any L1.out).mono ?_));rintro e w' ⟨rfl,rfl⟩;rw[H1.out])
    | (go_at_call 110;((with_reducible refine(last_any L2.out).mono ?_));rintro e w' ⟨rfl,rfl⟩;rw[H2.out])
    | (go_at_call 111;((with_reducible refine(aS K2.out).mono ?_));rintro e w' ⟨rfl,rfl⟩;rw[D1.out])
    | (go_at_call 111;((with_reducible refine(aS K1.out).mono ?_));rintro e w' ⟨rfl,rfl⟩;rw[D2.out]))
   go_ret
   exact⟨by rw[E.out];rfl,ah _ _⟩
  | false=>
   by_cases hD1:D=1
   ·have E:Hid (aP ⟨false,num,den⟩=0):=by show _=_;rw[E0,if_neg (fun q=>by rcases q.2 with e | e;cases e;exact e hD1),if_neg (by rw[hD1,Nat.gcd_one_right];simp)]
    have D1:Hid (decide (D=1)=true):=decide_eq_true hD1
    have D2:=hid (rfl:decide (P=1)=decide (P=1))
    clear E0 hP0 nP D0 hD1
    go_enter func52,ntmps52
    go_wp2_with (first
     | (go_at_call 110;((with_reducible refine(last_any L1.out).mono ?_));rintro e w' ⟨rfl,rfl⟩;rw[H1.out])
     | (go_at_call 110;((with_reducible refine(last_any L2.out).mono ?_));rintro e w' ⟨rfl,rfl⟩;rw[H2.out])
     | (go_at_call 111;((with_reducible refine(aS K2.out).mono ?_));rintro e w' ⟨rfl,rfl⟩;rw[D1.out])
     | (go_at_call 111;((with_reducible refine(aS K1.out).mono ?_));rintro e w' ⟨rfl,rfl⟩;rw[D2.out]))
    go_ret
    exact⟨by rw[E.out];rfl,ah _ _⟩
   ·have E:Hid (aP ⟨false,num,den⟩=2):=by show _=_;rw[E0,if_pos ⟨hP0,Or.inr hD1⟩]
    have D1:Hid (decide (D=1)=false):=decide_eq_false hD1
    have D2:=hid (rfl:decide (P=1)=decide (P=1))
    clear E0 hP0 nP D0 hD1
    go_enter func52,ntmps52
    go_wp2_with (first
     | (go_at_call 110;((with_reducible refine(last_any L1.out).mono ?_));rintro e w' ⟨rfl,rfl⟩;rw[H1.out])
     | (go_at_call 110;((with_reducible refine(last_any L2.out).mono ?_));rintro e w' ⟨rfl,rfl⟩;rw[H2.out])
     | (go_at_call 111;((with_reducible refine(aS K2.out).mono ?_));rintro e w' ⟨rfl,rfl⟩;rw[D1.out])
     | (go_at_call 111;((with_reducible refine(aS K1.out).mono ?_));rintro e w' ⟨rfl,rfl⟩;rw[D2.out]))
    go_ret
    exact⟨by rw[E.out];rfl,ah _ _⟩
 have nz:((n:Int)==0)=false:=by simp;exact fun e=>hP0 (nP.1 e)
 rw[if_neg (fun q=>hP0 q.1)]at E0;by_cases hD1:D=1
 ·have E:Hid (aP ⟨neg,num,den⟩=0):=by show _=_;rw[E0,if_neg (by rw[hD1,Nat.gcd_one_right];simp)]
  have D1:Hid (decide (D=1)=true):=decide_eq_true hD1;have D2:=hid (rfl:decide (P=1)=decide (P=1));clear E0 hP0 nP D0 hD1;go_enter func52,ntmps52;go_wp2_with (first
   | (go_at_call 110;((with_reducible refine(last_any L1.out).mono ?_));rintro e w' ⟨rfl,rfl⟩;rw[H1.out])
   | (go_at_call 110;((with_reducible refine(last_any L2.out).mono ?_));rintro e w' ⟨rfl,rfl⟩;rw[H2.out])
   | (go_at_call 111;((with_reducible refine(aS K2.out).mono ?_));rintro e w' ⟨rfl,rfl⟩;rw[D1.out])
   | (go_at_call 111;((with_reducible refine(aS K1.out).mono ?_));rintro e w' ⟨rfl,rfl⟩;rw[D2.out]))
  go_ret;exact⟨by rw[E.out];rfl,ah _ _⟩
 have D1:Hid (decide (D=1)=false):=decide_eq_false hD1;by_cases hP1:P=1
 ·have E:Hid (aP ⟨neg,num,den⟩=0):=by show _=_;rw[E0,if_neg (by rw[hP1,Nat.gcd_one_left];simp)]
  have D2:Hid (decide (P=1)=true):=decide_eq_true hP1;clear E0 hP0 nP D0 hD1 hP1;go_enter func52,ntmps52;go_wp2_with (first
   | (go_at_call 110;((with_reducible refine(last_any L1.out).mono ?_));rintro e w' ⟨rfl,rfl⟩;rw[H1.out])
   | (go_at_call 110;((with_reducible refine(last_any L2.out).mono ?_));rintro e w' ⟨rfl,rfl⟩;rw[H2.out])
   | (go_at_call 111;((with_reducible refine(aS K2.out).mono ?_));rintro e w' ⟨rfl,rfl⟩;rw[D1.out])
   | (go_at_call 111;((with_reducible refine(aS K1.out).mono ?_));rintro e w' ⟨rfl,rfl⟩;rw[D2.out]))
  go_ret;exact⟨by rw[E.out];rfl,ah _ _⟩
 have D2:Hid (decide (P=1)=false):=decide_eq_false hP1;obtain⟨g,hg⟩:∃g,Nat.gcd P D=g:=⟨_,rfl⟩;have HG:=hid hg;have B1:Hid (Below w.heap.size w (w.alloc (.cells #[.bool neg,.slice a n c,.slice b m d] 25))):=ah _ _;by_cases hg1:g=1
 ·have E:Hid (aP ⟨neg,num,den⟩=0):=by show _=_;rw[E0,if_neg (by rw[hg];simp[hg1])]
  have D3:Hid (decide (g=1)=true):=decide_eq_true hg1;clear E0 hP0 nP D0 hD1 hP1 hg hg1;go_enter func52,ntmps52;go_wp2_with (first
   | (go_at_call 110;((with_reducible refine(last_any L1.out).mono ?_));rintro e w' ⟨rfl,rfl⟩;rw[H1.out])
   | (go_at_call 110;((with_reducible refine(last_any L2.out).mono ?_));rintro e w' ⟨rfl,rfl⟩;rw[H2.out])
   | (go_at_call 111;((with_reducible refine(aS K2.out).mono ?_));rintro e w' ⟨rfl,rfl⟩;rw[D1.out])
   | (go_at_call 111;((with_reducible refine(aS K1.out).mono ?_));rintro e w' ⟨rfl,rfl⟩;rw[D2.out])
   | (go_at_call 98;refine(zo K1.out K2.out (by omega) (by omega)).mono ?_;rintro e w2 ⟨a2,n2,c2,rfl,L5,B5⟩;rw[HG.out]at L5;have L5:=hid L5;have B5:=hid B5)
   | (go_at_call 111;refine(aS L5.out).mono ?_;rintro e w' ⟨rfl,rfl⟩;rw[D3.out]))
  go_ret;exact⟨by rw[E.out];rfl,aB B1.out B5.out⟩
 have E:Hid (aP ⟨neg,num,den⟩=2):=by show _=_;rw[E0,if_pos (by rw[hg];exact hg1)]
 have D3:Hid (decide (g=1)=false):=decide_eq_false hg1;clear E0 hP0 nP D0 hD1 hP1 hg hg1;go_enter func52,ntmps52;go_wp2_with (first
  | (go_at_call 110;((with_reducible refine(last_any L1.out).mono ?_));rintro e w' ⟨rfl,rfl⟩;rw[H1.out])
  | (go_at_call 110;((with_reducible refine(last_any L2.out).mono ?_));rintro e w' ⟨rfl,rfl⟩;rw[H2.out])
  | (go_at_call 111;((with_reducible refine(aS K2.out).mono ?_));rintro e w' ⟨rfl,rfl⟩;rw[D1.out])
  | (go_at_call 111;((with_reducible refine(aS K1.out).mono ?_));rintro e w' ⟨rfl,rfl⟩;rw[D2.out])
  | (go_at_call 98;refine(zo K1.out K2.out (by omega) (by omega)).mono ?_;rintro e w2 ⟨a2,n2,c2,rfl,L5,B5⟩;rw[HG.out]at L5;have L5:=hid L5;have B5:=hid B5)
  | (go_at_call 111;refine(aS L5.out).mono ?_;rintro e w' ⟨rfl,rfl⟩;rw[D3.out]))
 go_ret;exact⟨by rw[E.out];rfl,aB B1.out B5.out⟩
theorem check_any {w:World}{R:Raw}{a b:Option Addr}{n c m d:Nat}(h:dG w R a n c b m d):
  Calls prog 52 #[.agg #[.bool R.neg,.slice a n c,.slice b m d]] w (bP w (aP R)):=by
 by_cases hl:128<n∨128<m
 ·exact Fe h hl
 by_cases hf:bH R.num=true∨bH R.den=true∨m=0
 ·exact Fg h (by omega) (by omega) hf
 refine BG h (by omega) (by omega) ?_ ?_ (fun e=>hf (Or.inr (Or.inr e)))
 ·cases e:bH R.num with
  | false=>rfl
  | true=>exact absurd (Or.inl e) hf
 cases e:bH R.den with
 | false=>rfl
 | true=>exact absurd (Or.inr (Or.inl e)) hf
theorem uO {w:World}{R:Raw}{a b:Option Addr}{n c m d g:Nat}(h:dG w R a n c b m d)(hg:NB w g R.neg a n c b m d):
  Calls prog 171 #[.slice (some ⟨g,0,none⟩) 1 1] w (bP w (aP R)):=by
 have H:=hid h;have G:=hid hg;clear h hg;go_enter func171,ntmps171;go_wp2_with fail;go_loopw [8] (fun i wr=>∃k:Nat,i= .int .i64 (k:Int)∧((k=0∧wr=w)∨(k=1∧aP R=0∧Below w.heap.size w wr))) (fun i _=>2-(intOf i).toNat)
 case atStart=>exact⟨0,rfl,Or.inl ⟨rfl,rfl⟩⟩
 obtain⟨k,rfl,⟨rfl,rfl⟩ | ⟨rfl,hz,hB⟩⟩:=hrel
 ·obtain⟨z0,z1,z2,_⟩:=G.out.reads;obtain⟨z,hz⟩:∃z,aP R=z:=⟨_,rfl⟩;have HZ:=hid hz;have C:=hid (check_any (H.out.below (ah _ (.cells #[.bool R.neg,.slice a n c,.slice b m d] 25))));by_cases h0:z=0
  ·subst h0;clear hz;go_wp2_with fail;refine C.out.mono ?_;rintro e w2 ⟨rfl,B2⟩;rw[HZ.out];have B2:=hid (Below.over (ah _ _) (by simp) B2);go_wp2_with fail;go_roundw
   case rel=>exact⟨1,by go_num,Or.inr ⟨rfl,HZ.out,B2.out⟩⟩
   simp[intOf]
  have hb:(z !=0)=true:=by simp;exact h0
  clear hz;go_wp2_with fail;refine C.out.mono ?_;rintro e w2 ⟨rfl,B2⟩;rw[HZ.out];have B2:=hid (Below.over (ah _ _) (by simp) B2);go_wp2_with fail;go_ret;exact⟨by rw[HZ.out];rfl,B2.out⟩
 have HZ:=hid hz;have BR:=hid hB;clear hz hB;go_wp2_with fail;go_ret;exact⟨by rw[HZ.out];rfl,BR.out⟩
theorem Fh {num:List Nat}(hl:num.length≤128)(hz:bH num=false):aP ⟨false,num,[1]⟩=0:=by
 have e1:bH [1]=false:=rfl;have e2:vl [1]=1:=rfl;unfold aP;simp only[e2];rw[if_neg (by simp;omega),if_neg,if_neg (by simp),if_neg (by rw[Nat.gcd_one_right];simp)];rintro(e | e | e)
 ·rw[hz]at e;cases e
 ·rw[e1]at e;cases e
 simp at e
theorem rJ {R:Raw}(h:aP R=0):R.num.length≤128∧R.den.length≤128∧bH R.num=false∧bH R.den=false:=by
 unfold aP at h;by_cases h1:128<R.num.length∨128<R.den.length
 ·rw[if_pos h1]at h;omega
 rw[if_neg h1]at h;by_cases h2:bH R.num=true∨bH R.den=true∨R.den=[]
 ·rw[if_pos h2]at h;omega
 refine⟨by omega,by omega,?_,?_⟩
 ·cases e:bH R.num with
  | false=>rfl
  | true=>exact absurd (Or.inl e) h2
 cases e:bH R.den with
 | false=>rfl
 | true=>exact absurd (Or.inr (Or.inl e)) h2
theorem BH {w:World}{num:List Nat}{a b:Option Addr}{n c d g:Nat}(h:dG w ⟨false,num,[1]⟩ a n c b 1 d)(hg:NB w g false a n c b 1 d)(hl:num.length≤128)(hz:bH num=false):
  Calls prog 131 #[.slice (some ⟨g,0,none⟩) 1 1] w (bP w 0):=by
 have H:=hid h;have G:=hid hg;have C:=hid (uO h hg);have CZ:=hid (Fh hl hz);clear h hg hl hz;go_enter func131,ntmps131;go_wp2_with fail;refine C.out.mono ?_;rintro e w1 ⟨rfl,B1⟩;rw[CZ.out];have G1:Hid (NB w1 g false a n c b 1 d):=G.out.later B1 G.out.lt;have L1:Hid (bW w1 (aC 1) b 1 d):=by have:=H.out.den.below B1;rw[yV];exact this
 have B1:=hid B1;go_wp2_with fail;go_loopw [13] (fun i wr=>∃k:Nat,i= .int .i64 (k:Int)∧((k=0∧wr=w1)∨(k=1∧Below w.heap.size w wr))) (fun i _=>2-(intOf i).toNat)
 case atStart=>exact⟨0,rfl,Or.inl ⟨rfl,rfl⟩⟩
 obtain⟨k,rfl,⟨rfl,rfl⟩ | ⟨rfl,hB⟩⟩:=hrel
 ·obtain⟨z0,z1,z2,_⟩:=G1.out.reads;have L2:=hid (L1.out.below (ah _ (.cells #[.bool false,.slice a n c,.slice b 1 d] 25)));go_wp2_with fail;refine(aS L2.out).mono ?_;rintro e w' ⟨rfl,rfl⟩;have B2:=hid (aB B1.out (ah _ (.cells #[.bool false,.slice a n c,.slice b 1 d] 25)));go_wp2_with fail;go_roundw
  case rel=>exact⟨1,by go_num,Or.inr ⟨rfl,B2.out⟩⟩
  simp[intOf]
 have BR:=hid hB;clear hB;go_wp2_with fail;go_ret;exact⟨rfl,BR.out⟩
theorem yj {w:World}{num:List Nat}{a b:Option Addr}{n c d:Nat}(h:dG w ⟨false,num,[1]⟩ a n c b 1 d)(hl:num.length≤128)(hz:bH num=false):
  Calls prog 91 #[.agg #[.bool false,.slice a n c,.slice b 1 d]] w fun e w'=>e= .returned (.tuple #[.int .i64 (Nh.aU (vl num):Nat),.int .i64 0])∧Below w.heap.size w w':=by
 have H:=hid h;have hn:n≤128:=by rw[←h.num.len];exact hl
 have cn:=canon h.num.lm hz;obtain⟨P,hP⟩:∃P,vl num=P:=⟨_,rfl⟩;rw[hP]at cn⊢;obtain⟨W1,hW1⟩:∃W1,W1=w.alloc (.cells #[.bool false,.slice a n c,.slice b 1 d] 25):=⟨_,rfl⟩;obtain⟨W2,hW2⟩:∃W2,W2=W1.alloc (.cells #[.bool false,.slice a n c,.slice b 1 d] 25):=⟨_,rfl⟩;have B1:Below w.heap.size w W1:=by rw[hW1];exact ah _ _
 have B2:Below W1.heap.size W1 W2:=by rw[hW2];exact ah _ _
 have s1:W1.heap.size=w.heap.size+1:=by rw[hW1];simp
 have G2:NB W2 (w.heap.size+1) false a n c b 1 d:=by rw[←s1,hW2];exact heap_alloc_new _ _
 have G1:NB W1 w.heap.size false a n c b 1 d:=by rw[hW1];exact heap_alloc_new _ _
 have C:=BH ((h.below B1).below B2) G2 hl hz;have LN:Hid (∀W,Below W2.heap.size W2 W→bW W (aC P) a n c):=by intro W hB;have:=((h.num.below B1).below B2).below hB;rwa[cn]at this
 have eX:=hid (aB B1 B2);have G12:Hid (NB W2 w.heap.size false a n c b 1 d):=G1.later B2 (by omega);rw[hW2,hW1]at C;have C:=hid C;have HW:Hid (W2=(w.alloc (.cells #[.bool false,.slice a n c,.slice b 1 d] 25)).alloc (.cells #[.bool false,.slice a n c,.slice b 1 d] 25)):=by show _=_;rw[hW2,hW1]
 clear h hl hz cn hP hW1 hW2 B1 B2 s1 G2 G1;go_enter func91,ntmps91;go_wp2_with fail;refine C.out.mono ?_;rintro e w3 ⟨rfl,B3⟩;rw[←HW.out]at B3;have G3:NB w3 w.heap.size false a n c b 1 d:=G12.out.later B3 G12.out.lt;obtain⟨z0,z1,z2,_⟩:=G3.reads;have L3:=hid (LN.out w3 B3);have fC:=hid (aB eX.out B3);clear B3 G3;go_wp2_with fail;refine(len_any L3.out (by omega)).mono ?_;rintro e w' ⟨rfl,rfl⟩;go_wp2_with fail;go_ret2;exact⟨rfl,fC.out⟩
def bQ (R:Raw):Int:=if aP R≠0 then aP R else if 32<Nh.aU (vl R.num)∨8<Nh.aU (vl R.den)then 3 else 0
theorem Hz (w:World):bW (w.alloc (.cells #[.int .u32 1] 111)) [1] (some ⟨w.heap.size,0,none⟩) 1 1:=by have U:UB (w.alloc (.cells #[.int .u32 1] 111)) w.heap.size [1]:=heap_alloc_new w _;exact⟨U.at_,rfl,Nat.le_refl _,by omega,fun y hy=>by simp at hy;omega⟩
theorem JG {w:World}{R:Raw}{a b:Option Addr}{n c m d:Nat}(h:dG w R a n c b m d)(h0:aP R≠0):
  Calls prog 53 #[.agg #[.bool R.neg,.slice a n c,.slice b m d]] w (bP w (bQ R)):=by
 have E:Hid (bQ R=aP R):=by show _=_;unfold bQ;rw[if_pos h0]
 have C:=hid (check_any (h.below (ah _ (.cells #[.bool R.neg,.slice a n c,.slice b m d] 25))));obtain⟨z,hz⟩:∃z,aP R=z:=⟨_,rfl⟩;rw[hz]at h0;have hb:(z !=0)=true:=by simp;exact h0
 have HZ:=hid hz;clear h h0 hz;go_enter func53,ntmps53;go_wp2_with fail;refine C.out.mono ?_;rintro e w2 ⟨rfl,B2⟩;rw[HZ.out];have B2:=hid (Below.over (ah _ _) (by simp) B2);go_wp2_with fail;go_ret;exact⟨by rw[E.out,HZ.out];rfl,B2.out⟩
theorem Oq {w:World}{R:Raw}{a b:Option Addr}{n c m d:Nat}(h:dG w R a n c b m d)(h0:aP R=0):
  Calls prog 53 #[.agg #[.bool R.neg,.slice a n c,.slice b m d]] w (bP w (bQ R)):=by
 obtain⟨c1,c2,c3,c4⟩:=rJ h0;have E:Hid (bQ R=if 32<Nh.aU (vl R.num)∨8<Nh.aU (vl R.den)then 3 else 0):=by show _=_;unfold bQ;rw[if_neg (by rw[h0];simp)]
 have C:=hid (check_any (h.below (ah _ (.cells #[.bool R.neg,.slice a n c,.slice b m d] 25))));have B1:Hid (Below w.heap.size w (w.alloc (.cells #[.bool R.neg,.slice a n c,.slice b m d] 25))):=ah _ _;have G1:Hid (NB (w.alloc (.cells #[.bool R.neg,.slice a n c,.slice b m d] 25)) w.heap.size R.neg a n c b m d):=heap_alloc_new w _;have LE:=hid (fun(W:World) (hB:Below w.heap.size w W)=>yj (b:=some ⟨W.heap.size,0,none⟩) (d:=1) (⟨(h.num.below hB).below (ah W (.cells #[.int .u32 1] 111)),Hz W⟩:dG (W.alloc (.cells #[.int .u32 1] 111)) ⟨false,R.num,[1]⟩ a n c (some ⟨W.heap.size,0,none⟩) 1 1) c1 c3);have LD:=hid (fun(W:World) (hB:Below w.heap.size w W)=>yj (b:=some ⟨W.heap.size,0,none⟩) (d:=1) (⟨(h.den.below hB).below (ah W (.cells #[.int .u32 1] 111)),Hz W⟩:dG (W.alloc (.cells #[.int .u32 1] 111)) ⟨false,R.den,[1]⟩ b m d (some ⟨W.heap.size,0,none⟩) 1 1) c2 c4);have HZ:=hid h0;obtain⟨x,hx⟩:∃x,Nh.aU (vl R.num)=x:=⟨_,rfl⟩;obtain⟨y,hy⟩:∃y,Nh.aU (vl R.den)=y:=⟨_,rfl⟩;rw[hx]at E LE;rw[hy]at E LD;clear h h0 c1 c2 c3 c4 hx hy;have E3:Hid ((32<x→bQ R=3)∧(8<y→bQ R=3)∧(¬ 32<x→¬ 8<y→bQ R=0)):=by
  refine⟨fun q=>?_,fun q=>?_,fun q r=>?_⟩
  ·rw[E.out,if_pos (Or.inl q)]
  ·rw[E.out,if_pos (Or.inr q)]
  rw[E.out,if_neg (fun k=>by rcases k with k | k;exact q k;exact r k)]
 clear E;go_enter func53,ntmps53;go_wp2_with fail;refine C.out.mono ?_;rintro e w2 ⟨rfl,B2⟩;rw[HZ.out];have G2:Hid (NB w2 w.heap.size R.neg a n c b m d):=G1.out.later B2 G1.out.lt;have B2:=hid (aB B1.out B2);obtain⟨z0,z1,z2,_⟩:=G2.out.reads;go_wp2_with fail;refine(LE.out w2 B2.out).mono ?_;rintro e w3 ⟨rfl,B3⟩;have B23:=Below.over (ah w2 (.cells #[.int .u32 1] 111)) (by simp) B3;have G3:Hid (NB w3 w.heap.size R.neg a n c b m d):=G2.out.later B23 G2.out.lt;have B3:=hid (aB B2.out B23);clear z0 z1 z2 B23;obtain⟨z0,z1,z2,_⟩:=G3.out.reads;go_wp2_with fail;refine(LD.out w3 B3.out).mono ?_;rintro e w4 ⟨rfl,B4⟩;have Ec:=Below.over (ah w3 (.cells #[.int .u32 1] 111)) (by simp) B4;have B4:=hid (aB B3.out Ec);clear z0 z1 z2 Ec;by_cases hx:32<x
 ·go_wp2_with fail;go_ret;exact⟨by rw[E3.out.1 hx];rfl,B4.out⟩
 by_cases hy:8<y
 ·go_wp2_with fail;go_ret;exact⟨by rw[E3.out.2.1 hy];rfl,B4.out⟩
 go_wp2_with fail;go_ret;exact⟨by rw[E3.out.2.2 hx hy];rfl,B4.out⟩
theorem yt {w:World}{R:Raw}{a b:Option Addr}{n c m d:Nat}(h:dG w R a n c b m d):
  Calls prog 53 #[.agg #[.bool R.neg,.slice a n c,.slice b m d]] w (bP w (bQ R)):=by
 by_cases h0:aP R=0
 ·exact Oq h h0
 exact JG h h0
structure Cf where
 var:Int
 gU:Raw
instance:Inhabited Raw:=⟨⟨false,[],[]⟩⟩
instance:Inhabited Cf:=⟨⟨0,default⟩⟩
def cf (l:List Cf)(i:Nat):Cf:=l.getD i default
def fD (u:Int)(l:List Cf)(i:Nat):Int:=
 if(cf l i).var<0∨u≤(cf l i).var then 1
 else if 0<i∧(cf l i).var≤(cf l (i-1)).var then 2
 else if aP (cf l i).gU≠0 then aP (cf l i).gU
 else if(cf l i).gU.num.length=0 then 2
 else bQ (cf l i).gU
def bK (u:Int)(l:List Cf):Nat→Int
 | 0=>0
 | n+1=>if bK u l n≠0 then bK u l n else fD u l n
def bV (u rel:Int)(l:List Cf)(bound:Raw):Int:=
 if rel≠1∧rel≠2∧rel≠3 then 1 else if 8<l.length then 3 else if bK u l l.length≠0 then bK u l l.length else bQ bound
theorem qA {u:Int}{l:List Cf}{k n:Nat}(h0:bK u l k=0)(h:fD u l k≠0)(hn:k<n):bK u l n=fD u l k:=by
 obtain⟨d,rfl⟩:∃d,n=k+1+d:=⟨n-k-1,by omega⟩;clear hn;induction d with
 | zero=>show(if bK u l k≠0 then _ else _)=_;rw[if_neg (by rw[h0];simp)]
 | succ d ih=>
  show(if bK u l (k+1+d)≠0 then bK u l (k+1+d)else _)=_
  rw[if_pos (by rw[ih];exact h),ih]
theorem qB {u:Int}{l:List Cf}{k:Nat}(h0:bK u l k=0)(h:fD u l k=0):bK u l (k+1)=0:=by show(if bK u l k≠0 then _ else _)=_;rw[if_neg (by rw[h0];simp)];exact h
def kG (w:World)(l:List Cf)(ca:Option Addr):Prop:=
 l≠[]→∃g o,ca=some ⟨g,o,none⟩∧∀i,i<l.length→∃a n c b m d,
  w.cell? ⟨g,o+i*4,none⟩=some (.int .i64 (cf l i).var)∧w.cell? ⟨g,o+i*4+1,none⟩=some (.bool (cf l i).gU.neg)∧w.cell? ⟨g,o+i*4+2,none⟩=some (.slice a n c)∧w.cell? ⟨g,o+i*4+3,none⟩=some (.slice b m d)∧dG w (cf l i).gU a n c b m d
def CrL (w:World)(u:Int)(l:List Cf)(i:Value)(wr:World):Prop:=∃k:Nat,k≤l.length∧i= .int .i64 (k:Int)∧bK u l k=0∧Below w.heap.size w wr
theorem JH {w:World}{u rel:Int}{l:List Cf}{B:Raw}{ca a b:Option Addr}{nc cc n c m d:Nat}(hl:kG w l ca)(hB:dG w B a n c b m d)(hn:l.length=nc)(hc:nc≤cc)(hc2:cc≤9223372036854775807)(hr:rel=1∨rel=2∨rel=3)(h8:nc≤8):
  Calls prog 14 #[.agg #[.slice ca nc cc,.int .i64 rel,.bool B.neg,.slice a n c,.slice b m d],.int .i64 u] w (bP w (bV u rel l B)):=by
 have E:Hid (bV u rel l B=if bK u l l.length≠0 then bK u l l.length else bQ B):=by show _=_;unfold bV;rw[if_neg (by omega),if_neg (by omega)]
 have HL:=hid hl;have HB:=hid hB;have HN:=hid hn;have B0:Hid (Below w.heap.size w (w.alloc (.cells #[.slice ca nc cc,.int .i64 rel,.bool B.neg,.slice a n c,.slice b m d] 27))):=ah _ _;have X0:Hid ((w.alloc (.cells #[.slice ca nc cc,.int .i64 rel,.bool B.neg,.slice a n c,.slice b m d] 27)).heap[w.heap.size]? =some (.cells #[.slice ca nc cc,.int .i64 rel,.bool B.neg,.slice a n c,.slice b m d] 27 (0,0))):=heap_alloc_new w _;have S0:Hid ((w.alloc (.cells #[.slice ca nc cc,.int .i64 rel,.bool B.neg,.slice a n c,.slice b m d] 27)).heap.size=w.heap.size+1):=by show _=_;simp
 clear hl hB hn;have RD:=hid (fun(W:World) (h:W.heap[w.heap.size]? =some (.cells #[.slice ca nc cc,.int .i64 rel,.bool B.neg,.slice a n c,.slice b m d] 27 (0,0)))=>
  (show W.cell? ⟨w.heap.size,0,none⟩=some (.slice ca nc cc)∧W.cell? ⟨w.heap.size,2,none⟩=some (.bool B.neg)∧W.cell? ⟨w.heap.size,3,none⟩=some (.slice a n c)∧W.cell? ⟨w.heap.size,4,none⟩=some (.slice b m d) from
   ⟨by rw[cell_of_row W w.heap.size 0 _ _ _ h];rfl,by rw[cell_of_row W w.heap.size 2 _ _ _ h];rfl,by rw[cell_of_row W w.heap.size 3 _ _ _ h];rfl,by rw[cell_of_row W w.heap.size 4 _ _ _ h];rfl⟩))
 go_enter func14,ntmps14;go_upto_block 0 with fail
 generalize w.alloc (.cells #[.slice ca nc cc,.int .i64 rel,.bool B.neg,.slice a n c,.slice b m d] 27)=W0 at*;have Y0:Hid (W0.cell? ⟨w.heap.size,1,none⟩=some (.int .i64 rel)):=by show _=_;rw[cell_of_row W0 w.heap.size 1 _ _ _ X0.out];rfl
 go_cut [8] (fun v W=>v= .bool false∧W=W0)
 case first=>
  have y0:=Y0.out;obtain⟨q0,q2,q3,q4⟩:=RD.out W0 X0.out;rcases hr with rfl | rfl | rfl;all_goals
   go_wp2_with fail
   go_meet
   case rel=>exact⟨rfl,rfl⟩
 obtain⟨rfl,rfl⟩:=hcut;obtain⟨W1,rfl⟩:∃W1:World,W1=wc:=⟨_,rfl⟩;obtain⟨q0,q2,q3,q4⟩:=RD.out W1 X0.out;go_wp2_with fail;go_loopw [30] (fun i wr=>CrL W1 u l i wr) (fun i _=>nc-(intOf i).toNat)
 case atStart=>exact⟨0,Nat.zero_le _,rfl,rfl,Below.refl _ _⟩
 obtain⟨k,hk,rfl,hz,hBr⟩:=hrel;have Z:=hid hz;have BR:=hid hBr;have X1:=hid ((hBr.block w.heap.size (by rw[S0.out];omega)).trans X0.out);have B1:=hid (aB B0.out hBr);rw[HN.out]at hk;clear hz hBr q0 q2 q3 q4;obtain⟨q0,q2,q3,q4⟩:=RD.out wr X1.out;by_cases hlt:k<nc
 ·obtain⟨g,o,rfl,dd⟩:=HL.out (by intro e;have:=HN.out;rw[e]at this;simp at this;omega);obtain⟨ra,rn,rc,rb,rm,rd,p0,p1,p2,p3,hR⟩:=dd k (by rw[HN.out];exact hlt);have ST:=hid (fun(z:Int) (h:fD u l k=z) (h0:z≠0)=>(show bV u rel l B=z by rw[E.out,HN.out,qA Z.out (by rw[h];exact h0) hlt,h,if_pos h0]));have CA:Hid (fD u l k=if(cf l k).var<0∨u≤(cf l k).var then 1 else if 0<k∧(cf l k).var≤(cf l (k-1)).var then 2 else if aP (cf l k).gU≠0 then aP (cf l k).gU else if(cf l k).gU.num.length=0 then 2 else bQ (cf l k).gU):=rfl;have PV:=hid (fun(h:0<k)=>(show ∃z,w.cell? ⟨g,o+(k-1)*4,none⟩=some (.int .i64 z)∧(cf l (k-1)).var=z from by obtain⟨_,_,_,_,_,_,e,_⟩:=dd (k-1) (by rw[HN.out];omega);exact⟨_,e,rfl⟩))
  clear dd;obtain⟨v,hv⟩:∃v,(cf l k).var=v:=⟨_,rfl⟩;obtain⟨R,hRR⟩:∃R,(cf l k).gU=R:=⟨_,rfl⟩;rw[hv]at p0 CA;rw[hRR]at p1 hR CA;have HR:=hid hR;have p0:=aj B1.out p0;have p1:=aj B1.out p1;have p2:=aj B1.out p2;have p3:=aj B1.out p3;have B2:Hid (Below wr.heap.size wr (wr.alloc (.cells #[.int .i64 v,.bool R.neg,.slice ra rn rc,.slice rb rm rd] 72))):=ah _ _;clear hv hRR hR;by_cases c1:v<0
  ·have E1:=hid (ST.out 1 (by rw[CA.out,if_pos (Or.inl c1)]) (by omega));go_wp2_with fail;go_ret;exact⟨by rw[E1.out];rfl,aB B1.out B2.out⟩
  have v0:0≤v:=by omega
  by_cases c2:u≤v
  ·have E1:=hid (ST.out 1 (by rw[CA.out,if_pos (Or.inr c2)]) (by omega));clear c1;go_wp2_with fail;go_ret;exact⟨by rw[E1.out];rfl,aB B1.out B2.out⟩
  have c2':v<u:=by omega
  have CA2:Hid (fD u l k=if 0<k∧v≤(cf l (k-1)).var then 2 else if aP R≠0 then aP R else if R.num.length=0 then 2 else bQ R):=by show _=_;rw[CA.out,if_neg (by omega)]
  clear c1 c2 CA;have NW:Hid ((wr.alloc (.cells #[.int .i64 v,.bool R.neg,.slice ra rn rc,.slice rb rm rd] 72)).heap[wr.heap.size]? =some (.cells #[.int .i64 v,.bool R.neg,.slice ra rn rc,.slice rb rm rd] 72 (0,0))):=heap_alloc_new wr _;have X2:=hid ((B2.out.block w.heap.size (by have:=(Array.getElem?_eq_some_iff.1 X1.out).1;exact this)).trans X1.out);have B3:=hid (aB B1.out B2.out);go_upto_region 10 with fail
  clear p0 p1 p2 p3 q0 q2 q3 q4;generalize wr.alloc (.cells #[.int .i64 v,.bool R.neg,.slice ra rn rc,.slice rb rm rd] 72)=WA at*;have n0:WA.cell? ⟨wr.heap.size,0,none⟩=some (.int .i64 v):=by rw[cell_of_row WA wr.heap.size 0 _ _ _ NW.out];rfl
  obtain⟨q0,q2,q3,q4⟩:=RD.out WA X2.out;by_cases c3:0<k∧v≤(cf l (k-1)).var
  ·obtain⟨z,pz,hz⟩:=PV.out c3.1;have E1:=hid (ST.out 2 (by rw[CA2.out,if_pos c3]) (by omega));have pz:=aj B3.out pz;have kz:(0:Int)<(k:Int):=by have:=c3.1;omega
   have i1:((k:Int)-1)=((k-1:Nat):Int):=by have:=c3.1;omega
   have zl:v≤z:=by rw[←hz];exact c3.2
   have kz':decide (0<k)=true:=by simp;exact c3.1
   have kz2:0<k:=c3.1;have zl':decide (v≤z)=true:=by simp;exact zl
   have kl:(((k-1:Nat):Int))<(nc:Int):=by omega
   have kl0:(0:Int)≤((k-1:Nat):Int):=by omega
   clear c3 hz;go_quiet (fail);go_wp2_with fail;go_ret;exact⟨by rw[E1.out];rfl,by obtain⟨q,hq⟩:∃q,q=nq:=⟨_,rfl⟩;exact aB B3.out (Qt.below ⟨nq,rfl⟩)⟩
  have WS:Hid (fD u l k=if aP R≠0 then aP R else if R.num.length=0 then 2 else bQ R):=by show _=_;rw[CA2.out,if_neg c3]
  go_cut [45] (fun t W=>t= .bool false∧Qt WA W)
  case first=>
   by_cases k0:k=0
   ·subst k0;clear c3;go_quiet (fail);go_wp2_with fail;go_meet
    case rel=>exact⟨rfl,_,rfl⟩
   obtain⟨z,pz,hz⟩:=PV.out (by omega);have pz:=aj B3.out pz;have kz:(0:Int)<(k:Int):=by omega
   have i1:((k:Int)-1)=((k-1:Nat):Int):=by omega
   have zl:z<v:=by rw[←hz];omega
   have kz':decide (0<k)=true:=by simp;omega
   have kz2:0<k:=by omega
   have zl':decide (v≤z)=false:=by simp;exact zl
   have kl:(((k-1:Nat):Int))<(nc:Int):=by omega
   have kl0:(0:Int)≤((k-1:Nat):Int):=by omega
   clear c3 hz;go_quiet (fail);go_wp2_with fail;go_meet
   case rel=>exact⟨rfl,_,rfl⟩
  obtain⟨rfl,hq⟩:=hcut;have HQ:=hid hq;clear c3 n0 q0 q2 q3 q4 hq;have N5:Hid (wc.heap[wr.heap.size]? =some (.cells #[.int .i64 v,.bool R.neg,.slice ra rn rc,.slice rb rm rd] 72 (0,0))):=by obtain⟨q,e⟩:=HQ.out;rw[e];exact NW.out
  have B5:=hid (aB B3.out HQ.out.below);have Lp:=hid (aB BR.out (aB B2.out HQ.out.below));have S5:=(Array.getElem?_eq_some_iff.1 N5.out).1;have C5:=hid (check_any (HR.out.below B5.out));have RL:Hid (R.num.length=rn):=HR.out.num.len;have CL:=hid (fun(W:World) (h:W.heap[wr.heap.size]? =some (.cells #[.int .i64 v,.bool R.neg,.slice ra rn rc,.slice rb rm rd] 72 (0,0)))=>
   (show W.cell? ⟨wr.heap.size,1,none⟩=some (.bool R.neg)∧W.cell? ⟨wr.heap.size,2,none⟩=some (.slice ra rn rc)∧W.cell? ⟨wr.heap.size,3,none⟩=some (.slice rb rm rd) from
    ⟨by rw[cell_of_row W wr.heap.size 1 _ _ _ h];rfl,by rw[cell_of_row W wr.heap.size 2 _ _ _ h];rfl,by rw[cell_of_row W wr.heap.size 3 _ _ _ h];rfl⟩))
  obtain⟨m1,m2,m3⟩:=CL.out wc N5.out;obtain⟨z,hz⟩:∃z,aP R=z:=⟨_,rfl⟩;rw[hz]at WS;have HZ:=hid hz;clear hz;obtain⟨W5,rfl⟩:∃W5:World,W5=wc:=⟨_,rfl⟩;go_wp2_with fail;refine C5.out.mono ?_;rintro e w6 ⟨rfl,B6⟩;rw[HZ.out];have N6:=hid ((B6.block wr.heap.size S5).trans N5.out);have uI:=hid (aB Lp.out B6);have B6:=hid (aB B5.out B6);clear m1 m2 m3 S5;obtain⟨m1,m2,m3⟩:=CL.out w6 N6.out;by_cases z0:z=0
  ·by_cases r0:rn=0
   ·have E1:=hid (ST.out 2 (by rw[WS.out,if_neg (by rw[z0];simp),if_pos (by rw[RL.out];exact r0)]) (by omega));have rz:((rn:Int)==0)=true:=by simp;exact r0
    subst z0;clear r0;go_wp2_with fail;go_ret;exact⟨by rw[E1.out];rfl,B6.out⟩
   have rz:((rn:Int)==0)=false:=by simp;exact r0
   have CA4:Hid (fD u l k=bQ R):=by show _=_;rw[WS.out,if_neg (by rw[z0];simp),if_neg (by rw[RL.out];exact r0)]
   have C6:=hid (yt (HR.out.below B6.out));obtain⟨y,hy⟩:∃y,bQ R=y:=⟨_,rfl⟩;have HY:=hid hy;clear hy;subst z0;clear r0;go_wp2_with fail;refine C6.out.mono ?_;rintro e w7 ⟨rfl,B7⟩;rw[HY.out];have Ak:=hid (aB uI.out B7);have B7:=hid (aB B6.out B7);by_cases y0:y=0
   ·have NX:=hid (qB Z.out (by rw[CA4.out,HY.out];exact y0));subst y0;go_wp2_with fail;go_roundw
    case rel=>exact⟨k+1,by rw[HN.out];omega,by go_num,NX.out,Ak.out⟩
    simp[intOf];omega
   have E1:=hid (ST.out y (by rw[CA4.out,HY.out]) y0);have yb:(y !=0)=true:=by simp;exact y0
   clear y0;go_wp2_with fail;go_ret;exact⟨by rw[E1.out];rfl,B7.out⟩
  have E1:=hid (ST.out z (by rw[WS.out,if_pos z0]) z0);have zb:(z !=0)=true:=by simp;exact z0
  have ze:(z==0)=false:=by simp;exact z0
  clear z0;go_wp2_with fail;go_ret;exact⟨by rw[E1.out];rfl,B6.out⟩
 obtain rfl:nc=k:=by omega
 have E2:Hid (bV u rel l B=bQ B):=by show _=_;rw[E.out,HN.out,if_neg (by rw[Z.out];simp)]
 have C:=hid (yt (HB.out.below B1.out));go_wp2_with fail;refine C.out.mono ?_;rintro e w2 ⟨rfl,B2⟩;have B2:=hid (aB B1.out B2);go_wp2_with fail;go_ret;exact⟨by rw[E2.out];rfl,B2.out⟩
theorem Uz {w:World}{u rel:Int}{l:List Cf}{B:Raw}{ca a b:Option Addr}{nc cc n c m d:Nat}(hr:rel≠1∧rel≠2∧rel≠3):
  Calls prog 14 #[.agg #[.slice ca nc cc,.int .i64 rel,.bool B.neg,.slice a n c,.slice b m d],.int .i64 u] w (bP w (bV u rel l B)):=by
 have E:Hid (bV u rel l B=1):=by show _=_;unfold bV;rw[if_pos hr]
 have b1:(rel !=1)=true:=by simp;exact hr.1
 have b2:(rel !=2)=true:=by simp;exact hr.2.1
 have b3:(rel !=3)=true:=by simp;exact hr.2.2
 clear hr;go_enter func14,ntmps14;go_wp2_with fail;go_ret;exact⟨by rw[E.out];rfl,ah _ _⟩
theorem Ot {w:World}{u rel:Int}{l:List Cf}{B:Raw}{ca a b:Option Addr}{nc cc n c m d:Nat}(hn:l.length=nc)(hc:nc≤cc)(hc2:cc≤9223372036854775807)(hr:rel=1∨rel=2∨rel=3)(h8:8<nc):
  Calls prog 14 #[.agg #[.slice ca nc cc,.int .i64 rel,.bool B.neg,.slice a n c,.slice b m d],.int .i64 u] w (bP w (bV u rel l B)):=by
 have E:Hid (bV u rel l B=3):=by show _=_;unfold bV;rw[if_neg (by omega),if_pos (by omega)]
 clear hn;have h9:(8:Int)<(nc:Int):=by omega
 rcases hr with rfl | rfl | rfl;all_goals
  go_enter func14,ntmps14
  go_wp2_with fail
  go_ret
  exact⟨by rw[E.out];rfl,ah _ _⟩
theorem yS {w:World}{u rel:Int}{l:List Cf}{B:Raw}{ca a b:Option Addr}{nc cc n c m d:Nat}(hl:kG w l ca)(hB:dG w B a n c b m d)(hn:l.length=nc)(hc:nc≤cc)(hc2:cc≤9223372036854775807):
  Calls prog 14 #[.agg #[.slice ca nc cc,.int .i64 rel,.bool B.neg,.slice a n c,.slice b m d],.int .i64 u] w (bP w (bV u rel l B)):=by
 by_cases hr:rel≠1∧rel≠2∧rel≠3
 ·exact Uz hr
 by_cases h8:8<nc
 ·exact Ot hn hc hc2 (by omega) h8
 exact JH hl hB hn hc hc2 (by omega) (by omega)
theorem cells25:prog.cellsOf 25=3:=by kernel_rfl
theorem cells27:prog.cellsOf 27=5:=by kernel_rfl
theorem cells23:prog.cellsOf 23=1:=by kernel_rfl
theorem cells22:prog.cellsOf 22=1:=by kernel_rfl
theorem H7:prog.cellsOf 72=4:=by kernel_rfl
theorem Ou:prog.cellsOf 111=1:=by kernel_rfl
theorem H8:prog.cellsOf 3=1:=by kernel_rfl
theorem UA:prog.cellsOf 4=1:=by kernel_rfl
theorem ll3 {α:Type}{l:List α}(h:l.length=3):∃a b c,l=[a,b,c]:=by
 match l,h with
 | [a,b,c],_=>exact⟨a,b,c,rfl⟩
theorem ll4 {α:Type}{l:List α}(h:l.length=4):∃a b c d,l=[a,b,c,d]:=by
 match l,h with
 | [a,b,c,d],_=>exact⟨a,b,c,d,rfl⟩
theorem ll5 {α:Type}{l:List α}(h:l.length=5):∃a b c d e,l=[a,b,c,d,e]:=by
 match l,h with
 | [a,b,c,d,e],_=>exact⟨a,b,c,d,e,rfl⟩
theorem dN {w:World}{b o:Nat}{sp:Option Nat}{i:Nat}{v:Value}(h:w.cell? ((⟨b,o,sp⟩:Addr).add i)=some v):(i=0→sp=none)∧w.cell? ⟨b,o+i,none⟩=some v:=by
 have s0:=World.cell?_spot (w:=w) (v:=v) h;by_cases hi:i=0
 ·subst hi;simp[Addr.add]at s0 h;subst s0;exact⟨fun _=>rfl,by simpa using h⟩
 refine⟨fun e=>absurd e hi,?_⟩;simp only[Addr.add]at h;simpa[hi]using h
theorem Ia {w:World}{b o:Nat}{sp:Option Nat}{i:Nat}{x y z u:Value}(h:w.cells? 0 ((⟨b,o,sp⟩:Addr).add (i*4)) 4=some [x,y,z,u]):(i=0→sp=none)∧w.cell? ⟨b,o+i*4,none⟩=some x∧w.cell? ⟨b,o+i*4+1,none⟩=some y∧w.cell? ⟨b,o+i*4+2,none⟩=some z∧w.cell? ⟨b,o+i*4+3,none⟩=some u:=by
 obtain⟨_,_,hc⟩:=World.cells?_some h;have h0:=hc 0 (by omega);have h1:=hc 1 (by omega);have h2:=hc 2 (by omega);have h3:=hc 3 (by omega);rw[Deep.add_add]at h0 h1 h2 h3;obtain⟨s,h0⟩:=dN h0;refine⟨fun e=>s (by omega),by simpa using h0,?_,?_,?_⟩
 ·simpa[Nat.add_assoc]using(dN h1).2
 ·simpa[Nat.add_assoc]using(dN h2).2
 simpa[Nat.add_assoc]using(dN h3).2
variable {H:Type} {enc:TypeId×Value→H} {W:World} {sp:Nat→Bool} {hd:Bool}
theorem vJ {fuel:Nat}{v:Value}{x:DataW H×List MemPlace}(h:DataW.trod enc prog W 0 sp hd fuel 23 [v]=some x):∃l a n c,v= .slice a n c∧bW W l a n c:=by
 rcases Deep.open_slice1 underlying23 Ou h with⟨e,_⟩ | ⟨a,len,cap,m,n,V,D,Pl,e,_,hlc,hcm,hm,_,hD⟩
 ·simp at e;exact⟨[],none,0,0,e,fun q=>absurd rfl q,rfl,Nat.le_refl _,by omega,fun x hx=>by simp at hx⟩
 simp at e;have hml:len≤m:=by rw[hm];split<;>omega
 have each:∀i,i<len→∃y:Nat,y<4294967296∧W.cell? (a.add i)=some (.int .u32 (y:Int)):=by
  intro i hi;obtain⟨hc,ht⟩:=hD i (by omega);obtain⟨z,e1,_,hw⟩:=DataW.trod_int underlying111 ht;simp at e1;have hz:0≤z∧z<4294967296:=by
   have e0:IntKind.u32.min=0:=by decide
   have e1:IntKind.u32.max=4294967295:=by decide
   simp only[Lit.wf,Bool.and_eq_true,decide_eq_true_eq,e0,e1]at hw;omega
  refine⟨z.toNat,by omega,?_⟩;rw[hc,e1,Int.toNat_of_nonneg hz.1]
 obtain⟨f,hf⟩:=Deep.choose_lt each;unfold maxLen at hcm;refine⟨(List.range len).map f,some a,len,cap,e,?_,by simp,hlc,by omega,?_⟩
 ·intro hne;have hpos:0<len:=by have:=List.length_pos_iff.2 hne;simpa using this
  obtain⟨b,o,spot⟩:=a;have hs:=(dN (hf 0 hpos).2).1 rfl;subst hs;refine⟨b,o,rfl,fun i hi=>?_⟩;have hi':i<len:=by simpa using hi
  rw[(dN (hf i hi').2).2,List.getD_eq_getElem?_getD];simp[hi']
 intro y hy;obtain⟨i,hi,rfl⟩:=List.mem_map.1 hy;exact(hf i (List.mem_range.1 hi)).1
theorem uY {fuel:Nat}{cs:List Value}{x:DataW H×List MemPlace}(h:DataW.trod enc prog W 0 sp hd fuel 25 cs=some x):
  ∃R a n c b m d,cs=[.bool R.neg,.slice a n c,.slice b m d]∧dG W R a n c b m d:=by obtain⟨y0,y1,y2,n,rfl,hl,h0,h1,h2⟩:=Deep.trod_struct3 underlying25 h;rw[cells25]at hl;obtain⟨c0,c1,c2,rfl⟩:=ll3 hl;simp only[UA,cells23]at h0 h1 h2;obtain⟨s,e0,_⟩:=DataW.trod_bool underlying4 h0;simp at e0;subst e0;obtain⟨l1,a,n1,k1,e1,L1⟩:=vJ (v:=c1) (by simpa using h1);obtain⟨l2,b,n2,k2,e2,L2⟩:=vJ (v:=c2) (by simpa using h2);subst e1 e2;exact⟨⟨s,l1,l2⟩,a,n1,k1,b,n2,k2,rfl,⟨L1,L2⟩⟩
theorem Fj {fuel:Nat}{v:Value}{x:DataW H×List MemPlace}(h:DataW.trod enc prog W 0 sp hd fuel 22 [v]=some x):∃l ca nc cc,v= .slice ca nc cc∧kG W l ca∧l.length=nc∧nc≤cc∧cc≤9223372036854775807:=by
 rcases Deep.open_slice underlying22 h with⟨e2,_⟩ | ⟨a,len,cap,m,n',D,Pl,e2,_,hlc,hcm,hm,_,hD⟩
 ·simp at e2;exact⟨[],none,0,0,e2,fun q=>absurd rfl q,rfl,Nat.le_refl _,by omega⟩
 simp at e2;have hml:len≤m:=by rw[hm];split<;>omega
 rw[H7]at hD;have each:∀i,i<len→∃q:Cf,∃a1 n1 c1 b1 m1 d1,W.cells? 0 (a.add (i*4)) 4=some [.int .i64 q.var,.bool q.gU.neg,.slice a1 n1 c1,.slice b1 m1 d1]∧dG W q.gU a1 n1 c1 b1 m1 d1:=by intro i hi;obtain⟨cs',hc,ht⟩:=hD i (by omega);obtain⟨z0,z1,k,_,kl,t0,t1⟩:=ChangeShapes.trod_struct2 underlying72 ht;rw[H7]at kl;obtain⟨d0,d1,d2,d3,rfl⟩:=ll4 kl;simp only[H8,cells25]at t0 t1;obtain⟨v0,f0,_,_⟩:=DataW.trod_int underlying3 t0;simp at f0;subst f0;obtain⟨R,a1,n1,c1,b1,m1,k1,e1,r⟩:=uY t1;simp at e1;obtain⟨rfl,rfl,rfl⟩:=e1;exact⟨⟨v0,R⟩,a1,n1,c1,b1,m1,k1,hc,r⟩
 obtain⟨q,hq⟩:=Deep.choose_lt each;unfold maxLen at hcm;refine⟨(List.range len).map q,some a,len,cap,e2,?_,by simp,hlc,by omega⟩;intro hne;have hpos:0<len:=by have:=List.length_pos_iff.2 hne;simpa using this
 obtain⟨b,o,spot⟩:=a;obtain⟨_,_,_,_,_,_,h0,_⟩:=hq 0 hpos;have hs:=(Ia h0).1 rfl;subst hs;refine⟨b,o,rfl,fun i hi=>?_⟩;have hi':i<len:=by simpa using hi
 obtain⟨a1,n1,c1,b1,m1,d1,hh,r⟩:=hq i hi';obtain⟨_,k0,k1,k2,k3⟩:=Ia hh;have e:cf ((List.range len).map q) i=q i:=by unfold cf;rw[List.getD_eq_getElem?_getD];simp[hi']
 rw[e];exact⟨a1,n1,c1,b1,m1,d1,k0,k1,k2,k3,r⟩
theorem NH {fuel:Nat}{cs:List Value}{x:DataW H×List MemPlace}(h:DataW.trod enc prog W 0 sp hd fuel 27 cs=some x):
  ∃rel l B ca nc cc a n c b m d,cs=[.slice ca nc cc,.int .i64 rel,.bool B.neg,.slice a n c,.slice b m d]∧kG W l ca∧l.length=nc∧nc≤cc∧cc≤9223372036854775807∧dG W B a n c b m d:=by obtain⟨y0,y1,y2,n,rfl,hl,h0,h1,h2⟩:=Deep.trod_struct3 underlying27 h;rw[cells27]at hl;obtain⟨c0,c1,c2,c3,c4,rfl⟩:=ll5 hl;simp only[H8,cells22,cells25]at h0 h1 h2;obtain⟨l,ca,nc,cc,e0,r1,r2,r3,r4⟩:=Fj (v:=c0) (by simpa using h0);obtain⟨rel,e1,_,_⟩:=DataW.trod_int underlying3 h1;simp at e1;obtain⟨B,a,n,c,b,m,d,e2,r⟩:=uY h2;simp at e2;obtain⟨rfl,rfl,rfl⟩:=e2;subst e0 e1;exact⟨rel,l,B,ca,nc,cc,a,n,c,b,m,d,rfl,r1,r2,r3,r4,r⟩
end Go.Proofs.YtijdglogadnbcaaGreat
