/- Problem.helper. -/
import Derived.Test.YtijdglogadnbcaaGreatY12
import Derived.OrdersHeld
import Derived.StillTail
import Derived.Deep.RegionHeld3
set_option linter.unusedVariables false
set_option linter.unusedSimpArgs false
set_option maxRecDepth 100000
set_option maxHeartbeats 40000000
namespace Go.Proofs.YtijdglogadnbcaaGreat
open Go.Proofs.Tryz
open Go.RowKit Nt Bl
def je:Option Nat→Int
 | none=> -1
 | some c=>(c:Int)
def HpL (w:World)(P:Pb)(r:Nat)(up:Bool)(v7 v16:Value)(wr:World):Prop:=
 ∃k:Nat,k≤P.n∧v16= .int .i64 (k:Int)∧v7= .int .i64 (je (P.kK r up k))∧Below w.heap.size w wr
theorem yx (P:Pb)(r k:Nat)(up:Bool):P.dir r k up= -1∨P.dir r k up=0∨P.dir r k up=1:=by
 have h3:aV (P.T r k)= -1∨aV (P.T r k)=0∨aV (P.T r k)=1:=by
  unfold aV;split
  ·exact Or.inr (Or.inl rfl)
  split
  ·exact Or.inl rfl
  exact Or.inr (Or.inr rfl)
 unfold Pb.dir
 cases up<;>simp<;>omega
theorem YZ {n0 r:Nat}{w:World}{L:Lay}{P:Pb}(h:eY n0 w L P)(hp:P.Pl)(hs:uz P 1048576)(hr:r<P.m)(hn0:0<P.n):
  Calls prog 157 #[.pointer (some ⟨L.p,0,none⟩),.int .i64 (r:Int),.bool true] w fun e w'=>e= .returned (.int .i64 (je (P.hlp r true)))∧Below w.heap.size w w':=by
 have nm:=h.nm;have cp:=h.cp;obtain⟨N,hN⟩:∃N,P.n+P.m=N:=⟨_,rfl⟩;obtain⟨m,hm⟩:∃m,P.m=m:=⟨_,rfl⟩;obtain⟨n,hn⟩:∃n,P.n=n:=⟨_,rfl⟩;rw[hm]at nm cp hr;rw[hn]at nm cp;have HN:=hid hN;have HM:=hid hm;have jo:=hid hn;have ug:=hid h;have PL:=hid hp;have SZ:=hid hs;have HD:=hid (fun(W:World) (h:eY n0 W L P)=>(show W.cell? ⟨L.p,5,none⟩=some (.slice (some ⟨L.jw,0,none⟩) n L.rY)∧W.cell? ⟨L.p,6,none⟩=some (.slice (some ⟨L.tab,0,none⟩) m L.tZ) from by have:=h.head;rw[hm,hn,(h.fr hn0).1]at this;exact⟨this.2.2.2.2.2.1,this.2.2.2.2.2.2⟩))
 obtain⟨q5,q6⟩:=HD.out w ug.out;have r0:(0:Int)≤(r:Int):=by omega
 have r1:(r:Int)<(m:Int):=by omega
 clear h hp hs hN hm hn;go_enter func157,ntmps157;go_wp2_with fail;go_loopw [7,16] (fun v7 v16 wr=>HpL w P r true v7 v16 wr) (fun _ v _=>n-(intOf v).toNat)
 case atStart=>exact⟨0,Nat.zero_le _,rfl,rfl,Below.refl _ _⟩
 obtain⟨k,hk,rfl,rfl,hB⟩:=hrel;rw[jo.out]at hk;have BR:=hid hB;have AT:=hid (ug.out.below hB);clear hB q5 q6;obtain⟨q5,q6⟩:=HD.out wr AT.out;by_cases hlt:k<n
 ·have hlt2:k<P.n:=by rw[jo.out];exact hlt
  obtain⟨fa,fr⟩:=AT.out.fr hn0;obtain⟨la,li⟩:=AT.out.li hn0 r (by rw[HM.out];exact hr);have tr:=AT.out.ta r (by rw[HM.out];exact hr);rw[la,jo.out]at tr;have pk:=fr.at_ k hlt2;obtain⟨v,hv⟩:∃v,P.free k=v:=⟨_,rfl⟩;rw[hv]at pk;have vN:v<N:=by rw[←hv,←HN.out];exact PL.out.flt k hlt2
  obtain⟨M,c0,c1,c2,rM⟩:=li.at_ k hlt2;have SG:=hid (dM rM);have NX:Hid (P.kK r true (k+1)=if P.helps r k true&&P.better k (P.kK r true k)then some k else P.kK r true k):=rfl;have HE:Hid (P.helps r k true=((decide (0<P.dir r k true)&&P.rises v)||(decide (P.dir r k true<0)&&P.falls v))):=by show _=_;rw[←hv];rfl
  have DR:Hid (P.dir r k true=aV (P.T r k)):=rfl;have D3:=yx P r k true;have BT:Hid (∀c,P.better k (some c)=decide (v<P.free c)):=by show ∀c,_;intro c;rw[←hv];rfl
  have HI:=P.dS r true k;generalize P.kK r true k=prev at NX HI;obtain⟨sg,hsg⟩:∃sg,aV (P.T r k)=sg:=⟨_,rfl⟩;rw[hsg]at SG DR;obtain⟨d,hd⟩:∃d,P.dir r k true=d:=⟨_,rfl⟩;rw[hd]at DR HE D3;have kk0:(0:Int)≤(k:Int):=by omega
  have kk1:(k:Int)<(n:Int):=by omega
  clear fr li hv rM hsg hd la fa;go_upto_region 5 with fail
  go_wp2_with fail;refine SG.out.mono ?_;rintro e w5 ⟨rfl,B5⟩;have OL:=hid (AT.out.below B5);have Y8:=hid (aB BR.out B5);clear q5 q6 tr pk c0 c1 c2 B5;obtain⟨q5,q6⟩:=HD.out w5 OL.out;have BN:Hid (k<n∧n≤64):=⟨hlt,nm.1⟩;obtain rfl:d=sg:=DR.out;go_upto_region 8 with fail
  go_cut [66] (fun x W=>x= .bool (P.helps r k true&&P.better k prev)∧Below w5.heap.size w5 W)
  case first=>
   rcases D3 with rfl | rfl | rfl
   ·--falls
    have HE2:Hid (P.helps r k true=P.falls v):=by show _=_;rw[HE.out];simp
    have C:=CJ OL.out (v:=v) (by rw[HN.out];exact vN) SZ.out;obtain⟨f,hf⟩:∃f,P.falls v=f:=⟨_,rfl⟩;rw[hf]at C HE2;have C:=hid C;clear hf
    cases f with
    | false=>
     have E:Hid ((P.helps r k true&&P.better k prev)=false):=by show _=_;rw[HE2.out];rfl
     go_wp2_with fail
     refine C.out.mono ?_
     rintro e w6 ⟨rfl,B6⟩
     have B6:=hid B6
     go_wp2_with fail
     go_meet
     case rel=>exact⟨by rw[E.out],B6.out⟩
    | true=>
     cases prev with
     | none=>
      have E:Hid ((P.helps r k true&&P.better k none)=true):=by show _=_;rw[HE2.out];rfl
      simp only[je]
      go_wp2_with fail
      refine C.out.mono ?_
      rintro e w6 ⟨rfl,B6⟩
      have B6:=hid B6
      go_wp2_with fail
      go_meet
      case rel=>exact⟨by rw[E.out],B6.out⟩
     | some c=>
      have ck:c<k:=HI.1
      have E:Hid ((P.helps r k true&&P.better k (some c))=decide (v<P.free c)):=by show _=_;rw[HE2.out,BT.out];rfl
      obtain⟨y,hy⟩:∃y,P.free c=y:=⟨_,rfl⟩
      rw[hy]at E
      have HY:=hid hy
      have cc0:(0:Int)≤(c:Int):=by omega
      have cc1:(c:Int)<(n:Int):=by omega
      clear hy HI
      simp only[je]
      go_wp2_with fail
      refine C.out.mono ?_
      rintro e w6 ⟨rfl,B6⟩
      have FM:=OL.out.below B6
      obtain⟨_,fr⟩:=FM.fr (by omega)
      have pc:=fr.at_ c (by omega)
      rw[HY.out]at pc
      clear q5 q6 fr
      obtain⟨q5,q6⟩:=HD.out w6 FM
      have B6:=hid B6
      clear FM
      go_wp2_with fail
      go_meet
      case rel=>exact⟨by rw[E.out];first | rfl | simp,B6.out⟩
   ·have E:Hid ((P.helps r k true&&P.better k prev)=false):=by show _=_;rw[HE.out];simp
    go_wp2_with fail;go_meet
    case rel=>exact⟨by rw[E.out],Below.refl _ _⟩
   --rises
   have HE2:Hid (P.helps r k true=P.rises v):=by show _=_;rw[HE.out];simp
   have C:=Cm OL.out (v:=v) (by rw[HN.out];exact vN) SZ.out;obtain⟨f,hf⟩:∃f,P.rises v=f:=⟨_,rfl⟩;rw[hf]at C HE2;have C:=hid C;clear hf
   cases f with
   | false=>
    have E:Hid ((P.helps r k true&&P.better k prev)=false):=by show _=_;rw[HE2.out];rfl
    go_wp2_with fail
    refine C.out.mono ?_
    rintro e w6 ⟨rfl,B6⟩
    have B6:=hid B6
    go_wp2_with fail
    go_meet
    case rel=>exact⟨by rw[E.out],B6.out⟩
   | true=>
    cases prev with
    | none=>
     have E:Hid ((P.helps r k true&&P.better k none)=true):=by show _=_;rw[HE2.out];rfl
     simp only[je]
     go_wp2_with fail
     refine C.out.mono ?_
     rintro e w6 ⟨rfl,B6⟩
     have B6:=hid B6
     go_wp2_with fail
     go_meet
     case rel=>exact⟨by rw[E.out],B6.out⟩
    | some c=>
     have ck:c<k:=HI.1
     have E:Hid ((P.helps r k true&&P.better k (some c))=decide (v<P.free c)):=by show _=_;rw[HE2.out,BT.out];rfl
     obtain⟨y,hy⟩:∃y,P.free c=y:=⟨_,rfl⟩
     rw[hy]at E
     have HY:=hid hy
     have cc0:(0:Int)≤(c:Int):=by omega
     have cc1:(c:Int)<(n:Int):=by omega
     clear hy HI
     simp only[je]
     go_wp2_with fail
     refine C.out.mono ?_
     rintro e w6 ⟨rfl,B6⟩
     have FM:=OL.out.below B6
     obtain⟨_,fr⟩:=FM.fr (by omega)
     have pc:=fr.at_ c (by omega)
     rw[HY.out]at pc
     clear q5 q6 fr
     obtain⟨q5,q6⟩:=HD.out w6 FM
     have B6:=hid B6
     clear FM
     go_wp2_with fail
     go_meet
     case rel=>exact⟨by rw[E.out];first | rfl | simp,B6.out⟩
  obtain⟨rfl,hB⟩:=hcut;have UR:=hid (aB Y8.out hB);clear hB q5 q6 D3
  cases hh:(P.helps r k true&&P.better k prev)with
  | true=>
   have N2:Hid (P.kK r true (k+1)=some k):=by show _=_;rw[NX.out,hh];rfl
   clear NX
   go_wp2_with fail
   go_roundw
   case rel=>exact⟨k+1,by rw[jo.out];omega,by go_num,by rw[N2.out];rfl,UR.out⟩
   case measure=>simp[intOf];omega
  | false=>
   have N2:Hid (P.kK r true (k+1)=prev):=by show _=_;rw[NX.out,hh];rfl
   clear NX
   go_wp2_with fail
   go_roundw
   case rel=>exact⟨k+1,by rw[jo.out];omega,by go_num,by rw[N2.out],UR.out⟩
   case measure=>simp[intOf];omega
 obtain rfl:n=k:=by omega
 have E:Hid (P.hlp r true=P.kK r true n):=by show _=_;unfold Pb.hlp;rw[jo.out]
 go_wp2_with fail;go_ret;exact⟨by rw[E.out];rfl,BR.out⟩
theorem OU {n0 r:Nat}{w:World}{L:Lay}{P:Pb}(h:eY n0 w L P)(hp:P.Pl)(hs:uz P 1048576)(hr:r<P.m)(hn0:0<P.n):
  Calls prog 157 #[.pointer (some ⟨L.p,0,none⟩),.int .i64 (r:Int),.bool false] w fun e w'=>e= .returned (.int .i64 (je (P.hlp r false)))∧Below w.heap.size w w':=by
 have nm:=h.nm;have cp:=h.cp;obtain⟨N,hN⟩:∃N,P.n+P.m=N:=⟨_,rfl⟩;obtain⟨m,hm⟩:∃m,P.m=m:=⟨_,rfl⟩;obtain⟨n,hn⟩:∃n,P.n=n:=⟨_,rfl⟩;rw[hm]at nm cp hr;rw[hn]at nm cp;have HN:=hid hN;have HM:=hid hm;have jo:=hid hn;have ug:=hid h;have PL:=hid hp;have SZ:=hid hs;have HD:=hid (fun(W:World) (h:eY n0 W L P)=>(show W.cell? ⟨L.p,5,none⟩=some (.slice (some ⟨L.jw,0,none⟩) n L.rY)∧W.cell? ⟨L.p,6,none⟩=some (.slice (some ⟨L.tab,0,none⟩) m L.tZ) from by have:=h.head;rw[hm,hn,(h.fr hn0).1]at this;exact⟨this.2.2.2.2.2.1,this.2.2.2.2.2.2⟩))
 obtain⟨q5,q6⟩:=HD.out w ug.out;have r0:(0:Int)≤(r:Int):=by omega
 have r1:(r:Int)<(m:Int):=by omega
 clear h hp hs hN hm hn;go_enter func157,ntmps157;go_wp2_with fail;go_loopw [7,16] (fun v7 v16 wr=>HpL w P r false v7 v16 wr) (fun _ v _=>n-(intOf v).toNat)
 case atStart=>exact⟨0,Nat.zero_le _,rfl,rfl,Below.refl _ _⟩
 obtain⟨k,hk,rfl,rfl,hB⟩:=hrel;rw[jo.out]at hk;have BR:=hid hB;have AT:=hid (ug.out.below hB);clear hB q5 q6;obtain⟨q5,q6⟩:=HD.out wr AT.out;by_cases hlt:k<n
 ·have hlt2:k<P.n:=by rw[jo.out];exact hlt
  obtain⟨fa,fr⟩:=AT.out.fr hn0;obtain⟨la,li⟩:=AT.out.li hn0 r (by rw[HM.out];exact hr);have tr:=AT.out.ta r (by rw[HM.out];exact hr);rw[la,jo.out]at tr;have pk:=fr.at_ k hlt2;obtain⟨v,hv⟩:∃v,P.free k=v:=⟨_,rfl⟩;rw[hv]at pk;have vN:v<N:=by rw[←hv,←HN.out];exact PL.out.flt k hlt2
  obtain⟨M,c0,c1,c2,rM⟩:=li.at_ k hlt2;have SG:=hid (dM rM);have NX:Hid (P.kK r false (k+1)=if P.helps r k false&&P.better k (P.kK r false k)then some k else P.kK r false k):=rfl;have HE:Hid (P.helps r k false=((decide (0<P.dir r k false)&&P.rises v)||(decide (P.dir r k false<0)&&P.falls v))):=by show _=_;rw[←hv];rfl
  have DR:Hid (P.dir r k false= -aV (P.T r k)):=rfl;have D3:=yx P r k false;have BT:Hid (∀c,P.better k (some c)=decide (v<P.free c)):=by show ∀c,_;intro c;rw[←hv];rfl
  have HI:=P.dS r false k;generalize P.kK r false k=prev at NX HI;obtain⟨sg,hsg⟩:∃sg,aV (P.T r k)=sg:=⟨_,rfl⟩;rw[hsg]at SG DR;obtain⟨d,hd⟩:∃d,P.dir r k false=d:=⟨_,rfl⟩;rw[hd]at DR HE D3;have kk0:(0:Int)≤(k:Int):=by omega
  have kk1:(k:Int)<(n:Int):=by omega
  clear fr li hv rM hsg hd la fa;go_upto_region 5 with fail
  go_wp2_with fail;refine SG.out.mono ?_;rintro e w5 ⟨rfl,B5⟩;have OL:=hid (AT.out.below B5);have Y8:=hid (aB BR.out B5);clear q5 q6 tr pk c0 c1 c2 B5;obtain⟨q5,q6⟩:=HD.out w5 OL.out;have BN:Hid (k<n∧n≤64):=⟨hlt,nm.1⟩;have wn:IntKind.i64.wrap (-sg)=d:=by rw[DR.out];exact IntWalk.i64_in _ (by have:=DR.out;omega)
  have wm: -sg=d:=DR.out.symm;clear DR;go_upto_region 8 with fail
  go_cut [66] (fun x W=>x= .bool (P.helps r k false&&P.better k prev)∧Below w5.heap.size w5 W)
  case first=>
   rcases D3 with rfl | rfl | rfl
   ·--falls
    have HE2:Hid (P.helps r k false=P.falls v):=by show _=_;rw[HE.out];simp
    have C:=CJ OL.out (v:=v) (by rw[HN.out];exact vN) SZ.out;obtain⟨f,hf⟩:∃f,P.falls v=f:=⟨_,rfl⟩;rw[hf]at C HE2;have C:=hid C;clear hf
    cases f with
    | false=>
     have E:Hid ((P.helps r k false&&P.better k prev)=false):=by show _=_;rw[HE2.out];rfl
     go_wp2_with fail
     refine C.out.mono ?_
     rintro e w6 ⟨rfl,B6⟩
     have B6:=hid B6
     go_wp2_with fail
     go_meet
     case rel=>exact⟨by rw[E.out],B6.out⟩
    | true=>
     cases prev with
     | none=>
      have E:Hid ((P.helps r k false&&P.better k none)=true):=by show _=_;rw[HE2.out];rfl
      simp only[je]
      go_wp2_with fail
      refine C.out.mono ?_
      rintro e w6 ⟨rfl,B6⟩
      have B6:=hid B6
      go_wp2_with fail
      go_meet
      case rel=>exact⟨by rw[E.out],B6.out⟩
     | some c=>
      have ck:c<k:=HI.1
      have E:Hid ((P.helps r k false&&P.better k (some c))=decide (v<P.free c)):=by show _=_;rw[HE2.out,BT.out];rfl
      obtain⟨y,hy⟩:∃y,P.free c=y:=⟨_,rfl⟩
      rw[hy]at E
      have HY:=hid hy
      have cc0:(0:Int)≤(c:Int):=by omega
      have cc1:(c:Int)<(n:Int):=by omega
      clear hy HI
      simp only[je]
      go_wp2_with fail
      refine C.out.mono ?_
      rintro e w6 ⟨rfl,B6⟩
      have FM:=OL.out.below B6
      obtain⟨_,fr⟩:=FM.fr (by omega)
      have pc:=fr.at_ c (by omega)
      rw[HY.out]at pc
      clear q5 q6 fr
      obtain⟨q5,q6⟩:=HD.out w6 FM
      have B6:=hid B6
      clear FM
      go_wp2_with fail
      go_meet
      case rel=>exact⟨by rw[E.out];first | rfl | simp,B6.out⟩
   ·have E:Hid ((P.helps r k false&&P.better k prev)=false):=by show _=_;rw[HE.out];simp
    go_wp2_with fail;go_meet
    case rel=>exact⟨by rw[E.out],Below.refl _ _⟩
   --rises
   have HE2:Hid (P.helps r k false=P.rises v):=by show _=_;rw[HE.out];simp
   have C:=Cm OL.out (v:=v) (by rw[HN.out];exact vN) SZ.out;obtain⟨f,hf⟩:∃f,P.rises v=f:=⟨_,rfl⟩;rw[hf]at C HE2;have C:=hid C;clear hf
   cases f with
   | false=>
    have E:Hid ((P.helps r k false&&P.better k prev)=false):=by show _=_;rw[HE2.out];rfl
    go_wp2_with fail
    refine C.out.mono ?_
    rintro e w6 ⟨rfl,B6⟩
    have B6:=hid B6
    go_wp2_with fail
    go_meet
    case rel=>exact⟨by rw[E.out],B6.out⟩
   | true=>
    cases prev with
    | none=>
     have E:Hid ((P.helps r k false&&P.better k none)=true):=by show _=_;rw[HE2.out];rfl
     simp only[je]
     go_wp2_with fail
     refine C.out.mono ?_
     rintro e w6 ⟨rfl,B6⟩
     have B6:=hid B6
     go_wp2_with fail
     go_meet
     case rel=>exact⟨by rw[E.out],B6.out⟩
    | some c=>
     have ck:c<k:=HI.1
     have E:Hid ((P.helps r k false&&P.better k (some c))=decide (v<P.free c)):=by show _=_;rw[HE2.out,BT.out];rfl
     obtain⟨y,hy⟩:∃y,P.free c=y:=⟨_,rfl⟩
     rw[hy]at E
     have HY:=hid hy
     have cc0:(0:Int)≤(c:Int):=by omega
     have cc1:(c:Int)<(n:Int):=by omega
     clear hy HI
     simp only[je]
     go_wp2_with fail
     refine C.out.mono ?_
     rintro e w6 ⟨rfl,B6⟩
     have FM:=OL.out.below B6
     obtain⟨_,fr⟩:=FM.fr (by omega)
     have pc:=fr.at_ c (by omega)
     rw[HY.out]at pc
     clear q5 q6 fr
     obtain⟨q5,q6⟩:=HD.out w6 FM
     have B6:=hid B6
     clear FM
     go_wp2_with fail
     go_meet
     case rel=>exact⟨by rw[E.out];first | rfl | simp,B6.out⟩
  obtain⟨rfl,hB⟩:=hcut;have UR:=hid (aB Y8.out hB);clear hB q5 q6 D3
  cases hh:(P.helps r k false&&P.better k prev)with
  | true=>
   have N2:Hid (P.kK r false (k+1)=some k):=by show _=_;rw[NX.out,hh];rfl
   clear NX
   go_wp2_with fail
   go_roundw
   case rel=>exact⟨k+1,by rw[jo.out];omega,by go_num,by rw[N2.out];rfl,UR.out⟩
   case measure=>simp[intOf];omega
  | false=>
   have N2:Hid (P.kK r false (k+1)=prev):=by show _=_;rw[NX.out,hh];rfl
   clear NX
   go_wp2_with fail
   go_roundw
   case rel=>exact⟨k+1,by rw[jo.out];omega,by go_num,by rw[N2.out],UR.out⟩
   case measure=>simp[intOf];omega
 obtain rfl:n=k:=by omega
 have E:Hid (P.hlp r false=P.kK r false n):=by show _=_;unfold Pb.hlp;rw[jo.out]
 go_wp2_with fail;go_ret;exact⟨by rw[E.out];rfl,BR.out⟩
def HzL (w:World)(v7 v16:Value)(wr:World):Prop:=v7= .int .i64 (-1)∧v16= .int .i64 0∧w=wr
theorem OX {n0 r:Nat}{w:World}{L:Lay}{P:Pb}{up:Bool}(h:eY n0 w L P)(hn0:P.n=0):
  Calls prog 157 #[.pointer (some ⟨L.p,0,none⟩),.int .i64 (r:Int),.bool up] w fun e w'=>e= .returned (.int .i64 (je (P.hlp r up)))∧Below w.heap.size w w':=by
 have cp:=h.cp;have E:Hid (P.hlp r up=none):=by show _=_;unfold Pb.hlp;rw[hn0];rfl
 have q5:w.cell? ⟨L.p,5,none⟩=some (.slice L.JL 0 L.rY):=by have:=h.head.2.2.2.2.2.1;rw[hn0]at this;exact this
 clear h hn0;go_enter func157,ntmps157;go_wp2_with fail;go_loopw [7,16] (fun v7 v16 wr=>HzL w v7 v16 wr) (fun _ _ _=>0)
 case atStart=>exact⟨rfl,rfl,rfl⟩
 obtain⟨rfl,rfl,rfl⟩:=hrel;go_wp2_with fail;go_ret;exact⟨by rw[E.out];rfl,Below.refl _ _⟩
theorem Ie {n0 r:Nat}{w:World}{L:Lay}{P:Pb}{up:Bool}(h:eY n0 w L P)(hp:P.Pl)(hs:uz P 1048576)(hr:r<P.m):
  Calls prog 157 #[.pointer (some ⟨L.p,0,none⟩),.int .i64 (r:Int),.bool up] w fun e w'=>e= .returned (.int .i64 (je (P.hlp r up)))∧Below w.heap.size w w':=by
 by_cases hn0:P.n=0
 ·exact OX h hn0
 cases up with
 | true=>exact YZ h hp hs hr (by omega)
 | false=>exact OU h hp hs hr (by omega)
end Go.Proofs.YtijdglogadnbcaaGreat
namespace Go.Proofs.YtijdglogadnbcaaGreat
open Go.Proofs.Tryz
theorem zA {α:Type}{xs:List α}{i:Nat}(h:i<xs.toArray.size):xs.toArray[i]=xs[i]'(by simpa using h):=rfl
theorem zB {α:Type}{a:α}{bs:List α}(h:0<(a::bs).length):(a::bs)[0]=a:=rfl
theorem zC {α:Type}{a:α}{bs:List α}{i:Nat}(h:i+1<(a::bs).length):(a::bs)[i+1]=bs[i]'(Nat.lt_of_succ_lt_succ h):=rfl
theorem zD {α:Type}(l:List α)(i:Nat)(a:α):l.toArray.setIfInBounds i a=(l.set i a).toArray:=List.setIfInBounds_toArray l i a
theorem zE {α:Type}(x a:α)(xs:List α):(x::xs).set 0 a=a::xs:=rfl
theorem zF {α:Type}(x:α)(xs:List α)(n:Nat)(a:α):(x::xs).set (n+1) a=x::xs.set n a:=rfl
end Go.Proofs.YtijdglogadnbcaaGreat
namespace Go.Proofs.YtijdglogadnbcaaGreat.Rg
open Go.Proofs.Tryz
open Go
variable {P:Program} {ops:Array Oper} {md:Region.Mode} {Q:Exit→Act→World→Prop} {S:World→Prop} {n:Nat}
def kN (P:Program)(md:Region.Mode)(ops:Array Oper)(Q:Exit→Act→World→Prop)(n:Nat)(S:World→Prop):Nat→Array Bool→Act→World→Prop
 | 0,listed,a,w=>Region.ready md ops listed=[]∧Q .normal a w
 | f+1,listed,a,w=>(Region.ready md ops listed=[]→Q .normal a w)∧
   ∀i∈Region.ready md ops listed,wpOp P ops Q i (fun a' w'=>(i<n→S w')∧kN P md ops Q n S f (listed.setIfInBounds i true) a' w') a w
theorem Ii:∀(f:Nat) (listed:Array Bool) (a:Act) (w:World),kN P md ops Q n S f listed a w→wpAny P md ops Q f listed a w
 | 0,_,_,_,h=>h
 | f+1,_,_,_,h=>⟨h.1,fun i hi=>wpOp_mono (fun a' w' k=>Ii f _ a' w' k.2) (h.2 i hi)⟩
def WY (md:Region.Mode)(ops:Array Oper)(n:Nat)(ex:List Nat):Bool:=
 (List.range n).all fun i=>ex.contains i||(List.range (n+1)).any fun j=>decide (i<j)&& !ex.contains j&&Region.waitsFor md ops j i
theorem late {n:Nat}{ex:List Nat}{listed:Array Bool}(hs:WY md ops n ex=true)(hc:Region.chainB md ops n=true)(hn:n<ops.size)(inv:HeadInv md ops n listed):
  ∀d i,n-i=d→i<n→ex.contains i=false→listed.getD i true=false→∀t,n≤t→t∉Region.ready md ops listed:=by
 intro d;induction d using Nat.strongRecOn with
 | _ d ih=>
  intro i hd hi hx un t ht hr
  obtain⟨_,ot,hot,hall⟩:=mem_ready.1 hr
  have tlt:t<ops.size:=(Array.getElem?_eq_some_iff.1 hot).1
  by_cases e:t=n
  ·subst e
   have h1:=List.all_eq_true.1 hs i (List.mem_range.2 hi)
   rw[hx,Bool.false_or]at h1
   obtain⟨j,hj,hj2⟩:=List.any_eq_true.1 h1
   simp only[Bool.and_eq_true,decide_eq_true_eq,Bool.not_eq_true']at hj2
   obtain⟨⟨hij,hxj⟩,hw⟩:=hj2
   obtain⟨oj,hoj,b,hb,hbi,hon⟩:=Region.waitsFor_spec hw
   have jle:j≤t:=by have:=List.mem_range.1 hj;omega
   by_cases q:j=t
   ·subst q
    have:oj=ot:=Option.some.inj (hoj.symm.trans hot)
    subst this
    have h2:=hall b hb hbi
    rw[hon,getD_both un]at h2
    simp at h2
   ·cases hl:listed.getD j false with
    | true=>
     have h2:=inv.closed j oj hoj hl b hb hbi
     rw[hon,getD_both un]at h2
     simp at h2
    | false=>exact ih (t-j) (by omega) j rfl (by omega) hxj (getD_in (by rw[inv.size];omega) hl) t (Nat.le_refl _) hr
  ·have h1:=List.all_eq_true.1 hc t (List.mem_range.2 tlt)
   simp only[Bool.or_eq_true,decide_eq_true_eq]at h1
   rcases h1 with h1 | h1
   ·omega
   ·obtain⟨o',ho',b,hb,hbi,hon⟩:=Region.waitsFor_spec h1
    have:o'=ot:=Option.some.inj (ho'.symm.trans hot)
    subst this
    have h2:=hall b hb hbi
    rw[hon,getD_both (inv.tail (t-1) (by omega) (by omega))]at h2
    simp at h2
structure Fst (P:Program)(md:Region.Mode)(ops:Array Oper)(Q:Exit→Act→World→Prop)(i:Nat)(oi:Oper)(v:Value):Prop where
 at_:ops[i]? =some oi
 sel:Region.noSelect ops=true
 pan:∀c a w,Q (.panic c) (a.put oi.dst v) w→Q (.panic c) a w
theorem JR {i:Nat}{oi:Oper}{v:Value}(F:Fst P md ops Q i oi v)(hl:i<n)(aaD:∀listed,HeadInv md ops n listed→listed.getD i true=false→∀t,n≤t→t∉Region.ready md ops listed):∀(f:Nat) (listed:Array Bool) (a:Act) (w:World),HeadInv md ops n listed→
  (∀j oj,ops[j]? =some oj→j≠i→listed.getD j true=false→(∀e∈oj.after,Region.binds md e=true→e.on≠i)→oi.apart ops oj=true)→
  i∈Region.ready md ops listed→YieldsIf P ops S oi v a→S w→kN P md ops Q n S f (listed.setIfInBounds i true) (a.put oi.dst v) w→kN P md ops Q n S (f+1) listed a w:=by
 have sel:=Region.noSelect_spec F.sel;intro f;induction f with
 | zero=>
  intro listed a w inv _ hr hy hS H
  refine⟨fun e=>absurd hr (by rw[e];simp),fun j hj=>?_⟩
  by_cases e:j=i
  ·subst e;exact hy.wpOp F.at_ hS ⟨fun _=>hS,H⟩
  ·have:=ready_mono hj e
   rw[H.1]at this
   simp at this
 | succ f ih=>
  intro listed a w inv ap hr hy hS H
  have un:=(mem_ready.1 hr).1
  refine⟨fun e=>absurd hr (by rw[e];simp),fun j hj=>?_⟩
  by_cases e:j=i
  ·subst e;exact hy.wpOp F.at_ hS ⟨fun _=>hS,H⟩
  ·have jn:j<n:=Classical.byContradiction fun q=>aaD listed inv un j (by omega) hj
   obtain⟨ju,oj,hoj,hall⟩:=mem_ready.1 hj
   have no:∀d∈oj.after,Region.binds md d=true→d.on≠i:=fun d hd hb q=>by
    have:=hall d hd hb
    rw[q,getD_both un]at this
    simp at this
   have st:=wpOp_putIf hoj (ap j oj hoj e ju no) (fun cs b=>sel i oi cs b F.at_) (fun cs b=>sel j oj cs b hoj) F.pan hy (H.2 j (ready_mono hj e))
   refine wpOp_mono (fun a' w' k=>⟨k.2.1,ih (listed.setIfInBounds j true) a' w' (inv.set hj jn) (fun k' ok hk hki hu hno=>ap k' ok hk hki ?_ hno) (ready_mono hr (Ne.symm e)) k.1 (k.2.1 jn) ?_⟩) st
   ·by_cases q:j=k'
    ·subst q;exact ju
    ·rw[getD_set_ne true q]at hu;exact hu
   ·rw[Array.setIfInBounds_comm _ _ e];exact k.2.2
def okB (ops:Array Oper)(n:Nat)(ex:List Nat):Bool:=Region.noSelect ops&&WY .any ops n ex&&Region.chainB .any ops n&&decide (n<ops.size)
def takeB (ops:Array Oper)(listed:Array Bool)(n:Nat)(ex:List Nat)(i:Nat):Bool:=Region.free .any ops listed i&&(Region.ready .any ops listed).contains i&&decide (i<n)&& !ex.contains i
theorem OY {ex:List Nat}{i:Nat}{oi:Oper}{v:Value}{f:Nat}{listed:Array Bool}{a:Act}{w:World}(hi:ops[i]? =some oi) (hk:takeB ops listed n ex i=true) (ok:okB ops n ex=true) (inv:HeadInv .any ops n listed)
  (hQ:∀c a w,Q (.panic c) (a.put oi.dst v) w→Q (.panic c) a w) (hw:Region.wanted oi (yielded ops a.tmps)=true) (hy:∀w,S w→(execOp a.eval oi).run P w= .ok (.value v) w) (hS:S w)
  (h:HeadInv .any ops n (listed.setIfInBounds i true)→kN P .any ops Q n S f (listed.setIfInBounds i true) (a.put oi.dst v) w):kN P .any ops Q n S (f+1) listed a w:=by
 simp only[okB,takeB,Bool.and_eq_true,decide_eq_true_eq,Bool.not_eq_true']at ok hk;obtain⟨⟨⟨o1,o2⟩,o3⟩,o4⟩:=ok;obtain⟨⟨⟨k1,k2⟩,k3⟩,k4⟩:=hk;have hr:i∈Region.ready .any ops listed:=by simpa using k2
 exact JR ⟨hi,o1,hQ⟩ k3 (fun l iv un=>late o2 o3 o4 iv _ i rfl k3 k4 un) f listed a w inv (Region.free_spec hi k1) hr (Or.inl ⟨hw,hy⟩) hS (h (inv.set hr k3))
theorem UW {k:Nat}{o:Oper}{f:Nat}{listed:Array Bool}{a:Act}{w:World}(hr:Region.ready .any ops listed=[k])(ho:ops[k]? =some o) (hk:k<n) (inv:HeadInv .any ops n listed)
  (hw:Region.wanted o (yielded ops a.tmps)=true)
  (h:∀K':Act→World→Prop,Shut (∀a w,S w→(S w→HeadInv .any ops n (listed.setIfInBounds k true)→kN P .any ops Q n S f (listed.setIfInBounds k true) a w)→K' a w)→Oper.wp P o a w K' Q):
  kN P .any ops Q n S (f+1) listed a w:=by
 have hm:k∈Region.ready .any ops listed:=by rw[hr];simp
 refine⟨fun e=>by rw[hr]at e;simp at e,fun i hi=>?_⟩;rw[hr]at hi;obtain rfl:i=k:=by simpa using hi
 refine wpOp_step ho fun K' hK=>?_;rw[if_pos hw];exact h K' fun a w hS hW=>hK a w ⟨fun _=>hS,hW hS (inv.set hm hk)⟩
theorem OZ {k:Nat}{o:Oper}{v:Value}{f:Nat}{listed:Array Bool}{a:Act}{w:World}(hr:Region.ready .any ops listed=[k])(ho:ops[k]? =some o) (hk:k<n) (inv:HeadInv .any ops n listed) (hS:S w)
  (hw:Region.wanted o (yielded ops a.tmps)=true) (hy:(execOp a.eval o).run P w= .ok (.value v) w)
  (h:HeadInv .any ops n (listed.setIfInBounds k true)→kN P .any ops Q n S f (listed.setIfInBounds k true) (a.put o.dst v) w):kN P .any ops Q n S (f+1) listed a w:=by
 have hm:k∈Region.ready .any ops listed:=by rw[hr];simp
 refine⟨fun e=>by rw[hr]at e;simp at e,fun i hi=>?_⟩;rw[hr]at hi;obtain rfl:i=k:=by simpa using hi
 exact YieldsIf.wpOp (S:=fun x=>x=w) ho (Or.inl ⟨hw,fun x e=>by rw[e];exact hy⟩) rfl ⟨fun _=>hS,h (inv.set hm hk)⟩
theorem Pg {k l:Nat}{o p:Oper}{v u:Value}{f:Nat}{listed:Array Bool}{a:Act}{w:World}(hr:Region.ready .any ops listed=[k,l])(ho:ops[k]? =some o) (hp:ops[l]? =some p) (hk:k<n) (hl:l<n) (inv:HeadInv .any ops n listed) (hS:S w)
  (hw:Region.wanted o (yielded ops a.tmps)=true) (hw':Region.wanted p (yielded ops a.tmps)=true) (hy:(execOp a.eval o).run P w= .ok (.value v) w) (hy':(execOp a.eval p).run P w= .ok (.value u) w)
  (h:HeadInv .any ops n (listed.setIfInBounds k true)→kN P .any ops Q n S f (listed.setIfInBounds k true) (a.put o.dst v) w)
  (h':HeadInv .any ops n (listed.setIfInBounds l true)→kN P .any ops Q n S f (listed.setIfInBounds l true) (a.put p.dst u) w):kN P .any ops Q n S (f+1) listed a w:=by
 have hm:k∈Region.ready .any ops listed:=by rw[hr];simp
 have hm':l∈Region.ready .any ops listed:=by rw[hr];simp
 refine⟨fun e=>by rw[hr]at e;simp at e,fun i hi=>?_⟩;rw[hr]at hi;simp only[List.mem_cons,List.not_mem_nil,or_false]at hi;rcases hi with rfl | rfl
 ·exact YieldsIf.wpOp (S:=fun x=>x=w) ho (Or.inl ⟨hw,fun x e=>by rw[e];exact hy⟩) rfl ⟨fun _=>hS,h (inv.set hm hk)⟩
 exact YieldsIf.wpOp (S:=fun x=>x=w) hp (Or.inl ⟨hw',fun x e=>by rw[e];exact hy'⟩) rfl ⟨fun _=>hS,h' (inv.set hm' hl)⟩
theorem UY {k l:Nat}{o p:Oper}{f:Nat}{listed:Array Bool}{a:Act}{w:World}(hr:Region.ready .any ops listed=[k,l])(ho:ops[k]? =some o) (hp:ops[l]? =some p) (hk:k<n) (hl:l<n) (inv:HeadInv .any ops n listed)
  (hw:Region.wanted o (yielded ops a.tmps)=true) (hw':Region.wanted p (yielded ops a.tmps)=true)
  (h:∀K':Act→World→Prop,Shut (∀a w,S w→(S w→HeadInv .any ops n (listed.setIfInBounds k true)→kN P .any ops Q n S f (listed.setIfInBounds k true) a w)→K' a w)→Oper.wp P o a w K' Q)
  (h':∀K':Act→World→Prop,Shut (∀a w,S w→(S w→HeadInv .any ops n (listed.setIfInBounds l true)→kN P .any ops Q n S f (listed.setIfInBounds l true) a w)→K' a w)→Oper.wp P p a w K' Q):
  kN P .any ops Q n S (f+1) listed a w:=by
 have hm:k∈Region.ready .any ops listed:=by rw[hr];simp
 have hm':l∈Region.ready .any ops listed:=by rw[hr];simp
 refine⟨fun e=>by rw[hr]at e;simp at e,fun i hi=>?_⟩;rw[hr]at hi;simp only[List.mem_cons,List.not_mem_nil,or_false]at hi;rcases hi with rfl | rfl
 ·refine wpOp_step ho fun K' hK=>?_;rw[if_pos hw];exact h K' fun a w hS hW=>hK a w ⟨fun _=>hS,hW hS (inv.set hm hk)⟩
 refine wpOp_step hp fun K' hK=>?_;rw[if_pos hw'];exact h' K' fun a w hS hW=>hK a w ⟨fun _=>hS,hW hS (inv.set hm' hl)⟩
theorem Ph {k:Nat}{o:Oper}{f:Nat}{listed:Array Bool}{a:Act}{w:World}(hr:Region.ready .any ops listed=[k])(ho:ops[k]? =some o) (hk:n≤k)
  (hw:Region.wanted o (yielded ops a.tmps)=true)
  (h:∀K':Act→World→Prop,Shut (∀a w,kN P .any ops Q n S f (listed.setIfInBounds k true) a w→K' a w)→Oper.wp P o a w K' Q):
  kN P .any ops Q n S (f+1) listed a w:=by
 refine⟨fun e=>by rw[hr]at e;simp at e,fun i hi=>?_⟩;rw[hr]at hi;obtain rfl:i=k:=by simpa using hi
 refine wpOp_step ho fun K' hK=>?_;rw[if_pos hw];exact h K' fun a w hW=>hK a w ⟨fun q=>absurd q (by omega),hW⟩
theorem vY {f:Nat}{listed:Array Bool}{a:Act}{w:World}(hr:Region.ready .any ops listed=[])(h:Q .normal a w):kN P .any ops Q n S f listed a w:=by
 cases f with
 | zero=>exact⟨hr,h⟩
 | succ f=>exact⟨fun _=>h,fun j hj=>by rw[hr]at hj;simp at hj⟩
theorem Pj {o:Oper}{f:Nat}{listed:Array Bool}{a:Act}{w:World}(hr:Region.ready .any ops listed=[n])(he:Region.ready .any ops (listed.setIfInBounds n true)=[])(ho:ops[n]? =some o)
  (hw:Region.wanted o (yielded ops a.tmps)=true) (h:Oper.wp P o a w (fun a w=>Q .normal a w) Q):kN P .any ops Q n S (f+1) listed a w:=by
 refine⟨fun e=>by rw[hr]at e;simp at e,fun i hi=>?_⟩;rw[hr]at hi;obtain rfl:i=n:=by simpa using hi
 refine wpOp_step ho fun K' hK=>?_;rw[if_pos hw];refine Oper.wp_mono (fun a w k=>hK a w ⟨fun q=>absurd q (Nat.lt_irrefl _),?_⟩) h
 cases f with
 | zero=>exact⟨he,k⟩
 | succ f=>exact⟨fun _=>k,fun j hj=>by rw[he]at hj;simp at hj⟩
theorem aH {id:Nat}{a:Act}{w:World}(n:Nat)(ex:List Nat)(S:World→Prop)(hm:P.follows .mixedOrders=true)(ok:okB ops n ex=true)(hS:S w.drew)
  (h:S w.drew→okB ops n ex=true→HeadInv .any ops n (Array.replicate ops.size false)→kN P .any ops Q n S ops.size (Array.replicate ops.size false) a w.drew):(Code.region id ops true).wp P Q a w:=by refine wp_region_any hm (Ii _ _ _ _ (h hS ok ⟨by simp,fun j oj _ hl=>?_,fun t _ ht=>getD_in (by simpa using ht) (getD_replicate_false _ _)⟩));rw[getD_replicate_false]at hl;simp at hl
theorem tk {ex:List Nat}{oi:Oper}{v:Value}{f:Nat}{listed listed':Array Bool}{a a':Act}{w:World}(i:Nat)(hi:ops[i]? =some oi) (ok:okB ops n ex=true) (inv:HeadInv .any ops n listed) (hS:S w)
  (h:HeadInv .any ops n listed'→kN P .any ops Q n S f listed' a' w)
  (hk:takeB ops listed n ex i=true:=by kernel_rfl) (hQ:∀c a w,Q (.panic c) (a.put oi.dst v) w→Q (.panic c) a w:=by exact fun _ _ _ h=>h) (hw:Region.wanted oi (yielded ops a.tmps)=true:=by rfl)
  (hy:∀w,S w→(execOp a.eval oi).run P w= .ok (.value v) w:=by(intro W hW;(try dsimp only at hW);(try simp only[zA,zB,zC]);go_simp;(try with_reducible rfl)))
  (ha:a.put oi.dst v=a':=by((try simp only[Act.put,zA,zB,zC,zD,zE,zF]);rfl))
  (hl:listed.setIfInBounds i true=listed':=by((try simp only[zA,zB,zC,zD,zE,zF]);rfl)):kN P .any ops Q n S (f+1) listed a w:=by subst ha hl;exact OY hi hk ok inv hQ hw hy hS h
theorem w1 {o:Oper}{f:Nat}{listed:Array Bool}{a:Act}{w:World}(k:Nat)(ho:ops[k]? =some o) (inv:HeadInv .any ops n listed)
  (h:∀K':Act→World→Prop,Shut (∀a w,S w→(S w→HeadInv .any ops n (listed.setIfInBounds k true)→kN P .any ops Q n S f (listed.setIfInBounds k true) a w)→K' a w)→Oper.wp P o a w K' Q)
  (hr:Region.ready .any ops listed=[k]:=by kernel_rfl) (hk:k<n:=by decide) (hw:Region.wanted o (yielded ops a.tmps)=true:=by rfl):kN P .any ops Q n S (f+1) listed a w:=
 UW hr ho hk inv hw h
theorem w2 {o p:Oper}{f:Nat}{listed:Array Bool}{a:Act}{w:World}(k l:Nat)(ho:ops[k]? =some o) (hp:ops[l]? =some p) (inv:HeadInv .any ops n listed)
  (h:∀K':Act→World→Prop,Shut (∀a w,S w→(S w→HeadInv .any ops n (listed.setIfInBounds k true)→kN P .any ops Q n S f (listed.setIfInBounds k true) a w)→K' a w)→Oper.wp P o a w K' Q)
  (h':∀K':Act→World→Prop,Shut (∀a w,S w→(S w→HeadInv .any ops n (listed.setIfInBounds l true)→kN P .any ops Q n S f (listed.setIfInBounds l true) a w)→K' a w)→Oper.wp P p a w K' Q)
  (hr:Region.ready .any ops listed=[k,l]:=by kernel_rfl) (hk:k<n:=by decide) (hl:l<n:=by decide) (hw:Region.wanted o (yielded ops a.tmps)=true:=by rfl) (hw':Region.wanted p (yielded ops a.tmps)=true:=by rfl):kN P .any ops Q n S (f+1) listed a w:=
 UY hr ho hp hk hl inv hw hw' h h'
theorem wl {o:Oper}{f:Nat}{listed:Array Bool}{a:Act}{w:World}(ho:ops[n]? =some o) (h:Oper.wp P o a w (fun a w=>Q .normal a w) Q)
  (hr:Region.ready .any ops listed=[n]:=by kernel_rfl) (he:Region.ready .any ops (listed.setIfInBounds n true)=[]:=by kernel_rfl) (hw:Region.wanted o (yielded ops a.tmps)=true:=by rfl):kN P .any ops Q n S (f+1) listed a w:=
 Pj hr he ho hw h
theorem y1 {o:Oper}{v:Value}{f:Nat}{listed listed':Array Bool}{a a':Act}{w:World}(k:Nat)(ho:ops[k]? =some o) (inv:HeadInv .any ops n listed) (hS:S w)
  (h:HeadInv .any ops n listed'→kN P .any ops Q n S f listed' a' w)
  (hr:Region.ready .any ops listed=[k]:=by kernel_rfl) (hk:k<n:=by decide) (hw:Region.wanted o (yielded ops a.tmps)=true:=by rfl)
  (hy:(execOp a.eval o).run P w= .ok (.value v) w:=by((try simp only[zA,zB,zC]);go_simp;(try with_reducible rfl)))
  (ha:a.put o.dst v=a':=by((try simp only[Act.put,zA,zB,zC,zD,zE,zF]);rfl))
  (hl:listed.setIfInBounds k true=listed':=by((try simp only[zA,zB,zC,zD,zE,zF]);rfl)):kN P .any ops Q n S (f+1) listed a w:=by subst ha hl;exact OZ hr ho hk inv hS hw hy h
theorem wt {o:Oper}{f:Nat}{listed:Array Bool}{a:Act}{w:World}(k:Nat)(ho:ops[k]? =some o)
  (h:∀K':Act→World→Prop,Shut (∀a w,kN P .any ops Q n S f (listed.setIfInBounds k true) a w→K' a w)→Oper.wp P o a w K' Q)
  (hr:Region.ready .any ops listed=[k]:=by kernel_rfl) (hk:n≤k:=by decide) (hw:Region.wanted o (yielded ops a.tmps)=true:=by rfl):kN P .any ops Q n S (f+1) listed a w:=
 Ph hr ho hk hw h
theorem st {f:Nat}{listed listed':Array Bool}{a a':Act}{w:World}{K':Act→World→Prop}(hK:Shut (∀a w,S w→(S w→HeadInv .any ops n listed→kN P .any ops Q n S f listed a w)→K' a w))(hS:S w)
  (h:S w→HeadInv .any ops n listed'→kN P .any ops Q n S f listed' a' w)
  (ha:a=a':=by((try simp only[Act.put,zA,zB,zC,zD,zE,zF]);rfl))
  (hl:listed=listed':=by((try simp only[zA,zB,zC,zD,zE,zF]);rfl)):K' a w:=by subst ha hl;exact hK.out a w hS h
end Go.Proofs.YtijdglogadnbcaaGreat.Rg
