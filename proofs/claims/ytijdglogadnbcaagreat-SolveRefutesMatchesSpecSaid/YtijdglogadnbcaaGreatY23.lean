/- Regions of lp.New. Printed by genMe.py. -/
import Derived.Test.YtijdglogadnbcaaGreatY22
set_option linter.unusedVariables false
set_option linter.unusedSimpArgs false
set_option maxRecDepth 100000
set_option maxHeartbeats 40000000
namespace Go.Proofs.YtijdglogadnbcaaGreat
open Go.Proofs.Tryz
open Go.RowKit Nt Bl
theorem n_b (w:World)(M2 S2:Nw):Below w.heap.size w (w.alloc (.cells #[.bool M2.s,.slice M2.a M2.n M2.c,.slice M2.b M2.m M2.d,.bool S2.s,.slice S2.a S2.n S2.c,.slice S2.b S2.m S2.d] 174)):=ah w _
theorem ace {w:World}{M2 S2:Nw}(D2:RA w 0 M2∧RA w 0 S2):VB (w.alloc (.cells #[.bool M2.s,.slice M2.a M2.n M2.c,.slice M2.b M2.m M2.d,.bool S2.s,.slice S2.a S2.n S2.c,.slice S2.b S2.m S2.d] 174)) w.heap.size M2 S2∧RA (w.alloc (.cells #[.bool M2.s,.slice M2.a M2.n M2.c,.slice M2.b M2.m M2.d,.bool S2.s,.slice S2.a S2.n S2.c,.slice S2.b S2.m S2.d] 174)) 0 M2∧RA (w.alloc (.cells #[.bool M2.s,.slice M2.a M2.n M2.c,.slice M2.b M2.m M2.d,.bool S2.s,.slice S2.a S2.n S2.c,.slice S2.b S2.m S2.d] 174)) 0 S2:=
 ⟨heap_alloc_new _ _,aO.below D2.1 (n_b w M2 S2),aO.below D2.2 (n_b w M2 S2)⟩
theorem acf {w w':World}{M2 S2:Nw}{k g N:Nat}{p:Prop}(LA:Laid w' g 174 (M2.cs++S2.cs) N N)(D3:p∧RA w 0 M2∧RA w 0 S2)(B:Below w.heap.size w w')(h:k≤w.heap.size)(GN:w.heap.size≤g):Laid w' g 174 (M2.cs++S2.cs) N N∧RA w' 0 M2∧RA w' 0 S2∧k≤g:=
 ⟨LA,aO.below D3.2.1 B,aO.below D3.2.2 B,Nat.le_trans h GN⟩
theorem acg {w w6:World}{gl gh gn n N:Nat}{Tt:Nat→Nat→Rat}{M S:Nw}(LH:gl≠gh)(h:w.heap.size≤w6.heap.size)(D4:Laid w6 gn 174 (M.cs++S.cs) N N∧RA w6 0 M∧RA w6 0 S∧w.heap.size≤gn)(FA:lQ w.heap.size w6 N gl)(FB:lQ w.heap.size w6 N gh):
  Pt w.heap.size (w6.alloc (.cells #[.int .i64 (n:Int),.slice (some ⟨gl,0,none⟩) N N,.slice (some ⟨gh,0,none⟩) N N,.slice (some ⟨gn,0,none⟩) N N,.slice none 0 0,.slice none 0 0,.slice none 0 0] 219)) (Z0 w6.heap.size gl gh gn n N Tt):=by have B9:=ah w6 (.cells #[.int .i64 (n:Int),.slice (some ⟨gl,0,none⟩) N N,.slice (some ⟨gh,0,none⟩) N N,.slice (some ⟨gn,0,none⟩) N N,.slice none 0 0,.slice none 0 0,.slice none 0 0] 219);exact Qj (heap_alloc_new _ _) (FA.below B9).1 (FB.below B9).1 (D4.1.later B9 D4.1.blk.lt) (aO.below D4.2.1 B9) (aO.below D4.2.2.1 B9) LH h FA.2 FB.2 D4.2.2.2
theorem ach {w w6:World}{gl gh gn n N:Nat}(BC:Below w.heap.size w w6):Below w.heap.size w (w6.alloc (.cells #[.int .i64 (n:Int),.slice (some ⟨gl,0,none⟩) N N,.slice (some ⟨gh,0,none⟩) N N,.slice (some ⟨gn,0,none⟩) N N,.slice none 0 0,.slice none 0 0,.slice none 0 0] 219)):=aB BC (ah _ _)
theorem Rg.wz {P:Program}{ops:Array Oper}{Q:Exit→Act→World→Prop}{S:World→Prop}{n f:Nat}{listed:Array Bool}{a:Act}{w:World}(R:List Nat)(hr:Region.ready .any ops listed=R)(hR:R≠[])(inv:HeadInv .any ops n listed)
  (h:∀i,i∈R→∃o,ops[i]? =some o∧i<n∧Region.wanted o (yielded ops a.tmps)=true∧∀K':Act→World→Prop,Shut (∀a w,S w→(S w→HeadInv .any ops n (listed.setIfInBounds i true)→Rg.kN P .any ops Q n S f (listed.setIfInBounds i true) a w)→K' a w)→Oper.wp P o a w K' Q):
  Rg.kN P .any ops Q n S (f+1) listed a w:=by refine⟨fun e=>absurd (hr.symm.trans e) hR,fun i hi=>?_⟩;have hm:=hi;rw[hr]at hi;obtain⟨o,ho,hk,hw,h⟩:=h i hi;refine wpOp_step ho fun K' hK=>?_;rw[if_pos hw];exact h K' fun a w hS hW=>hK a w ⟨fun _=>hS,hW hS (inv.set hm hk)⟩
theorem Rg.re {P:Program}{ops:Array Oper}{Q:Exit→Act→World→Prop}{S:World→Prop}{n f f':Nat}{l l':Array Bool}{a:Act}{w:World}(e:l=l')(e':f=f')(i:HeadInv .any ops n l)(h:HeadInv .any ops n l'→Rg.kN P .any ops Q n S f' l' a w):Rg.kN P .any ops Q n S f l a w:=by subst e e';exact h i
structure R2 (w:World)(N:Nat)(W:World)(α β:Bool)(p:Nat)(x y c1 c2 c3 c4:Value):Prop where
 le:p≤4
 be:Below w.heap.size w W
 fx:α=true→∃g,x= .slice (some ⟨g,0,none⟩) N N∧lQ w.heap.size W N g
 fy:β=true→∃g,y= .slice (some ⟨g,0,none⟩) N N∧lQ w.heap.size W N g
 ne:α=true→β=true→x≠y
 fc1:p=1→∃M:Nw,c1= .agg #[.bool M.s,.slice M.a M.n M.c,.slice M.b M.m M.d]∧RA W 0 M
 fc2:p=2→∃M S:Nw,c2= .agg #[.bool M.s,.slice M.a M.n M.c,.slice M.b M.m M.d,.bool S.s,.slice S.a S.n S.c,.slice S.b S.m S.d]∧RA W 0 M∧RA W 0 S
 fc3:p=3→∃(g:Nat) (M S:Nw),c3= .slice (some ⟨g,0,none⟩) 1 1∧VB W g M S∧RA W 0 M∧RA W 0 S
 fc4:p=4→∃(g:Nat) (M S:Nw),c4= .slice (some ⟨g,0,none⟩) N N∧Laid W g 174 (M.cs++S.cs) N N∧RA W 0 M∧RA W 0 S∧w.heap.size≤g
def l2 (α β:Bool)(p:Nat):Array Bool:=#[true,true,α,true,β,decide (1≤p),decide (2≤p),decide (3≤p),true,decide (4≤p),false,false,false]
def d2 (α β:Bool)(p:Nat):List Nat:=(if α then []else [2])++((if β then []else [4])++if p=0 then [5]else if p=1 then [6]else if p=2 then [7]else if p=3 then [9]else if α&&β then [10]else [])
def m2 (α β:Bool)(p:Nat):Nat:=(if α then 0 else 1)+(if β then 0 else 1)+(4-p)
theorem R2.below {w W W':World}{N p:Nat}{α β:Bool}{x y c1 c2 c3 c4:Value}(h:R2 w N W α β p x y c1 c2 c3 c4)(B:Below W.heap.size W W'):R2 w N W' α β p x y c1 c2 c3 c4 where
 le:=h.le
 be:=aB h.be B
 fx q:=by obtain⟨g,a,b⟩:=h.fx q;exact⟨g,a,b.below B⟩
 fy q:=by obtain⟨g,a,b⟩:=h.fy q;exact⟨g,a,b.below B⟩
 ne:=h.ne
 fc1 q:=by obtain⟨M,a,b⟩:=h.fc1 q;exact⟨M,a,aO.below b B⟩
 fc2 q:=by obtain⟨M,S,a,b,c⟩:=h.fc2 q;exact⟨M,S,a,aO.below b B,aO.below c B⟩
 fc3 q:=by obtain⟨g,M,S,a,b,c,d⟩:=h.fc3 q;exact⟨g,M,S,a,b.later B b.lt,aO.below c B,aO.below d B⟩
 fc4 q:=by obtain⟨g,M,S,a,b,c,d,e⟩:=h.fc4 q;exact⟨g,M,S,a,b.later B b.blk.lt,aO.below c B,aO.below d B,e⟩
theorem Zm {w:World}{N n:Nat}{Tt:Nat→Nat→Rat}(NB:N≤121){K:Act→World→Prop}{u0 u2 u3 u4 u5 u6 u8 u9 u10 u11 u12 u13 u14 u15 u16 u17 u18 u19 u20 u21 u22 u23 u24 u25 u26 u27 u28 u29 u30 u31 u32 u33 u34 u35 u36 u37 u38 u39 u40 u41 u42 u43 u44 u45 u46 u47 u48 u49 u50 u51 u52 u53 u54 u55 u56 u57 u58 u59 u60 u61 u62 u63 u64 u65 u66 u67 u68 u69 u70 u71 u72 u73 u74 u75 u76 u77 u78 u79 u80 u81 u82 u83 u84 u85 u86 u87 u88 u89 u90 u91 u92 u93 u94 u95 u96 u97 u98 u99 u100 u101 u102 u103 u104 u105 u106 u107 u108 u109 u110 u111 u112 u113 u114 u115 u116 u117 u118 u119 u120 u121 u122 u123 u124 u125 u126 u127 u128 u129 u130 u131 u132 u133 u134 u135 u136 u137 u138 u139 u140 u141 u142 u143 u144 u145 u146 u147 u148 u149 u150 u151 u152 u153 u154 u155 u156:Value}
  (hK:∀(p lo hi no:Nat) (x23 x24 x25 V4 x27 x28 x29 x30 x31 x32 x33 x34:Value) (W:World),Pt w.heap.size W (Z0 p lo hi no n N Tt)→Below w.heap.size w W→K ⟨#[u0,.int .i64 (n:Int),u2,u3,u4,u5,u6,.int .i64 (N:Int),.pointer (some ⟨p,0,none⟩),u9,u10,u11,u12,u13,u14,u15,u16,u17,u18,u19,u20,u21,u22,x23,x24,x25,V4,x27,x28,x29,x30,x31,x32,x33,x34,u35,u36,u37,u38,u39,u40,u41,u42,u43,u44,u45,u46,u47,u48,u49,u50,u51,u52,u53,u54,u55,u56,u57,u58,u59,u60,u61,u62,u63,u64,u65,u66,u67,u68,u69,u70,u71,u72,u73,u74,u75,u76,u77,u78,u79,u80,u81,u82,u83,u84,u85,u86,u87,u88,u89,u90,u91,u92,u93,u94,u95,u96,u97,u98,u99,u100,u101,u102,u103,u104,u105,u106,u107,u108,u109,u110,u111,u112,u113,u114,u115,u116,u117,u118,u119,u120,u121,u122,u123,u124,u125,u126,u127,u128,u129,u130,u131,u132,u133,u134,u135,u136,u137,u138,u139,u140,u141,u142,u143,u144,u145,u146,u147,u148,u149,u150,u151,u152,u153,u154,u155,u156],[]⟩ W):
  (iI f114 2).wp prog (Only K) ⟨#[u0,.int .i64 (n:Int),u2,u3,u4,u5,u6,.int .i64 (N:Int),u8,u9,u10,u11,u12,u13,u14,u15,u16,u17,u18,u19,u20,u21,u22,u23,u24,u25,u26,u27,u28,u29,u30,u31,u32,u33,u34,u35,u36,u37,u38,u39,u40,u41,u42,u43,u44,u45,u46,u47,u48,u49,u50,u51,u52,u53,u54,u55,u56,u57,u58,u59,u60,u61,u62,u63,u64,u65,u66,u67,u68,u69,u70,u71,u72,u73,u74,u75,u76,u77,u78,u79,u80,u81,u82,u83,u84,u85,u86,u87,u88,u89,u90,u91,u92,u93,u94,u95,u96,u97,u98,u99,u100,u101,u102,u103,u104,u105,u106,u107,u108,u109,u110,u111,u112,u113,u114,u115,u116,u117,u118,u119,u120,u121,u122,u123,u124,u125,u126,u127,u128,u129,u130,u131,u132,u133,u134,u135,u136,u137,u138,u139,u140,u141,u142,u143,u144,u145,u146,u147,u148,u149,u150,u151,u152,u153,u154,u155,u156],[]⟩ w:=by
 obtain⟨i2,hi2,aaO,aaP,aaQ⟩:=info_parts Vd;rw[show iI f114 2=_ from by(simp only[iI,f114,iU,Nat.reduceEqDiff,if_true,if_false,Option.getD];rfl)];have dO:=hK;clear hK;refine Rg.aH 11 [] (fun W=>True) (by kernel_rfl) (by kernel_rfl) ?_ (fun hS ok inv=>?_)
 ·exact trivial
 refine Rg.tk 0 rfl ok inv hS fun inv=>?_;refine Rg.tk 1 rfl ok inv hS fun inv=>?_;refine Rg.tk 3 rfl ok inv hS fun inv=>?_;refine Rg.tk 8 rfl ok inv hS fun inv=>?_;obtain⟨α,hα⟩:∃α,α=false:=⟨_,rfl⟩;obtain⟨β,hβ⟩:∃β,β=false:=⟨_,rfl⟩;obtain⟨p,hp⟩:∃p,p=0:=⟨_,rfl⟩;obtain⟨k,hk⟩:∃k,k=m2 α β p:=⟨_,rfl⟩;have I:R2 w N w.drew α β p u25 u27 u28 u29 u30 u32:=by subst hα hβ hp;exact⟨Nat.zero_le _,(Below.refl _ _).drew,fun q=>by simp at q,fun q=>by simp at q,fun q=>by simp at q,fun q=>by omega,fun q=>by omega,fun q=>by omega,fun q=>by omega⟩
 refine Rg.re (l':=l2 α β p) (f':=3+k) (by subst hα hβ hp;rfl) (by rw[hk,hα,hβ,hp];rfl) inv fun inv=>?_;clear hα hβ hp hS;generalize w.drew=W at*;induction k generalizing α β p u25 u27 u28 u29 u30 u32 W with
 | zero=>
  have:α=true∧β=true∧p=4:=by
   have:=I.le
   unfold m2 at hk
   cases α<;>cases β<;>simp at hk<;>first | omega | exact⟨rfl,rfl,by omega⟩
  obtain⟨rfl,rfl,rfl⟩:=this
  obtain⟨gl_,rfl,FA⟩:=I.fx rfl
  obtain⟨gh_,rfl,FB⟩:=I.fy rfl
  obtain⟨gn_,M,S,rfl,D4⟩:=I.fc4 rfl
  have LH:gl_≠gh_:=fun e=>I.ne rfl rfl (by rw[e])
  have BC:=I.be
  clear I hk
  refine Rg.y1 10 rfl inv trivial fun inv=>?_
  refine Rg.wt 11 rfl fun K' hK=>?_
  (try simp only[zA,zB,zC])
  go_simp
  refine hK.out _ _ ?_
  clear hK K'
  try simp only[Act.put,zA,zB,zC,zD,zE,zF]
  refine Rg.wt 12 rfl fun K' hK=>?_
  (try simp only[zA,zB,zC])
  go_simp
  refine hK.out _ _ ?_
  clear hK K'
  try simp only[Act.put,zA,zB,zC,zD,zE,zF]
  refine Rg.vY (by kernel_rfl) ?_
  exact dO _ gl_ gh_ gn_ _ _ _ _ _ _ _ _ _ _ _ _ _ (acg LH BC.size D4 FA FB) (ach BC)
 | succ k ih=>
  have hp:=I.le
  refine Rg.wz (d2 α β p) ?_ ?_ inv fun i hi=>?_
  ·cases α<;>cases β<;>(rcases p with _ | _ | _ | _ | _ | p)<;>first | kernel_rfl | omega
  ·unfold m2 at hk
   unfold d2
   cases α<;>cases β<;>(rcases p with _ | _ | _ | _ | _ | p)<;>simp at hk⊢ <;>omega
  have BC:=I.be
  rcases List.mem_append.1 hi with hi | hi
  ·cases α with
   | true=>simp at hi
   | false=>
    obtain rfl:i=2:=by simpa using hi
    refine⟨_,rfl,by decide,rfl,fun K' hK=>?_⟩
    (try simp only[zA,zB,zC])
    refine qN _ _ 213 rfl w.heap.size 222 i2 _ 7 underlying213 hi2 aaO aaP .i64 .i64 _ _ N (by rfl) (by rfl) rfl rfl (by rw[aaQ];omega) (by unfold maxLen;omega) BC.size ?_
    intro w1 ho hg
    have B:=below_grown hg
    obtain⟨g,e⟩:∃g,W.heap.size=g:=⟨_,rfl⟩
    rw[e]at ho
    have FA:lQ w.heap.size w1 N g:=Dk ho
    have I':=I.below B
    have J:R2 w N w1 true β p (.slice (some ⟨g,0,none⟩) N N) u27 u28 u29 u30 u32:=⟨hp,I'.be,fun _=>⟨g,rfl,FA⟩,I'.fy,fun _ q z=>by
     obtain⟨h,z1,z2⟩:=I.fy q
     rw[z1]at z
     injection z with z;injection z with z;injection z with z
     have:=z2.1.blk.lt;omega,I'.fc1,I'.fc2,I'.fc3,I'.fc4⟩
    rw[e]
    clear ho hg
    refine Rg.st hK trivial fun hS inv=>?_
    exact ih true β p (by unfold m2 at hk⊢;simp at hk⊢;omega) inv _ J
  rcases List.mem_append.1 hi with hi | hi
  ·cases β with
   | true=>simp at hi
   | false=>
    obtain rfl:i=4:=by simpa using hi
    refine⟨_,rfl,by decide,rfl,fun K' hK=>?_⟩
    (try simp only[zA,zB,zC])
    refine qN _ _ 213 rfl w.heap.size 222 i2 _ 7 underlying213 hi2 aaO aaP .i64 .i64 _ _ N (by rfl) (by rfl) rfl rfl (by rw[aaQ];omega) (by unfold maxLen;omega) BC.size ?_
    intro w1 ho hg
    have B:=below_grown hg
    obtain⟨g,e⟩:∃g,W.heap.size=g:=⟨_,rfl⟩
    rw[e]at ho
    have FA:lQ w.heap.size w1 N g:=Dk ho
    have I':=I.below B
    have J:R2 w N w1 α true p u25 (.slice (some ⟨g,0,none⟩) N N) u28 u29 u30 u32:=⟨hp,I'.be,I'.fx,fun _=>⟨g,rfl,FA⟩,fun q _ z=>by
     obtain⟨h,z1,z2⟩:=I.fx q
     rw[z1]at z
     injection z with z;injection z with z;injection z with z
     have:=z2.1.blk.lt;omega,I'.fc1,I'.fc2,I'.fc3,I'.fc4⟩
    rw[e]
    clear ho hg
    refine Rg.st hK trivial fun hS inv=>?_
    exact ih α true p (by unfold m2 at hk⊢;simp at hk⊢;omega) inv _ J
  rcases p with _ | _ | _ | _ | p
  ·obtain rfl:i=5:=by simpa using hi
   refine⟨_,rfl,by decide,rfl,fun K' hK=>?_⟩
   (try simp only[zA,zB,zC])
   go_simp
   go_at_call 72
   refine(bI 0 (by omega) (by omega) _).mono ?_
   rintro e w1 ⟨s1,a1,n1,c1,b1,m1,d1,rfl,D1,B⟩
   have I':=I.below B
   have J:R2 w N w1 α β 1 u25 u27 (.agg #[.bool s1,.slice a1 n1 c1,.slice b1 m1 d1]) u29 u30 u32:=⟨by omega,I'.be,I'.fx,I'.fy,I.ne,fun _=>⟨⟨s1,a1,n1,c1,b1,m1,d1⟩,rfl,D1⟩,fun q=>by omega,fun q=>by omega,fun q=>by omega⟩
   refine Rg.st hK trivial fun hS inv=>?_
   exact ih α β 1 (by unfold m2 at hk⊢;simp at hk⊢;omega) inv _ J
  ·obtain rfl:i=6:=by simpa using hi
   obtain⟨M,rfl,D1⟩:=I.fc1 rfl
   refine⟨_,rfl,by decide,rfl,fun K' hK=>?_⟩
   (try simp only[zA,zB,zC])
   go_simp
   go_at_call 154
   refine(vV (M:=M) D1).mono ?_
   rintro e w1 ⟨M2,S2,rfl,D21,D22,B⟩
   have I':=I.below B
   have J:R2 w N w1 α β 2 u25 u27 (.agg #[.bool M.s,.slice M.a M.n M.c,.slice M.b M.m M.d]) (.agg #[.bool M2.s,.slice M2.a M2.n M2.c,.slice M2.b M2.m M2.d,.bool S2.s,.slice S2.a S2.n S2.c,.slice S2.b S2.m S2.d]) u30 u32:=⟨by omega,I'.be,I'.fx,I'.fy,I.ne,fun q=>by omega,fun _=>⟨M2,S2,rfl,D21,D22⟩,fun q=>by omega,fun q=>by omega⟩
   refine Rg.st hK trivial fun hS inv=>?_
   exact ih α β 2 (by unfold m2 at hk⊢;simp at hk⊢;omega) inv _ J
  ·obtain rfl:i=7:=by simpa using hi
   obtain⟨M2,S2,rfl,D2⟩:=I.fc2 rfl
   refine⟨_,rfl,by decide,rfl,fun K' hK=>?_⟩
   (try simp only[zA,zB,zC])
   go_simp
   have B:=n_b W M2 S2
   have D3:=ace D2
   have I':=I.below B
   have J:R2 w N (W.alloc (.cells #[.bool M2.s,.slice M2.a M2.n M2.c,.slice M2.b M2.m M2.d,.bool S2.s,.slice S2.a S2.n S2.c,.slice S2.b S2.m S2.d] 174)) α β 3 u25 u27 u28 (.agg #[.bool M2.s,.slice M2.a M2.n M2.c,.slice M2.b M2.m M2.d,.bool S2.s,.slice S2.a S2.n S2.c,.slice S2.b S2.m S2.d]) (.slice (some ⟨W.heap.size,0,none⟩) 1 1) u32:=⟨by omega,I'.be,I'.fx,I'.fy,I.ne,fun q=>by omega,fun q=>by omega,fun _=>⟨_,M2,S2,rfl,D3⟩,fun q=>by omega⟩
   refine Rg.st hK trivial fun hS inv=>?_
   exact ih α β 3 (by unfold m2 at hk⊢;simp at hk⊢;omega) inv _ J
  ·obtain rfl:i=9:=by simpa using hi
   obtain⟨g,M,S,rfl,D3⟩:=I.fc3 rfl
   refine⟨_,rfl,by decide,rfl,fun K' hK=>?_⟩
   (try simp only[zA,zB,zC])
   go_simp
   go_at_call 153
   refine(Ql D3.1 (by omega)).mono ?_
   rintro e w1 ⟨gn_,rfl,LA,GN,B⟩
   have D4:=acf LA D3 B BC.size GN
   have I':=I.below B
   have J:R2 w N w1 α β 4 u25 u27 u28 u29 (.slice (some ⟨g,0,none⟩) 1 1) (.slice (some ⟨gn_,0,none⟩) N N):=⟨by omega,I'.be,I'.fx,I'.fy,I.ne,fun q=>by omega,fun q=>by omega,fun q=>by omega,fun _=>⟨gn_,M,S,rfl,D4⟩⟩
   refine Rg.st hK trivial fun hS inv=>?_
   exact ih α β 4 (by unfold m2 at hk⊢;simp at hk⊢;omega) inv _ J
  ·obtain rfl:p=0:=by omega
   cases α<;>cases β<;>first | (simp at hi;done) | (unfold m2 at hk;simp at hk)
end Go.Proofs.YtijdglogadnbcaaGreat
