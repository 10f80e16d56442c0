/- For all rows and multipliers, Refutes returns what is specified: 'Rows.SolveRefutesMatchesSpecSaid'. No condition. -/
import Derived.Test.YtijdglogadnbcaaGreatY48
import Derived.ProofKit
import Derived.OpenShut
import Derived.JoinedCond
import Derived.ChangeOld
import Derived.Below
set_option linter.unusedVariables false
set_option linter.unusedSimpArgs false
set_option maxRecDepth 100000
set_option maxHeartbeats 40000000
namespace Go.Proofs.YtijdglogadnbcaaGreat
open Go.Proofs.Tryz
open Go.RowKit Nt Bl
theorem uZ {u:Int}{l:List Rw}:∀{n:Nat},dX u l n=0→∀i,i<n→bV u (aX l i).rel (aX l i).l (aX l i).B=0
  | 0,_,_,h=>absurd h (Nat.not_lt_zero _)
  | n+1,h,i,hi=>by
    change(if dX u l n≠0 then _ else _)=_ at h;by_cases e:dX u l n=0
    · rw[if_neg (by rw[e];simp)]at h
      by_cases c:i=n
      · subst c;exact h
      · exact uZ e i (by omega)
    · rw[if_pos e]at h;exact absurd h e
theorem ED {u:Int}{l:List Rw}(h:eP u l=0):0≤u∧u≤24∧l.length≤40∧∀i,i<l.length→bV u (aX l i).rel (aX l i).l (aX l i).B=0:=by
  unfold eP at h;split at h
  · omega
  · split at h
    · omega
    · exact⟨by omega,by omega,by omega,uZ h⟩
theorem xY {u:Int}{rows:List Rw}{l:List Raw}(h:jP u rows l=0):eP u rows=0∧l.length=rows.length∧kD l l.length=0:=by
  unfold jP at h;split at h
  · rename_i q;exact absurd h q
  · split at h
    · omega
    · exact⟨by omega,by omega,h⟩
theorem law11_any {w:World}{rows:List Rw}{l:List Raw}{ra ca:Option Addr}{k cc nc c2:Nat}{u:Int}(h:lT w rows ra)(hk:rows.length=k)(hc:k≤cc)(hc2:cc≤9223372036854775807)(hl:Ew w l ca)(hln:l.length=nc)(hlc:nc≤c2)(TY:c2≤9223372036854775807):
    Calls prog 11 #[.slice ra k cc,.int .i64 u,.slice ca nc c2] w fun e w'=>e= .returned (.bool true)∧Below w.heap.size w w':=by
  obtain⟨V,hV⟩:∃V:Bool,V=true↔TM k u.toNat (fun i=>Gx u.toNat (aX rows i)) (fun i=>bF (raw l i)):=by
    by_cases c:TM k u.toNat (fun i=>Gx u.toNat (aX rows i)) (fun i=>bF (raw l i))
    · exact⟨true,by simp[c]⟩
    · exact⟨false,by simp[c]⟩
  have HU:eP u rows=0→0≤u∧u≤24∧k≤40∧∀i,i<k→bV u (aX rows i).rel (aX rows i).l (aX rows i).B=0:=fun e=>by rw[←hk];exact ED e
  have C43:=hid (MK (V:=V) h hk hc hc2 hl hln hlc TY (fun _=>hV) HU);have HV:jP u rows l=0→∀i,i<rows.length→(∀j,j<(aX rows i).l.length→0≤(cf (aX rows i).l j).var∧aP (cf (aX rows i).l j).gU=0)∧aP (aX rows i).B=0:=fun e i hi=>by obtain⟨_,_,_,hr⟩:=HU (xY e).1;obtain⟨_,_,h0,hb⟩:=kS (hr i (by omega));obtain⟨_,_,_,_,_,_,q5,_⟩:=h.row hi;refine⟨fun j hj=>?_,(mG q5.bd.num.lm q5.bd.den.lm hb).1⟩;obtain⟨a,_,_,b,_⟩:=gJ (gK h0 j hj);exact⟨a,b⟩
  have CR:∀w1:World,Below w.heap.size w w1→jP u rows l=0→∀(W:World) (k1 k2:Nat) (v1 v2:Value),KO W k1 u.toNat v1 rows→nI W k2 v2 (l.map bF)→Calls prog 96 #[v1,.int .i64 u,v2] W fun e w'=>e= .returned (.bool V)∧Below W.heap.size W w':=fun w1 _ e W k1 k2 v1 v2 hL hR=>by
    obtain⟨z1,z2,z3⟩:=xY e;obtain⟨u0,u24,k40,hr⟩:=HU z1;have by0:=uV z3;have a:=hL.lsa (F:=All) (fun _ _=>trivial);have b:=(hR.ro (F:=All) (fun _ _=>trivial)).rsa;rw[List.length_map,hln,show nc=k from by omega]at b;rw[hk]at a;have c:=yO (V:=V) (q:=fun i=>(l.map bF).getD i 0) a b k40 (by omega) (fun i hi=>by
      obtain⟨_,_,_,_,_,_,q5,_⟩:=h.row (i:=i) (by omega);have g:=Ey q5 (n:=u.toNat) (by rw[show((u.toNat:Nat):Int)=u from by omega];exact hr i hi);refine⟨?_,g.s2,g.s3⟩;have e:(l.map bF).getD i 0=bF (raw l i):=by unfold raw;rw[List.getD_eq_getElem?_getD,List.getD_eq_getElem?_getD,List.getElem?_map,List.getElem?_eq_getElem (by omega)];rfl
      show Sz ((l.map bF).getD i 0) 95;rw[e];exact MJ (by0 i (by omega))) (by
      rw[hV];have e:∀i,i<k→(l.map bF).getD i 0=bF (raw l i):=fun i hi=>by unfold raw;rw[List.getD_eq_getElem?_getD,List.getD_eq_getElem?_getD,List.getElem?_map,List.getElem?_eq_getElem (by omega)];rfl
      have s1:∀f:Nat→Rat,sm k (fun j=>(l.map bF).getD j 0*f j)=sm k (fun j=>bF (raw l j)*f j):=fun f=>dw fun j hj=>by rw[e j hj]
      constructor
      · rintro⟨a,b,c⟩
        refine⟨fun i hi hq=>a i hi (by rw[←e i hi];exact hq),fun v hv=>by rw[s1];exact b v hv,?_⟩
        rw[s1]
        rcases c with c | ⟨c,i,hi,c1,c2⟩
        · exact Or.inl c
        · exact Or.inr ⟨c,i,hi,c1,by show 0<(l.map bF).getD i 0;rw[e i hi];exact c2⟩
      · rintro⟨a,b,c⟩
        refine⟨fun i hi hq=>a i hi (by show(l.map bF).getD i 0<0;rw[e i hi];exact hq),fun v hv=>by have:=b v hv;rw[s1]at this;exact this,?_⟩
        rw[s1]at c
        rcases c with c | ⟨c,i,hi,c1,c2⟩
        · exact Or.inl c
        · exact Or.inr ⟨c,i,hi,c1,by rw[←e i hi];exact c2⟩)
    rwa[show((u.toNat:Nat):Int)=u from by omega]at c
  have C44:=hid (fun(w1:World) (hb:Below w.heap.size w w1)=>NK (v:=V) (h.below hb) hk hc hc2 (hl.below hb) hln hlc TY HV (fun e=>⟨(HU e).1,(HU e).2.1,(HU e).2.2.1⟩) (CR w1 hb));obtain⟨z,hz⟩:∃z,jP u rows l=z:=⟨_,rfl⟩;rw[hz]at C43 C44;unfold kE at C43 C44;obtain⟨y,hy⟩:∃y,(if z=0 then V else false)=y:=⟨_,rfl⟩;rw[hy]at C43 C44;clear h hk hl hln hV HU HV CR hz hy;go_enter func11,ntmps11;go_wp2_with (first
    | (go_at_call 43;refine C43.out.mono ?_;rintro e w2 ⟨rfl,hB2⟩;have B2:=hid hB2;have aas:=hid (C44.out w2 hB2);clear hB2 C43)
    | (go_at_call 44;refine aas.out.mono ?_;rintro e w3 ⟨rfl,hB3⟩;have B3:=hid (aB B2.out hB3);clear hB3 aas)
    | (go_at_call 16;refine(EF _).mono ?_;rintro e w4 ⟨rfl,hB4⟩;have B4:=hid (aB B3.out hB4);clear hB4))
  go_ret;exact⟨rfl,B4.out⟩
end Go.Proofs.YtijdglogadnbcaaGreat
namespace Go.Proofs.YtijdglogadnbcaaGreat.lawRefutes
open Go.Proofs.Tryz
open Go.ChangeShapes Go.WideShapes Go.ChangeAt Go.RowKit Go.Proofs.YtijdglogadnbcaaGreat
theorem own:ownKnob prog.godebug=none:=by kernel_rfl
theorem laidOut:laidOutB prog=true:=by kernel_rfl
theorem contract (H:Type)(enc:TypeId×Value→H)(W:World)(base:Nat)(args:Array Value)(ds gs:List (DataW H))(before:List MemPlace)
  (hval:∀(j:Nat) t v,f11.params[j]? =some t→args[j]? =some v→Value.okWide prog W .any base t v)
  (hW:DataW.Whole enc prog f11.params.toList Rows.solveRefutesMatchesSpecSpec.vars false W args.toList ds gs before):
  Calls prog 11 args W fun e W'=>∃v,e= .returned v∧Rows.solveRefutesMatchesSpecSpec.post enc prog f11 false true false false W args v W':=by
 have hW':=hW;obtain⟨p,q,hA0,hV,rfl,hfz,hnd⟩:=hW;have hA:DataW.TrodAll enc prog W 0 (fun _=>true) true f11.params.toList args.toList ds p:=hA0;rw[params11]at hA hval;obtain⟨v0,vs0,d0,ds0,p0,q0,hargs,rfl,rfl,h0,r0⟩:=trodAll_cons hA;obtain⟨v1,vs1,d1,ds1,p1,q1,rfl,rfl,rfl,h1,r1⟩:=trodAll_cons r0;obtain⟨v2,vs2,d2,ds2,p2,q2,rfl,rfl,rfl,h2,r2⟩:=trodAll_cons r1;obtain⟨rfl,rfl,rfl⟩:=trodAll_nil r2;obtain rfl:args=#[v0,v1,v2]:=by cases args;simp_all
 obtain⟨rfl,rfl⟩:=trodVars_none hV;have k0:=h0;have k1:=h1;have k2:=h2;have lt0:∀x∈p0,x.block<W.heap.size:=by obtain⟨m,hm⟩:=k0;exact DataW.trod_lt m _ _ _ hm
 have lt1:∀x∈p1,x.block<W.heap.size:=by obtain⟨m,hm⟩:=k1;exact DataW.trod_lt m _ _ _ hm
 have lt2:∀x∈p2,x.block<W.heap.size:=by obtain⟨m,hm⟩:=k2;exact DataW.trod_lt m _ _ _ hm
 obtain⟨a0,n0,c0,rfl⟩:=okWide_slice underlying34 (hval 0 34 v0 rfl rfl);obtain⟨u,rfl,_⟩:=okWide_int underlying3 (hval 1 3 v1 rfl rfl);obtain⟨a2,n2,c2',rfl⟩:=okWide_slice underlying83 (hval 2 83 v2 rfl rfl);obtain⟨m0,hm0⟩:=h0;obtain⟨m2,hm2⟩:=h2;obtain⟨rows,ra,k,cc,e0,z1,z2,z3,z4,_⟩:=Jy (v:= .slice a0 n0 c0) (by simpa[Value.cells]using hm0);obtain⟨l,ca,nc,c2,e2,y1,y2,y3,y4⟩:=Jz (v:= .slice a2 n2 c2') (by simpa[Value.cells]using hm2);injection e0 with e01 e02 e03;subst e01 e02 e03
 injection e2 with e21 e22 e23;subst e21 e22 e23
 clear hA0;refine(law11_any z1 z2 z3 z4 y1 y2 y3 y4).mono fun e W' ⟨he,bel⟩=>?_;subst he;exact⟨_,rfl,_,_,_,[],_,[],hW',trodAll_mk1 (shut_bool underlying4 _),(trodAll_cons_mk (Below.trod laidOut (by kernel_rfl) (of_decide_eq_true (by kernel_rfl)) k0 bel lt0) (trodAll_cons_mk (Below.trod laidOut (by kernel_rfl) (of_decide_eq_true (by kernel_rfl)) k1 bel lt1) (trodAll_cons_mk (Below.trod laidOut (by kernel_rfl) (of_decide_eq_true (by kernel_rfl)) k2 bel lt2) trodAll_mk0))),rfl,bel.frame _,fun h=>by cases h⟩
theorem lifted (os:Os)(started:os.Started)(H:Type)(enc:TypeId×Value→H):
  ReturnsInHanded {} Tryz.checked os 11 .any (Rows.solveRefutesMatchesSpecSpec.pre6 enc prog f11 Rows.solveRefutesMatchesSpecRow.domain false) (Rows.solveRefutesMatchesSpecSpec.post enc prog f11 false true false false):=by
 refine returnsInHanded_of_change (C:=Tryz.checked) own started (by kernel_rfl) func11
  (ChangeSpec.witness6 (enc:=enc) (C:=Tryz.checked) false ⟨#[],#[.slice none 0 0,.int .i64 0,.slice none 0 0],[]⟩ 8 (by kernel_rfl) (by kernel_rfl) (by kernel_rfl) (by kernel_rfl)) ?_
 intro W base args ds gs before hval hW _ _;exact contract H enc W base args ds gs before hval hW
theorem both {a b:Bool}(h:a=true)(k:b=true):(a&&b)=true:=by rw[h,k];rfl
theorem closed:joinedFacts prog 11 f11 Rows.solveRefutesMatchesSpecSpec Rows.solveRefutesMatchesSpecRow=true:=by
 unfold joinedFacts;repeat' (with_reducible refine both ?_ ?_)
 all_goals(as_aux_lemma=>kernel_rfl)
theorem proved:Rows.SolveRefutesMatchesSpecSaid:=
 OpenClaim.holds_of_wide 11 f11 rfl rfl rfl rfl rfl rfl rfl ⟨rfl,rfl,rfl,rfl,rfl⟩ rfl rfl rfl rfl rfl (by kernel_rfl) func11 closed
  (of_decide_eq_true (by kernel_rfl)) (by unfold Func.isWrapper;first | (rw[if_pos (by decide+kernel)];kernel_rfl) | (rw[if_neg (by decide+kernel)];exact⟨rfl,rfl⟩))
  (fun os started H enc _=>lifted os started H enc)
#print axioms proved
end Go.Proofs.YtijdglogadnbcaaGreat.lawRefutes
