/- Single ifs of Problem.raise. Printed by genQe.py. -/
import Derived.Test.YtijdglogadnbcaaGreatY27
set_option linter.unusedVariables false
set_option linter.unusedSimpArgs false
set_option maxRecDepth 100000
set_option maxHeartbeats 40000000
namespace Go.Proofs.YtijdglogadnbcaaGreat
open Go.Proofs.Tryz
open Go.RowKit Nt Bl
theorem DJ {g:Nat}{w w1:World}(h:Below g w w1)(x y z:Value):Below g w (((w1.setCell ⟨g,0,none⟩ x).setCell ⟨g,1,none⟩ y).setCell ⟨g,2,none⟩ z):=
 ((h.setCell (Nat.le_refl _) _).setCell (Nat.le_refl _) _).setCell (Nat.le_refl _) _
theorem tC {g:Nat}{w w1:World}(h:Below g w w1)(a b c d e f:Value):Below g w ((((((w1.setCell ⟨g,0,none⟩ a).setCell ⟨g,1,none⟩ b).setCell ⟨g,2,none⟩ c).setCell ⟨g,3,none⟩ d).setCell ⟨g,4,none⟩ e).setCell ⟨g,5,none⟩ f):=
 (((((h.setCell (Nat.le_refl _) _).setCell (Nat.le_refl _) _).setCell (Nat.le_refl _) _).setCell (Nat.le_refl _) _).setCell (Nat.le_refl _) _).setCell (Nat.le_refl _) _
theorem Zu {W:World}{p low g12 N v:Nat}{rs his DI:Bool}{HM HS LM LS:Nw}{eh el:Option V}
  (q1:W.cell? ⟨p,1,none⟩=some (.slice (some ⟨low,0,none⟩) N N))(l0:W.cell? ⟨low,v*7,none⟩=some (.bool DI))(l1:W.cell? ⟨low,v*7+1,none⟩=some (.bool LM.s))(l2:W.cell? ⟨low,v*7+2,none⟩=some (.slice LM.a LM.n LM.c))(l3:W.cell? ⟨low,v*7+3,none⟩=some (.slice LM.b LM.m LM.d))(l4:W.cell? ⟨low,v*7+4,none⟩=some (.bool LS.s))(l5:W.cell? ⟨low,v*7+5,none⟩=some (.slice LS.a LS.n LS.c))(l6:W.cell? ⟨low,v*7+6,none⟩=some (.slice LS.b LS.m LS.d))(X:EB W g12 his HM HS)(hev:EV W eh his HM HS)(rC:EV W el DI LM LS)(vN:v<N)
  {K:Act→World→Prop}{u1 u2 u3 u4 u5 u6 u9 u10 u11 u13 u14 u15 u16 u17 u18 u19 u20 u21 u22 u23 u24 u25 u26 u27 u28 u29 u30 u31 u32 u33 u34 u35 u36 u37 u38 u39 u40 u41 u42 u43 u44 u45 u46 u47 u48 u50 u51 u52 u53 u54 u55 u56 u57 u58 u59 u60 u61 u62 u63 u64 u65 u66 u67 u68 u69 u70 u71 u72 u73 u74 u75 u76 u77 u78 u79 u80 u81 u82 u83 u84 u85 u86 u87 u88 u89 u90 u91 u92 u93 u94 u95 u96 u97 u98 u99 u100 u101 u102 u103 u104 u105 u106 u107 u108 u109 u110 u111 u112 u113 u114 u115 u116 u117 u118 u119 u120 u121 u122 u123 u124 u125 u126 u127 u128 u129 u130 u131 u132 u133 u134 u135 u136 u137 u138 u139 u140 u141 u142 u143 u144 u145 u146 u147 u148 u149 u150 u151 u152 u153 u154 u155 u156 u157 u158 u159 u160 u161 u162 u163 u164 u165 u166 u167 u168 u169 u170 u171 u172 u173 u174 u175 u176 u177 u178 u179 u180 u181 u182 u183 u184 u185 u186 u187 u188 u189:Value}
  (hK:∀(is:Bool) (M S:Nw) (x50 Xq x52 x53 x54 x55 x56:Value) (W':World),Below g12 W W'→EB W' g12 is M S→EV W' (if rs then eh else el) is M S→K ⟨#[.pointer (some ⟨p,0,none⟩),u1,u2,u3,u4,u5,u6,.bool rs,.int .i64 (v:Int),u9,u10,u11,.pointer (some ⟨g12,0,none⟩),u13,u14,u15,u16,u17,u18,u19,u20,u21,u22,u23,u24,u25,u26,u27,u28,u29,u30,u31,u32,u33,u34,u35,u36,u37,u38,u39,u40,u41,u42,u43,u44,u45,u46,u47,u48,.bool (!rs),x50,Xq,x52,x53,x54,x55,x56,u57,u58,u59,u60,u61,u62,u63,u64,u65,u66,u67,u68,u69,u70,u71,u72,u73,u74,u75,u76,u77,u78,u79,u80,u81,u82,u83,u84,u85,u86,u87,u88,u89,u90,u91,u92,u93,u94,u95,u96,u97,u98,u99,u100,u101,u102,u103,u104,u105,u106,u107,u108,u109,u110,u111,u112,u113,u114,u115,u116,u117,u118,u119,u120,u121,u122,u123,u124,u125,u126,u127,u128,u129,u130,u131,u132,u133,u134,u135,u136,u137,u138,u139,u140,u141,u142,u143,u144,u145,u146,u147,u148,u149,u150,u151,u152,u153,u154,u155,u156,u157,u158,u159,u160,u161,u162,u163,u164,u165,u166,u167,u168,u169,u170,u171,u172,u173,u174,u175,u176,u177,u178,u179,u180,u181,u182,u183,u184,u185,u186,u187,u188,u189],[]⟩ W'):
  (condC f163 49).wp prog (Only K) ⟨#[.pointer (some ⟨p,0,none⟩),u1,u2,u3,u4,u5,u6,.bool rs,.int .i64 (v:Int),u9,u10,u11,.pointer (some ⟨g12,0,none⟩),u13,u14,u15,u16,u17,u18,u19,u20,u21,u22,u23,u24,u25,u26,u27,u28,u29,u30,u31,u32,u33,u34,u35,u36,u37,u38,u39,u40,u41,u42,u43,u44,u45,u46,u47,u48,.bool (!rs),u50,u51,u52,u53,u54,u55,u56,u57,u58,u59,u60,u61,u62,u63,u64,u65,u66,u67,u68,u69,u70,u71,u72,u73,u74,u75,u76,u77,u78,u79,u80,u81,u82,u83,u84,u85,u86,u87,u88,u89,u90,u91,u92,u93,u94,u95,u96,u97,u98,u99,u100,u101,u102,u103,u104,u105,u106,u107,u108,u109,u110,u111,u112,u113,u114,u115,u116,u117,u118,u119,u120,u121,u122,u123,u124,u125,u126,u127,u128,u129,u130,u131,u132,u133,u134,u135,u136,u137,u138,u139,u140,u141,u142,u143,u144,u145,u146,u147,u148,u149,u150,u151,u152,u153,u154,u155,u156,u157,u158,u159,u160,u161,u162,u163,u164,u165,u166,u167,u168,u169,u170,u171,u172,u173,u174,u175,u176,u177,u178,u179,u180,u181,u182,u183,u184,u185,u186,u187,u188,u189],[]⟩ W:=by
 rw[show condC f163 49=_ from by(simp only[condC,f163,gX,Nat.reduceEqDiff,if_true,if_false,Option.getD];rfl)];have dO:=hK;clear hK;have v0:(0:Int)≤(v:Int):=by omega
 have v1:(v:Int)<(N:Int):=by omega
 have XH:=hid X;have QK:=hid hev;have QM:=hid rC;obtain⟨_,_,_,_,_,_,_,fz⟩:=X.reads;have fz0:=fz 0;have iD:=fz 1;have jh:=fz 2;have fz3:=fz 3;have kC:=fz 4;have lD:=fz 5;have Dz:=fz 6;clear fz X hev rC;have dO:=hid dO
 cases rs with
 | true=>
  go_wp2_with fail
  exact dO.out his HM HS _ _ _ _ _ _ _ _ (Below.refl _ _) XH.out QK.out
 | false=>
  go_wp2_with fail
  have X:=XH.out.aaF DI LM LS
  have B:=wu (Below.refl g12 W) (Nat.le_refl _) (.bool DI) (.bool LM.s) (.slice LM.a LM.n LM.c) (.slice LM.b LM.m LM.d) (.bool LS.s) (.slice LS.a LS.n LS.c) (.slice LS.b LS.m LS.d)
  exact dO.out DI LM LS _ _ _ _ _ _ _ _ B X ⟨QM.out.Xa,fun u hu=>⟨(QM.out.at_ u hu).1.limb (XH.out.Il _ _ _),(QM.out.at_ u hu).2.limb (XH.out.Il _ _ _)⟩⟩
theorem Vt {W:World}{p high g18 N b:Nat}{up his DI:Bool}{HM HS LM LS:Nw}{eh el:Option V}
  (q2:W.cell? ⟨p,2,none⟩=some (.slice (some ⟨high,0,none⟩) N N))(h0:W.cell? ⟨high,b*7,none⟩=some (.bool his))(h1:W.cell? ⟨high,b*7+1,none⟩=some (.bool HM.s))(h2:W.cell? ⟨high,b*7+2,none⟩=some (.slice HM.a HM.n HM.c))(h3:W.cell? ⟨high,b*7+3,none⟩=some (.slice HM.b HM.m HM.d))(h4:W.cell? ⟨high,b*7+4,none⟩=some (.bool HS.s))(h5:W.cell? ⟨high,b*7+5,none⟩=some (.slice HS.a HS.n HS.c))(h6:W.cell? ⟨high,b*7+6,none⟩=some (.slice HS.b HS.m HS.d))(X:EB W g18 DI LM LS)(hev:EV W eh his HM HS)(rC:EV W el DI LM LS)(bN:b<N)
  {K:Act→World→Prop}{u1 u2 u3 u4 u5 u6 u7 u8 u9 u10 u11 u12 u13 u14 u15 u19 u20 u21 u22 u23 u24 u25 u26 u27 u28 u29 u30 u31 u32 u33 u34 u35 u36 u37 u38 u39 u40 u41 u42 u43 u44 u45 u46 u47 u48 u49 u50 u51 u52 u53 u54 u55 u56 u57 u58 u59 u60 u61 u62 u63 u64 u65 u66 u67 u68 u69 u70 u71 u72 u73 u74 u75 u76 u77 u78 u79 u80 u81 u82 u83 u84 u85 u86 u87 u88 u89 u90 u91 u92 u93 u94 u95 u96 u97 u98 u99 u100 u101 u102 u103 u104 u105 u106 u107 u108 u109 u111 u112 u113 u114 u115 u116 u117 u118 u119 u120 u121 u122 u123 u124 u125 u126 u127 u128 u129 u130 u131 u132 u133 u134 u135 u136 u137 u138 u139 u140 u141 u142 u143 u144 u145 u146 u147 u148 u149 u150 u151 u152 u153 u154 u155 u156 u157 u158 u159 u160 u161 u162 u163 u164 u165 u166 u167 u168 u169 u170 u171 u172 u173 u174 u175 u176 u177 u178 u179 u180 u181 u182 u183 u184 u185 u186 u187 u188 u189:Value}
  (hK:∀(is:Bool) (M S:Nw) (QC x112 x113 x114 x115 QD QE:Value) (W':World),Below g18 W W'→EB W' g18 is M S→EV W' (if up then eh else el) is M S→K ⟨#[.pointer (some ⟨p,0,none⟩),u1,u2,u3,u4,u5,u6,u7,u8,u9,u10,u11,u12,u13,u14,u15,.int .i64 (b:Int),.bool up,.pointer (some ⟨g18,0,none⟩),u19,u20,u21,u22,u23,u24,u25,u26,u27,u28,u29,u30,u31,u32,u33,u34,u35,u36,u37,u38,u39,u40,u41,u42,u43,u44,u45,u46,u47,u48,u49,u50,u51,u52,u53,u54,u55,u56,u57,u58,u59,u60,u61,u62,u63,u64,u65,u66,u67,u68,u69,u70,u71,u72,u73,u74,u75,u76,u77,u78,u79,u80,u81,u82,u83,u84,u85,u86,u87,u88,u89,u90,u91,u92,u93,u94,u95,u96,u97,u98,u99,u100,u101,u102,u103,u104,u105,u106,u107,u108,u109,.bool up,QC,x112,x113,x114,x115,QD,QE,u118,u119,u120,u121,u122,u123,u124,u125,u126,u127,u128,u129,u130,u131,u132,u133,u134,u135,u136,u137,u138,u139,u140,u141,u142,u143,u144,u145,u146,u147,u148,u149,u150,u151,u152,u153,u154,u155,u156,u157,u158,u159,u160,u161,u162,u163,u164,u165,u166,u167,u168,u169,u170,u171,u172,u173,u174,u175,u176,u177,u178,u179,u180,u181,u182,u183,u184,u185,u186,u187,u188,u189],[]⟩ W'):
  (condC f163 110).wp prog (Only K) ⟨#[.pointer (some ⟨p,0,none⟩),u1,u2,u3,u4,u5,u6,u7,u8,u9,u10,u11,u12,u13,u14,u15,.int .i64 (b:Int),.bool up,.pointer (some ⟨g18,0,none⟩),u19,u20,u21,u22,u23,u24,u25,u26,u27,u28,u29,u30,u31,u32,u33,u34,u35,u36,u37,u38,u39,u40,u41,u42,u43,u44,u45,u46,u47,u48,u49,u50,u51,u52,u53,u54,u55,u56,u57,u58,u59,u60,u61,u62,u63,u64,u65,u66,u67,u68,u69,u70,u71,u72,u73,u74,u75,u76,u77,u78,u79,u80,u81,u82,u83,u84,u85,u86,u87,u88,u89,u90,u91,u92,u93,u94,u95,u96,u97,u98,u99,u100,u101,u102,u103,u104,u105,u106,u107,u108,u109,.bool up,u111,u112,u113,u114,u115,u116,u117,u118,u119,u120,u121,u122,u123,u124,u125,u126,u127,u128,u129,u130,u131,u132,u133,u134,u135,u136,u137,u138,u139,u140,u141,u142,u143,u144,u145,u146,u147,u148,u149,u150,u151,u152,u153,u154,u155,u156,u157,u158,u159,u160,u161,u162,u163,u164,u165,u166,u167,u168,u169,u170,u171,u172,u173,u174,u175,u176,u177,u178,u179,u180,u181,u182,u183,u184,u185,u186,u187,u188,u189],[]⟩ W:=by
 rw[show condC f163 110=_ from by(simp only[condC,f163,gX,Nat.reduceEqDiff,if_true,if_false,Option.getD];rfl)];have dO:=hK;clear hK;have b0:(0:Int)≤(b:Int):=by omega
 have b1:(b:Int)<(N:Int):=by omega
 have XH:=hid X;have QK:=hid hev;have QM:=hid rC;obtain⟨_,_,_,_,_,_,_,fz⟩:=X.reads;have fz0:=fz 0;have iD:=fz 1;have jh:=fz 2;have fz3:=fz 3;have kC:=fz 4;have lD:=fz 5;have Dz:=fz 6;clear fz X hev rC;have dO:=hid dO
 cases up with
 | false=>
  go_wp2_with fail
  exact dO.out DI LM LS _ _ _ _ _ _ _ _ (Below.refl _ _) XH.out QM.out
 | true=>
  go_wp2_with fail
  have X:=XH.out.aaF his HM HS
  have B:=wu (Below.refl g18 W) (Nat.le_refl _) (.bool his) (.bool HM.s) (.slice HM.a HM.n HM.c) (.slice HM.b HM.m HM.d) (.bool HS.s) (.slice HS.a HS.n HS.c) (.slice HS.b HS.m HS.d)
  exact dO.out his HM HS _ _ _ _ _ _ _ _ B X ⟨QK.out.Xa,fun u hu=>⟨(QK.out.at_ u hu).1.limb (XH.out.Il _ _ _),(QK.out.at_ u hu).2.limb (XH.out.Il _ _ _)⟩⟩
theorem Vu {W:World}{g19:Nat}{q:Rat}{E:Nw}
  (X:NQ W g19 E)(rE:RA W q E)
  {K:Act→World→Prop}{u0 u1 u2 u3 u4 u5 u6 u7 u8 u9 u10 u11 u12 u13 u14 u15 u16 u17 u18 u20 u21 u22 u23 u24 u25 u26 u27 u28 u29 u30 u31 u32 u33 u34 u35 u36 u37 u38 u39 u40 u41 u42 u43 u44 u45 u46 u47 u48 u49 u50 u51 u52 u53 u54 u55 u56 u57 u58 u59 u60 u61 u62 u63 u64 u65 u66 u67 u68 u69 u70 u71 u72 u73 u74 u75 u76 u77 u78 u79 u80 u81 u82 u83 u84 u85 u86 u87 u88 u89 u90 u91 u92 u93 u94 u95 u96 u97 u98 u99 u100 u101 u102 u103 u104 u105 u106 u107 u108 u109 u110 u111 u112 u113 u114 u115 u116 u117 u118 u119 u120 u121 u122 u123 u124 u125 u127 u128 u129 u130 u131 u132 u133 u134 u135 u136 u137 u138 u139 u140 u141 u142 u143 u144 u145 u146 u147 u148 u149 u150 u151 u152 u153 u154 u155 u156 u157 u158 u159 u160 u161 u162 u163 u164 u165 u166 u167 u168 u169 u170 u171 u172 u173 u174 u175 u176 u177 u178 u179 u180 u181 u182 u183 u184 u185 u186 u187 u188 u189:Value}
  (hK:∀(N:Nw) (abh abj:Value) (W':World),Below g19 W W'→NQ W' g19 N→RA W' (dR q) N→K ⟨#[u0,u1,u2,u3,u4,u5,u6,u7,u8,u9,u10,u11,u12,u13,u14,u15,u16,u17,u18,.pointer (some ⟨g19,0,none⟩),u20,u21,u22,u23,u24,u25,u26,u27,u28,u29,u30,u31,u32,u33,u34,u35,u36,u37,u38,u39,u40,u41,u42,u43,u44,u45,u46,u47,u48,u49,u50,u51,u52,u53,u54,u55,u56,u57,u58,u59,u60,u61,u62,u63,u64,u65,u66,u67,u68,u69,u70,u71,u72,u73,u74,u75,u76,u77,u78,u79,u80,u81,u82,u83,u84,u85,u86,u87,u88,u89,u90,u91,u92,u93,u94,u95,u96,u97,u98,u99,u100,u101,u102,u103,u104,u105,u106,u107,u108,u109,u110,u111,u112,u113,u114,u115,u116,u117,u118,u119,u120,u121,u122,u123,u124,u125,.bool E.s,abh,abj,u129,u130,u131,u132,u133,u134,u135,u136,u137,u138,u139,u140,u141,u142,u143,u144,u145,u146,u147,u148,u149,u150,u151,u152,u153,u154,u155,u156,u157,u158,u159,u160,u161,u162,u163,u164,u165,u166,u167,u168,u169,u170,u171,u172,u173,u174,u175,u176,u177,u178,u179,u180,u181,u182,u183,u184,u185,u186,u187,u188,u189],[]⟩ W'):
  (condC f163 126).wp prog (Only K) ⟨#[u0,u1,u2,u3,u4,u5,u6,u7,u8,u9,u10,u11,u12,u13,u14,u15,u16,u17,u18,.pointer (some ⟨g19,0,none⟩),u20,u21,u22,u23,u24,u25,u26,u27,u28,u29,u30,u31,u32,u33,u34,u35,u36,u37,u38,u39,u40,u41,u42,u43,u44,u45,u46,u47,u48,u49,u50,u51,u52,u53,u54,u55,u56,u57,u58,u59,u60,u61,u62,u63,u64,u65,u66,u67,u68,u69,u70,u71,u72,u73,u74,u75,u76,u77,u78,u79,u80,u81,u82,u83,u84,u85,u86,u87,u88,u89,u90,u91,u92,u93,u94,u95,u96,u97,u98,u99,u100,u101,u102,u103,u104,u105,u106,u107,u108,u109,u110,u111,u112,u113,u114,u115,u116,u117,u118,u119,u120,u121,u122,u123,u124,u125,.bool E.s,u127,u128,u129,u130,u131,u132,u133,u134,u135,u136,u137,u138,u139,u140,u141,u142,u143,u144,u145,u146,u147,u148,u149,u150,u151,u152,u153,u154,u155,u156,u157,u158,u159,u160,u161,u162,u163,u164,u165,u166,u167,u168,u169,u170,u171,u172,u173,u174,u175,u176,u177,u178,u179,u180,u181,u182,u183,u184,u185,u186,u187,u188,u189],[]⟩ W:=by
 rw[show condC f163 126=_ from by(simp only[condC,f163,gX,Nat.reduceEqDiff,if_true,if_false,Option.getD];rfl)];have dO:=hK;clear hK;have XH:=hid X;have RH:=hid rE;have dO:=hid dO;obtain⟨y0,y1,y2,_⟩:=X.reads;by_cases ng:q.num<0
 ·have hs:E.s=true:=by rw[rE.sg];simp[ng]
  have AB:Hid (dR q= -q):=by show _=_;unfold dR;rw[if_pos ng]
  have C:=hid (mP rE);rw[hs]at y0⊢;have C':=C.out;rw[hs]at C';have C:=hid C';have HS:=hid hs;clear ng hs X rE C';go_wp2_with fail;refine C.out.mono ?_;rintro e w7 ⟨s3,a3,n3,c3,b3,m3,d3,rfl,L3,B3⟩;have X7:=XH.out.later B3 XH.out.lt;obtain⟨y0,y1,y2,fz⟩:=X7.reads;have fz0:=fz 0;have iD:=fz 1;have jh:=fz 2;have X7:=hid X7;have L3:Hid (RA w7 (-q) ⟨s3,a3,n3,c3,b3,m3,d3⟩):=L3;have B7:Hid (Below g19 W w7):=B3.mono (Nat.le_of_lt XH.out.lt);clear fz B3 C;go_wp2_with fail;have hk:=dO.out;rw[HS.out]at hk;exact hk ⟨s3,a3,n3,c3,b3,m3,d3⟩ _ _ _ (DJ B7.out (.bool s3) (.slice a3 n3 c3) (.slice b3 m3 d3)) (X7.out.gy ⟨s3,a3,n3,c3,b3,m3,d3⟩) (by rw[AB.out];exact L3.out.limb (X7.out.oH ⟨s3,a3,n3,c3,b3,m3,d3⟩))
 have hs:E.s=false:=by rw[rE.sg];simp[ng]
 have AB:Hid (dR q=q):=by show _=_;unfold dR;rw[if_neg ng]
 have HS:=hid hs;rw[hs]at y0⊢;clear ng hs X rE;go_wp2_with fail;have hk:=dO.out;rw[HS.out]at hk;exact hk E _ _ _ (Below.refl _ _) XH.out (by rw[AB.out];exact RH.out)
theorem Zv {W:World}{p now g12 gl N v:Nat}{rs is:Bool}{en:Option V}{nb:V}{M12 fB M S M0 S0:Nw}
  (q3:W.cell? ⟨p,3,none⟩=some (.slice (some ⟨now,0,none⟩) N N))(b0:W.cell? ⟨g12,0,none⟩=some (.bool is))(b1:W.cell? ⟨g12,1,none⟩=some (.bool M12.s))(b2:W.cell? ⟨g12,2,none⟩=some (.slice M12.a M12.n M12.c))(b3:W.cell? ⟨g12,3,none⟩=some (.slice M12.b M12.m M12.d))(b4:W.cell? ⟨g12,4,none⟩=some (.bool fB.s))(b5:W.cell? ⟨g12,5,none⟩=some (.slice fB.a fB.n fB.c))(b6:W.cell? ⟨g12,6,none⟩=some (.slice fB.b fB.m fB.d))(Xk:W.cell? ⟨now,v*6,none⟩=some (.bool M.s))(Xl:W.cell? ⟨now,v*6+1,none⟩=some (.slice M.a M.n M.c))(Xm:W.cell? ⟨now,v*6+2,none⟩=some (.slice M.b M.m M.d))(Xn:W.cell? ⟨now,v*6+3,none⟩=some (.bool S.s))(Xo:W.cell? ⟨now,v*6+4,none⟩=some (.slice S.a S.n S.c))(Xp:W.cell? ⟨now,v*6+5,none⟩=some (.slice S.b S.m S.d))(hE:EV W en is M12 fB)(rn:RA W nb.m M∧RA W nb.s S)(SU:∀u,en=some u→Sz u.m 1048576∧Sz u.s 1048576)(SN:Sz nb.m 1048576∧Sz nb.s 1048576)(X:VB W gl M0 S0)(vN:v<N)
  {K:Act→World→Prop}{u1 u2 u3 u4 u5 u6 u10 u13 u14 u15 u16 u17 u18 u19 u20 u21 u22 u23 u24 u25 u26 u27 u28 u29 u30 u31 u32 u33 u34 u35 u36 u37 u38 u39 u40 u41 u42 u43 u44 u45 u46 u47 u48 u49 u50 u51 u52 u53 u54 u55 u56 u57 u59 u60 u61 u62 u63 u64 u65 u66 u67 u68 u69 u70 u71 u72 u73 u74 u75 u76 u77 u78 u79 u80 u81 u82 u83 u84 u85 u86 u87 u88 u89 u90 u91 u92 u93 u94 u95 u96 u97 u98 u99 u100 u101 u102 u103 u104 u105 u106 u107 u108 u109 u110 u111 u112 u113 u114 u115 u116 u117 u118 u119 u120 u121 u122 u123 u124 u125 u126 u127 u128 u129 u130 u131 u132 u133 u134 u135 u136 u137 u138 u139 u140 u141 u142 u143 u144 u145 u146 u147 u148 u149 u150 u151 u152 u153 u154 u155 u156 u157 u158 u159 u160 u161 u162 u163 u164 u165 u166 u167 u168 u169 u170 u171 u172 u173 u174 u175 u176 u177 u178 u179 u180 u181 u182 u183 u184 u185 u186 u187 u188 u189:Value}
  (hK:∀(M' S':Nw) (x59 x60 x61 x62 x63 x64 x65 x66 x67 x68 x69:Value) (W':World),VB W' gl M' S'→(∀u,en=some u→RA W' (bJ u nb rs).m M'∧RA W' (bJ u nb rs).s S')→Below gl W W'→K ⟨#[.pointer (some ⟨p,0,none⟩),u1,u2,u3,u4,u5,u6,.bool rs,.int .i64 (v:Int),.pointer (some ⟨gl,0,none⟩),u10,.bool is,.pointer (some ⟨g12,0,none⟩),u13,u14,u15,u16,u17,u18,u19,u20,u21,u22,u23,u24,u25,u26,u27,u28,u29,u30,u31,u32,u33,u34,u35,u36,u37,u38,u39,u40,u41,u42,u43,u44,u45,u46,u47,u48,u49,u50,u51,u52,u53,u54,u55,u56,u57,.bool is,x59,x60,x61,x62,x63,x64,x65,x66,x67,x68,x69,u70,u71,u72,u73,u74,u75,u76,u77,u78,u79,u80,u81,u82,u83,u84,u85,u86,u87,u88,u89,u90,u91,u92,u93,u94,u95,u96,u97,u98,u99,u100,u101,u102,u103,u104,u105,u106,u107,u108,u109,u110,u111,u112,u113,u114,u115,u116,u117,u118,u119,u120,u121,u122,u123,u124,u125,u126,u127,u128,u129,u130,u131,u132,u133,u134,u135,u136,u137,u138,u139,u140,u141,u142,u143,u144,u145,u146,u147,u148,u149,u150,u151,u152,u153,u154,u155,u156,u157,u158,u159,u160,u161,u162,u163,u164,u165,u166,u167,u168,u169,u170,u171,u172,u173,u174,u175,u176,u177,u178,u179,u180,u181,u182,u183,u184,u185,u186,u187,u188,u189],[]⟩ W'):
  (condC f163 58).wp prog (Only K) ⟨#[.pointer (some ⟨p,0,none⟩),u1,u2,u3,u4,u5,u6,.bool rs,.int .i64 (v:Int),.pointer (some ⟨gl,0,none⟩),u10,.bool false,.pointer (some ⟨g12,0,none⟩),u13,u14,u15,u16,u17,u18,u19,u20,u21,u22,u23,u24,u25,u26,u27,u28,u29,u30,u31,u32,u33,u34,u35,u36,u37,u38,u39,u40,u41,u42,u43,u44,u45,u46,u47,u48,u49,u50,u51,u52,u53,u54,u55,u56,u57,.bool is,u59,u60,u61,u62,u63,u64,u65,u66,u67,u68,u69,u70,u71,u72,u73,u74,u75,u76,u77,u78,u79,u80,u81,u82,u83,u84,u85,u86,u87,u88,u89,u90,u91,u92,u93,u94,u95,u96,u97,u98,u99,u100,u101,u102,u103,u104,u105,u106,u107,u108,u109,u110,u111,u112,u113,u114,u115,u116,u117,u118,u119,u120,u121,u122,u123,u124,u125,u126,u127,u128,u129,u130,u131,u132,u133,u134,u135,u136,u137,u138,u139,u140,u141,u142,u143,u144,u145,u146,u147,u148,u149,u150,u151,u152,u153,u154,u155,u156,u157,u158,u159,u160,u161,u162,u163,u164,u165,u166,u167,u168,u169,u170,u171,u172,u173,u174,u175,u176,u177,u178,u179,u180,u181,u182,u183,u184,u185,u186,u187,u188,u189],[]⟩ W:=by
 rw[show condC f163 58=_ from by(simp only[condC,f163,gX,Nat.reduceEqDiff,if_true,if_false,Option.getD];rfl)];have dO:=hK;clear hK;have v0:(0:Int)≤(v:Int):=by omega
 have v1:(v:Int)<(N:Int):=by omega
 have XH:=hid X;have dO:=hid dO
 cases en with
 | none=>
  have e0:is=false:=hE.Xa
  subst e0
  clear hE rn SU SN X
  go_wp2_with fail
  exact dO.out M0 S0 _ _ _ _ _ _ _ _ _ _ _ _ XH.out (fun u h=>by simp at h) (Below.refl _ _)
 | some u=>
  have e0:is=true:=hE.Xa
  subst e0
  obtain⟨r3,r4⟩:=hE.at_ u rfl
  have s2:=SU u rfl
  have C:=hid (rX (w:=W.drew) (up:=rs) (aO.below r3 (Below.refl _ _).drew) (aO.below r4 (Below.refl _ _).drew) (aO.below rn.1 (Below.refl _ _).drew) (aO.below rn.2 (Below.refl _ _).drew) (Sz.mono s2.1 (by omega)) (Sz.mono s2.2 (by omega)) (Sz.mono SN.1 (by omega)) (Sz.mono SN.2 (by omega)))
  have KP:=hid (fun(W':World) (hB:Below W.heap.size W W')=>(show W'.cell? ⟨p,3,none⟩=some (.slice (some ⟨now,0,none⟩) N N)∧W'.cell? ⟨g12,0,none⟩=some (.bool true)∧W'.cell? ⟨g12,1,none⟩=some (.bool M12.s)∧W'.cell? ⟨g12,2,none⟩=some (.slice M12.a M12.n M12.c)∧W'.cell? ⟨g12,3,none⟩=some (.slice M12.b M12.m M12.d)∧W'.cell? ⟨g12,4,none⟩=some (.bool fB.s)∧W'.cell? ⟨g12,5,none⟩=some (.slice fB.a fB.n fB.c)∧W'.cell? ⟨g12,6,none⟩=some (.slice fB.b fB.m fB.d)∧W'.cell? ⟨now,v*6,none⟩=some (.bool M.s)∧W'.cell? ⟨now,v*6+1,none⟩=some (.slice M.a M.n M.c)∧W'.cell? ⟨now,v*6+2,none⟩=some (.slice M.b M.m M.d)∧W'.cell? ⟨now,v*6+3,none⟩=some (.bool S.s)∧W'.cell? ⟨now,v*6+4,none⟩=some (.slice S.a S.n S.c)∧W'.cell? ⟨now,v*6+5,none⟩=some (.slice S.b S.m S.d) from⟨aj hB q3,aj hB b0,aj hB b1,aj hB b2,aj hB b3,aj hB b4,aj hB b5,aj hB b6,aj hB Xk,aj hB Xl,aj hB Xm,aj hB Xn,aj hB Xo,aj hB Xp⟩))
  clear hE rn SU SN X r3 r4 s2
  go_upto_region 9 with fail
  refine Rg.aH 11 [] (fun W'=>W'.cell? ⟨p,3,none⟩=some (.slice (some ⟨now,0,none⟩) N N)∧W'.cell? ⟨g12,0,none⟩=some (.bool true)∧W'.cell? ⟨g12,1,none⟩=some (.bool M12.s)∧W'.cell? ⟨g12,2,none⟩=some (.slice M12.a M12.n M12.c)∧W'.cell? ⟨g12,3,none⟩=some (.slice M12.b M12.m M12.d)∧W'.cell? ⟨g12,4,none⟩=some (.bool fB.s)∧W'.cell? ⟨g12,5,none⟩=some (.slice fB.a fB.n fB.c)∧W'.cell? ⟨g12,6,none⟩=some (.slice fB.b fB.m fB.d)∧W'.cell? ⟨now,v*6,none⟩=some (.bool M.s)∧W'.cell? ⟨now,v*6+1,none⟩=some (.slice M.a M.n M.c)∧W'.cell? ⟨now,v*6+2,none⟩=some (.slice M.b M.m M.d)∧W'.cell? ⟨now,v*6+3,none⟩=some (.bool S.s)∧W'.cell? ⟨now,v*6+4,none⟩=some (.slice S.a S.n S.c)∧W'.cell? ⟨now,v*6+5,none⟩=some (.slice S.b S.m S.d)) (by kernel_rfl) (by kernel_rfl) ?_ (fun hS ok inv=>?_)
  ·exact⟨q3,b0,b1,b2,b3,b4,b5,b6,Xk,Xl,Xm,Xn,Xo,Xp⟩
  refine Rg.tk 0 rfl ok inv hS fun inv=>?_
  refine Rg.tk 1 rfl ok inv hS fun inv=>?_
  refine Rg.tk 2 rfl ok inv hS fun inv=>?_
  refine Rg.tk 3 rfl ok inv hS fun inv=>?_
  refine Rg.tk 4 rfl ok inv hS fun inv=>?_
  refine Rg.tk 5 rfl ok inv hS fun inv=>?_
  refine Rg.tk 6 rfl ok inv hS fun inv=>?_
  refine Rg.tk 7 rfl ok inv hS fun inv=>?_
  refine Rg.tk 8 rfl ok inv hS fun inv=>?_
  refine Rg.tk 9 rfl ok inv hS fun inv=>?_
  refine Rg.w1 10 rfl inv fun K' hK=>?_
  go_simp
  go_at_call 187
  refine(C.out).mono ?_
  rintro e w3 ⟨M3,S3,rfl,L1,L2,B3⟩
  have B3:=aJ B3
  have KS:=KP.out w3 B3
  have X5:=XH.out.later B3 XH.out.lt
  have UH:Hid (Below gl W w3):=B3.mono (Nat.le_of_lt XH.out.lt)
  obtain⟨_,_,_,_,_,_,fz⟩:=X5.reads
  have fz0:=fz 0;have iD:=fz 1;have jh:=fz 2;have fz3:=fz 3;have kC:=fz 4;have lD:=fz 5
  have X5:=hid X5;have L1:=hid L1;have L2:=hid L2
  clear B3 fz
  refine Rg.st hK ?_ fun hS inv=>?_
  ·exact KS
  clear hK K'
  refine Rg.wt 11 rfl fun K' hK=>?_
  (try simp only[zA,zB,zC])
  go_simp
  refine hK.out _ _ ?_
  clear hK K'
  try simp only[Act.put,zA,zB,zC,zD,zE,zF]
  refine Rg.wt 12 rfl fun K' hK=>?_
  (try simp only[zA,zB,zC])
  go_simp
  refine hK.out _ _ ?_
  clear hK K'
  try simp only[Act.put,zA,zB,zC,zD,zE,zF]
  refine Rg.vY (by kernel_rfl) ?_
  have XN:=X5.out.kL M3 S3
  have LN:=X5.out.jG M3 S3
  have BN:=tC UH.out (.bool M3.s) (.slice M3.a M3.n M3.c) (.slice M3.b M3.m M3.d) (.bool S3.s) (.slice S3.a S3.n S3.c) (.slice S3.b S3.m S3.d)
  exact dO.out M3 S3 _ _ _ _ _ _ _ _ _ _ _ _ XN (fun u' h=>by simp only[Option.some.injEq]at h;subst h;exact⟨RA.limb (N:=M3) L1.out LN,RA.limb (N:=S3) L2.out LN⟩) BN
theorem Vw {W:World}{gl:Nat}{rs:Bool}{l:V}{M0 S0:Nw}
  (X:VB W gl M0 S0)(rl:RA W l.m M0∧RA W l.s S0)(sl:Sz l.m 4194304∧Sz l.s 4194304)
  {K:Act→World→Prop}{u0 u1 u2 u3 u4 u5 u6 u7 u8 u10 u11 u12 u13 u14 u15 u16 u17 u18 u19 u20 u21 u22 u23 u24 u25 u26 u27 u28 u29 u30 u31 u32 u33 u34 u35 u36 u37 u38 u39 u40 u41 u42 u43 u44 u45 u46 u47 u48 u49 u50 u51 u52 u53 u54 u55 u56 u57 u58 u59 u60 u61 u62 u63 u64 u65 u66 u67 u68 u69 u70 u71 u72 u73 u74 u75 u76 u77 u78 u79 u80 u81 u82 u83 u84 u85 u86 u87 u88 u89 u90 u91 u92 u93 u94 u95 u96 u97 u98 u99 u100 u101 u102 u103 u104 u105 u106 u107 u108 u109 u110 u111 u112 u113 u114 u115 u116 u117 u118 u119 u120 u121 u122 u123 u124 u125 u126 u127 u128 u129 u130 u131 u132 u133 u134 u135 u136 u137 u138 u139 u140 u141 u142 u143 u144 u145 u146 u147 u148 u149 u150 u151 u152 u153 u154 u155 u156 u157 u158 u159 u160 u161 u162 u163 u164 u165 u166 u167 u168 u169 u170 u171 u172 u173 u174 u176 u177 u178 u179 u180 u181 u182 u183 u184 u185 u186 u187 u188 u189:Value}
  (hK:∀(M' S':Nw) (abk abl abm abn:Value) (W':World),VB W' gl M' S'→RA W' (if rs then l else V.sub ⟨0,0⟩ l).m M'→RA W' (if rs then l else V.sub ⟨0,0⟩ l).s S'→Below gl W W'→K ⟨#[u0,u1,u2,u3,u4,u5,u6,u7,u8,.pointer (some ⟨gl,0,none⟩),u10,u11,u12,u13,u14,u15,u16,u17,u18,u19,u20,u21,u22,u23,u24,u25,u26,u27,u28,u29,u30,u31,u32,u33,u34,u35,u36,u37,u38,u39,u40,u41,u42,u43,u44,u45,u46,u47,u48,u49,u50,u51,u52,u53,u54,u55,u56,u57,u58,u59,u60,u61,u62,u63,u64,u65,u66,u67,u68,u69,u70,u71,u72,u73,u74,u75,u76,u77,u78,u79,u80,u81,u82,u83,u84,u85,u86,u87,u88,u89,u90,u91,u92,u93,u94,u95,u96,u97,u98,u99,u100,u101,u102,u103,u104,u105,u106,u107,u108,u109,u110,u111,u112,u113,u114,u115,u116,u117,u118,u119,u120,u121,u122,u123,u124,u125,u126,u127,u128,u129,u130,u131,u132,u133,u134,u135,u136,u137,u138,u139,u140,u141,u142,u143,u144,u145,u146,u147,u148,u149,u150,u151,u152,u153,u154,u155,u156,u157,u158,u159,u160,u161,u162,u163,u164,u165,u166,u167,u168,u169,u170,u171,u172,u173,u174,.bool (!rs),abk,abl,abm,abn,u180,u181,u182,u183,u184,u185,u186,u187,u188,u189],[]⟩ W'):
  (condC f163 175).wp prog (Only K) ⟨#[u0,u1,u2,u3,u4,u5,u6,u7,u8,.pointer (some ⟨gl,0,none⟩),u10,u11,u12,u13,u14,u15,u16,u17,u18,u19,u20,u21,u22,u23,u24,u25,u26,u27,u28,u29,u30,u31,u32,u33,u34,u35,u36,u37,u38,u39,u40,u41,u42,u43,u44,u45,u46,u47,u48,u49,u50,u51,u52,u53,u54,u55,u56,u57,u58,u59,u60,u61,u62,u63,u64,u65,u66,u67,u68,u69,u70,u71,u72,u73,u74,u75,u76,u77,u78,u79,u80,u81,u82,u83,u84,u85,u86,u87,u88,u89,u90,u91,u92,u93,u94,u95,u96,u97,u98,u99,u100,u101,u102,u103,u104,u105,u106,u107,u108,u109,u110,u111,u112,u113,u114,u115,u116,u117,u118,u119,u120,u121,u122,u123,u124,u125,u126,u127,u128,u129,u130,u131,u132,u133,u134,u135,u136,u137,u138,u139,u140,u141,u142,u143,u144,u145,u146,u147,u148,u149,u150,u151,u152,u153,u154,u155,u156,u157,u158,u159,u160,u161,u162,u163,u164,u165,u166,u167,u168,u169,u170,u171,u172,u173,u174,.bool (!rs),u176,u177,u178,u179,u180,u181,u182,u183,u184,u185,u186,u187,u188,u189],[]⟩ W:=by
 rw[show condC f163 175=_ from by(simp only[condC,f163,gX,Nat.reduceEqDiff,if_true,if_false,Option.getD];rfl)];have dO:=hK;clear hK;have XH:=hid X;have RL:=hid rl;have SL:=hid sl;have dO:=hid dO;obtain⟨t0,t1,t2,t3,t4,t5,_⟩:=X.reads;clear X rl sl
 cases rs with
 | true=>
  go_wp2_with fail
  exact dO.out M0 S0 _ _ _ _ _ XH.out RL.out.1 RL.out.2 (Below.refl _ _)
 | false=>
  have KP:=hid (fun(W':World) (hB:Below W.heap.size W W')=>(show W'.cell? ⟨gl,0,none⟩=some (.bool M0.s)∧W'.cell? ⟨gl,1,none⟩=some (.slice M0.a M0.n M0.c)∧W'.cell? ⟨gl,2,none⟩=some (.slice M0.b M0.m M0.d)∧W'.cell? ⟨gl,3,none⟩=some (.bool S0.s)∧W'.cell? ⟨gl,4,none⟩=some (.slice S0.a S0.n S0.c)∧W'.cell? ⟨gl,5,none⟩=some (.slice S0.b S0.m S0.d) from⟨aj hB t0,aj hB t1,aj hB t2,aj hB t3,aj hB t4,aj hB t5⟩))
  go_upto_region 34 with fail
  refine Rg.aH 4 [] (fun W'=>W'.cell? ⟨gl,0,none⟩=some (.bool M0.s)∧W'.cell? ⟨gl,1,none⟩=some (.slice M0.a M0.n M0.c)∧W'.cell? ⟨gl,2,none⟩=some (.slice M0.b M0.m M0.d)∧W'.cell? ⟨gl,3,none⟩=some (.bool S0.s)∧W'.cell? ⟨gl,4,none⟩=some (.slice S0.a S0.n S0.c)∧W'.cell? ⟨gl,5,none⟩=some (.slice S0.b S0.m S0.d)) (by kernel_rfl) (by kernel_rfl) ?_ (fun hS ok inv=>?_)
  ·exact⟨t0,t1,t2,t3,t4,t5⟩
  refine Rg.tk 2 rfl ok inv hS fun inv=>?_
  refine Rg.w1 0 rfl inv fun K' hK=>?_
  go_simp
  go_at_call 72
  refine(bI 0 (by omega) (by omega) _).mono ?_
  rintro e oG ⟨s11,a11,n11,c11,b11,m11,d11,rfl,D2,B⟩
  have D2:=hid D2
  have BC:=aJ B
  have KS:=KP.out oG BC
  clear B
  refine Rg.st hK ?_ fun hS inv=>?_
  ·exact KS
  clear hK K'
  refine Rg.w1 1 rfl inv fun K' hK=>?_
  go_simp
  go_at_call 154
  refine(vV (M:=⟨s11,a11,n11,c11,b11,m11,d11⟩) D2.out).mono ?_
  rintro e w12 ⟨M12,fB,rfl,L1,L2,B⟩
  have BC:=aB BC B
  have KS:=KP.out w12 BC
  clear B
  refine Rg.st hK ?_ fun hS inv=>?_
  ·exact KS
  clear hK K'
  refine Rg.w1 3 rfl inv fun K' hK=>?_
  go_simp
  go_at_call 159
  refine(mW (x:=⟨((0:Int):Rat),0⟩) (y:=l) L1 L2 (aO.below RL.out.1 BC) (aO.below RL.out.2 BC) (Sz.mono Sz.zero (by omega)) (Sz.mono Sz.zero (by omega)) (Sz.mono SL.out.1 (by omega)) (Sz.mono SL.out.2 (by omega))).mono ?_
  rintro e sZ ⟨M14,bT,rfl,D4,D5,B⟩
  have BC:=aB BC B
  have KS:=KP.out sZ BC
  have XG:=XH.out.later BC XH.out.lt
  have BE:Hid (Below gl W sZ):=BC.mono (Nat.le_of_lt XH.out.lt)
  obtain⟨_,_,_,_,_,_,fz⟩:=XG.reads
  have fz0:=fz 0;have iD:=fz 1;have jh:=fz 2;have fz3:=fz 3;have kC:=fz 4;have lD:=fz 5
  have XG:=hid XG;have DE:=hid (And.intro D4 D5)
  clear fz B D4 D5 L1 L2
  refine Rg.st hK ?_ fun hS inv=>?_
  ·exact KS
  clear hK K'
  refine Rg.wl rfl ?_
  go_simp
  have XN:=XG.out.kL M14 bT
  have LN:=XG.out.jG M14 bT
  have BN:=tC BE.out (.bool M14.s) (.slice M14.a M14.n M14.c) (.slice M14.b M14.m M14.d) (.bool bT.s) (.slice bT.a bT.n bT.c) (.slice bT.b bT.m bT.d)
  exact dO.out M14 bT _ _ _ _ _ XN (RA.limb (N:=M14) DE.out.1 LN) (RA.limb (N:=bT) DE.out.2 LN) BN
end Go.Proofs.YtijdglogadnbcaaGreat
