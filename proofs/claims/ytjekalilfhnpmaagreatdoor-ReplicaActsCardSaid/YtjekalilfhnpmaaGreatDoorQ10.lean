/- The library's stable sort: two runs merged, the general case: the tails of the walk. -/
import Derived.Test.YtjekalilfhnpmaaGreatDoorQ09
theorem Go.Proofs.YtjekalilfhnpmaaGreatDoor.κ10 {p:Prop} (h:p):Go.RowKit.Hid p:=Go.Lib.hid h
namespace Go.Proofs.YtjekalilfhnpmaaGreatDoor
open Go Go.RowKit Go.Shelf Go.Lib Go.Sort Stb
set_option linter.unusedVariables false
set_option linter.unusedSimpArgs false
set_option maxHeartbeats 4000000
set_option maxRecDepth 1000000
variable {P:Program} {k:Nat} {α:Type} [Inhabited α] {enc:α→List Value}
def headReg:Code→Option Nat
 | .region n _ _=>some n
 | .seq a _=>headReg a
 | _=>none
def fromReg (n:Nat):Code→Option Code
 | .region m o x=>if m=n then some (.region m o x) else none
 | .seq a b=>if headReg a=some n then some (.seq a b) else match fromReg n a with
  | some c=>some c
  | none=>fromReg n b
 | .loop c=>fromReg n c
 | .block _ c=>fromReg n c
 | .scope c=>fromReg n c
 | .cond _ a b=>match fromReg n a with
  | some c=>some c
  | none=>fromReg n b
 | _=>none
def fstC:Code→Code
 | .seq a _=>a
 | c=>c
def sndC:Code→Code
 | .seq _ b=>b
 | c=>c
theorem tail43 (L:StbL P k) (cf:α→α→Int) (tl E:α→α→Prop) (g:Nat) (cb:Array Value) (blk off cap a m b mid s e z N:Nat) (d:Array α) (w0 wr:World) (u5 u6 u7 u8 u9 u10 u11 u12 u13 u14 u15 u16 u17 u19 u21 u22 u23 u25 u26 u27 u28 u29 u30 u31 u32 u33 u34 u35 u36 u37 u38 u39 u40 u41 u42 u43 u44 u45 u46 u47 u48 u49 u50 u51 u52 u53 u54 u55 u56 u57 u58 u59 u60 u61 u62 u63 u64 u65 u66 u67 u68 u69 u70 u71 u72 u73 u74 u75 u76 u77 u78 u79 u80 u81 u82 u83 u84 u85 u86 u87 u88 u89 u90 u91 u92 u93 u94 u95 u96 u97 u98 u99 u100 u101 u102 u103 u104 u105 u106 u107 u108 u109 u110 u111 u112 u113 u114 u115 u116 u117 u118 u119 u120 u121 u122 u123 u124 u125 u126 u127 u128 u129 u130 u131 u132 u133 u134 u135 u136 u137 u138 u139 u140 u141 u142 u143 u144 u145 u146 u147 u148 u149 u150 u151 u152 u153 u154 u155 u156 u157 u158 u159 u160 u161 u162 u163 u164 u165 u166 u167 u168 u169 u170 u171 u172 u173 u174 u175 u176 u177 u178 u179 u180 u181 u182 u183 u184 u185 u186 u187 u188 u189 u190 u191 u192 u193 u194 u195 u196 u197 u198 u199 u200 u201 u202 u203 u204 u205 u206 u207 u208 u209 u210 u211 u212 u213 u214 u215 u216 u217 u218 u219:Value) (hsz:z≤100000) (hdz:d.size=z) (hbz:b≤z) (b1:a < mid) (b2:mid < b) (b3:mid≤e) (b4:e≤b) (b5:s≤mid) (b6:a≤s) (b7:s≤m) (b8:m≤e) (bN:b - a≤N+1) (IH:(∀ (a' m' b':Nat) (dk:Array α) (wr:World),b' - a'≤N→dk.size=z→SWK enc k w0 blk off dk wr→a' < m'→m' < b'→b'≤z→Mrg tl E dk a' m' b'→
   Calls P 202 #[.slice (some ⟨blk,off,none⟩) z cap,.int .i64 a',.int .i64 m',.int .i64 b',.func (.func g) #[] cb] wr (SMPost tl enc k w0 blk off a' b' dk))) (d2:Array α) (hz3:d2.size=z) (hMr:Mrg tl E d2 mid e b) (hFin:∀ d3,PermIn mid b d2 d3→Srt tl mid b d3→PermIn a b d d3∧Srt tl a b d3) (hS:SWK enc k w0 blk off d2 wr) :
  ∀ (K:Act→World→Prop),(∀ a_1 w_1,Code.wp P (sndC ((Tryz.f202.body.bind (fromReg 43)).getD .skip)) (bodyPost P Tryz.f202 (SMPost tl enc k w0 blk off a b d)) a_1 w_1→K a_1 w_1)→Code.wp P (fstC ((Tryz.f202.body.bind (fromReg 43)).getD .skip)) (Exit.then K (bodyPost P Tryz.f202 (SMPost tl enc k w0 blk off a b d))) ⟨#[.slice (some ⟨blk,off,none⟩) z cap,.int .i64 a,.int .i64 m,.int .i64 b,.func (.func g) #[] cb,u5,u6,u7,u8,u9,u10,u11,u12,u13,u14,u15,u16,u17,.int .i64 mid,u19,.int .i64 s,u21,u22,u23,.int .i64 e,u25,u26,u27,u28,u29,u30,u31,u32,u33,u34,u35,u36,u37,u38,u39,u40,u41,u42,u43,u44,u45,u46,u47,u48,u49,u50,u51,u52,u53,u54,u55,u56,u57,u58,u59,u60,u61,u62,u63,u64,u65,u66,u67,u68,u69,u70,u71,u72,u73,u74,u75,u76,u77,u78,u79,u80,u81,u82,u83,u84,u85,u86,u87,u88,u89,u90,u91,u92,u93,u94,u95,u96,u97,u98,u99,u100,u101,u102,u103,u104,u105,u106,u107,u108,u109,u110,u111,u112,u113,u114,u115,u116,u117,u118,u119,u120,u121,u122,u123,u124,u125,u126,u127,u128,u129,u130,u131,u132,u133,u134,u135,u136,u137,u138,u139,u140,u141,u142,u143,u144,u145,u146,u147,u148,u149,u150,u151,u152,u153,u154,u155,u156,u157,u158,u159,u160,u161,u162,u163,u164,u165,u166,u167,u168,u169,u170,u171,u172,u173,u174,u175,u176,u177,u178,u179,u180,u181,u182,u183,u184,u185,u186,u187,u188,u189,u190,u191,u192,u193,u194,u195,u196,u197,u198,u199,u200,u201,u202,u203,u204,u205,u206,u207,u208,u209,u210,u211,u212,u213,u214,u215,u216,u217,u218,u219],[]⟩ wr:=by
 intro K hK
 have mixed:=L.mixed;have t0:=L.t0;have a0:=L.a0;have z0:=L.z0;have v0:=L.v0;have t3:=L.t3;have a3:=L.a3;have z3:=L.z3;have v3:=L.v3;have t4:=L.t4;have a4:=L.a4;have z4:=L.z4;have v4:=L.v4;have ts:=L.ts;have asl:=L.asl;have zs:=L.zs;have vs:=L.vs;have tc:=L.tc;have ac:=L.ac;have zc:=L.zc;have vc:=L.vc;have tu:=L.tu;have au:=L.au;have zu:=L.zu;have vu:=L.vu;have aE:=L.aE;have zE:=L.zE
 have esm:∀ args w,(callFunc 202 args).run P w=.ok (.enter 202 args) w:=enters_of L.fsm (by kernel_rfl) rfl
 have HFin:=κ10 hFin
 have HMr:=κ10 hMr
 have S3:=κ10 hS
 have HIH:=κ10 IH
 have HZ3:=κ10 hz3
 clear hFin hMr hS IH hz3 hdz
 conv=>arg 2;whnf
 conv at hK=>intro a_1 w_1;arg 1;arg 2;whnf
 by_cases c1:mid < e
 ·by_cases c2:e < b
  ·have d1':(mid:Int) < (e:Int):=by omega
   have d2':(e:Int) < (b:Int):=by omega
   have HCon:=κ10 (HIH.out mid e b d2 wr (by omega) HZ3.out S3.out c1 c2 (by omega) HMr.out)
   go_wp2_with fail
   refine HCon.out.mono ?_
   rintro e' w1 ⟨rfl,d',hp,hsr2,hS⟩
   have HA:=κ10 (HFin.out d' hp hsr2)
   have HC2:=κ10 hS
   clear hp hsr2 hS HCon
   go_wp2_with fail
   go_end0
   exact ⟨rfl,d',HA.out.1,HA.out.2,HC2.out⟩
  ·have d1':(mid:Int) < (e:Int):=by omega
   have d2':¬ (e:Int) < (b:Int):=by omega
   have hem:e=b:=by omega
   have HA:=κ10 (HFin.out d2 (permIn_refl d2 mid b) (by have:=HMr.out.l;rw [hem] at this;exact this))
   clear hem
   go_wp2_with fail
   go_end0
   exact ⟨rfl,d2,HA.out.1,HA.out.2,S3.out⟩
 ·have d1':¬ (mid:Int) < (e:Int):=by omega
  have hem:mid=e:=by omega
  have HA:=κ10 (HFin.out d2 (permIn_refl d2 mid b) (by have:=HMr.out.r;rw [←hem] at this;exact this))
  clear hem
  go_wp2_with fail
  go_end0
  exact ⟨rfl,d2,HA.out.1,HA.out.2,S3.out⟩
theorem tail41 (L:StbL P k) (cf:α→α→Int) (tl E:α→α→Prop) (g:Nat) (cb:Array Value) (blk off cap a m b mid s e z N:Nat) (d:Array α) (w0 wr:World) (u5 u6 u7 u8 u9 u10 u11 u12 u13 u14 u15 u16 u17 u19 u21 u22 u23 u25 u26 u27 u28 u29 u30 u31 u32 u33 u34 u35 u36 u37 u38 u39 u40 u41 u42 u43 u44 u45 u46 u47 u48 u49 u50 u51 u52 u53 u54 u55 u56 u57 u58 u59 u60 u61 u62 u63 u64 u65 u66 u67 u68 u69 u70 u71 u72 u73 u74 u75 u76 u77 u78 u79 u80 u81 u82 u83 u84 u85 u86 u87 u88 u89 u90 u91 u92 u93 u94 u95 u96 u97 u98 u99 u100 u101 u102 u103 u104 u105 u106 u107 u108 u109 u110 u111 u112 u113 u114 u115 u116 u117 u118 u119 u120 u121 u122 u123 u124 u125 u126 u127 u128 u129 u130 u131 u132 u133 u134 u135 u136 u137 u138 u139 u140 u141 u142 u143 u144 u145 u146 u147 u148 u149 u150 u151 u152 u153 u154 u155 u156 u157 u158 u159 u160 u161 u162 u163 u164 u165 u166 u167 u168 u169 u170 u171 u172 u173 u174 u175 u176 u177 u178 u179 u180 u181 u182 u183 u184 u185 u186 u187 u188 u189 u190 u191 u192 u193 u194 u195 u196 u197 u198 u199 u200 u201 u202 u203 u204 u205 u206 u207 u208 u209 u210 u211 u212 u213 u214 u215 u216 u217 u218 u219:Value) (hsz:z≤100000) (hdz:d.size=z) (hbz:b≤z) (b1:a < mid) (b2:mid < b) (b3:mid≤e) (b4:e≤b) (b5:s≤mid) (b6:a≤s) (b7:s≤m) (b8:m≤e) (bN:b - a≤N+1) (IH:(∀ (a' m' b':Nat) (dk:Array α) (wr:World),b' - a'≤N→dk.size=z→SWK enc k w0 blk off dk wr→a' < m'→m' < b'→b'≤z→Mrg tl E dk a' m' b'→
   Calls P 202 #[.slice (some ⟨blk,off,none⟩) z cap,.int .i64 a',.int .i64 m',.int .i64 b',.func (.func g) #[] cb] wr (SMPost tl enc k w0 blk off a' b' dk))) (d1:Array α) (hP1:PermIn a b d d1) (hPar:Parts (tl:=tl) (E:=E) d1 a s mid e b) (hS:SWK enc k w0 blk off d1 wr) :
  ∀ (K K2:Act→World→Prop),(∀ a_1 w_1,Code.wp P ((Tryz.f202.body.bind (fromReg 43)).getD .skip) (bodyPost P Tryz.f202 (SMPost tl enc k w0 blk off a b d)) a_1 w_1→K2 a_1 w_1)→(∀ a_1 w_1,Code.wp P (sndC (fstC ((Tryz.f202.body.bind (fromReg 41)).getD .skip))) (Exit.then K2 (bodyPost P Tryz.f202 (SMPost tl enc k w0 blk off a b d))) a_1 w_1→K a_1 w_1)→Code.wp P (fstC (fstC ((Tryz.f202.body.bind (fromReg 41)).getD .skip))) (Exit.then K (Exit.then K2 (bodyPost P Tryz.f202 (SMPost tl enc k w0 blk off a b d)))) ⟨#[.slice (some ⟨blk,off,none⟩) z cap,.int .i64 a,.int .i64 m,.int .i64 b,.func (.func g) #[] cb,u5,u6,u7,u8,u9,u10,u11,u12,u13,u14,u15,u16,u17,.int .i64 mid,u19,.int .i64 s,u21,u22,u23,.int .i64 e,u25,u26,u27,u28,u29,u30,u31,u32,u33,u34,u35,u36,u37,u38,u39,u40,u41,u42,u43,u44,u45,u46,u47,u48,u49,u50,u51,u52,u53,u54,u55,u56,u57,u58,u59,u60,u61,u62,u63,u64,u65,u66,u67,u68,u69,u70,u71,u72,u73,u74,u75,u76,u77,u78,u79,u80,u81,u82,u83,u84,u85,u86,u87,u88,u89,u90,u91,u92,u93,u94,u95,u96,u97,u98,u99,u100,u101,u102,u103,u104,u105,u106,u107,u108,u109,u110,u111,u112,u113,u114,u115,u116,u117,u118,u119,u120,u121,u122,u123,u124,u125,u126,u127,u128,u129,u130,u131,u132,u133,u134,u135,u136,u137,u138,u139,u140,u141,u142,u143,u144,u145,u146,u147,u148,u149,u150,u151,u152,u153,u154,u155,u156,u157,u158,u159,u160,u161,u162,u163,u164,u165,u166,u167,u168,u169,u170,u171,u172,u173,u174,u175,u176,u177,u178,u179,u180,u181,u182,u183,u184,u185,u186,u187,u188,u189,u190,u191,u192,u193,u194,u195,u196,u197,u198,u199,u200,u201,u202,u203,u204,u205,u206,u207,u208,u209,u210,u211,u212,u213,u214,u215,u216,u217,u218,u219],[]⟩ wr:=by
 intro K K2 hK2 hK
 have hz2:d1.size=z:=by have:=hP1.1;omega
 have next:∀ (d2:Array α) (wr2:World),PermIn a mid d1 d2→Srt tl a mid d2→SWK enc k w0 blk off d2 wr2→∀ (u5 u6 u7 u8 u9 u10 u11 u12 u13 u14 u15 u16 u17 u19 u21 u22 u23 u25 u26 u27 u28 u29 u30 u31 u32 u33 u34 u35 u36 u37 u38 u39 u40 u41 u42 u43 u44 u45 u46 u47 u48 u49 u50 u51 u52 u53 u54 u55 u56 u57 u58 u59 u60 u61 u62 u63 u64 u65 u66 u67 u68 u69 u70 u71 u72 u73 u74 u75 u76 u77 u78 u79 u80 u81 u82 u83 u84 u85 u86 u87 u88 u89 u90 u91 u92 u93 u94 u95 u96 u97 u98 u99 u100 u101 u102 u103 u104 u105 u106 u107 u108 u109 u110 u111 u112 u113 u114 u115 u116 u117 u118 u119 u120 u121 u122 u123 u124 u125 u126 u127 u128 u129 u130 u131 u132 u133 u134 u135 u136 u137 u138 u139 u140 u141 u142 u143 u144 u145 u146 u147 u148 u149 u150 u151 u152 u153 u154 u155 u156 u157 u158 u159 u160 u161 u162 u163 u164 u165 u166 u167 u168 u169 u170 u171 u172 u173 u174 u175 u176 u177 u178 u179 u180 u181 u182 u183 u184 u185 u186 u187 u188 u189 u190 u191 u192 u193 u194 u195 u196 u197 u198 u199 u200 u201 u202 u203 u204 u205 u206 u207 u208 u209 u210 u211 u212 u213 u214 u215 u216 u217 u218 u219:Value),∀ (K:Act→World→Prop),(∀ a_1 w_1,Code.wp P (sndC ((Tryz.f202.body.bind (fromReg 43)).getD .skip)) (bodyPost P Tryz.f202 (SMPost tl enc k w0 blk off a b d)) a_1 w_1→K a_1 w_1)→Code.wp P (fstC ((Tryz.f202.body.bind (fromReg 43)).getD .skip)) (Exit.then K (bodyPost P Tryz.f202 (SMPost tl enc k w0 blk off a b d))) ⟨#[.slice (some ⟨blk,off,none⟩) z cap,.int .i64 a,.int .i64 m,.int .i64 b,.func (.func g) #[] cb,u5,u6,u7,u8,u9,u10,u11,u12,u13,u14,u15,u16,u17,.int .i64 mid,u19,.int .i64 s,u21,u22,u23,.int .i64 e,u25,u26,u27,u28,u29,u30,u31,u32,u33,u34,u35,u36,u37,u38,u39,u40,u41,u42,u43,u44,u45,u46,u47,u48,u49,u50,u51,u52,u53,u54,u55,u56,u57,u58,u59,u60,u61,u62,u63,u64,u65,u66,u67,u68,u69,u70,u71,u72,u73,u74,u75,u76,u77,u78,u79,u80,u81,u82,u83,u84,u85,u86,u87,u88,u89,u90,u91,u92,u93,u94,u95,u96,u97,u98,u99,u100,u101,u102,u103,u104,u105,u106,u107,u108,u109,u110,u111,u112,u113,u114,u115,u116,u117,u118,u119,u120,u121,u122,u123,u124,u125,u126,u127,u128,u129,u130,u131,u132,u133,u134,u135,u136,u137,u138,u139,u140,u141,u142,u143,u144,u145,u146,u147,u148,u149,u150,u151,u152,u153,u154,u155,u156,u157,u158,u159,u160,u161,u162,u163,u164,u165,u166,u167,u168,u169,u170,u171,u172,u173,u174,u175,u176,u177,u178,u179,u180,u181,u182,u183,u184,u185,u186,u187,u188,u189,u190,u191,u192,u193,u194,u195,u196,u197,u198,u199,u200,u201,u202,u203,u204,u205,u206,u207,u208,u209,u210,u211,u212,u213,u214,u215,u216,u217,u218,u219],[]⟩ wr2:=by
  intro d2 wr2 hP2 hS2 hW u5 u6 u7 u8 u9 u10 u11 u12 u13 u14 u15 u16 u17 u19 u21 u22 u23 u25 u26 u27 u28 u29 u30 u31 u32 u33 u34 u35 u36 u37 u38 u39 u40 u41 u42 u43 u44 u45 u46 u47 u48 u49 u50 u51 u52 u53 u54 u55 u56 u57 u58 u59 u60 u61 u62 u63 u64 u65 u66 u67 u68 u69 u70 u71 u72 u73 u74 u75 u76 u77 u78 u79 u80 u81 u82 u83 u84 u85 u86 u87 u88 u89 u90 u91 u92 u93 u94 u95 u96 u97 u98 u99 u100 u101 u102 u103 u104 u105 u106 u107 u108 u109 u110 u111 u112 u113 u114 u115 u116 u117 u118 u119 u120 u121 u122 u123 u124 u125 u126 u127 u128 u129 u130 u131 u132 u133 u134 u135 u136 u137 u138 u139 u140 u141 u142 u143 u144 u145 u146 u147 u148 u149 u150 u151 u152 u153 u154 u155 u156 u157 u158 u159 u160 u161 u162 u163 u164 u165 u166 u167 u168 u169 u170 u171 u172 u173 u174 u175 u176 u177 u178 u179 u180 u181 u182 u183 u184 u185 u186 u187 u188 u189 u190 u191 u192 u193 u194 u195 u196 u197 u198 u199 u200 u201 u202 u203 u204 u205 u206 u207 u208 u209 u210 u211 u212 u213 u214 u215 u216 u217 u218 u219
  have hz3:d2.size=z:=by have:=hP2.1;omega
  have hX:∀ i j,a≤i→i < mid→mid≤j→j < b→tl d2[i]! d2[j]!:=cross_perm (b:=b) (by omega) hP2 (.inl ⟨rfl,rfl⟩) (by omega) (by omega) tl hPar.x
  have hP3:PermIn a b d d2:=permIn_trans d d1 d2 a b hP1 (permIn_mono d1 d2 a mid a b (by omega) (by omega) (by omega) hP2)
  exact tail43 L cf tl E g cb blk off cap a m b mid s e z N d w0 wr2 u5 u6 u7 u8 u9 u10 u11 u12 u13 u14 u15 u16 u17 u19 u21 u22 u23 u25 u26 u27 u28 u29 u30 u31 u32 u33 u34 u35 u36 u37 u38 u39 u40 u41 u42 u43 u44 u45 u46 u47 u48 u49 u50 u51 u52 u53 u54 u55 u56 u57 u58 u59 u60 u61 u62 u63 u64 u65 u66 u67 u68 u69 u70 u71 u72 u73 u74 u75 u76 u77 u78 u79 u80 u81 u82 u83 u84 u85 u86 u87 u88 u89 u90 u91 u92 u93 u94 u95 u96 u97 u98 u99 u100 u101 u102 u103 u104 u105 u106 u107 u108 u109 u110 u111 u112 u113 u114 u115 u116 u117 u118 u119 u120 u121 u122 u123 u124 u125 u126 u127 u128 u129 u130 u131 u132 u133 u134 u135 u136 u137 u138 u139 u140 u141 u142 u143 u144 u145 u146 u147 u148 u149 u150 u151 u152 u153 u154 u155 u156 u157 u158 u159 u160 u161 u162 u163 u164 u165 u166 u167 u168 u169 u170 u171 u172 u173 u174 u175 u176 u177 u178 u179 u180 u181 u182 u183 u184 u185 u186 u187 u188 u189 u190 u191 u192 u193 u194 u195 u196 u197 u198 u199 u200 u201 u202 u203 u204 u205 u206 u207 u208 u209 u210 u211 u212 u213 u214 u215 u216 u217 u218 u219 hsz hdz hbz b1 b2 b3 b4 b5 b6 b7 b8 bN IH d2 hz3 (hPar.r.keep (by omega) (by omega) (fun x p q=>hP2.2.1 x (.inr p)))
   (fun d3 q1 q2=>⟨permIn_trans d d2 d3 a b hP3 (permIn_mono d2 d3 mid b a b (by omega) (by omega) (by omega) q1),Srt.join (hS2.keep (fun x p q=>q1.2.1 x (.inl q))) q2 (cross_perm (b:=b) (by omega) q1 (.inr ⟨rfl,rfl⟩) (by omega) (by omega) tl hX)⟩) hW
 have mixed:=L.mixed;have t0:=L.t0;have a0:=L.a0;have z0:=L.z0;have v0:=L.v0;have t3:=L.t3;have a3:=L.a3;have z3:=L.z3;have v3:=L.v3;have t4:=L.t4;have a4:=L.a4;have z4:=L.z4;have v4:=L.v4;have ts:=L.ts;have asl:=L.asl;have zs:=L.zs;have vs:=L.vs;have tc:=L.tc;have ac:=L.ac;have zc:=L.zc;have vc:=L.vc;have tu:=L.tu;have au:=L.au;have zu:=L.zu;have vu:=L.vu;have aE:=L.aE;have zE:=L.zE
 have esm:∀ args w,(callFunc 202 args).run P w=.ok (.enter 202 args) w:=enters_of L.fsm (by kernel_rfl) rfl
 have NX:=κ10 next
 have HPar:=κ10 hPar
 have S2:=κ10 hS
 have HIH:=κ10 IH
 have HZ2:=κ10 hz2
 clear next hPar hS IH hz2 hdz hP1
 conv=>arg 2;whnf
 conv at hK=>intro a_1 w_1;arg 1;arg 2;whnf
 conv at hK2=>intro a_1 w_1;arg 1;arg 2;whnf
 by_cases c1:a < s
 ·by_cases c2:s < mid
  ·have d1':(a:Int) < (s:Int):=by omega
   have d2':(s:Int) < (mid:Int):=by omega
   have HCon:=κ10 (HIH.out a s mid d1 wr (by omega) HZ2.out S2.out c1 c2 (by omega) HPar.out.l)
   go_wp2_with fail
   refine HCon.out.mono ?_
   rintro e' w1 ⟨rfl,d',hp,hsr2,hS⟩
   have HA:=κ10 hp
   have HB:=κ10 hsr2
   have HC2:=κ10 hS
   clear hp hsr2 hS HCon
   go_upto_region 43 with (fail)
   exact NX.out d' _ HA.out HB.out HC2.out _ _ _ _ _ _ _ _ _ _ _ _ _ _ _ _ _ _ _ _ _ _ _ _ _ _ _ _ _ _ _ _ _ _ _ _ _ _ _ _ _ _ _ _ _ _ _ _ _ _ _ _ _ _ _ _ _ _ _ _ _ _ _ _ _ _ _ _ _ _ _ _ _ _ _ _ _ _ _ _ _ _ _ _ _ _ _ _ _ _ _ _ _ _ _ _ _ _ _ _ _ _ _ _ _ _ _ _ _ _ _ _ _ _ _ _ _ _ _ _ _ _ _ _ _ _ _ _ _ _ _ _ _ _ _ _ _ _ _ _ _ _ _ _ _ _ _ _ _ _ _ _ _ _ _ _ _ _ _ _ _ _ _ _ _ _ _ _ _ _ _ _ _ _ _ _ _ _ _ _ _ _ _ _ _ _ _ _ _ _ _ _ _ _ _ _ _ _ _ _ _ _ _ _ _ _ _ _ _ _ _ _ _ (by assumption)
  ·have d1':(a:Int) < (s:Int):=by omega
   have d2':¬ (s:Int) < (mid:Int):=by omega
   have hem:mid=s:=by omega
   have HA:Hid (Srt tl a mid d1):=κ10 (by rw [hem];exact HPar.out.l.l)
   clear hem
   go_upto_region 43 with (fail)
   exact NX.out d1 _ (permIn_refl d1 a mid) HA.out S2.out _ _ _ _ _ _ _ _ _ _ _ _ _ _ _ _ _ _ _ _ _ _ _ _ _ _ _ _ _ _ _ _ _ _ _ _ _ _ _ _ _ _ _ _ _ _ _ _ _ _ _ _ _ _ _ _ _ _ _ _ _ _ _ _ _ _ _ _ _ _ _ _ _ _ _ _ _ _ _ _ _ _ _ _ _ _ _ _ _ _ _ _ _ _ _ _ _ _ _ _ _ _ _ _ _ _ _ _ _ _ _ _ _ _ _ _ _ _ _ _ _ _ _ _ _ _ _ _ _ _ _ _ _ _ _ _ _ _ _ _ _ _ _ _ _ _ _ _ _ _ _ _ _ _ _ _ _ _ _ _ _ _ _ _ _ _ _ _ _ _ _ _ _ _ _ _ _ _ _ _ _ _ _ _ _ _ _ _ _ _ _ _ _ _ _ _ _ _ _ _ _ _ _ _ _ _ _ _ _ _ _ _ _ (by assumption)
 ·have d1':¬ (a:Int) < (s:Int):=by omega
  have hem:s=a:=by omega
  have HA:Hid (Srt tl a mid d1):=κ10 (by have:=HPar.out.l.r;rw [hem] at this;exact this)
  clear hem
  go_upto_region 43 with (fail)
  exact NX.out d1 _ (permIn_refl d1 a mid) HA.out S2.out _ _ _ _ _ _ _ _ _ _ _ _ _ _ _ _ _ _ _ _ _ _ _ _ _ _ _ _ _ _ _ _ _ _ _ _ _ _ _ _ _ _ _ _ _ _ _ _ _ _ _ _ _ _ _ _ _ _ _ _ _ _ _ _ _ _ _ _ _ _ _ _ _ _ _ _ _ _ _ _ _ _ _ _ _ _ _ _ _ _ _ _ _ _ _ _ _ _ _ _ _ _ _ _ _ _ _ _ _ _ _ _ _ _ _ _ _ _ _ _ _ _ _ _ _ _ _ _ _ _ _ _ _ _ _ _ _ _ _ _ _ _ _ _ _ _ _ _ _ _ _ _ _ _ _ _ _ _ _ _ _ _ _ _ _ _ _ _ _ _ _ _ _ _ _ _ _ _ _ _ _ _ _ _ _ _ _ _ _ _ _ _ _ _ _ _ _ _ _ _ _ _ _ _ _ _ _ _ _ _ _ _ _ (by assumption)
theorem tail39 (L:StbL P k) (cf:α→α→Int) (tl E:α→α→Prop) (g:Nat) (cb:Array Value) (blk off cap a m b mid s e z N:Nat) (d:Array α) (w0 wr:World) (u5 u6 u7 u8 u9 u10 u11 u12 u13 u14 u15 u16 u17 u19 u21 u22 u23 u25 u26 u27 u28 u29 u30 u31 u32 u33 u34 u35 u36 u37 u38 u39 u40 u41 u42 u43 u44 u45 u46 u47 u48 u49 u50 u51 u52 u53 u54 u55 u56 u57 u58 u59 u60 u61 u62 u63 u64 u65 u66 u67 u68 u69 u70 u71 u72 u73 u74 u75 u76 u77 u78 u79 u80 u81 u82 u83 u84 u85 u86 u87 u88 u89 u90 u91 u92 u93 u94 u95 u96 u97 u98 u99 u100 u101 u102 u103 u104 u105 u106 u107 u108 u109 u110 u111 u112 u113 u114 u115 u116 u117 u118 u119 u120 u121 u122 u123 u124 u125 u126 u127 u128 u129 u130 u131 u132 u133 u134 u135 u136 u137 u138 u139 u140 u141 u142 u143 u144 u145 u146 u147 u148 u149 u150 u151 u152 u153 u154 u155 u156 u157 u158 u159 u160 u161 u162 u163 u164 u165 u166 u167 u168 u169 u170 u171 u172 u173 u174 u175 u176 u177 u178 u179 u180 u181 u182 u183 u184 u185 u186 u187 u188 u189 u190 u191 u192 u193 u194 u195 u196 u197 u198 u199 u200 u201 u202 u203 u204 u205 u206 u207 u208 u209 u210 u211 u212 u213 u214 u215 u216 u217 u218 u219:Value) (hsz:z≤100000) (hdz:d.size=z) (hbz:b≤z) (b1:a < mid) (b2:mid < b) (b3:mid≤e) (b4:e≤b) (b5:s≤mid) (b6:a≤s) (b7:s≤m) (b8:m≤e) (bN:b - a≤N+1) (IH:(∀ (a' m' b':Nat) (dk:Array α) (wr:World),b' - a'≤N→dk.size=z→SWK enc k w0 blk off dk wr→a' < m'→m' < b'→b'≤z→Mrg tl E dk a' m' b'→
   Calls P 202 #[.slice (some ⟨blk,off,none⟩) z cap,.int .i64 a',.int .i64 m',.int .i64 b',.func (.func g) #[] cb] wr (SMPost tl enc k w0 blk off a' b' dk))) (hRo:(∀ (dk:Array α) (wr:World) (s e:Nat),dk.size=z→SWK enc k w0 blk off dk wr→s < m→m < e→e≤z→Calls P 239 #[.slice (some ⟨blk,off,none⟩) z cap,.int .i64 s,.int .i64 m,.int .i64 e,.func (.func g) #[] cb] wr fun e' w'=>e'=.returned (.tuple #[])∧∃ d',Rotated dk d' s m e∧PermIn s e dk d'∧SWK enc k w0 blk off d' w')) (hPa:∀ d1,Rotated d d1 s m e→Parts (tl:=tl) (E:=E) d1 a s mid e b) (hS:SWK enc k w0 blk off d wr) :
  ∀ (K K2:Act→World→Prop),(∀ a_1 w_1,Code.wp P ((Tryz.f202.body.bind (fromReg 41)).getD .skip) (bodyPost P Tryz.f202 (SMPost tl enc k w0 blk off a b d)) a_1 w_1→K2 a_1 w_1)→(∀ a_1 w_1,Code.wp P (sndC (fstC ((Tryz.f202.body.bind (fromReg 39)).getD .skip))) (Exit.then K2 (bodyPost P Tryz.f202 (SMPost tl enc k w0 blk off a b d))) a_1 w_1→K a_1 w_1)→Code.wp P (fstC (fstC ((Tryz.f202.body.bind (fromReg 39)).getD .skip))) (Exit.then K (Exit.then K2 (bodyPost P Tryz.f202 (SMPost tl enc k w0 blk off a b d)))) ⟨#[.slice (some ⟨blk,off,none⟩) z cap,.int .i64 a,.int .i64 m,.int .i64 b,.func (.func g) #[] cb,u5,u6,u7,u8,u9,u10,u11,u12,u13,u14,u15,u16,u17,.int .i64 mid,u19,.int .i64 s,u21,u22,u23,.int .i64 e,u25,u26,u27,u28,u29,u30,u31,u32,u33,u34,u35,u36,u37,u38,u39,u40,u41,u42,u43,u44,u45,u46,u47,u48,u49,u50,u51,u52,u53,u54,u55,u56,u57,u58,u59,u60,u61,u62,u63,u64,u65,u66,u67,u68,u69,u70,u71,u72,u73,u74,u75,u76,u77,u78,u79,u80,u81,u82,u83,u84,u85,u86,u87,u88,u89,u90,u91,u92,u93,u94,u95,u96,u97,u98,u99,u100,u101,u102,u103,u104,u105,u106,u107,u108,u109,u110,u111,u112,u113,u114,u115,u116,u117,u118,u119,u120,u121,u122,u123,u124,u125,u126,u127,u128,u129,u130,u131,u132,u133,u134,u135,u136,u137,u138,u139,u140,u141,u142,u143,u144,u145,u146,u147,u148,u149,u150,u151,u152,u153,u154,u155,u156,u157,u158,u159,u160,u161,u162,u163,u164,u165,u166,u167,u168,u169,u170,u171,u172,u173,u174,u175,u176,u177,u178,u179,u180,u181,u182,u183,u184,u185,u186,u187,u188,u189,u190,u191,u192,u193,u194,u195,u196,u197,u198,u199,u200,u201,u202,u203,u204,u205,u206,u207,u208,u209,u210,u211,u212,u213,u214,u215,u216,u217,u218,u219],[]⟩ wr:=by
 intro K K2 hK2 hK
 have next:∀ (d1:Array α) (wr2:World),Rotated d d1 s m e→PermIn a b d d1→SWK enc k w0 blk off d1 wr2→∀ (u5 u6 u7 u8 u9 u10 u11 u12 u13 u14 u15 u16 u17 u19 u21 u22 u23 u25 u26 u27 u28 u29 u30 u31 u32 u33 u34 u35 u36 u37 u38 u39 u40 u41 u42 u43 u44 u45 u46 u47 u48 u49 u50 u51 u52 u53 u54 u55 u56 u57 u58 u59 u60 u61 u62 u63 u64 u65 u66 u67 u68 u69 u70 u71 u72 u73 u74 u75 u76 u77 u78 u79 u80 u81 u82 u83 u84 u85 u86 u87 u88 u89 u90 u91 u92 u93 u94 u95 u96 u97 u98 u99 u100 u101 u102 u103 u104 u105 u106 u107 u108 u109 u110 u111 u112 u113 u114 u115 u116 u117 u118 u119 u120 u121 u122 u123 u124 u125 u126 u127 u128 u129 u130 u131 u132 u133 u134 u135 u136 u137 u138 u139 u140 u141 u142 u143 u144 u145 u146 u147 u148 u149 u150 u151 u152 u153 u154 u155 u156 u157 u158 u159 u160 u161 u162 u163 u164 u165 u166 u167 u168 u169 u170 u171 u172 u173 u174 u175 u176 u177 u178 u179 u180 u181 u182 u183 u184 u185 u186 u187 u188 u189 u190 u191 u192 u193 u194 u195 u196 u197 u198 u199 u200 u201 u202 u203 u204 u205 u206 u207 u208 u209 u210 u211 u212 u213 u214 u215 u216 u217 u218 u219:Value),∀ (K K2:Act→World→Prop),(∀ a_1 w_1,Code.wp P ((Tryz.f202.body.bind (fromReg 43)).getD .skip) (bodyPost P Tryz.f202 (SMPost tl enc k w0 blk off a b d)) a_1 w_1→K2 a_1 w_1)→(∀ a_1 w_1,Code.wp P (sndC (fstC ((Tryz.f202.body.bind (fromReg 41)).getD .skip))) (Exit.then K2 (bodyPost P Tryz.f202 (SMPost tl enc k w0 blk off a b d))) a_1 w_1→K a_1 w_1)→Code.wp P (fstC (fstC ((Tryz.f202.body.bind (fromReg 41)).getD .skip))) (Exit.then K (Exit.then K2 (bodyPost P Tryz.f202 (SMPost tl enc k w0 blk off a b d)))) ⟨#[.slice (some ⟨blk,off,none⟩) z cap,.int .i64 a,.int .i64 m,.int .i64 b,.func (.func g) #[] cb,u5,u6,u7,u8,u9,u10,u11,u12,u13,u14,u15,u16,u17,.int .i64 mid,u19,.int .i64 s,u21,u22,u23,.int .i64 e,u25,u26,u27,u28,u29,u30,u31,u32,u33,u34,u35,u36,u37,u38,u39,u40,u41,u42,u43,u44,u45,u46,u47,u48,u49,u50,u51,u52,u53,u54,u55,u56,u57,u58,u59,u60,u61,u62,u63,u64,u65,u66,u67,u68,u69,u70,u71,u72,u73,u74,u75,u76,u77,u78,u79,u80,u81,u82,u83,u84,u85,u86,u87,u88,u89,u90,u91,u92,u93,u94,u95,u96,u97,u98,u99,u100,u101,u102,u103,u104,u105,u106,u107,u108,u109,u110,u111,u112,u113,u114,u115,u116,u117,u118,u119,u120,u121,u122,u123,u124,u125,u126,u127,u128,u129,u130,u131,u132,u133,u134,u135,u136,u137,u138,u139,u140,u141,u142,u143,u144,u145,u146,u147,u148,u149,u150,u151,u152,u153,u154,u155,u156,u157,u158,u159,u160,u161,u162,u163,u164,u165,u166,u167,u168,u169,u170,u171,u172,u173,u174,u175,u176,u177,u178,u179,u180,u181,u182,u183,u184,u185,u186,u187,u188,u189,u190,u191,u192,u193,u194,u195,u196,u197,u198,u199,u200,u201,u202,u203,u204,u205,u206,u207,u208,u209,u210,u211,u212,u213,u214,u215,u216,u217,u218,u219],[]⟩ wr2:=by
  intro d1 wr2 hr hP hW u5 u6 u7 u8 u9 u10 u11 u12 u13 u14 u15 u16 u17 u19 u21 u22 u23 u25 u26 u27 u28 u29 u30 u31 u32 u33 u34 u35 u36 u37 u38 u39 u40 u41 u42 u43 u44 u45 u46 u47 u48 u49 u50 u51 u52 u53 u54 u55 u56 u57 u58 u59 u60 u61 u62 u63 u64 u65 u66 u67 u68 u69 u70 u71 u72 u73 u74 u75 u76 u77 u78 u79 u80 u81 u82 u83 u84 u85 u86 u87 u88 u89 u90 u91 u92 u93 u94 u95 u96 u97 u98 u99 u100 u101 u102 u103 u104 u105 u106 u107 u108 u109 u110 u111 u112 u113 u114 u115 u116 u117 u118 u119 u120 u121 u122 u123 u124 u125 u126 u127 u128 u129 u130 u131 u132 u133 u134 u135 u136 u137 u138 u139 u140 u141 u142 u143 u144 u145 u146 u147 u148 u149 u150 u151 u152 u153 u154 u155 u156 u157 u158 u159 u160 u161 u162 u163 u164 u165 u166 u167 u168 u169 u170 u171 u172 u173 u174 u175 u176 u177 u178 u179 u180 u181 u182 u183 u184 u185 u186 u187 u188 u189 u190 u191 u192 u193 u194 u195 u196 u197 u198 u199 u200 u201 u202 u203 u204 u205 u206 u207 u208 u209 u210 u211 u212 u213 u214 u215 u216 u217 u218 u219
  exact tail41 L cf tl E g cb blk off cap a m b mid s e z N d w0 wr2 u5 u6 u7 u8 u9 u10 u11 u12 u13 u14 u15 u16 u17 u19 u21 u22 u23 u25 u26 u27 u28 u29 u30 u31 u32 u33 u34 u35 u36 u37 u38 u39 u40 u41 u42 u43 u44 u45 u46 u47 u48 u49 u50 u51 u52 u53 u54 u55 u56 u57 u58 u59 u60 u61 u62 u63 u64 u65 u66 u67 u68 u69 u70 u71 u72 u73 u74 u75 u76 u77 u78 u79 u80 u81 u82 u83 u84 u85 u86 u87 u88 u89 u90 u91 u92 u93 u94 u95 u96 u97 u98 u99 u100 u101 u102 u103 u104 u105 u106 u107 u108 u109 u110 u111 u112 u113 u114 u115 u116 u117 u118 u119 u120 u121 u122 u123 u124 u125 u126 u127 u128 u129 u130 u131 u132 u133 u134 u135 u136 u137 u138 u139 u140 u141 u142 u143 u144 u145 u146 u147 u148 u149 u150 u151 u152 u153 u154 u155 u156 u157 u158 u159 u160 u161 u162 u163 u164 u165 u166 u167 u168 u169 u170 u171 u172 u173 u174 u175 u176 u177 u178 u179 u180 u181 u182 u183 u184 u185 u186 u187 u188 u189 u190 u191 u192 u193 u194 u195 u196 u197 u198 u199 u200 u201 u202 u203 u204 u205 u206 u207 u208 u209 u210 u211 u212 u213 u214 u215 u216 u217 u218 u219 hsz hdz hbz b1 b2 b3 b4 b5 b6 b7 b8 bN IH d1 hP (hPa d1 hr) hW
 have mixed:=L.mixed;have t0:=L.t0;have a0:=L.a0;have z0:=L.z0;have v0:=L.v0;have t3:=L.t3;have a3:=L.a3;have z3:=L.z3;have v3:=L.v3;have t4:=L.t4;have a4:=L.a4;have z4:=L.z4;have v4:=L.v4;have ts:=L.ts;have asl:=L.asl;have zs:=L.zs;have vs:=L.vs;have tc:=L.tc;have ac:=L.ac;have zc:=L.zc;have vc:=L.vc;have tu:=L.tu;have au:=L.au;have zu:=L.zu;have vu:=L.vu;have aE:=L.aE;have zE:=L.zE
 have ero:∀ args w,(callFunc 239 args).run P w=.ok (.enter 239 args) w:=enters_of L.fro (by kernel_rfl) rfl
 have NX:=κ10 next
 have S2:=κ10 hS
 have HZ:=κ10 hdz
 have HR:=κ10 hRo
 clear next hPa hS IH hdz hRo
 conv=>arg 2;whnf
 conv at hK=>intro a_1 w_1;arg 1;arg 2;whnf
 conv at hK2=>intro a_1 w_1;arg 1;arg 2;whnf
 by_cases c1:s < m
 ·by_cases c2:m < e
  ·have d1':(s:Int) < (m:Int):=by omega
   have d2':(m:Int) < (e:Int):=by omega
   have HCon:=κ10 (HR.out d wr s e HZ.out S2.out c1 c2 (by omega))
   go_wp2_with fail
   refine HCon.out.mono ?_
   rintro e' w1 ⟨rfl,d',hr,hp,hS⟩
   have HA:=κ10 hr
   have HB:=κ10 (permIn_mono d d' s e a b (by omega) (by omega) (by have:=HZ.out;omega) hp)
   have HC2:=κ10 hS
   clear hr hp hS HCon
   go_upto_region 41 with (fail)
   exact NX.out d' _ HA.out HB.out HC2.out _ _ _ _ _ _ _ _ _ _ _ _ _ _ _ _ _ _ _ _ _ _ _ _ _ _ _ _ _ _ _ _ _ _ _ _ _ _ _ _ _ _ _ _ _ _ _ _ _ _ _ _ _ _ _ _ _ _ _ _ _ _ _ _ _ _ _ _ _ _ _ _ _ _ _ _ _ _ _ _ _ _ _ _ _ _ _ _ _ _ _ _ _ _ _ _ _ _ _ _ _ _ _ _ _ _ _ _ _ _ _ _ _ _ _ _ _ _ _ _ _ _ _ _ _ _ _ _ _ _ _ _ _ _ _ _ _ _ _ _ _ _ _ _ _ _ _ _ _ _ _ _ _ _ _ _ _ _ _ _ _ _ _ _ _ _ _ _ _ _ _ _ _ _ _ _ _ _ _ _ _ _ _ _ _ _ _ _ _ _ _ _ _ _ _ _ _ _ _ _ _ _ _ _ _ _ _ _ _ _ _ _ _ _ (by assumption) (by assumption)
  ·have d1':(s:Int) < (m:Int):=by omega
   have d2':¬ (m:Int) < (e:Int):=by omega
   have hem:e=m:=by omega
   have HA:Hid (Rotated d d s m e):=κ10 (by rw [hem];exact Rotated.none_right d s m)
   clear hem
   go_upto_region 41 with (fail)
   exact NX.out d _ HA.out (permIn_refl d a b) S2.out _ _ _ _ _ _ _ _ _ _ _ _ _ _ _ _ _ _ _ _ _ _ _ _ _ _ _ _ _ _ _ _ _ _ _ _ _ _ _ _ _ _ _ _ _ _ _ _ _ _ _ _ _ _ _ _ _ _ _ _ _ _ _ _ _ _ _ _ _ _ _ _ _ _ _ _ _ _ _ _ _ _ _ _ _ _ _ _ _ _ _ _ _ _ _ _ _ _ _ _ _ _ _ _ _ _ _ _ _ _ _ _ _ _ _ _ _ _ _ _ _ _ _ _ _ _ _ _ _ _ _ _ _ _ _ _ _ _ _ _ _ _ _ _ _ _ _ _ _ _ _ _ _ _ _ _ _ _ _ _ _ _ _ _ _ _ _ _ _ _ _ _ _ _ _ _ _ _ _ _ _ _ _ _ _ _ _ _ _ _ _ _ _ _ _ _ _ _ _ _ _ _ _ _ _ _ _ _ _ _ _ _ _ _ (by assumption) (by assumption)
 ·have d1':¬ (s:Int) < (m:Int):=by omega
  have hsm:s=m:=by omega
  have HA:Hid (Rotated d d s m e):=κ10 (by rw [hsm];exact Rotated.none_left d m e)
  clear hsm
  go_upto_region 41 with (fail)
  exact NX.out d _ HA.out (permIn_refl d a b) S2.out _ _ _ _ _ _ _ _ _ _ _ _ _ _ _ _ _ _ _ _ _ _ _ _ _ _ _ _ _ _ _ _ _ _ _ _ _ _ _ _ _ _ _ _ _ _ _ _ _ _ _ _ _ _ _ _ _ _ _ _ _ _ _ _ _ _ _ _ _ _ _ _ _ _ _ _ _ _ _ _ _ _ _ _ _ _ _ _ _ _ _ _ _ _ _ _ _ _ _ _ _ _ _ _ _ _ _ _ _ _ _ _ _ _ _ _ _ _ _ _ _ _ _ _ _ _ _ _ _ _ _ _ _ _ _ _ _ _ _ _ _ _ _ _ _ _ _ _ _ _ _ _ _ _ _ _ _ _ _ _ _ _ _ _ _ _ _ _ _ _ _ _ _ _ _ _ _ _ _ _ _ _ _ _ _ _ _ _ _ _ _ _ _ _ _ _ _ _ _ _ _ _ _ _ _ _ _ _ _ _ _ _ _ _ (by assumption) (by assumption)
end Go.Proofs.YtjekalilfhnpmaaGreatDoor
