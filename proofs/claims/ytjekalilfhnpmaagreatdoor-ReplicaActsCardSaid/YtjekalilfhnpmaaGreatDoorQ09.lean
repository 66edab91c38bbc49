/- The library's stable sort, over any elements that are structs: what its walks lean on. The library's stable sort: places changed, a turn. The library's stable sort: two runs merged. -/
import Derived.Shelf.SlSortCmp.KitK
import Derived.Shelf.RegionOpen
import Derived.Test.YtjekalilfhnpmaaGreatDoorQ01
import Derived.Test.YtjekalilfhnpmaaGreatDoorQ02
import Derived.Test.YtjekalilfhnpmaaGreatDoorQ08
theorem Go.Proofs.YtjekalilfhnpmaaGreatDoor.κ9 {p:Prop} (h:p):Go.RowKit.Hid p:=Go.Lib.hid h
namespace Go.Proofs.YtjekalilfhnpmaaGreatDoor
open Go Go.RowKit Go.Shelf Go.Lib Go.Sort Stb
set_option linter.unusedVariables false
set_option linter.unusedSimpArgs false
structure StbL (P:Program) (k:Nat):Prop where
 mixed:P.follows Departure.mixedOrders=true
 t0:P.underlying 0=some (TypeDesc.tuple #[])
 a0:∀ w,(isAgg 0).run P w=.ok false w
 z0:∀ w,(Go.sizeOf 0).run P w=.ok 1 w
 v0:∀ w,(zeroValue 0).run P w=.ok (.tuple #[]) w
 t3:P.underlying 3=some (TypeDesc.int IntKind.i64)
 a3:∀ w,(isAgg 3).run P w=.ok false w
 z3:∀ w,(Go.sizeOf 3).run P w=.ok 1 w
 v3:∀ w,(zeroValue 3).run P w=.ok (.int .i64 0) w
 t4:P.underlying 4=some TypeDesc.bool
 a4:∀ w,(isAgg 4).run P w=.ok false w
 z4:∀ w,(Go.sizeOf 4).run P w=.ok 1 w
 v4:∀ w,(zeroValue 4).run P w=.ok (.bool false) w
 ts:P.underlying 36=some (TypeDesc.slice 31)
 asl:∀ w,(isAgg 36).run P w=.ok false w
 zs:∀ w,(Go.sizeOf 36).run P w=.ok 1 w
 vs:∀ w,(zeroValue 36).run P w=.ok (.slice none 0 0) w
 tc:P.underlying 208=some (TypeDesc.func #[31,31] #[3] false)
 ac:∀ w,(isAgg 208).run P w=.ok false w
 zc:∀ w,(Go.sizeOf 208).run P w=.ok 1 w
 vc:∀ w,(zeroValue 208).run P w=.ok .nilFunc w
 tu:P.underlying 233=some (TypeDesc.int IntKind.u64)
 au:∀ w,(isAgg 233).run P w=.ok false w
 zu:∀ w,(Go.sizeOf 233).run P w=.ok 1 w
 vu:∀ w,(zeroValue 233).run P w=.ok (.int .u64 0) w
 aE:∀ w,(isAgg 31).run P w=.ok true w
 zE:∀ w,(Go.sizeOf 31).run P w=.ok k w
 ins:Go.Proofs.SlLaysF0.n20 P Tryz.insOp_ren
 fsr:P.funcs[255]?=some Tryz.f255
 fro:P.funcs[239]?=some Tryz.f239
 fsm:P.funcs[202]?=some Tryz.f202
 fst:P.funcs[164]?=some Tryz.f164
theorem stbL:StbL Tryz.prog 8 where
 mixed:=by kernel_rfl
 t0:=Tryz.underlying0
 a0:=Tryz.isAgg0
 z0:=Tryz.sizeOf0
 v0:=Tryz.zeroValue0
 t3:=Tryz.underlying3
 a3:=Tryz.isAgg3
 z3:=Tryz.sizeOf3
 v3:=Tryz.zeroValue3
 t4:=Tryz.underlying4
 a4:=Tryz.isAgg4
 z4:=Tryz.sizeOf4
 v4:=Tryz.zeroValue4
 ts:=Tryz.underlying36
 asl:=Tryz.isAgg36
 zs:=Tryz.sizeOf36
 vs:=Tryz.zeroValue36
 tc:=Tryz.underlying208
 ac:=Tryz.isAgg208
 zc:=Tryz.sizeOf208
 vc:=Tryz.zeroValue208
 tu:=Tryz.underlying233
 au:=Tryz.isAgg233
 zu:=Tryz.sizeOf233
 vu:=Tryz.zeroValue233
 aE:=Tryz.isAgg31
 zE:=Tryz.sizeOf31
 ins:=Tryz.insOp
 fsr:=Tryz.func255
 fro:=Tryz.func239
 fsm:=Tryz.func202
 fst:=Tryz.func164
set_option maxHeartbeats 4000000
set_option maxRecDepth 1000000
variable {P:Program} {k:Nat} {α:Type} [Inhabited α] {enc:α→List Value}
theorem swapRange_any (L:StbL P k) (blk off cap a b n:Nat) (d0 d:Array α) (w0 W:World) (R:RowK enc k w0 blk off d0) (hs:d.size=d0.size) (h:SWK enc k w0 blk off d W) (hab:a+n≤b) (hb:b+n≤d.size) (hsz:d.size≤100000) (cv:Value) :
  Calls P 255 #[.slice (some ⟨blk,off,none⟩) d.size cap,.int .i64 a,.int .i64 b,.int .i64 n,cv] W fun e w'=>e=.returned (.tuple #[])∧∃ d',Swapped d d' a b n∧PermIn a (b+n) d d'∧SWK enc k w0 blk off d' w':=by
 have mixed:=L.mixed;have t0:=L.t0;have a0:=L.a0;have z0:=L.z0;have v0:=L.v0;have t3:=L.t3;have a3:=L.a3;have z3:=L.z3;have v3:=L.v3;have t4:=L.t4;have a4:=L.a4;have z4:=L.z4;have v4:=L.v4;have ts:=L.ts;have asl:=L.asl;have zs:=L.zs;have vs:=L.vs;have tc:=L.tc;have ac:=L.ac;have zc:=L.zc;have vc:=L.vc;have aE:=L.aE;have zE:=L.zE
 have us:=run_underlying L.ts
 obtain ⟨z,hz⟩:∃ z,z=d.size:=⟨_,rfl⟩
 rw [←hz] at hs hb hsz ⊢
 have HZ:=κ9 hz
 have S0:=κ9 h
 have HR:Aside (RowK enc k w0 blk off d0):=R
 clear h hz R
 go_enter L.fsr,Tryz.ntmps255
 go_wp2_with fail
 go_loopw [10] (fun v10 wr=>∃ (i:Nat) (dk:Array α),i≤n∧v10=.int .i64 i∧Hid (Swapped d dk a b i)∧Hid (PermIn a (b+n) d dk)∧Hid (SWK enc k w0 blk off dk wr)) (fun v10 _=>n - (intOf v10).toNat)
 case atStart=>exact ⟨0,d,by omega,rfl,κ9 (Swapped.zero d a b),κ9 (permIn_refl d a (b+n)),S0⟩
 case round=>
  clear S0
  obtain ⟨i,dk,hi,rfl,HW,HP,S1⟩:=hrel
  by_cases hlt:i < n
  ·have i1:(i:Int) < (n:Int):=by omega
   have hdk:dk.size=z:=by have:=HW.out.1;have:=HZ.out;omega
   have ea:((a:Int)+(i:Int)).toNat=a+i:=by omega
   have pa:(0:Int)≤(a:Int)+(i:Int):=by omega
   have ba:(a:Int)+(i:Int) < (z:Int):=by omega
   have ra:IntKind.i64.wrap ((a:Int)+(i:Int))=(a:Int)+(i:Int):=by rw [IntKind.wrap_i64];omega
   have ec:((b:Int)+(i:Int)).toNat=b+i:=by omega
   have pc:(0:Int)≤(b:Int)+(i:Int):=by omega
   have bc:(b:Int)+(i:Int) < (z:Int):=by omega
   have rc:IntKind.i64.wrap ((b:Int)+(i:Int))=(b:Int)+(i:Int):=by rw [IntKind.wrap_i64];omega
   have S2:Aside (SWK enc k w0 blk off (swp dk (a+i) (b+i)) ((wr.drew.setCells blk (off+(a+i)*k) (enc dk[b+i]!)).setCells blk (off+(b+i)*k) (enc dk[a+i]!))):=S1.out.swapped HR.out (a+i) (b+i) (by omega) (by omega)
   have la:=S1.out.ld1 HR.out (by omega) P (a+i) (by omega)
   have lb:=S1.out.ld1 HR.out (by omega) P (b+i) (by omega)
   have sa:=S1.out.st1 HR.out (by omega) P (a+i) (by omega) dk[b+i]!
   have sb:=S1.out.st2 HR.out (by omega) P (a+i) (b+i) (by omega) (by omega) dk[b+i]! dk[a+i]!
   have HW2:=κ9 (HW.out.step (by omega) (by have:=HZ.out;omega))
   have HP2:=κ9 (permIn_trans d dk _ a (b+n) HP.out (swp_permIn dk a (b+n) (a+i) (b+i) (by omega) (by omega) (by omega) (by omega) (by omega)))
   have na:(enc dk[a+i]!).length=k:=HR.out.hk _
   have nb:(enc dk[b+i]!).length=k:=HR.out.hk _
   generalize enc dk[a+i]! = cI at S2 la sb na
   generalize enc dk[b+i]! = cJ at S2 lb sa sb nb
   have hi2:=κ9 hi
   have hn5:n≤100000:=by omega
   clear HW HP S1 hdk hs hb hsz hab hi
   go_wp2_with fail
   go_big_region_o
   clear la lb sa sb
   generalize (wr.drew.setCells blk (off+(a+i)*k) cJ).setCells blk (off+(b+i)*k) cI=w2 at S2 ⊢
   go_wp2_with fail
   go_roundw
   case rel=>exact ⟨i+1,_,by omega,by go_num,HW2,HP2,κ9 S2⟩
   case measure=>simp [intOf];omega
  ·have i1:¬ (i:Int) < (n:Int):=by omega
   obtain rfl:i=n:=by omega
   go_wp2_with fail
   go_end0
   exact ⟨rfl,dk,HW.out,HP.out,S1.out⟩
theorem rotate_any (L:StbL P k) (blk off cap a m b:Nat) (d0 d:Array α) (w0 W:World) (R:RowK enc k w0 blk off d0) (hs:d.size=d0.size) (h:SWK enc k w0 blk off d W) (ham:a < m) (hmb:m < b) (hb:b≤d.size) (hsz:d.size≤100000) (cv:Value) :
  Calls P 239 #[.slice (some ⟨blk,off,none⟩) d.size cap,.int .i64 a,.int .i64 m,.int .i64 b,cv] W fun e w'=>e=.returned (.tuple #[])∧∃ d',Rotated d d' a m b∧PermIn a b d d'∧SWK enc k w0 blk off d' w':=by
 have mixed:=L.mixed;have t0:=L.t0;have a0:=L.a0;have z0:=L.z0;have v0:=L.v0;have t3:=L.t3;have a3:=L.a3;have z3:=L.z3;have v3:=L.v3;have t4:=L.t4;have a4:=L.a4;have z4:=L.z4;have v4:=L.v4;have ts:=L.ts;have asl:=L.asl;have zs:=L.zs;have vs:=L.vs;have tc:=L.tc;have ac:=L.ac;have zc:=L.zc;have vc:=L.vc;have tu:=L.tu;have au:=L.au;have zu:=L.zu;have vu:=L.vu;have aE:=L.aE;have zE:=L.zE
 have esr:∀ args w,(callFunc 255 args).run P w=.ok (.enter 255 args) w:=enters_of L.fsr (by kernel_rfl) rfl
 obtain ⟨z,hz⟩:∃ z,z=d.size:=⟨_,rfl⟩
 rw [←hz] at hs hb hsz ⊢
 have HZ:=κ9 hz
 have S0:=κ9 h
 have HC:Hid (∀ (dk:Array α) (wr:World) (x y n:Nat),dk.size=z→SWK enc k w0 blk off dk wr→x+n≤y→y+n≤z→Calls P 255 #[.slice (some ⟨blk,off,none⟩) z cap,.int .i64 x,.int .i64 y,.int .i64 n,cv] wr fun e w'=>e=.returned (.tuple #[])∧∃ d',Swapped dk d' x y n∧PermIn x (y+n) dk d'∧SWK enc k w0 blk off d' w'):=
  κ9 fun dk wr x y n h1 h2 h3 h4=>by
   have:=swapRange_any L blk off cap x y n d0 dk w0 wr R (by omega) h2 h3 (by omega) (by omega) cv
   rw [h1] at this
   exact this
 clear h hz R hs
 have e1:(m:Int) - (a:Int)=((m - a:Nat):Int):=by omega
 have e2:(b:Int) - (m:Int)=((b - m:Nat):Int):=by omega
 have E1:=κ9 e1
 have E2:=κ9 e2
 clear e1 e2
 go_enter L.fro,Tryz.ntmps239
 go_wp2_with fail
 go_loopw [10,11] (fun v10 v11 wr=>∃ (i j:Nat) (dk:Array α),0 < i∧0 < j∧i≤m - a∧j≤b - m∧v10=.int .i64 i∧v11=.int .i64 j∧dk.size=z∧Hid (∀ x,rotF dk (m - i) m (m+j) x=rotF d a m b x)∧Hid (PermIn a b d dk)∧Hid (SWK enc k w0 blk off dk wr)) (fun v10 v11 _=>(intOf v10).toNat+(intOf v11).toNat)
 case atStart=>exact ⟨m - a,b - m,d,by omega,by omega,by omega,by omega,by rw [E1.out],by rw [E2.out],HZ.out.symm,κ9 (fun x=>by rw [show m - (m - a)=a by omega,show m+(b - m)=b by omega]),κ9 (permIn_refl d a b),S0⟩
 case round=>
  clear S0
  obtain ⟨i,j,dk,hi,hj,hia,hjb,rfl,rfl,hdk0,HW,HP,S1⟩:=hrel
  have hdk:=κ9 hdk0
  clear hdk0
  have p1:(m:Int) - (i:Int)=((m - i:Nat):Int):=by omega
  rcases Nat.lt_trichotomy i j with hlt | heq | hgt
  ·have q1:((i:Int) != (j:Int))=true:=by simp;omega
   have q2:¬ (j:Int) < (i:Int):=by omega
   have p2:(m:Int)+(j:Int) - (i:Int)=((m+j - i:Nat):Int):=by omega
   have p3:(j:Int) - (i:Int)=((j - i:Nat):Int):=by omega
   have P3:=κ9 p3
   have hcon:=HC.out dk wr (m - i) (m+j - i) i hdk.out S1.out (by omega) (by omega)
   rw [←p1,←p2] at hcon
   have HCon:=κ9 hcon
   clear hcon p1 p2 p3
   go_wp2_with fail
   refine HCon.out.mono ?_
   rintro e w1 ⟨rfl,d',hw,hp,hS⟩
   have HW2:Hid (∀ x,rotF d' (m - i) m (m+(j - i)) x=rotF d a m b x):=κ9 (fun x=>by rw [rot_right (by omega) hlt hw x];exact HW.out x)
   have HP2:=κ9 (permIn_trans d dk d' a b HP.out (permIn_mono dk d' (m - i) (m+j - i+i) a b (by omega) (by omega) (by have:=hdk.out;omega) hp))
   have hd':Hid (d'.size=z):=κ9 (by rw [hw.1];exact hdk.out)
   have S2:=κ9 hS
   clear hw hp hS HCon
   go_wp2_with fail
   go_roundw
   case rel=>exact ⟨i,j - i,d',by omega,by omega,by omega,by omega,rfl,by rw [P3.out],hd'.out,HW2,HP2,S2⟩
   case measure=>simp [intOf];omega
  ·subst heq
   have q1:((i:Int) != (i:Int))=false:=by simp
   have hcon:=HC.out dk wr (m - i) m i hdk.out S1.out (by omega) (by omega)
   rw [←p1] at hcon
   have HCon:=κ9 hcon
   clear hcon p1
   go_wp2_with fail
   refine HCon.out.mono ?_
   rintro e w1 ⟨rfl,d',hw,hp,hS⟩
   have HW2:Hid (Rotated d d' a m b):=κ9 ⟨by rw [hw.1,hdk.out];exact HZ.out,fun x=>by rw [rot_same (by omega) hw x];exact HW.out x⟩
   have HP2:=κ9 (permIn_trans d dk d' a b HP.out (permIn_mono dk d' (m - i) (m+i) a b (by omega) (by omega) (by have:=hdk.out;omega) hp))
   have S2:=κ9 hS
   clear hw hp hS HCon
   go_wp2_with fail
   go_end0
   exact ⟨rfl,d',HW2.out,HP2.out,S2.out⟩
  ·have q1:((i:Int) != (j:Int))=true:=by simp;omega
   have q2:(j:Int) < (i:Int):=by omega
   have p3:(i:Int) - (j:Int)=((i - j:Nat):Int):=by omega
   have P3:=κ9 p3
   have hcon:=HC.out dk wr (m - i) m j hdk.out S1.out (by omega) (by omega)
   rw [←p1] at hcon
   have HCon:=κ9 hcon
   clear hcon p1 p3
   go_wp2_with fail
   refine HCon.out.mono ?_
   rintro e w1 ⟨rfl,d',hw,hp,hS⟩
   have HW2:Hid (∀ x,rotF d' (m - (i - j)) m (m+j) x=rotF d a m b x):=κ9 (fun x=>by rw [rot_left (by omega) hgt hw x];exact HW.out x)
   have HP2:=κ9 (permIn_trans d dk d' a b HP.out (permIn_mono dk d' (m - i) (m+j) a b (by omega) (by omega) (by have:=hdk.out;omega) hp))
   have hd':Hid (d'.size=z):=κ9 (by rw [hw.1];exact hdk.out)
   have S2:=κ9 hS
   clear hw hp hS HCon
   go_wp2_with fail
   go_roundw
   case rel=>exact ⟨i - j,j,d',by omega,by omega,by omega,by omega,by rw [P3.out],rfl,hd'.out,HW2,HP2,S2⟩
   case measure=>simp [intOf];omega
variable {P:Program} {k:Nat} {α:Type} [Inhabited α] {enc:α→List Value}
structure Ord (lt:α→α→Bool) (tl E:α→α→Prop):Prop where
 trans:∀ x y z,tl x y→tl y z→tl x z
 yes:∀ x y,E x y→lt y x=true→tl y x
 no:∀ x y,E x y→lt y x=false→tl x y
def SMPost (tl:α→α→Prop) (enc:α→List Value) (k:Nat) (w0:World) (blk off a b:Nat) (d:Array α) (e:Ending) (w':World):Prop:=
 e=.returned (.tuple #[])∧∃ d',PermIn a b d d'∧Srt tl a b d'∧SWK enc k w0 blk off d' w'
theorem symMerge_one (L:StbL P k) (cf:α→α→Int) (tl E:α→α→Prop) (O:Ord (ltOf cf) tl E) (g:Nat) (cb:Array Value) (blk off cap a m b:Nat) (d0 d:Array α) (w0 W:World) (R:RowK enc k w0 blk off d0) (eg:∀ args w,(callFunc g args).run P w=.ok (.enter g args) w) (hC:CmpLays P g cb enc k cf blk off d0.size w0)
  (hs:d.size=d0.size) (h:SWK enc k w0 blk off d W) (ham:m=a+1) (hmb:m < b) (hb:b≤d.size) (hsz:d.size≤100000) (hM:Mrg tl E d a m b) :
  Calls P 202 #[.slice (some ⟨blk,off,none⟩) d.size cap,.int .i64 a,.int .i64 m,.int .i64 b,.func (.func g) #[] cb] W (SMPost tl enc k w0 blk off a b d):=by
 have mixed:=L.mixed;have t0:=L.t0;have a0:=L.a0;have z0:=L.z0;have v0:=L.v0;have t3:=L.t3;have a3:=L.a3;have z3:=L.z3;have v3:=L.v3;have t4:=L.t4;have a4:=L.a4;have z4:=L.z4;have v4:=L.v4;have ts:=L.ts;have asl:=L.asl;have zs:=L.zs;have vs:=L.vs;have tc:=L.tc;have ac:=L.ac;have zc:=L.zc;have vc:=L.vc;have tu:=L.tu;have au:=L.au;have zu:=L.zu;have vu:=L.vu;have aE:=L.aE;have zE:=L.zE
 obtain ⟨z,hz⟩:∃ z,z=d.size:=⟨_,rfl⟩
 rw [←hz] at hb hsz ⊢
 have HZ:=κ9 hz
 have HZ0:=κ9 hs
 have HZ1:Hid (z=d0.size):=κ9 (by rw [hz];exact hs)
 have S0:=κ9 h
 have HR:Aside (RowK enc k w0 blk off d0):=R
 have HC:Aside (CmpLays P g cb enc k cf blk off d0.size w0):=hC
 have HM:=κ9 hM
 have HO:=κ9 O
 clear h hz hs R hC hM O
 have HAM:=κ9 ham
 have q1:(((m:Int) - (a:Int)) == 1)=true:=by simp;omega
 have am1:a < m:=by omega
 clear ham
 go_enter L.fsm,Tryz.ntmps202
 go_wp2_with fail
 go_loopw [10,11] (fun v10 v11 wr=>∃ i j:Nat,v10=.int .i64 i∧v11=.int .i64 j∧m≤i∧i≤j∧j≤b∧Hid (Bin tl d m b d[a]! i j)∧Hid (SWK enc k w0 blk off d wr)) (fun v10 v11 _=>(intOf v11).toNat - (intOf v10).toNat)
 case atStart=>exact ⟨m,b,rfl,rfl,by omega,by omega,by omega,κ9 (Bin.start tl d m b _),S0⟩
 case round=>
  clear S0
  obtain ⟨i,j,rfl,rfl,hi,hij,hj,HB,S1⟩:=hrel
  by_cases hlt:i < j
  ·have i1:(i:Int) < (j:Int):=by omega
   go_upto_region 5 with (fail)
   obtain ⟨h,hh⟩:∃ h:Nat,h=(i+j) / 2:=⟨_,rfl⟩
   rw [show ((i:Int)+(j:Int)) / 2=(h:Int) by omega]
   have h1:i≤h:=by omega
   have h2:h < j:=by omega
   have b0:(0:Int)≤(h:Int):=by omega
   have b1:(h:Int) < (z:Int):=by omega
   have b2:(0:Int)≤(a:Int):=by omega
   have b3:(a:Int) < (z:Int):=by omega
   have b4:(0:Int)≤(m:Int):=by omega
   have b5:(m:Int) < (z:Int):=by omega
   clear hh
   obtain ⟨vx,hvx⟩:∃ x,d[h]! = x:=⟨_,rfl⟩
   obtain ⟨vy,hvy⟩:∃ x,d[a]! = x:=⟨_,rfl⟩
   have lx:=S1.out.ld HR.out HZ0.out P (h) (by have:=HZ.out;omega)
   have ly:=S1.out.ld HR.out HZ0.out P (a) (by have:=HZ.out;omega)
   rw [hvx] at lx
   rw [hvy] at ly
   have hcg:=S1.out.cmp HC.out HZ0.out vx vy
   have CLS:Hid (∀ n os,SWK enc k w0 blk off d (grow (wr.drewN n) os)):=κ9 (fun n os=>S1.out.grown n os)
   have HVX:=κ9 hvx
   have HVY:=κ9 hvy
   clear hvx hvy
   by_cases hlv:cf vx vy < 0
   ·have HLT:Hid (ltOf cf d[h]! d[a]! = true):=κ9 (by rw [HVX.out,HVY.out];exact decide_eq_true hlv)
    have hld:decide (cf vx vy < 0)=true:=decide_eq_true hlv
    clear S1
    go_wp2_with fail
    go_quiet_grown (first | (go_at_fn g;refine Calls.grown_of (hcg _ _)))
    have S2:Hid (SWK enc k w0 blk off d (grow (wr.drewN nq) osq)):=κ9 (CLS.out nq osq)
    clear lx ly hcg CLS HVX HVY
    generalize grow (wr.drewN nq) osq=wt at S2 ⊢
    have HB2:=κ9 (HB.out.up HO.out.trans HM.out.r (by omega) (by omega) (HO.out.yes _ _ (HM.out.e a h (by omega) (by omega) (by omega) (by omega)) HLT.out))
    go_wp2_with fail
    go_roundw
    case rel=>exact ⟨h+1,j,by go_num,rfl,by omega,by omega,by omega,HB2,S2⟩
    case measure=>simp [intOf];omega
   ·have HLT:Hid (ltOf cf d[h]! d[a]! = false):=κ9 (by rw [HVX.out,HVY.out];exact decide_eq_false hlv)
    have hld:decide (cf vx vy < 0)=false:=decide_eq_false hlv
    clear S1
    go_wp2_with fail
    go_quiet_grown (first | (go_at_fn g;refine Calls.grown_of (hcg _ _)))
    have S2:Hid (SWK enc k w0 blk off d (grow (wr.drewN nq) osq)):=κ9 (CLS.out nq osq)
    clear lx ly hcg CLS HVX HVY
    generalize grow (wr.drewN nq) osq=wt at S2 ⊢
    have HB2:=κ9 (HB.out.down HO.out.trans HM.out.r (by omega) (by omega) (HO.out.no _ _ (HM.out.e a h (by omega) (by omega) (by omega) (by omega)) HLT.out))
    go_wp2_with fail
    go_roundw
    case rel=>exact ⟨i,h,rfl,rfl,by omega,by omega,by omega,HB2,S2⟩
    case measure=>simp [intOf];omega
  ·have i1:¬ (i:Int) < (j:Int):=by omega
   have hij2:i=j:=by omega
   have HB0:Hid (Bin tl d m b d[a]! i i):=κ9 (by have:=HB.out;rw [←hij2] at this;exact this)
   clear hij2 HB
   go_wp2_with fail
   go_loopw [13] (fun v13 wr=>∃ (q:Nat) (dk:Array α),a≤q∧q≤i - 1∧v13=.int .i64 q∧Hid (MovedUp d dk a q)∧Hid (PermIn a b d dk)∧Hid (SWK enc k w0 blk off dk wr)) (fun v13 _=>i - (intOf v13).toNat)
   case atStart=>exact ⟨a,d,by omega,by omega,rfl,κ9 (MovedUp.start d a),κ9 (permIn_refl d a b),S1⟩
   case round=>
    clear S1
    obtain ⟨q,dk,hq1,hq2,rfl,HW,HP,S1⟩:=hrel
    have HDK:Hid (dk.size=z):=κ9 (by have:=HW.out.1;have:=HZ.out;omega)
    by_cases hlt2:q < i - 1
    ·have q2:(q:Int) < (i:Int) - 1:=by omega
     have HW2:=κ9 (HW.out.step hq1 (by have:=HZ.out;omega))
     have HP2:=κ9 (permIn_trans d dk _ a b HP.out (swp_permIn dk a b q (q+1) (by omega) (by omega) (by omega) (by omega) (by have:=HDK.out;omega)))
     have ea:((q:Int)).toNat=q:=by omega
     have pa:(0:Int)≤(q:Int):=by omega
     have ba:(q:Int) < (z:Int):=by omega
     have ra:IntKind.i64.wrap ((q:Int))=(q:Int):=by rw [IntKind.wrap_i64];omega
     have ec:((q:Int)+1).toNat=q+1:=by omega
     have pc:(0:Int)≤(q:Int)+1:=by omega
     have bc:(q:Int)+1 < (z:Int):=by omega
     have rc:IntKind.i64.wrap ((q:Int)+1)=(q:Int)+1:=by rw [IntKind.wrap_i64];omega
     have S2:Aside (SWK enc k w0 blk off (swp dk (q) (q+1)) ((wr.drew.setCells blk (off+(q)*k) (enc dk[q+1]!)).setCells blk (off+(q+1)*k) (enc dk[q]!))):=S1.out.swapped HR.out (q) (q+1) (by have:=HDK.out;omega) (by have:=HDK.out;omega)
     have la:=S1.out.ld1 HR.out (by rw [HDK.out];exact HZ1.out) P (q) (by have:=HDK.out;omega)
     have lb:=S1.out.ld1 HR.out (by rw [HDK.out];exact HZ1.out) P (q+1) (by have:=HDK.out;omega)
     have sa:=S1.out.st1 HR.out (by rw [HDK.out];exact HZ1.out) P (q) (by have:=HDK.out;omega) dk[q+1]!
     have sb:=S1.out.st2 HR.out (by rw [HDK.out];exact HZ1.out) P (q) (q+1) (by have:=HDK.out;omega) (by have:=HDK.out;omega) dk[q+1]! dk[q]!
     have na:(enc dk[q]!).length=k:=HR.out.hk _
     have nb:(enc dk[q+1]!).length=k:=HR.out.hk _
     generalize enc dk[q]! = cI at S2 la sb na
     generalize enc dk[q+1]! = cJ at S2 lb sa sb nb
     clear S1
     go_wp2_with fail
     go_big_region_o
     clear la lb sa sb ra rc ea ec
     generalize (wr.drew.setCells blk (off+(q)*k) cJ).setCells blk (off+(q+1)*k) cI=w2 at S2 ⊢
     go_wp2_with fail
     go_roundw
     case rel=>exact ⟨q+1,_,by omega,by omega,by go_num,HW2,HP2,κ9 S2⟩
     case measure=>simp [intOf];omega
    ·have q2:¬ (q:Int) < (i:Int) - 1:=by omega
     have hqe:q=i - 1:=by omega
     have HQE:=κ9 hqe
     clear hqe
     go_wp2_with fail
     go_end0
     exact ⟨rfl,dk,HP.out,MovedUp.srt (by have:=HW.out;rw [HQE.out] at this;exact this) (by omega) (by omega) (by have:=HM.out.r;rw [HAM.out] at this;exact this) (fun x h1 h2=>HB0.out.1 x (by have:=HAM.out;omega) h2) (fun x h1 h2=>HB0.out.2 x h1 h2),S1.out⟩
theorem symMerge_last (L:StbL P k) (cf:α→α→Int) (tl E:α→α→Prop) (O:Ord (ltOf cf) tl E) (g:Nat) (cb:Array Value) (blk off cap a m b:Nat) (d0 d:Array α) (w0 W:World) (R:RowK enc k w0 blk off d0) (eg:∀ args w,(callFunc g args).run P w=.ok (.enter g args) w) (hC:CmpLays P g cb enc k cf blk off d0.size w0)
  (hs:d.size=d0.size) (h:SWK enc k w0 blk off d W) (ham:a+1 < m) (hmb:b=m+1) (hb:b≤d.size) (hsz:d.size≤100000) (hM:Mrg tl E d a m b) :
  Calls P 202 #[.slice (some ⟨blk,off,none⟩) d.size cap,.int .i64 a,.int .i64 m,.int .i64 b,.func (.func g) #[] cb] W (SMPost tl enc k w0 blk off a b d):=by
 have mixed:=L.mixed;have t0:=L.t0;have a0:=L.a0;have z0:=L.z0;have v0:=L.v0;have t3:=L.t3;have a3:=L.a3;have z3:=L.z3;have v3:=L.v3;have t4:=L.t4;have a4:=L.a4;have z4:=L.z4;have v4:=L.v4;have ts:=L.ts;have asl:=L.asl;have zs:=L.zs;have vs:=L.vs;have tc:=L.tc;have ac:=L.ac;have zc:=L.zc;have vc:=L.vc;have tu:=L.tu;have au:=L.au;have zu:=L.zu;have vu:=L.vu;have aE:=L.aE;have zE:=L.zE
 obtain ⟨z,hz⟩:∃ z,z=d.size:=⟨_,rfl⟩
 rw [←hz] at hb hsz ⊢
 have HZ:=κ9 hz
 have HZ0:=κ9 hs
 have HZ1:Hid (z=d0.size):=κ9 (by rw [hz];exact hs)
 have S0:=κ9 h
 have HR:Aside (RowK enc k w0 blk off d0):=R
 have HC:Aside (CmpLays P g cb enc k cf blk off d0.size w0):=hC
 have HM:=κ9 hM
 have HO:=κ9 O
 clear h hz hs R hC hM O
 have HAM:=κ9 hmb
 have q1:(((m:Int) - (a:Int)) == 1)=false:=by simp;omega
 have q1':(((b:Int) - (m:Int)) == 1)=true:=by simp;omega
 have am1:m < b:=by omega
 clear hmb
 go_enter L.fsm,Tryz.ntmps202
 go_wp2_with fail
 go_loopw [14,15] (fun v10 v11 wr=>∃ i j:Nat,v10=.int .i64 i∧v11=.int .i64 j∧a≤i∧i≤j∧j≤m∧Hid (Bin tl d a m d[m]! i j)∧Hid (SWK enc k w0 blk off d wr)) (fun v10 v11 _=>(intOf v11).toNat - (intOf v10).toNat)
 case atStart=>exact ⟨a,m,rfl,rfl,by omega,by omega,by omega,κ9 (Bin.start tl d a m _),S0⟩
 case round=>
  clear S0
  obtain ⟨i,j,rfl,rfl,hi,hij,hj,HB,S1⟩:=hrel
  by_cases hlt:i < j
  ·have i1:(i:Int) < (j:Int):=by omega
   go_upto_region 17 with (fail)
   obtain ⟨h,hh⟩:∃ h:Nat,h=(i+j) / 2:=⟨_,rfl⟩
   rw [show ((i:Int)+(j:Int)) / 2=(h:Int) by omega]
   have h1:i≤h:=by omega
   have h2:h < j:=by omega
   have b0:(0:Int)≤(h:Int):=by omega
   have b1:(h:Int) < (z:Int):=by omega
   have b2:(0:Int)≤(a:Int):=by omega
   have b3:(a:Int) < (z:Int):=by omega
   have b4:(0:Int)≤(m:Int):=by omega
   have b5:(m:Int) < (z:Int):=by omega
   clear hh
   obtain ⟨vx,hvx⟩:∃ x,d[m]! = x:=⟨_,rfl⟩
   obtain ⟨vy,hvy⟩:∃ x,d[h]! = x:=⟨_,rfl⟩
   have lx:=S1.out.ld HR.out HZ0.out P (m) (by have:=HZ.out;omega)
   have ly:=S1.out.ld HR.out HZ0.out P (h) (by have:=HZ.out;omega)
   rw [hvx] at lx
   rw [hvy] at ly
   have hcg:=S1.out.cmp HC.out HZ0.out vx vy
   have CLS:Hid (∀ n os,SWK enc k w0 blk off d (grow (wr.drewN n) os)):=κ9 (fun n os=>S1.out.grown n os)
   have HVX:=κ9 hvx
   have HVY:=κ9 hvy
   clear hvx hvy
   by_cases hlv:cf vx vy < 0
   ·have HLT:Hid (ltOf cf d[m]! d[h]! = true):=κ9 (by rw [HVX.out,HVY.out];exact decide_eq_true hlv)
    have hld:decide (cf vx vy < 0)=true:=decide_eq_true hlv
    clear S1
    go_wp2_with fail
    go_quiet_grown (first | (go_at_fn g;refine Calls.grown_of (hcg _ _)))
    have S2:Hid (SWK enc k w0 blk off d (grow (wr.drewN nq) osq)):=κ9 (CLS.out nq osq)
    clear lx ly hcg CLS HVX HVY
    generalize grow (wr.drewN nq) osq=wt at S2 ⊢
    have HB2:=κ9 (HB.out.down HO.out.trans HM.out.l (by omega) (by omega) (HO.out.yes _ _ (HM.out.e h m (by omega) (by omega) (by omega) (by omega)) HLT.out))
    go_wp2_with fail
    go_roundw
    case rel=>exact ⟨i,h,rfl,rfl,by omega,by omega,by omega,HB2,S2⟩
    case measure=>simp [intOf];omega
   ·have HLT:Hid (ltOf cf d[m]! d[h]! = false):=κ9 (by rw [HVX.out,HVY.out];exact decide_eq_false hlv)
    have hld:decide (cf vx vy < 0)=false:=decide_eq_false hlv
    clear S1
    go_wp2_with fail
    go_quiet_grown (first | (go_at_fn g;refine Calls.grown_of (hcg _ _)))
    have S2:Hid (SWK enc k w0 blk off d (grow (wr.drewN nq) osq)):=κ9 (CLS.out nq osq)
    clear lx ly hcg CLS HVX HVY
    generalize grow (wr.drewN nq) osq=wt at S2 ⊢
    have HB2:=κ9 (HB.out.up HO.out.trans HM.out.l (by omega) (by omega) (HO.out.no _ _ (HM.out.e h m (by omega) (by omega) (by omega) (by omega)) HLT.out))
    go_wp2_with fail
    go_roundw
    case rel=>exact ⟨h+1,j,by go_num,rfl,by omega,by omega,by omega,HB2,S2⟩
    case measure=>simp [intOf];omega
  ·have i1:¬ (i:Int) < (j:Int):=by omega
   have hij2:i=j:=by omega
   have HB0:Hid (Bin tl d a m d[m]! i i):=κ9 (by have:=HB.out;rw [←hij2] at this;exact this)
   clear hij2 HB
   go_wp2_with fail
   go_loopw [17] (fun v13 wr=>∃ (q:Nat) (dk:Array α),i≤q∧q≤m∧v13=.int .i64 q∧Hid (MovedDown d dk m q)∧Hid (PermIn a b d dk)∧Hid (SWK enc k w0 blk off dk wr)) (fun v13 _=>(intOf v13).toNat)
   case atStart=>exact ⟨m,d,by omega,by omega,rfl,κ9 (MovedDown.start d m),κ9 (permIn_refl d a b),S1⟩
   case round=>
    clear S1
    obtain ⟨q,dk,hq1,hq2,rfl,HW,HP,S1⟩:=hrel
    have HDK:Hid (dk.size=z):=κ9 (by have:=HW.out.1;have:=HZ.out;omega)
    by_cases hlt2:i < q
    ·obtain ⟨r,rfl⟩:∃ r,q=r+1:=⟨q - 1,by omega⟩
     have q2:(i:Int) < (r:Int)+1:=by omega
     have HW2:=κ9 (HW.out.step hq2 (by have:=HZ.out;omega))
     have HP2:=κ9 (permIn_trans d dk _ a b HP.out (swp_permIn dk a b (r+1) r (by omega) (by omega) (by omega) (by omega) (by have:=HDK.out;omega)))
     rw [show (((r+1:Nat)):Int)=(r:Int)+1 by omega]
     have r0:(r:Int)+1 - 1=(r:Int):=by omega
     have ea:((r:Int)+1).toNat=r+1:=by omega
     have pa:(0:Int)≤(r:Int)+1:=by omega
     have ba:(r:Int)+1 < (z:Int):=by omega
     have ra:IntKind.i64.wrap ((r:Int)+1)=(r:Int)+1:=by rw [IntKind.wrap_i64];omega
     have ec:((r:Int)).toNat=r:=by omega
     have pc:(0:Int)≤(r:Int):=by omega
     have bc:(r:Int) < (z:Int):=by omega
     have rc:IntKind.i64.wrap ((r:Int))=(r:Int):=by rw [IntKind.wrap_i64];omega
     have S2:Aside (SWK enc k w0 blk off (swp dk (r+1) (r)) ((wr.drew.setCells blk (off+(r+1)*k) (enc dk[r]!)).setCells blk (off+(r)*k) (enc dk[r+1]!))):=S1.out.swapped HR.out (r+1) (r) (by have:=HDK.out;omega) (by have:=HDK.out;omega)
     have la:=S1.out.ld1 HR.out (by rw [HDK.out];exact HZ1.out) P (r+1) (by have:=HDK.out;omega)
     have lb:=S1.out.ld1 HR.out (by rw [HDK.out];exact HZ1.out) P (r) (by have:=HDK.out;omega)
     have sa:=S1.out.st1 HR.out (by rw [HDK.out];exact HZ1.out) P (r+1) (by have:=HDK.out;omega) dk[r]!
     have sb:=S1.out.st2 HR.out (by rw [HDK.out];exact HZ1.out) P (r+1) (r) (by have:=HDK.out;omega) (by have:=HDK.out;omega) dk[r]! dk[r+1]!
     have na:(enc dk[r+1]!).length=k:=HR.out.hk _
     have nb:(enc dk[r]!).length=k:=HR.out.hk _
     generalize enc dk[r+1]! = cI at S2 la sb na
     generalize enc dk[r]! = cJ at S2 lb sa sb nb
     clear S1
     go_wp2_with fail
     go_big_region_o
     clear la lb sa sb ra rc ea ec
     generalize (wr.drew.setCells blk (off+(r+1)*k) cJ).setCells blk (off+(r)*k) cI=w2 at S2 ⊢
     go_wp2_with fail
     go_roundw
     case rel=>exact ⟨r,_,by omega,by omega,by first | rfl | go_num,HW2,HP2,κ9 S2⟩
     case measure=>simp [intOf] <;> omega
    ·have q2:¬ (i:Int) < (q:Int):=by omega
     have hqe:q=i:=by omega
     have HQE:=κ9 hqe
     clear hqe
     go_wp2_with fail
     go_end0
     refine ⟨rfl,dk,HP.out,?_,S1.out⟩
     have hmb:=HAM.out
     subst hmb
     exact MovedDown.srt (by have:=HW.out;rw [HQE.out] at this;exact this) (by omega) (by omega) HM.out.l (fun x h1 h2=>HB0.out.1 x h1 h2) (fun x h1 h2=>HB0.out.2 x h1 h2)
end Go.Proofs.YtjekalilfhnpmaaGreatDoor
