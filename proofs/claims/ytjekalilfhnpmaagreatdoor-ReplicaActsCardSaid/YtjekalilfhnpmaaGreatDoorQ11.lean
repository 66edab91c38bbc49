/- The library's stable sort: two runs merged, the general case: the walk. The library's stable sort, whole: the walk. -/
import Derived.Test.YtjekalilfhnpmaaGreatDoorQ01
import Derived.Test.YtjekalilfhnpmaaGreatDoorQ10
theorem Go.Proofs.YtjekalilfhnpmaaGreatDoor.κ11 {p:Prop} (h:p):Go.RowKit.Hid p:=Go.Lib.hid h
namespace Go.Proofs.YtjekalilfhnpmaaGreatDoor
open Go Go.RowKit Go.Shelf Go.Lib Go.Sort Stb
set_option linter.unusedVariables false
set_option linter.unusedSimpArgs false
set_option maxHeartbeats 4000000
set_option maxRecDepth 1000000
variable {P:Program} {k:Nat} {α:Type} [Inhabited α] {enc:α→List Value}
theorem symMerge_gen (L:StbL P k) (cf:α→α→Int) (tl E:α→α→Prop) (O:Ord (ltOf cf) tl E) (g:Nat) (cb:Array Value) (blk off cap a m b:Nat) (d0 d:Array α) (w0 W:World) (R:RowK enc k w0 blk off d0) (eg:∀ args w,(callFunc g args).run P w=.ok (.enter g args) w) (hC:CmpLays P g cb enc k cf blk off d0.size w0)
  (hs:d.size=d0.size) (h:SWK enc k w0 blk off d W) (N:Nat) (IH:∀ (a m b:Nat) (dk:Array α) (wr:World),b - a≤N→dk.size=d0.size→SWK enc k w0 blk off dk wr→a < m→m < b→b≤dk.size→dk.size≤100000→Mrg tl E dk a m b→
   Calls P 202 #[.slice (some ⟨blk,off,none⟩) dk.size cap,.int .i64 a,.int .i64 m,.int .i64 b,.func (.func g) #[] cb] wr (SMPost tl enc k w0 blk off a b dk))
  (hN:b - a≤N+1) (ham:a+1 < m) (hmb:m+1 < b) (hb:b≤d.size) (hsz:d.size≤100000) (hM:Mrg tl E d a m b) :
  Calls P 202 #[.slice (some ⟨blk,off,none⟩) d.size cap,.int .i64 a,.int .i64 m,.int .i64 b,.func (.func g) #[] cb] W (SMPost tl enc k w0 blk off a b d):=by
 have mixed:=L.mixed;have t0:=L.t0;have a0:=L.a0;have z0:=L.z0;have v0:=L.v0;have t3:=L.t3;have a3:=L.a3;have z3:=L.z3;have v3:=L.v3;have t4:=L.t4;have a4:=L.a4;have z4:=L.z4;have v4:=L.v4;have ts:=L.ts;have asl:=L.asl;have zs:=L.zs;have vs:=L.vs;have tc:=L.tc;have ac:=L.ac;have zc:=L.zc;have vc:=L.vc;have tu:=L.tu;have au:=L.au;have zu:=L.zu;have vu:=L.vu;have aE:=L.aE;have zE:=L.zE
 obtain ⟨z,hz⟩:∃ z,z=d.size:=⟨_,rfl⟩
 rw [←hz] at hb hsz ⊢
 have HZ:=κ11 hz
 have HZ0:=κ11 hs
 have HZ1:Hid (z=d0.size):=κ11 (by rw [hz];exact hs)
 have S0:=κ11 h
 have HR:Aside (RowK enc k w0 blk off d0):=R
 have HC:Aside (CmpLays P g cb enc k cf blk off d0.size w0):=hC
 have HM:=κ11 hM
 have HO:=κ11 O
 have HRo:Hid (∀ (dk:Array α) (wr:World) (s e:Nat),dk.size=z→SWK enc k w0 blk off dk wr→s < m→m < e→e≤z→Calls P 239 #[.slice (some ⟨blk,off,none⟩) z cap,.int .i64 s,.int .i64 m,.int .i64 e,.func (.func g) #[] cb] wr fun e' w'=>e'=.returned (.tuple #[])∧∃ d',Rotated dk d' s m e∧PermIn s e dk d'∧SWK enc k w0 blk off d' w'):=
  κ11 fun dk wr s e h1 h2 h3 h4 h5=>by
   have:=rotate_any L blk off cap s m e d0 dk w0 wr R (by omega) h2 h3 h4 (by omega) (by omega) (.func (.func g) #[] cb)
   rw [h1] at this
   exact this
 have HIH:Hid (∀ (a' m' b':Nat) (dk:Array α) (wr:World),b' - a'≤N→dk.size=z→SWK enc k w0 blk off dk wr→a' < m'→m' < b'→b'≤z→Mrg tl E dk a' m' b'→
   Calls P 202 #[.slice (some ⟨blk,off,none⟩) z cap,.int .i64 a',.int .i64 m',.int .i64 b',.func (.func g) #[] cb] wr (SMPost tl enc k w0 blk off a' b' dk)):=
  κ11 fun a' m' b' dk wr h1 h2 h3 h4 h5 h6 h7=>by
   have:=IH a' m' b' dk wr h1 (by omega) h3 h4 h5 (by omega) (by omega) h7
   rw [h2] at this
   exact this
 have ero:∀ args w,(callFunc 239 args).run P w=.ok (.enter 239 args) w:=enters_of L.fro (by kernel_rfl) rfl
 have esm:∀ args w,(callFunc 202 args).run P w=.ok (.enter 202 args) w:=enters_of L.fsm (by kernel_rfl) rfl
 clear h hz hs R hC hM O IH
 have q1:(((m:Int) - (a:Int)) == 1)=false:=by simp;omega
 have q1':(((b:Int) - (m:Int)) == 1)=false:=by simp;omega
 have ab0:a+1 < m:=ham
 clear ham
 obtain ⟨mid,hmid⟩:∃ mid,mid=(a+b) / 2:=⟨_,rfl⟩
 have em:((a:Int)+(b:Int)) / 2=(mid:Int):=by omega
 have EM:=κ11 em
 have HMID:=κ11 hmid
 have mid1:a < mid:=by omega
 have mid2:mid < b:=by omega
 clear hmid em
 go_enter L.fsm,Tryz.ntmps202
 go_upto_region 25 with (fail)
 rw [EM.out]
 clear EM
 go_upto_if 140 with (fail)
 go_cut [20,21] (fun v20 v21 wc=>∃ s0 r0:Nat,v20=.int .i64 s0∧v21=.int .i64 r0∧Hid (Sr a m b mid s0 r0)∧W=wc)
 case first=>
  by_cases hlt:mid < m
  ·have i1:(mid:Int) < (m:Int):=by omega
   have e1:(mid:Int)+(m:Int) - (b:Int)=((mid+m - b:Nat):Int):=by have:=HMID.out;omega
   have E1:=κ11 e1
   clear e1
   go_wp2_with fail
   go_meet
   case rel=>exact ⟨mid+m - b,mid,by rw [E1.out],rfl,κ11 ⟨by omega,by omega,HMID.out,.inl ⟨hlt,rfl,rfl⟩⟩,rfl⟩
  ·have i1:¬ (mid:Int) < (m:Int):=by omega
   go_wp2_with fail
   go_meet
   case rel=>exact ⟨a,m,rfl,rfl,κ11 ⟨by omega,by omega,HMID.out,.inr ⟨by omega,rfl,rfl⟩⟩,rfl⟩
 case rest=>
  obtain ⟨s0,r0,rfl,rfl,HSr,rfl⟩:=hcut
  go_upto_region 33 with (fail)
  obtain ⟨p,hp⟩:∃ p,p=mid+m - 1:=⟨_,rfl⟩
  rw [show (mid:Int)+(m:Int) - 1=(p:Int) by omega]
  have HPE:=κ11 hp
  have hp2:p+1=mid+m:=by omega
  clear hp
  have hs0:=HSr.out.bounds.2.1
  have hr0:=HSr.out.bounds.2.2.1
  go_loopw [20,21] (fun v20 v21 wr=>∃ s r:Nat,v20=.int .i64 s∧v21=.int .i64 r∧s0≤s∧s≤r∧r≤r0∧Hid (Bin2 tl d s0 r0 (mid+m - 1) s r)∧Hid (SWK enc k w0 blk off d wr)) (fun v20 v21 _=>(intOf v21).toNat - (intOf v20).toNat)
  case atStart=>exact ⟨s0,r0,rfl,rfl,Nat.le_refl _,hs0,Nat.le_refl _,κ11 (Bin2.start tl d s0 r0 _),S0⟩
  case round=>
   clear S0
   obtain ⟨s,r,rfl,rfl,hs1,hsr,hr1,HB,S1⟩:=hrel
   by_cases hlt:s < r
   ·have i1:(s:Int) < (r:Int):=by omega
    go_upto_region 35 with (fail)
    obtain ⟨c,hh⟩:∃ c:Nat,c=(s+r) / 2:=⟨_,rfl⟩
    rw [show ((s:Int)+(r:Int)) / 2=(c:Int) by omega]
    have h1:s≤c:=by omega
    have h2:c < r:=by omega
    have hB:=HSr.out.bounds.2.2.2 c (by omega) (by omega)
    have hpe:=HPE.out
    have hBb:=HSr.out.bounds
    have b0:(0:Int)≤(c:Int):=by omega
    have b1:(c:Int) < (z:Int):=by omega
    have b2:(0:Int)≤(p:Int) - (c:Int):=by omega
    have b3:(p:Int) - (c:Int) < (z:Int):=by omega
    have b4:IntKind.i64.wrap ((p:Int) - (c:Int))=(p:Int) - (c:Int):=by rw [IntKind.wrap_i64];omega
    have b5:((p:Int) - (c:Int)).toNat=p - c:=by omega
    have b6:(c:Int)≤(p:Int):=by omega
    have hpc:p - c < z:=by omega
    have hmc:m≤p - c∧p - c < b:=by omega
    have hcm:a≤c∧c < m:=by omega
    clear hh hB hpe hBb
    obtain ⟨vx,hvx⟩:∃ x,d[p - c]! = x:=⟨_,rfl⟩
    obtain ⟨vy,hvy⟩:∃ x,d[c]! = x:=⟨_,rfl⟩
    have lx:=S1.out.ld HR.out HZ0.out P (p - c) (by have:=HZ.out;omega)
    have ly:=S1.out.ld HR.out HZ0.out P (c) (by have:=HZ.out;omega)
    rw [hvx] at lx
    rw [hvy] at ly
    have hcg:=S1.out.cmp HC.out HZ0.out vx vy
    have CLS:Hid (∀ n os,SWK enc k w0 blk off d (grow (wr.drewN n) os)):=κ11 (fun n os=>S1.out.grown n os)
    have HVX:=κ11 hvx
    have HVY:=κ11 hvy
    clear hvx hvy
    by_cases hlv:cf vx vy < 0
    ·have HLT:Hid (ltOf cf d[p - c]! d[c]! = true):=κ11 (by rw [HVX.out,HVY.out];exact decide_eq_true hlv)
     have hld:decide (cf vx vy < 0)=true:=decide_eq_true hlv
     clear S1
     go_wp2_with fail
     go_quiet_grown (first | (go_at_fn g;refine Calls.grown_of (hcg _ _)))
     have S2:Hid (SWK enc k w0 blk off d (grow (wr.drewN nq) osq)):=κ11 (CLS.out nq osq)
     clear lx ly hcg CLS HVX HVY
     generalize grow (wr.drewN nq) osq=wt at S2 ⊢
     have HB2:=κ11 (HB.out.down HO.out.trans HSr.out HM.out (c:=c) (by omega) (by omega) (by rw [←HPE.out];exact HO.out.yes _ _ (HM.out.e c (p - c) hcm.1 hcm.2 hmc.1 hmc.2) HLT.out))
     clear b4 b5 b6
     go_wp2_with fail
     go_roundw
     case rel=>exact ⟨s,c,rfl,rfl,by omega,by omega,by omega,HB2,S2⟩
     case measure=>simp [intOf];omega
    ·have HLT:Hid (ltOf cf d[p - c]! d[c]! = false):=κ11 (by rw [HVX.out,HVY.out];exact decide_eq_false hlv)
     have hld:decide (cf vx vy < 0)=false:=decide_eq_false hlv
     clear S1
     go_wp2_with fail
     go_quiet_grown (first | (go_at_fn g;refine Calls.grown_of (hcg _ _)))
     have S2:Hid (SWK enc k w0 blk off d (grow (wr.drewN nq) osq)):=κ11 (CLS.out nq osq)
     clear lx ly hcg CLS HVX HVY
     generalize grow (wr.drewN nq) osq=wt at S2 ⊢
     have HB2:=κ11 (HB.out.up HO.out.trans HSr.out HM.out (c:=c) (by omega) (by omega) (by rw [←HPE.out];exact HO.out.no _ _ (HM.out.e c (p - c) hcm.1 hcm.2 hmc.1 hmc.2) HLT.out))
     clear b4 b5 b6
     go_wp2_with fail
     go_roundw
     case rel=>exact ⟨c+1,r,by go_num,rfl,by omega,by omega,by omega,HB2,S2⟩
     case measure=>simp [intOf];omega
   ·have i1:¬ (s:Int) < (r:Int):=by omega
    have hsre:s=r:=by omega
    have HT:=κ11 (fun d1=>Bin2.turn (d1:=d1) (E:=E) HO.out.trans HSr.out (by have:=HB.out;rw [←hsre] at this;exact this) HM.out hs1 (by omega))
    obtain ⟨e,he⟩:∃ e,e=mid+m - s:=⟨_,rfl⟩
    have ht0:=HT.out d
    have ht1:=ht0.1
    have ht2:=ht0.2.1
    have ht3:=ht0.2.2.1
    have ht4:=ht0.2.2.2.1
    have ht5:=ht0.2.2.2.2.1
    have ee:(mid:Int)+(m:Int) - (s:Int)=(e:Int):=by omega
    have EE:=κ11 ee
    have HEq:=κ11 he
    have he3:m≤e:=by omega
    have he4:e≤b:=by omega
    have he5:s≤mid:=by omega
    have he6:mid≤e:=by omega
    have HPa:Hid (∀ d1,Rotated d d1 s m e→Parts (tl:=tl) (E:=E) d1 a s mid e b):=κ11 fun d1 hr=>by
     have h:=(HT.out d1).2.2.2.2.2
     rw [←he] at h
     exact h hr
    have hs2:s≤m:=ht2
    have has:a≤s:=ht1
    clear HT he ht0 ht1 ht2 ht3 ht4 ht5 ee HB hsre hr1 hsr
    go_upto_region 39 with (fail)
    rw [EE.out]
    exact tail39 L cf tl E g cb blk off cap a m b mid s e z N d w0 wr _ _ _ _ _ _ _ _ _ _ _ _ _ _ _ _ _ _ _ _ _ _ _ _ _ _ _ _ _ _ _ _ _ _ _ _ _ _ _ _ _ _ _ _ _ _ _ _ _ _ _ _ _ _ _ _ _ _ _ _ _ _ _ _ _ _ _ _ _ _ _ _ _ _ _ _ _ _ _ _ _ _ _ _ _ _ _ _ _ _ _ _ _ _ _ _ _ _ _ _ _ _ _ _ _ _ _ _ _ _ _ _ _ _ _ _ _ _ _ _ _ _ _ _ _ _ _ _ _ _ _ _ _ _ _ _ _ _ _ _ _ _ _ _ _ _ _ _ _ _ _ _ _ _ _ _ _ _ _ _ _ _ _ _ _ _ _ _ _ _ _ _ _ _ _ _ _ _ _ _ _ _ _ _ _ _ _ _ _ _ _ _ _ _ _ _ _ _ _ _ _ _ _ _ _ _ _ _ _ _ _ _ hsz HZ.out.symm hb mid1 mid2 he6 he4 he5 has hs2 he3 hN HIH.out HRo.out HPa.out S1.out _ _ (by assumption) (by assumption)
theorem symMerge_any (L:StbL P k) (cf:α→α→Int) (tl E:α→α→Prop) (O:Ord (ltOf cf) tl E) (g:Nat) (cb:Array Value) (blk off cap:Nat) (d0:Array α) (w0:World) (R:RowK enc k w0 blk off d0) (eg:∀ args w,(callFunc g args).run P w=.ok (.enter g args) w) (hC:CmpLays P g cb enc k cf blk off d0.size w0) :
  ∀ (N a m b:Nat) (d:Array α) (W:World),b - a≤N→d.size=d0.size→SWK enc k w0 blk off d W→a < m→m < b→b≤d.size→d.size≤100000→Mrg tl E d a m b→
   Calls P 202 #[.slice (some ⟨blk,off,none⟩) d.size cap,.int .i64 a,.int .i64 m,.int .i64 b,.func (.func g) #[] cb] W (SMPost tl enc k w0 blk off a b d)
 | 0,a,m,b,d,W,hN,_,_,ham,hmb,_,_,_=>by omega
 | N+1,a,m,b,d,W,hN,hs,h,ham,hmb,hb,hsz,hM=>by
  by_cases h1:m=a+1
  ·exact symMerge_one L cf tl E O g cb blk off cap a m b d0 d w0 W R eg hC hs h h1 hmb hb hsz hM
  ·by_cases h2:b=m+1
   ·exact symMerge_last L cf tl E O g cb blk off cap a m b d0 d w0 W R eg hC hs h (by omega) h2 hb hsz hM
   ·exact symMerge_gen L cf tl E O g cb blk off cap a m b d0 d w0 W R eg hC hs h N (symMerge_any L cf tl E O g cb blk off cap d0 w0 R eg hC N) hN (by omega) (by omega) hb hsz hM
namespace Stb
variable {α:Type} [Inhabited α] {lt:α→α→Bool} {tag:α→Nat}
theorem Dis.of_ear {d:Array α} (h:∀ p q,p < q→q < d.size→Ear tag d[p]! d[q]!):Dis tag d:=by
 unfold Dis
 rw [List.nodup_iff_pairwise_ne,List.pairwise_map,List.pairwise_iff_getElem]
 intro i j hi hj hij
 have:=h i j hij (by simpa using hj)
 unfold Ear at this
 simp at hi hj
 simp [getElem!_pos,hi,hj] at this ⊢
 omega
structure Ins1 (lt:α→α→Bool) (tag:α→Nat) (d0:Array α) (a:Nat) (d:Array α):Prop where
 dv:20 ∣ a
 le:a≤d0.size
 beh:Behind (TL lt tag) (Ear tag) 20 a d
 cut:∀ x,20 ∣ x→Cut (Ear tag) d x
 ear:∀ p q,a≤p→p < q→q < d0.size→Ear tag d[p]! d[q]!
 dis:Dis tag d
 perm:PermIn 0 d0.size d0 d
theorem Ins1.start (d0:Array α) (h:∀ p q,p < q→q < d0.size→Ear tag d0[p]! d0[q]!):Ins1 lt tag d0 0 d0:=
 ⟨⟨0,rfl⟩,by omega,Behind.none _ _ _ _,fun x _ i j h1 h2 h3=>h i j (by omega) h3,fun p q _ h2 h3=>h p q h2 h3,Dis.of_ear h,permIn_refl _ _ _⟩
theorem Ins1.step {d0 d:Array α} {a:Nat} (h:Ins1 lt tag d0 a d) (hS:SWO lt) (ha:a+20≤d0.size):Ins1 lt tag d0 (a+20) (insertionSort lt d a (a+20)):=by
 have hz:=h.perm.1
 have hi:=insertion_stable (tag:=tag) hS d a (a+20) (by omega) (by omega) h.dis (fun p q h1 h2 h3=>h.ear p q h1 h2 (by omega))
 have e:min (a+20) d.size=a+20:=Nat.min_eq_left (by omega)
 refine ⟨Nat.dvd_add h.dv ⟨1,rfl⟩,ha,h.beh.add (by omega) h.dv (h.cut a h.dv) (by rw [e];exact hi.1) (by rw [e];exact hi.2),fun x hx=>(h.cut x hx).perm (by omega) hi.1 ?_,fun p q h1 h2 h3=>?_,h.dis.perm (by omega) hi.1,permIn_trans d0 d _ _ _ h.perm (permIn_mono d _ a (a+20) 0 d0.size (by omega) (by omega) (by omega) hi.1)⟩
 ·by_cases hc:x≤a
  ·exact .inl hc
  ·exact .inr (dvd_apart h.dv hx (by omega))
 ·rw [hi.1.2.1 p (.inr h1),hi.1.2.1 q (.inr (by omega))]
  exact h.ear p q (by omega) h2 h3
theorem Ins1.last {d0 d:Array α} {a:Nat} (h:Ins1 lt tag d0 a d) (hS:SWO lt) (ha:d0.size < a+20):PermIn 0 d0.size d0 (insertionSort lt d a d0.size)∧Behind (TL lt tag) (Ear tag) 20 d0.size (insertionSort lt d a d0.size):=by
 have hz:=h.perm.1
 have hi:=insertion_stable (tag:=tag) hS d a d0.size h.le (by omega) h.dis (fun p q h1 h2 h3=>h.ear p q h1 h2 h3)
 have e:min (a+20) d.size=d0.size:=by rw [Nat.min_eq_right (by omega)];exact hz
 have hb:=h.beh.add (by omega) h.dv (h.cut a h.dv) (by rw [e];exact hi.1) (by rw [e];exact hi.2)
 have hb2:=hb.all (by rw [hi.1.1];omega)
 rw [hi.1.1,hz] at hb2
 exact ⟨permIn_trans d0 d _ _ _ h.perm (permIn_mono d _ a d0.size 0 d0.size (by omega) (by omega) (by omega) hi.1),hb2⟩
structure Mid (tl E:α→α→Prop) (d0:Array α) (s a:Nat) (d:Array α):Prop where
 dv:2*s ∣ a
 le:a≤d0.size
 beh:Behind tl E (2*s) a d
 ahd:Ahead tl E s a d
 perm:PermIn 0 d0.size d0 d
variable {tl E:α→α→Prop}
theorem Mid.start {d0 d:Array α} {s:Nat} (h:Behind tl E s d0.size d) (hP:PermIn 0 d0.size d0 d):Mid tl E d0 s 0 d:=
 ⟨⟨0,rfl⟩,by omega,Behind.none _ _ _ _,(by rw [←hP.1] at h;exact h.ahead),hP⟩
theorem Mid.half {d0 d:Array α} {s a:Nat} (h:Mid tl E d0 s a d):s ∣ a:=Nat.dvd_trans ⟨2,by omega⟩ h.dv
theorem Mid.mrg {d0 d:Array α} {s a:Nat} (h:Mid tl E d0 s a d) (hs:0 < s) (hb:a+2*s≤d0.size):Mrg tl E d a (a+s) (a+2*s):=by
 have hz:=h.perm.1
 have:=h.ahd.mrg hs h.half (by omega)
 rwa [Nat.min_eq_left (by omega),show a+s+s=a+2*s by omega] at this
theorem Mid.mrg2 {d0 d:Array α} {s a:Nat} (h:Mid tl E d0 s a d) (hs:0 < s) (hb:d0.size < a+2*s) (hm:a+s < d0.size):Mrg tl E d a (a+s) d0.size:=by
 have hz:=h.perm.1
 have:=h.ahd.mrg hs h.half (by omega)
 rwa [Nat.min_eq_right (by omega),hz] at this
theorem Mid.step {d0 d d':Array α} {s a:Nat} (h:Mid tl E d0 s a d) (hs:0 < s) (hb:a+2*s≤d0.size) (hP:PermIn a (a+2*s) d d') (hT:Srt tl a (a+2*s) d'):Mid tl E d0 s (a+2*s) d':=by
 have hz:=h.perm.1
 have e:min (a+2*s) d.size=a+2*s:=Nat.min_eq_left (by omega)
 exact ⟨Nat.dvd_add h.dv (Nat.dvd_refl _),hb,h.beh.add (by omega) h.dv (h.ahd.cut h.half (by omega)) (by rw [e];exact hP) (by rw [e];exact hT),h.ahd.skip (by omega) (by rw [e];exact hP),permIn_trans d0 d _ _ _ h.perm (permIn_mono d _ a (a+2*s) 0 d0.size (by omega) (by omega) (by omega) hP)⟩
theorem Mid.last {d0 d d':Array α} {s a:Nat} (h:Mid tl E d0 s a d) (hs:0 < s) (hb:d0.size < a+2*s) (hm:a+s < d0.size) (hP:PermIn a d0.size d d') (hT:Srt tl a d0.size d'):PermIn 0 d0.size d0 d'∧Behind tl E (2*s) d0.size d':=by
 have hz:=h.perm.1
 have e:min (a+2*s) d.size=d0.size:=by rw [Nat.min_eq_right (by omega)];exact hz
 have hb2:=(h.beh.add (by omega) h.dv (h.ahd.cut h.half (by omega)) (by rw [e];exact hP) (by rw [e];exact hT)).all (by rw [hP.1];omega)
 rw [hP.1,hz] at hb2
 exact ⟨permIn_trans d0 d _ _ _ h.perm (permIn_mono d _ a d0.size 0 d0.size (by omega) (by omega) (by omega) hP),hb2⟩
theorem Mid.done {d0 d:Array α} {s a:Nat} (h:Mid tl E d0 s a d) (hs:0 < s) (hm:d0.size≤a+s):PermIn 0 d0.size d0 d∧Behind tl E (2*s) d0.size d:=by
 have hz:=h.perm.1
 have:=h.beh.last h.ahd hs h.dv (by omega)
 rw [hz] at this
 exact ⟨h.perm,this⟩
end Stb
variable {P:Program} {k:Nat} {α:Type} [Inhabited α] {enc:α→List Value}
theorem ins_any (L:StbL P k) (cf:α→α→Int) (hS:SWO (ltOf cf)) (g:Nat) (cb:Array Value) (blk off cap a b:Nat) (d0 d:Array α) (w0 W:World) (R:RowK enc k w0 blk off d0) (eg:∀ args w,(callFunc g args).run P w=.ok (.enter g args) w) (hC:CmpLays P g cb enc k cf blk off d0.size w0)
  (hs:d.size=d0.size) (h:SWK enc k w0 blk off d W) (hab:a≤b) (hb:b≤d.size) (hsz:d.size≤100000) :
  Calls P 201 #[.slice (some ⟨blk,off,none⟩) d.size cap,.int .i64 a,.int .i64 b,.func (.func g) #[] cb] W fun e w'=>e=.returned (.tuple #[])∧SWK enc k w0 blk off (insertionSort (ltOf cf) d a b) w':=by
 have hC2:CmpLays P g cb enc k cf blk off d.size W:=fun m os dk hk x y=>by
  obtain ⟨m',os',e⟩:=h.on R.hblk m dk os hk
  rw [e]
  exact hC m' os' dk (by omega) x y
 refine (AnyQ.insertionSortCmpFunc L.ins k L.aE L.zE enc R.hk R.h1 cf g cb blk off cap a b d W eg hC2 (h.holds R.hblk R.hH hs) (h.lt R.hblk) hab hb (by omega)).mono ?_
 rintro e w' ⟨rfl,n,os,rfl⟩
 exact ⟨rfl,h.on R.hblk n _ os (insertionSort_holds hS d a b hab hb).1.1⟩
theorem stable_any (L:StbL P k) (cf:α→α→Int) (hS:SWO (ltOf cf)) (tag:α→Nat) (g:Nat) (cb:Array Value) (blk off cap:Nat) (d0:Array α) (w0:World) (R:RowK enc k w0 blk off d0) (eg:∀ args w,(callFunc g args).run P w=.ok (.enter g args) w) (hC:CmpLays P g cb enc k cf blk off d0.size w0)
  (hsz:d0.size≤100000) (hE:∀ p q,p < q→q < d0.size→Ear tag d0[p]! d0[q]!) :
  Calls P 164 #[.slice (some ⟨blk,off,none⟩) d0.size cap,.int .i64 d0.size,.func (.func g) #[] cb] w0 fun e w'=>e=.returned (.tuple #[])∧∃ d',PermIn 0 d0.size d0 d'∧Srt (TL (ltOf cf) tag) 0 d0.size d'∧SWK enc k w0 blk off d' w':=by
 have mixed:=L.mixed;have t0:=L.t0;have a0:=L.a0;have z0:=L.z0;have v0:=L.v0;have t3:=L.t3;have a3:=L.a3;have z3:=L.z3;have v3:=L.v3;have t4:=L.t4;have a4:=L.a4;have z4:=L.z4;have v4:=L.v4;have ts:=L.ts;have asl:=L.asl;have zs:=L.zs;have vs:=L.vs;have tc:=L.tc;have ac:=L.ac;have zc:=L.zc;have vc:=L.vc
 obtain ⟨z,hz⟩:∃ z,z=d0.size:=⟨_,rfl⟩
 rw [←hz] at hsz ⊢
 have HZ:=κ11 hz
 have O:Ord (ltOf cf) (TL (ltOf cf) tag) (Ear tag):=⟨fun x y z h1 h2=>(swo_tlb hS).trans x y z h1 h2,fun x y _ h=>TL.of_lt h,fun x y h1 h2=>TL.of_ear h1 h2⟩
 have HIns:Hid (∀ (dk:Array α) (wr:World) (a b:Nat),dk.size=z→SWK enc k w0 blk off dk wr→a≤b→b≤z→Calls P 201 #[.slice (some ⟨blk,off,none⟩) z cap,.int .i64 a,.int .i64 b,.func (.func g) #[] cb] wr fun e w'=>e=.returned (.tuple #[])∧SWK enc k w0 blk off (insertionSort (ltOf cf) dk a b) w'):=
  κ11 fun dk wr a b h1 h2 h3 h4=>by
   have:=ins_any L cf hS g cb blk off cap a b d0 dk w0 wr R eg hC (by omega) h2 h3 (by omega) (by omega)
   rw [h1] at this
   exact this
 have HSm:Hid (∀ (dk:Array α) (wr:World) (a m b:Nat),dk.size=z→SWK enc k w0 blk off dk wr→a < m→m < b→b≤z→Mrg (TL (ltOf cf) tag) (Ear tag) dk a m b→Calls P 202 #[.slice (some ⟨blk,off,none⟩) z cap,.int .i64 a,.int .i64 m,.int .i64 b,.func (.func g) #[] cb] wr (SMPost (TL (ltOf cf) tag) enc k w0 blk off a b dk)):=
  κ11 fun dk wr a m b h1 h2 h3 h4 h5 h6=>by
   have:=symMerge_any L cf _ _ O g cb blk off cap d0 w0 R eg hC _ a m b dk wr (Nat.le_refl _) (by omega) h2 h3 h4 (by omega) (by omega) h6
   rw [h1] at this
   exact this
 have HI0:=κ11 (Ins1.start (lt:=ltOf cf) d0 hE)
 have S0:Hid (SWK enc k w0 blk off d0 w0):=κ11 (SWK.start R.hH)
 have HS:=κ11 hS
 have ein:∀ args w,(callFunc 201 args).run P w=.ok (.enter 201 args) w:=L.ins.f20.enters rfl
 have esm:∀ args w,(callFunc 202 args).run P w=.ok (.enter 202 args) w:=enters_of L.fsm (by kernel_rfl) rfl
 clear hz O hE hC R hS
 go_enter L.fst,Tryz.ntmps164
 go_wp2_with fail
 go_loopw [7,8] (fun v7 v8 wr=>∃ (a:Nat) (dk:Array α),v7=.int .i64 a∧v8=.int .i64 ((a+20:Nat):Int)∧a≤z∧Hid (Ins1 (ltOf cf) tag d0 a dk)∧Hid (SWK enc k w0 blk off dk wr)) (fun v7 _ _=>z - (intOf v7).toNat)
 case atStart=>exact ⟨0,d0,rfl,rfl,by omega,HI0,S0⟩
 case round=>
  clear S0 HI0
  obtain ⟨a,dk,rfl,rfl,haz,HI,S1⟩:=hrel
  have hdk:dk.size=z:=by have:=HI.out.perm.1;have:=HZ.out;omega
  by_cases hlt:a+20≤z
  ·have i1:((a+20:Nat):Int)≤(z:Int):=by omega
   have HCon:=κ11 (HIns.out dk wr a (a+20) hdk S1.out (by omega) hlt)
   have HI2:=κ11 (HI.out.step HS.out (by have:=HZ.out;omega))
   clear HI S1 hdk
   go_wp2_with fail
   refine HCon.out.mono ?_
   rintro e w1 ⟨rfl,hS⟩
   have S2:=κ11 hS
   clear hS HCon
   go_wp2_with fail
   go_roundw
   case rel=>exact ⟨a+20,_,rfl,by go_num,hlt,HI2,S2⟩
   case measure=>simp [intOf];omega
  ·have i1:¬ ((a+20:Nat):Int)≤(z:Int):=by omega
   have HCon:=κ11 (HIns.out dk wr a z hdk S1.out (by omega) (Nat.le_refl _))
   have hI2:=HI.out.last HS.out (by have:=HZ.out;omega)
   rw [←HZ.out] at hI2
   have HP2:=κ11 hI2.1
   have HB2:=κ11 hI2.2
   clear HI S1 hdk hI2
   go_wp2_with fail
   refine HCon.out.mono ?_
   rintro e w1 ⟨rfl,hS⟩
   have S2:=κ11 hS
   clear hS HCon
   go_wp2_with fail
   go_loopw [6] (fun v6 wr=>∃ (s:Nat) (dk:Array α),v6=.int .i64 s∧0 < s∧s≤200000∧Hid (PermIn 0 z d0 dk)∧Hid (Behind (TL (ltOf cf) tag) (Ear tag) s z dk)∧Hid (SWK enc k w0 blk off dk wr)) (fun v6 _=>z - (intOf v6).toNat)
   case atStart=>exact ⟨20,_,rfl,by omega,by omega,HP2,HB2,S2⟩
   case round=>
    clear S2 HB2 HP2
    obtain ⟨s,dk,rfl,hs0,hs1,HP,HB,S3⟩:=hrel
    by_cases hlt2:s < z
    ·have i2:(s:Int) < (z:Int):=by omega
     have hM0:Mid (TL (ltOf cf) tag) (Ear tag) d0 s 0 dk:=Mid.start (by rw [←HZ.out];exact HB.out) (by rw [←HZ.out];exact HP.out)
     have HM0:=κ11 hM0
     clear hM0 HP HB
     go_wp2_with fail
     go_loopw [7,8] (fun v7 v8 wr=>∃ (a:Nat) (dk:Array α),v7=.int .i64 a∧v8=.int .i64 ((a+2*s:Nat):Int)∧a≤z∧Hid (Mid (TL (ltOf cf) tag) (Ear tag) d0 s a dk)∧Hid (SWK enc k w0 blk off dk wr)) (fun v7 _ _=>z - (intOf v7).toNat)
     case atStart=>exact ⟨0,dk,rfl,by go_num,by omega,HM0,S3⟩
     case round=>
      clear S3 HM0
      obtain ⟨a,dk,rfl,rfl,haz,HM,S4⟩:=hrel
      have hdk:dk.size=z:=by have:=HM.out.perm.1;have:=HZ.out;omega
      by_cases hlt3:a+2*s≤z
      ·have i3:((a+2*s:Nat):Int)≤(z:Int):=by omega
       have hcon:=HSm.out dk wr a (a+s) (a+2*s) hdk S4.out (by omega) (by omega) hlt3 (HM.out.mrg hs0 (by have:=HZ.out;omega))
       have i4:((a:Int)+(s:Int))=((a+s:Nat):Int):=by omega
       rw [←i4] at hcon
       have HCon3:=κ11 hcon
       clear hcon i4 hdk
       go_wp2_with fail
       refine HCon3.out.mono ?_
       rintro e w1 ⟨rfl,d',hp,ht,hS⟩
       have HM2:=κ11 (HM.out.step hs0 (by have:=HZ.out;omega) hp ht)
       have S5:=κ11 hS
       clear hS hp ht HCon3 HM S4
       go_wp2_with fail
       go_roundw
       case rel=>exact ⟨a+2*s,d',rfl,by go_num,hlt3,HM2,S5⟩
       case measure=>simp [intOf];omega
      ·have i3:¬ ((a+2*s:Nat):Int)≤(z:Int):=by omega
       by_cases hlt4:a+s < z
       ·have i4:(a:Int)+(s:Int) < (z:Int):=by omega
        have hcon:=HSm.out dk wr a (a+s) z hdk S4.out (by omega) (by omega) (Nat.le_refl _) (by have:=HM.out.mrg2 hs0 (by have:=HZ.out;omega) (by have:=HZ.out;omega);rw [←HZ.out] at this;exact this)
        have i5:((a:Int)+(s:Int))=((a+s:Nat):Int):=by omega
        rw [←i5] at hcon
        have HCon3:=κ11 hcon
        clear hcon i5 hdk
        go_wp2_with fail
        refine HCon3.out.mono ?_
        rintro e w1 ⟨rfl,d',hp,ht,hS⟩
        have hM2:=HM.out.last hs0 (by have:=HZ.out;omega) (by have:=HZ.out;omega) (by rw [←HZ.out];exact hp) (by rw [←HZ.out];exact ht)
        rw [←HZ.out] at hM2
        have HP5:=κ11 hM2.1
        have HB5:=κ11 hM2.2
        have S5:=κ11 hS
        clear hS hp ht HCon3 HM S4 hM2
        go_wp2_with fail
        go_roundw
        case rel=>exact ⟨2*s,d',by go_num,by omega,by omega,HP5,HB5,S5⟩
        case measure=>simp [intOf];omega
       ·have i4:¬ (a:Int)+(s:Int) < (z:Int):=by omega
        have hM2:=HM.out.done hs0 (by have:=HZ.out;omega)
        rw [←HZ.out] at hM2
        have HP5:=κ11 hM2.1
        have HB5:=κ11 hM2.2
        clear HM hM2 hdk
        go_wp2_with fail
        go_roundw
        case rel=>exact ⟨2*s,dk,by go_num,by omega,by omega,HP5,HB5,S4⟩
        case measure=>simp [intOf];omega
    ·have i2:¬ (s:Int) < (z:Int):=by omega
     go_wp2_with fail
     go_end0
     have hz2:dk.size=z:=by have:=HP.out.1;have:=HZ.out;omega
     have hB:=HB.out
     rw [←hz2] at hB
     have hW:=hB.whole (by omega)
     rw [hz2] at hW
     exact ⟨rfl,dk,HP.out,hW,S3.out⟩
end Go.Proofs.YtjekalilfhnpmaaGreatDoor
