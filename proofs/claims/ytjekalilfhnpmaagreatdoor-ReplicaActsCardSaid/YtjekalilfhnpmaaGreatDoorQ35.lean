/- What is wanted besides: mdelete_any mfind_any mlay_any mseen_any mtext_any. -/
import Derived.StillTailTactics
import Derived.Test.YtjekalilfhnpmaaGreatDoorQ00
import Derived.Test.YtjekalilfhnpmaaGreatDoorQ01
import Derived.Test.YtjekalilfhnpmaaGreatDoorQ02
import Derived.Test.YtjekalilfhnpmaaGreatDoorQ04
import Derived.Test.YtjekalilfhnpmaaGreatDoorQ05
import Derived.Test.YtjekalilfhnpmaaGreatDoorQ06
import Derived.Test.YtjekalilfhnpmaaGreatDoorQ18
import Derived.Test.YtjekalilfhnpmaaGreatDoorQ22
import Derived.Test.YtjekalilfhnpmaaGreatDoorQ23
import Derived.Test.YtjekalilfhnpmaaGreatDoorQ25
theorem Go.Proofs.YtjekalilfhnpmaaGreatDoor.κ35 {p:Prop} (h:p):Go.RowKit.Hid p:=Go.Lib.hid h
namespace Go.Proofs.YtjekalilfhnpmaaGreatDoor
open Go Go.RowKit
set_option linter.unusedVariables false
set_option linter.unusedSimpArgs false
set_option maxHeartbeats 1000000
set_option maxRecDepth 100000
theorem S_app (a b:List UInt8):S a++S b=S (a++b):=by
 apply ByteArray.ext
 simp [S]
theorem bytesBack (n:Int) (h:0≤n∧n < 256) (w:World):(convert 212 9 (.slice (some ⟨w.heap.size,0,none⟩) 1 1)).run Tryz.prog (w.alloc (.cells #[.int .u8 n] 5))=.ok (.string (S [UInt8.ofNat n.toNat])) (w.alloc (.cells #[.int .u8 n] 5)):=
 run_convert_bytes_back (P:=Tryz.prog) _ 212 9 5 ⟨w.heap.size,0,none⟩ 1 [UInt8.ofNat n.toNat] Tryz.underlying212 Tryz.underlying5 Tryz.underlying9 (by
  intro j hj
  match j,hj with
  | 0,_=>simp [go_sem,Addr.add];omega)
theorem byte_any (n:Int) (w:World) (h:0≤n∧n < 256) :
  Calls Tryz.prog 150 #[.int .i64 n] w fun e w'=>e=.returned (.string (S [UInt8.ofNat n.toNat]))∧Below w.heap.size w w':=by
 have h8:IntKind.u8.wrap n=n:=by simp [IntKind.wrap,IntKind.bits,IntKind.signed];omega
 have kb:=bytesBack n h
 go_enter Tryz.func150,Tryz.ntmps150
 go_wp2_with fail
 go_ret
 exact ⟨rfl,(Below.refl _ _).alloc (Nat.le_refl _) _⟩
end Go.Proofs.YtjekalilfhnpmaaGreatDoor
namespace Go.Proofs.YtjekalilfhnpmaaGreatDoor
open Go Go.RowKit Go.Shelf
set_option linter.unusedVariables false
set_option linter.unusedSimpArgs false
set_option maxHeartbeats 4000000
set_option maxRecDepth 100000
def letE:Enc Lt:=⟨Lt.cells,3,fun _=>rfl,fun x v hv=>by simp only [Lt.cells,List.mem_cons,List.not_mem_nil,or_false] at hv;rcases hv with rfl | rfl | rfl <;> rfl⟩
theorem infoMLet:(Tryz.prog.info? 173).map (fun i=>(i.zero,i.size,i.bytes))=some (some (.agg #[.int .i64 0,.int .u8 0,.bool false]),3,16):=by kernel_rfl
structure MSt (base MB:Nat) (v:Value) (L:List Lt) (w:World):Prop where
 ptr:w.cell? ⟨MB,0,none⟩=some v
 fz:∀ o,w.frozen? ⟨MB,o,none⟩=false
 own:Rw letE 173 base v L w
 ne:v.ownBlock≠some MB
 ge:base≤MB
theorem MSt.lt {base MB:Nat} {v:Value} {L:List Lt} {w:World} (h:MSt base MB v L w):MB < w.heap.size:=World.block_lt_of_cell? w _ h.ptr
theorem MSt.fr {X:Nat→Prop} {base MB:Nat} {v:Value} {L:List Lt} {w w':World} (hl:MSt base MB v L w) (h:Fr X w w') (h1:¬ X MB) (h2:∀ k,v.ownBlock=some k→¬ X k):MSt base MB v L w':=
 ⟨(h.cell hl.lt h1).trans hl.ptr,fun o=>(h.frozen (p:=⟨MB,o,none⟩) hl.lt h1).trans (hl.fz o),hl.own.kept (fun k hk=>h.block k (hl.own.lt k hk).2 (h2 k hk)),hl.ne,hl.ge⟩
theorem MSt.below {base MB:Nat} {v:Value} {L:List Lt} {w w':World} (h:MSt base MB v L w) (hb:Below w.heap.size w w'):MSt base MB v L w':=
 h.fr (X:=fun _=>False) (Fr.of_below hb) (fun h=>h) (fun _ _ h=>h)
theorem mfind_any (id:Int) (base MB:Nat) (v:Value) (L:List Lt) (w:World) (hn:L.length≤1000) (h:MSt base MB v L w) :
  Calls Tryz.prog 145 #[.pointer (some ⟨MB,0,none⟩),.int .i64 id] w fun e w'=>e=.returned (.int .i64 (ixOf id L))∧Below w.heap.size w w':=by
 have hs:=h.own.sl
 obtain ⟨A,c,hv,hc⟩:=hs.form
 have hp:=h.ptr
 rw [hv] at hp hs
 obtain ⟨n,hn1⟩:∃ n,n=L.length:=⟨_,rfl⟩
 rw [←hn1] at hp hs hc
 have HN:=κ35 hn1
 have HS:=κ35 hs
 have hn2:n≤1000:=by omega
 clear h hs hv hn1 hn
 go_enter Tryz.func145,Tryz.ntmps145
 go_wp2_with fail
 go_loop [5] (fun v5=>∃ j:Nat,j≤n∧v5=.int .i64 j∧∀ i y,i < j→L[i]?=some y→y.id≠id) (fun v5=>n - (intOf v5).toNat)
 case atStart=>exact ⟨0,by omega,rfl,fun i y hi=>by omega⟩
 case round=>
  obtain ⟨j,hj,rfl,hno⟩:=hrel
  have HNo:=κ35 hno
  clear hno
  by_cases hlt:j < n
  ·obtain ⟨x,hx⟩:∃ x,L[j]?=some x:=⟨_,List.getElem?_eq_getElem (by have:=HN.out;omega)⟩
   obtain ⟨b,off,rfl,hb,hcc⟩:=HS.out.at' (by decide) hx
   have q0:w.cell? ⟨b,off+j*3,none⟩=some (.int .i64 x.id):=hcc 0 _ rfl
   have HX:=κ35 hx
   have i0:(0:Int)≤(j:Int):=by omega
   have i1:(j:Int) < (n:Int):=by omega
   clear hx hcc hb
   by_cases he:x.id=id
   ·have he2:(x.id == id)=true:=by simp [he]
    have HE:=κ35 he
    clear he
    go_wp2_with fail
    go_ret
    exact ⟨by rw [ixOf_some HX.out HE.out HNo.out];rfl,Below.refl _ _⟩
   ·have he2:(x.id == id)=false:=by simp [he]
    have HE:=κ35 he
    clear he
    go_wp2_with fail
    go_round
    case rel=>exact ⟨j+1,by omega,by go_num,fun i y hi hy=>by
     by_cases e:i=j
     ·subst e;rw [HX.out] at hy;cases hy;exact HE.out
     ·exact HNo.out i y (by omega) hy⟩
    case measure=>simp [intOf];omega
  ·have hge:¬ (j:Int) < (n:Int):=by omega
   have hjn:n≤j:=by omega
   clear hlt
   go_wp2_with fail
   go_ret
   exact ⟨by rw [ixOf_none (fun y hy=>by
    obtain ⟨i,hi⟩:=List.mem_iff_getElem?.1 hy
    have hlt:i < L.length:=(List.getElem?_eq_some_iff.1 hi).1
    exact HNo.out i y (by have:=HN.out;omega) hi)];rfl,Below.refl _ _⟩
theorem letsOf (L:List Lt):letE.row L=lts L:=rfl
theorem mlay_end {base MB:Nat} {v v2 v3:Value} {L L':List Lt} {w w2 w3:World} (hb:base≤w.heap.size) (h:MSt base MB v L w) (hb2:Below w.heap.size w w2) (hr:Rw letE 173 w.heap.size v3 L' w3) (hg:w2.grownBy w3 v2.ownBlock) (h2:∀ k,v2.ownBlock=some k→w.heap.size≤k∧k < w2.heap.size) :
  MSt base MB v3 L' (w3.setCell ⟨MB,0,none⟩ v3)∧Fr (fun k=>k=MB) w (w3.setCell ⟨MB,0,none⟩ v3)∧∀ k,v3.ownBlock=some k→w.heap.size≤k:=by
 have hlt:=h.lt
 have hsz2:=hb2.size
 have hne2:∀ k,k < w.heap.size→some k≠v2.ownBlock:=fun k hk e=>by have:=(h2 k e.symm).1;omega
 have hb3:Below w.heap.size w w3:=hb2.grown hg hsz2 (fun k hk=>(h2 k hk).1)
 have hc:w3.cell? ⟨MB,0,none⟩=some v:=(hb3.cell (p:=⟨MB,0,none⟩) hlt).trans h.ptr
 refine ⟨⟨World.cell?_setCell_same _ _ _ hc,fun o=>?_,?_,fun e=>by have:=(hr.lt MB e).1;omega,h.ge⟩,⟨hb3.os,hb3.tape,hb3.output,by have:=hb3.size;simpa using this,fun k hk hx=>?_⟩,fun k hk=>(hr.lt k hk).1⟩
 ·have:=(hb3.frozen (p:=⟨MB,o,none⟩) hlt).trans (h.fz o)
  simpa using this
 ·have h4:Rw letE 173 w.heap.size v3 L' (w3.setCell ⟨MB,0,none⟩ v3):=hr.kept (fun k hk=>heap_setCell_other w3 ⟨MB,0,none⟩ k v3 (fun e=>by have:=(hr.lt k hk).1;simp at e;omega))
  exact ⟨h4.1,by
   rcases h4.2 with hn | ⟨g,cap,cur,e1,e2,e3⟩
   ·exact .inl hn
   ·exact .inr ⟨g,cap,cur,e1,by omega,e3⟩⟩
 ·exact (heap_setCell_other w3 ⟨MB,0,none⟩ k v3 hx).trans (hb3.block k hk)
theorem mlay_any (base MB:Nat) (v:Value) (at':Nat) (x:Lt) (L:List Lt) (w:World) (hb:base≤w.heap.size) (hn:L.length≤1000) (ha:at'≤L.length) (h:MSt base MB v L w) :
  Calls Tryz.prog 146 #[.pointer (some ⟨MB,0,none⟩),.int .i64 at',ltV x] w fun e w'=>e=.returned (.tuple #[])∧∃ v',MSt base MB v' (L.take at'++x :: L.drop at') w'∧Fr (fun k=>k=MB) w w'∧∀ k,v'.ownBlock=some k→w.heap.size≤k:=by
 obtain ⟨n,hn1⟩:∃ n,n=L.length:=⟨_,rfl⟩
 have hlt:=h.lt
 have hs:=h.own.sl
 have hp:=h.ptr
 have hform:=h.own.form
 have H:=κ35 h
 have hn2:n≤1000:=by omega
 rw [←hn1] at ha hform
 have HN:=κ35 hn1
 have i0:(0:Int)≤(at':Int):=by omega
 have i1:(at':Int)≤(n:Int):=by omega
 have hfz:=h.fz 0
 clear h hn hn1
 rcases hform with ⟨rfl,rfl⟩ | ⟨g,c,rfl,hc,hcm,hbg,hgl⟩
 ·have h0:at'=0:=by have:=HN.out;simp at this;omega
  subst h0
  have hn0:n=0:=by have:=HN.out;simpa using this
  clear hs
  go_enter Tryz.func146,Tryz.ntmps146
  go_wp2_with (at_builtin;refine wpList_append_rows rfl _ _ 168 rfl letE w.heap.size 173 (.agg #[.int .i64 0,.int .u8 0,.bool false]) 16 Tryz.underlying168 infoMLet rfl (by decide) _ _ [] [] rfl rfl (Rw.nil _ _ _ _) SlV.nil ?e1 ?e2 ?e3 ?_)
  case e1=>unfold maxLen;simp
  case e2=>simp
  case e3=>simp
  intro v1 w1 hr1 hg1
  obtain ⟨BX,hBX⟩:∃ BX,BX=w.heap.size:=⟨_,rfl⟩
  have q0:w1.cell? ⟨BX,0,none⟩=some (.int .i64 x.id):=by rw [hBX];exact hg1.cell (by simp [go_sem]) (by simp [Value.ownBlock])
  have q1:w1.cell? ⟨BX,1,none⟩=some (.int .u8 x.c.toNat):=by rw [hBX];exact hg1.cell (by simp [go_sem]) (by simp [Value.ownBlock])
  have q2:w1.cell? ⟨BX,2,none⟩=some (.bool x.gone):=by rw [hBX];exact hg1.cell (by simp [go_sem]) (by simp [Value.ownBlock])
  have HB1:Hid (Below w.heap.size w w1):=κ35 (((Below.refl _ _).alloc (Nat.le_refl _) _).grown hg1 (by simp) (fun k hk=>by simp [Value.ownBlock] at hk))
  have hsz1:w.heap.size+1≤w1.heap.size:=by have:=hg1.size;simpa using this
  have HR1:=κ35 (hr1.below ((Below.refl _ _).alloc (Nat.le_refl _) (.cells #[.int .i64 x.id,.int .u8 x.c.toNat,.bool x.gone] 173)))
  have HO1:Hid (SlV letE (w1.alloc (.cells #[.int .i64 x.id,.int .u8 x.c.toNat,.bool x.gone] 173)) (.slice (some ⟨w1.heap.size,0,none⟩) 1 1) [x]):=κ35 (SlV.one w1 x _ _ rfl)
  have hv1l:=hr1.lt
  have HV1:=κ35 hv1l
  rw [←hBX]
  clear hr1 hg1 hBX hv1l
  go_wp2_with (at_builtin;refine wpList_append_rows rfl _ _ 168 rfl letE w.heap.size 173 (.agg #[.int .i64 0,.int .u8 0,.bool false]) 16 Tryz.underlying168 infoMLet rfl (by decide) _ _ [] [x] rfl rfl HR1.out HO1.out ?f1 ?f2 ?f3 ?_)
  case f1=>unfold maxLen;simp
  case f2=>simp
  case f3=>simp;omega
  intro v2 w2 hr2 hg2
  have HB2:Hid (Below w.heap.size w w2):=κ35 ((HB1.out.alloc HB1.out.size _).grown hg2 (by simp;omega) (fun k hk=>(HV1.out k hk).1))
  have HR2:=κ35 hr2
  have HV2:=κ35 hr2.lt
  have p2:w2.cell? ⟨MB,0,none⟩=some (.slice none 0 0):=(HB2.out.cell (p:=⟨MB,0,none⟩) hlt).trans hp
  have fz2:w2.frozen? ⟨MB,0,none⟩=false:=(HB2.out.frozen (p:=⟨MB,0,none⟩) hlt).trans hfz
  have hsz2:=HB2.out.size
  clear hr2 hg2 q0 q1 q2 hp hfz
  have HS2:Hid (SlV letE w2 (.slice none 0 0) []):=κ35 SlV.nil
  clear HR1 HO1 HV1
  go_wp2_with (at_builtin;refine wpList_append_rows rfl _ _ 168 rfl letE w.heap.size 173 (.agg #[.int .i64 0,.int .u8 0,.bool false]) 16 Tryz.underlying168 infoMLet rfl (by decide) _ _ [x] [] rfl rfl HR2.out HS2.out ?g1 ?g2 ?g3 ?_)
  case g1=>unfold maxLen;simp
  case g2=>simp
  case g3=>omega
  intro v3 w3 hr3 hg3
  obtain ⟨A3,m3,c3,rfl⟩:=hr3.slice
  have HE:=κ35 (mlay_end hb H.out HB2.out hr3 hg3 HV2.out)
  have p3:w3.cell? ⟨MB,0,none⟩=some (.slice none 0 0):=hg3.cell p2 (fun e=>by have:=(HV2.out MB e.symm).1;omega)
  have fz3:w3.frozen? ⟨MB,0,none⟩=false:=(World.frozen?_of_block (hg3.block MB (World.block_lt_of_cell? _ _ p2) (fun e=>by have:=(HV2.out MB e.symm).1;omega))).trans fz2
  clear hr3 hg3 HR2 HS2
  go_wp2_with fail
  go_end0
  exact ⟨rfl,_,by simpa using HE.out.1,HE.out.2.1,HE.out.2.2⟩
 ·have HS:=κ35 hs
  have i2:(at':Int)≤(c:Int):=by omega
  have HSa:Hid (SlV letE (w.alloc (.cells x.cells.toArray 173)) (.slice (some ⟨g,0,none⟩) at' c) (L.take at')):=κ35 ((HS.out.take ha c (by omega)).below ((Below.refl _ _).alloc (Nat.le_refl _) _))
  clear hs hbg hcm
  go_enter Tryz.func146,Tryz.ntmps146
  go_wp2_with (at_builtin;refine wpList_append_rows rfl _ _ 168 rfl letE w.heap.size 173 (.agg #[.int .i64 0,.int .u8 0,.bool false]) 16 Tryz.underlying168 infoMLet rfl (by decide) _ _ [] (L.take at') rfl rfl (Rw.nil _ _ _ _) HSa.out ?a1 ?a2 ?a3 ?_)
  case a1=>unfold maxLen;rw [List.length_take];simp;omega
  case a2=>rw [List.length_take];simp;omega
  case a3=>simp
  intro v1 w1 hr1 hg1
  obtain ⟨BX,hBX⟩:∃ BX,BX=w.heap.size:=⟨_,rfl⟩
  have q0:w1.cell? ⟨BX,0,none⟩=some (.int .i64 x.id):=by rw [hBX];exact hg1.cell (by simp [go_sem]) (by simp [Value.ownBlock])
  have q1:w1.cell? ⟨BX,1,none⟩=some (.int .u8 x.c.toNat):=by rw [hBX];exact hg1.cell (by simp [go_sem]) (by simp [Value.ownBlock])
  have q2:w1.cell? ⟨BX,2,none⟩=some (.bool x.gone):=by rw [hBX];exact hg1.cell (by simp [go_sem]) (by simp [Value.ownBlock])
  have HB1:Hid (Below w.heap.size w w1):=κ35 (((Below.refl _ _).alloc (Nat.le_refl _) _).grown hg1 (by simp) (fun k hk=>by simp [Value.ownBlock] at hk))
  have hsz1:w.heap.size+1≤w1.heap.size:=by have:=hg1.size;simpa using this
  have HR1:=κ35 (hr1.below ((Below.refl _ _).alloc (Nat.le_refl _) (.cells #[.int .i64 x.id,.int .u8 x.c.toNat,.bool x.gone] 173)))
  have HO1:Hid (SlV letE (w1.alloc (.cells #[.int .i64 x.id,.int .u8 x.c.toNat,.bool x.gone] 173)) (.slice (some ⟨w1.heap.size,0,none⟩) 1 1) [x]):=κ35 (SlV.one w1 x _ _ rfl)
  have hv1l:=hr1.lt
  have HV1:=κ35 hv1l
  rw [←hBX]
  clear hr1 hg1 HSa hBX hv1l
  go_wp2_with (at_builtin;refine wpList_append_rows rfl _ _ 168 rfl letE w.heap.size 173 (.agg #[.int .i64 0,.int .u8 0,.bool false]) 16 Tryz.underlying168 infoMLet rfl (by decide) _ _ (L.take at') [x] rfl rfl HR1.out HO1.out ?b1 ?b2 ?b3 ?_)
  case b1=>unfold maxLen;rw [List.length_take];simp;omega
  case b2=>rw [List.length_take];simp;omega
  case b3=>simp;omega
  intro v2 w2 hr2 hg2
  have HB2:Hid (Below w.heap.size w w2):=κ35 ((HB1.out.alloc HB1.out.size _).grown hg2 (by simp;omega) (fun k hk=>(HV1.out k hk).1))
  have HR2:=κ35 hr2
  have HV2:=κ35 hr2.lt
  have p2:w2.cell? ⟨MB,0,none⟩=some (.slice (some ⟨g,0,none⟩) n c):=(HB2.out.cell (p:=⟨MB,0,none⟩) hlt).trans hp
  have fz2:w2.frozen? ⟨MB,0,none⟩=false:=(HB2.out.frozen (p:=⟨MB,0,none⟩) hlt).trans hfz
  have hsz2:=HB2.out.size
  clear hr2 hg2 q0 q1 q2 hp hfz
  by_cases hac:at'=c
  ·obtain rfl:n=at':=by omega
   obtain rfl:n=c:=by omega
   have HS2:Hid (SlV letE w2 (.slice (some ⟨g,0,none⟩) 0 0) (L.drop n)):=κ35 (by rw [List.drop_eq_nil_of_le (by have:=HN.out;omega)];exact SlV.empty _ _)
   clear HR1 HO1 HV1
   go_wp2_with (at_builtin;refine wpList_append_rows rfl _ _ 168 rfl letE w.heap.size 173 (.agg #[.int .i64 0,.int .u8 0,.bool false]) 16 Tryz.underlying168 infoMLet rfl (by decide) _ _ (L.take n++[x]) (L.drop n) rfl rfl HR2.out HS2.out ?c1 ?c2 ?c3 ?_)
   case c1=>unfold maxLen;have:=HN.out;simp;omega
   case c2=>have:=HN.out;simp;omega
   intro v3 w3 hr3 hg3
   obtain ⟨A3,m3,c3,rfl⟩:=hr3.slice
   have HE:=κ35 (mlay_end hb H.out HB2.out hr3 hg3 HV2.out)
   have p3:w3.cell? ⟨MB,0,none⟩=some (.slice (some ⟨g,0,none⟩) n n):=hg3.cell p2 (fun e=>by have:=(HV2.out MB e.symm).1;omega)
   have fz3:w3.frozen? ⟨MB,0,none⟩=false:=(World.frozen?_of_block (hg3.block MB (World.block_lt_of_cell? _ _ p2) (fun e=>by have:=(HV2.out MB e.symm).1;omega))).trans fz2
   clear hr3 hg3 HR2 HS2
   go_wp2_with fail
   go_end0
   exact ⟨rfl,_,by simpa using HE.out.1,HE.out.2.1,HE.out.2.2⟩
  ·have hac2:at' < c:=by omega
   have HS2:Hid (SlV letE w2 (.slice (some ⟨g,at' * 3,none⟩) (n - at') (c - at')) (L.drop at')):=κ35 (by have h3:=(HS.out.drop ha (c - at') (by omega)).below HB2.out;rw [Nat.zero_add] at h3;exact h3)
   clear HR1 HO1 HV1
   go_wp2_with (at_builtin;refine wpList_append_rows rfl _ _ 168 rfl letE w.heap.size 173 (.agg #[.int .i64 0,.int .u8 0,.bool false]) 16 Tryz.underlying168 infoMLet rfl (by decide) _ _ (L.take at'++[x]) (L.drop at') rfl rfl HR2.out HS2.out ?d1 ?d2 ?d3 ?_)
   case d1=>unfold maxLen;have:=HN.out;simp;omega
   case d2=>have:=HN.out;simp;omega
   case d3=>omega
   intro v3 w3 hr3 hg3
   obtain ⟨A3,m3,c3,rfl⟩:=hr3.slice
   have HE:=κ35 (mlay_end hb H.out HB2.out hr3 hg3 HV2.out)
   have p3:w3.cell? ⟨MB,0,none⟩=some (.slice (some ⟨g,0,none⟩) n c):=hg3.cell p2 (fun e=>by have:=(HV2.out MB e.symm).1;omega)
   have fz3:w3.frozen? ⟨MB,0,none⟩=false:=(World.frozen?_of_block (hg3.block MB (World.block_lt_of_cell? _ _ p2) (fun e=>by have:=(HV2.out MB e.symm).1;omega))).trans fz2
   clear hr3 hg3 HR2 HS2
   go_wp2_with fail
   go_end0
   exact ⟨rfl,_,by simpa using HE.out.1,HE.out.2.1,HE.out.2.2⟩
theorem seenL_len (L:List Lt):(seenL L).length≤L.length:=List.length_filter_le _ _
def GivesLets (xs:List Lt) (w:World) (e:Ending) (w':World):Prop:=∃ v,e=.returned v∧Rw letE 173 w.heap.size v xs w'∧Below w.heap.size w w'
theorem mseen_any (base MB:Nat) (v:Value) (L:List Lt) (w:World) (hn:L.length≤1000) (h:MSt base MB v L w) :
  Calls Tryz.prog 101 #[.pointer (some ⟨MB,0,none⟩)] w (GivesLets (seenL L) w):=by
 have hlt:=h.lt
 obtain ⟨n,hn1⟩:∃ n,n=L.length:=⟨_,rfl⟩
 have hs:=h.own.sl
 obtain ⟨A,cp,hv,hc⟩:=hs.form
 have hp:=h.ptr
 rw [hv] at hp hs
 rw [←hn1] at hp hs hn
 have HN:=κ35 hn1
 have HS:=κ35 hs
 have HP:Hid (∀ w',Below w.heap.size w w'→w'.cell? ⟨MB,0,none⟩=some (.slice A n cp)∧SlV letE w' (.slice A n cp) L):=κ35 fun w' hb=>⟨(hb.cell (p:=⟨MB,0,none⟩) hlt).trans hp,hs.below hb⟩
 clear h hs hv hn1 hp hc
 go_enter Tryz.func101,Tryz.ntmps101
 go_wp2_with fail
 go_loopw [3,4] (fun v3 v4 wr=>∃ j:Nat,v4=.int .i64 j∧j≤n∧Rw letE 173 w.heap.size v3 (seenL (L.take j)) wr∧Below w.heap.size w wr) (fun _ v4 _=>n - (intOf v4).toNat)
 case atStart=>exact ⟨0,rfl,by omega,Rw.nil _ _ _ _,Below.refl _ _⟩
 case round=>
  obtain ⟨j,rfl,hj,hR,hb⟩:=hrel
  obtain ⟨p1,hs1⟩:=HP.out wr hb
  have HS1:=κ35 hs1
  have HR:=κ35 hR
  have HB:=κ35 hb
  clear hs1 hR hb
  by_cases hlt2:j < n
  ·obtain ⟨x,hx⟩:∃ x,L[j]?=some x:=⟨_,List.getElem?_eq_getElem (by have:=HN.out;omega)⟩
   obtain ⟨b,off,rfl,hbl,hcc⟩:=HS1.out.at' (by decide) hx
   have q0:wr.cell? ⟨b,off+j*3,none⟩=some (.int .i64 x.id):=hcc 0 _ rfl
   have q1:wr.cell? ⟨b,off+j*3+1,none⟩=some (.int .u8 x.c.toNat):=hcc 1 _ rfl
   have q2:wr.cell? ⟨b,off+j*3+2,none⟩=some (.bool x.gone):=hcc 2 _ rfl
   have HX:=κ35 (seenL_take L j x hx)
   have i0:(0:Int)≤(j:Int):=by omega
   have i1:(j:Int) < (n:Int):=by omega
   have hsz:=HB.out.size
   have hln:=seenL_len (L.take j)
   rw [List.length_take] at hln
   clear hx hcc
   cases hgn:x.gone with
   | true=>
    rw [hgn] at q2 HX
    have HX2:Hid (seenL (L.take (j+1))=seenL (L.take j)):=κ35 (by rw [HX.out];simp)
    clear HX q0 q1
    go_wp2_with fail
    go_roundw
    case rel=>exact ⟨j+1,by go_num,by omega,by rw [HX2.out];exact HR.out,HB.out⟩
    case measure=>simp [intOf];omega
   | false=>
    rw [hgn] at q2 HX
    have HX2:Hid (seenL (L.take (j+1))=seenL (L.take j)++[x]):=κ35 (by rw [HX.out];simp)
    have HO:Hid (SlV letE (wr.alloc (.cells #[.int .i64 x.id,.int .u8 x.c.toNat,.bool false] 173)) (.slice (some ⟨wr.heap.size,0,none⟩) 1 1) [x]):=κ35 (SlV.one wr x _ _ (by show _=Lt.cells x;rw [Lt.cells,hgn]))
    clear HX hgn
    go_wp2_with (at_builtin;refine wpList_append_rows rfl _ _ 168 rfl letE w.heap.size 173 (.agg #[.int .i64 0,.int .u8 0,.bool false]) 16 Tryz.underlying168 infoMLet rfl (by decide) _ _ (seenL (L.take j)) [x] rfl rfl (HR.out.below ((Below.refl _ _).alloc (Nat.le_refl _) _)) HO.out ?a1 ?a2 ?a3 ?_)
    case a1=>unfold maxLen;simp;omega
    case a2=>simp;omega
    case a3=>simp;omega
    intro v' wF hr' hg'
    have HR2:=κ35 hr'
    have HB2:Hid (Below w.heap.size w wF):=κ35 ((HB.out.alloc HB.out.size _).grown hg' (by simp;omega) (fun k hk=>(HR.out.lt k hk).1))
    clear hr' hg' HO
    go_wp2_with fail
    go_roundw
    case rel=>exact ⟨j+1,by go_num,by omega,by rw [HX2.out];exact HR2.out,HB2.out⟩
    case measure=>simp [intOf];omega
  ·have hge:¬ (j:Int) < (n:Int):=by omega
   have HE:Hid (L.take j=L):=κ35 (List.take_of_length_le (by have:=HN.out;omega))
   clear hlt2
   go_wp2_with fail
   go_ret
   exact ⟨_,rfl,by have:=HR.out;rw [HE.out] at this;exact this,HB.out⟩
theorem mtext_any (base MB:Nat) (v:Value) (L:List Lt) (w:World) (hn:L.length≤1000) (h:MSt base MB v L w) :
  Calls Tryz.prog 105 #[.pointer (some ⟨MB,0,none⟩)] w fun e w'=>e=.returned (.string (S (txtL L)))∧Below w.heap.size w w':=by
 have HSe:=κ35 (mseen_any base MB v L w hn h)
 obtain ⟨M,hM⟩:∃ M,M=seenL L:=⟨_,rfl⟩
 have hml:M.length≤1000:=by have:=seenL_len L;rw [hM];omega
 have HTx:Hid (txtL L=M.map (·.c)):=κ35 (by rw [hM];rfl)
 rw [←hM] at HSe
 clear hM h hn
 go_enter Tryz.func105,Tryz.ntmps105
 go_wp2_with fail
 refine HSe.out.mono ?_
 rintro e w1 ⟨v1,rfl,hR,hb⟩
 have hs:=hR.sl
 obtain ⟨A,cp,hv,hc⟩:=hs.form
 subst hv
 obtain ⟨m,hm⟩:∃ m,m=M.length:=⟨_,rfl⟩
 rw [←hm] at hs hml
 rw [←hm]
 have HM:=κ35 hm
 have HS:=κ35 hs
 have HB:=κ35 hb
 clear hs hb hR hm hc HSe
 go_wp2_with fail
 go_loopw [3,5] (fun v3 v5 wr=>∃ j:Nat,v5=.int .i64 j∧j≤m∧v3=.string (S ((M.map (·.c)).take j))∧Below w1.heap.size w1 wr) (fun _ v5 _=>m - (intOf v5).toNat)
 case atStart=>exact ⟨0,rfl,by omega,rfl,Below.refl _ _⟩
 case round=>
  obtain ⟨j,rfl,hj,rfl,hb⟩:=hrel
  have HB1:=κ35 hb
  clear hb
  by_cases hlt2:j < m
  ·obtain ⟨x,hx⟩:∃ x,M[j]?=some x:=⟨_,List.getElem?_eq_getElem (by have:=HM.out;omega)⟩
   obtain ⟨b,off,rfl,hbl,hcc⟩:=(HS.out.below HB1.out).at' (by decide) hx
   have q1:wr.cell? ⟨b,off+j*3+1,none⟩=some (.int .u8 x.c.toNat):=hcc 1 _ rfl
   have i0:(0:Int)≤(j:Int):=by omega
   have i1:(j:Int) < (m:Int):=by omega
   have HX:Hid ((M.map (·.c)).take (j+1)=(M.map (·.c)).take j++[x.c]):=κ35 (by rw [List.take_add_one,List.getElem?_map,hx];rfl)
   have HBy:=κ35 (fun w=>byte_any (x.c.toNat:Int) w ⟨by omega,by have:=x.c.toNat_lt;omega⟩)
   have e8:UInt8.ofNat ((x.c.toNat:Int)).toNat=x.c:=by simp
   rw [e8] at HBy
   have b0:(0:Int)≤(x.c.toNat:Int):=by omega
   have b1:(x.c.toNat:Int)≤255:=by have:=x.c.toNat_lt;omega
   have hsz1:(S ((M.map (·.c)).take j)).size≤1000:=by rw [S_size,List.length_take];omega
   have hsz2:(S [x.c]).size=1:=rfl
   clear hx hcc e8
   go_wp2_with fail
   refine (HBy.out _).mono ?_
   rintro e w2 ⟨rfl,hb2⟩
   have HB2:=κ35 (HB1.out.trans (hb2.mono HB1.out.size))
   clear hb2 HBy
   go_wp2_with fail
   go_roundw
   case rel=>exact ⟨j+1,by go_num,by omega,by rw [HX.out,←S_app],HB2.out⟩
   case measure=>simp [intOf];omega
  ·have hge:¬ (j:Int) < (m:Int):=by omega
   have HE:Hid ((M.map (·.c)).take j=M.map (·.c)):=κ35 (List.take_of_length_le (by rw [List.length_map];have:=HM.out;omega))
   clear hlt2
   go_wp2_with fail
   go_ret
   exact ⟨by rw [HTx.out,HE.out];rfl,HB.out.trans (HB1.out.mono HB.out.size)⟩
def MDelEnd (base MB:Nat) (v:Value) (id:Int) (L:List Lt) (w:World) (e:Ending) (w':World):Prop:=
 e=.returned (.int .i64 (if ixOf id L < 0 then 6 else 0))∧MSt base MB v (delL id L) w'∧Fr (fun k=>k=MB∨v.ownBlock=some k) w w'
theorem set_same {L:List Value} {i:Nat} {v:Value} (h:L[i]?=some v):L.set i v=L:=by
 obtain ⟨hl,rfl⟩:=List.getElem?_eq_some_iff.1 h
 exact List.set_getElem_self hl
theorem ixOf_id {id:Int} {L:List Lt} {n:Nat} {x:Lt} (h:ixOf id L=n) (hx:L[n]?=some x):x.id=id:=by
 obtain ⟨A,y,B,rfl,h2,h3,h4⟩:=ixOf_at (id:=id) (L:=L) (by omega)
 have hk:n=A.length:=by omega
 rw [hk,List.getElem?_append_right (by omega)] at hx
 simp at hx
 rw [←hx];exact h2
theorem mdel_end {base MB g m cap n:Nat} {id:Int} {L:List Lt} {x:Lt} {w:World} (h:MSt base MB (.slice (some ⟨g,0,none⟩) m cap) L w) (hm:m=L.length) (hk:ixOf id L=n) (hx:L[n]?=some x) :
  MSt base MB (.slice (some ⟨g,0,none⟩) m cap) (delL id L) (((w.drew.setCell ⟨g,n*3,none⟩ (.int .i64 id)).setCell ⟨g,n*3+1,none⟩ (.int .u8 x.c.toNat)).setCell ⟨g,n*3+2,none⟩ (.bool true))∧
   Fr (fun k=>k=MB∨some g=some k) w (((w.drew.setCell ⟨g,n*3,none⟩ (.int .i64 id)).setCell ⟨g,n*3+1,none⟩ (.int .u8 x.c.toNat)).setCell ⟨g,n*3+2,none⟩ (.bool true)):=by
 have hid:=ixOf_id hk hx
 have h0:=h.below (Below.refl _ w).drew
 have o0:w.drew.ownsRow base 173 3 (.slice (some ⟨g,0,none⟩) m cap) m (lts L):=by have:=h0.own;unfold Rw at this;rw [←hm] at this;exact this
 obtain ⟨o1,g1⟩:=o0.stored (n*3) (.int .i64 id)
 obtain ⟨o2,g2⟩:=o1.stored (n*3+1) (.int .u8 x.c.toNat)
 obtain ⟨o3,g3⟩:=o2.stored (n*3+2) (.bool true)
 obtain ⟨a0,a1,a2⟩:=lts_at L n x hx
 rw [hid] at a0
 rw [set_same a0,set_same a1] at o3
 have hgne:g≠MB:=fun e=>h.ne (by rw [e];rfl)
 have hne2:∀ (j:Nat) (k:Nat),k≠g→k≠(⟨g,j,none⟩:Addr).block:=fun j k hk=>hk
 refine ⟨⟨?_,fun o=>by have:=h0.fz o;simpa using this,?_,h.ne,h.ge⟩,⟨rfl,rfl,rfl,by simp,fun k hk hne=>?_⟩⟩
 ·refine (World.cell?_setCell_other _ _ _ _ (by simp [Ne.symm hgne])).trans ((World.cell?_setCell_other _ _ _ _ (by simp [Ne.symm hgne])).trans ((World.cell?_setCell_other _ _ _ _ (by simp [Ne.symm hgne])).trans h0.ptr))
 ·unfold Rw
  rw [delL_len,←hm,letsOf,lts_del hk]
  exact o3
 ·have hkg:k≠g:=fun e=>hne (.inr (by rw [e]))
  exact (heap_setCell_other _ ⟨g,n*3+2,none⟩ k _ hkg).trans ((heap_setCell_other _ ⟨g,n*3+1,none⟩ k _ hkg).trans (heap_setCell_other w.drew ⟨g,n*3,none⟩ k _ hkg))
theorem mdelete_any (base MB:Nat) (v:Value) (id:Int) (L:List Lt) (w:World) (hb:base≤w.heap.size) (hn:L.length≤1000) (h:MSt base MB v L w) :
  Calls Tryz.prog 147 #[.pointer (some ⟨MB,0,none⟩),.int .i64 id] w (MDelEnd base MB v id L w):=by
 have HF:=κ35 (mfind_any id base MB v L w hn h)
 have hlb:=ixOf_lt id L
 obtain ⟨k,hk⟩:∃ k,ixOf id L=k:=⟨_,rfl⟩
 have HK:=κ35 hk
 rw [hk] at HF hlb
 have HS:=κ35 h
 clear h hk
 by_cases hx:k < 0
 ·go_enter Tryz.func147,Tryz.ntmps147
  go_wp2_with fail
  refine HF.out.mono ?_
  rintro e w1 ⟨rfl,hb⟩
  have HB:=κ35 hb
  clear hb
  go_wp2_with fail
  go_ret
  refine ⟨by rw [HK.out,if_pos hx];rfl,?_,Fr.of_below HB.out⟩
  rw [delL_none (by rw [HK.out];exact hx)]
  exact HS.out.below HB.out
 ·obtain ⟨n,rfl⟩:∃ n:Nat,k=n:=⟨k.toNat,by omega⟩
  have hnl:n < L.length:=by omega
  rcases HS.out.own.form with ⟨_,h0⟩ | ⟨g,cap,hv,hcap,hcm,hbg,hgl⟩
  ·rw [h0] at hnl;simp at hnl
  subst hv
  obtain ⟨m,hm⟩:∃ m,m=L.length:=⟨_,rfl⟩
  rw [←hm] at hlb hnl hcap HS
  have HM:=κ35 hm
  have hm2:m≤1000:=by omega
  obtain ⟨x,hx0⟩:∃ x,L[n]?=some x:=⟨_,List.getElem?_eq_getElem (by omega)⟩
  have HX:=κ35 hx0
  clear hm hcm hn hx0
  go_enter Tryz.func147,Tryz.ntmps147
  go_wp2_with fail
  refine HF.out.mono ?_
  rintro e w1 ⟨rfl,hb⟩
  have hS1:=HS.out.below hb
  have HS1:=κ35 hS1
  have q:=hS1.ptr
  have q0:w1.cell? ⟨g,n*3,none⟩=some (.int .i64 x.id):=hS1.own.at' rfl HX.out (j:=0) rfl
  have q1:w1.cell? ⟨g,n*3+1,none⟩=some (.int .u8 x.c.toNat):=hS1.own.at' rfl HX.out (j:=1) rfl
  have q2:w1.cell? ⟨g,n*3+2,none⟩=some (.bool x.gone):=hS1.own.at' rfl HX.out (j:=2) rfl
  have z0:=hS1.own.fz (n*3)
  have z1:=hS1.own.fz (n*3+1)
  have z2:=hS1.own.fz (n*3+2)
  have HB:=κ35 hb
  have i0:(0:Int)≤(n:Int):=by omega
  have i1:(n:Int) < (m:Int):=by omega
  clear hS1 hb
  go_wp2_with fail
  go_still_tail 16,(by kernel_rfl)
  change wpList _ _ _ _ _ w1.drew
  go_wp2_with fail
  go_ret
  have he:=mdel_end HS1.out HM.out HK.out HX.out
  have hm:=HM.out
  subst hm
  exact ⟨by rw [HK.out,if_neg (by omega)];rfl,he.1,(Fr.of_below HB.out).trans he.2⟩
end Go.Proofs.YtjekalilfhnpmaaGreatDoor
