/- The document's replica: Vector, Diff, own, place. Plain: what the document's Join computes is what the program's computes. The document's next operation: the walk. -/
import Derived.Test.YtjekalilfhnpmaaGreatDoorQ30
import Derived.Test.YtjekalilfhnpmaaGreatDoorQ31
theorem Go.Proofs.YtjekalilfhnpmaaGreatDoor.κ32 {p:Prop} (h:p):Go.RowKit.Hid p:=Go.Lib.hid h
namespace Go.Proofs.YtjekalilfhnpmaaGreatDoor
open Go Go.RowKit Go.Maps Go.Shelf LineOrd Tree
set_option linter.unusedVariables false
set_option linter.unusedSimpArgs false
set_option maxHeartbeats 4000000
set_option maxRecDepth 100000
theorem mPlace_any (MB:Nat) (b:Int) (A:Option Addr) (n c:Nat) (K:List OpT) (nd:Int) (w:World) (h:MRep MB b A n c K w) (hD:∀ o∈K,OpFine o) (hl:K.length≤100000) :
  Calls Tryz.prog 93 #[ptrV MB,.int .i64 nd] w fun e w'=>∃ kb,e=.returned (.bool kb)∧(kb=true↔nd=0∨nd=1∨Known K nd)∧Below w.heap.size w w':=by
 have HK:=κ32 (mKnown_any MB b A n c K nd w h hD hl)
 unfold KnEnds at HK
 clear h hD hl
 by_cases h0:nd=0
 ·subst h0
  clear HK
  go_enter Tryz.func93,Tryz.ntmps93
  go_wp2_with fail
  go_ret
  exact ⟨true,rfl,by simp,Below.refl _ _⟩
 ·by_cases h1:nd=1
  ·subst h1
   clear HK
   go_enter Tryz.func93,Tryz.ntmps93
   go_wp2_with fail
   go_ret
   exact ⟨true,rfl,by simp,Below.refl _ _⟩
  ·have b0:(nd == 0)=false:=by simpa using h0
   have b1:(nd == 1)=false:=by simpa using h1
   have HN:=κ32 (And.intro h0 h1)
   clear h0 h1
   go_enter Tryz.func93,Tryz.ntmps93
   go_wp2_with fail
   unfold ptrV at HK
   refine HK.out.mono ?_
   rintro e w1 ⟨kb,rfl,hk,hb⟩
   have HB:=κ32 hb
   have HKb:=κ32 hk
   clear hb hk
   go_wp2_with fail
   go_ret
   exact ⟨kb,rfl,by rw [HKb.out];have:=HN.out;simp [this.1,this.2],HB.out⟩
theorem cnt_take {K:List OpT} {j:Nat} {x:OpT} (hx:K[j]?=some x) (a:Int):cntB (K.take (j+1)) a=cntB (K.take j) a+if x.b=a then 1 else 0:=by
 have hj:=(List.getElem?_eq_some_iff.1 hx).1
 rw [List.take_succ_eq_append_getElem hj,cntB_app]
 have:K[j]=x:=(List.getElem?_eq_some_iff.1 hx).2
 rw [this]
 unfold cntB
 by_cases h:x.b=a <;> simp [h]
theorem mVector_any (MB:Nat) (b:Int) (A:Option Addr) (n c:Nat) (K:List OpT) (w:World) (h:MRep MB b A n c K w) (hD:∀ o∈K,OpFine o) (hl:K.length≤100000) :
  Calls Tryz.prog 43 #[ptrV MB] w fun e w'=>e=.returned (.agg #[.int .i64 (cntB K 0),.int .i64 (cntB K 1),.int .i64 (cntB K 2),.int .i64 (cntB K 3)])∧Below w.heap.size w w':=by
 have HM:=κ32 h
 have HN:=κ32 h.sl.len
 have HD:=κ32 hD
 have hn5:n≤100000:=by have:=h.sl.len;omega
 clear h hD
 unfold ptrV
 go_enter Tryz.func43,Tryz.ntmps43
 go_wp2_with fail
 go_loopw [4] (fun v4 wr=>∃ j:Nat,j≤n∧v4=.int .i64 j∧Hid (VecAt (w.heap.size+1) (fun a=>cntB (K.take j) a) wr∧(∀ i,i < 4→wr.cell? ⟨w.heap.size,i,none⟩=some (.int .i64 0))∧(∀ i,wr.frozen? ⟨w.heap.size+1,i,none⟩=false)∧(∀ i,wr.frozen? ⟨w.heap.size,i,none⟩=false)∧Below w.heap.size w wr)) (fun v4 _=>n - (RowKit.intOf v4).toNat)
 case atStart=>
  refine ⟨0,by omega,rfl,κ32 ⟨fun a ha=>?_,fun a ha=>?_,fun i=>?_,fun i=>?_,by go_grown⟩⟩
  ·have:w.heap.size+1=(w.alloc (.cells #[.int .i64 0,.int .i64 0,.int .i64 0,.int .i64 0] 47)).heap.size:=by simp
   rcases (show a=0∨a=1∨a=2∨a=3 by omega) with rfl | rfl | rfl | rfl <;> simp [go_sem,cntB]
  ·rcases (show a=0∨a=1∨a=2∨a=3 by omega) with rfl | rfl | rfl | rfl <;> simp [go_sem]
  ·simp [go_sem]
  ·simp [go_sem]
 case round=>
  obtain ⟨j,hj,rfl,HA⟩:=hrel
  have hM:=HM.out.below HA.out.2.2.2.2
  have c1:=hM.c1
  by_cases hlt:j < n
  ·obtain ⟨x,hx⟩:∃ x,K[j]?=some x:=⟨_,List.getElem?_eq_getElem (by have:=HN.out;omega)⟩
   have hxm:=List.mem_of_getElem? hx
   have hfi:=HD.out x hxm
   obtain ⟨bb,off,rfl,_,q0,q1,q2,q3,q4,q5,_⟩:=ops_at hM.sl hx
   obtain ⟨a,ha⟩:∃ a:Nat,x.b=a:=⟨x.b.toNat,by have:=hfi.b1;omega⟩
   have ha4:a < 4:=by have:=hfi.b2;omega
   have HX:=κ32 (And.intro hx ha)
   rw [ha] at q1
   have j0:(0:Int)≤(j:Int):=by omega
   have j1:(j:Int) < (n:Int):=by omega
   have a0:(0:Int)≤(a:Int):=by omega
   have a4:(a:Int) < 4:=by omega
   have v0:=HA.out.1 a ha4
   have f0:=HA.out.2.2.1 a
   have hle:cntB (K.take j) a≤100000:=by have:=cnt_le (K.take j) a;have:=List.length_take_le j K;omega
   obtain ⟨q,hq⟩:∃ q:Nat,cntB (K.take j) a=q:=⟨_,rfl⟩
   have HQ:=κ32 hq
   simp only [hq] at v0 hle
   have s2:IntKind.i64.wrap ((q:Int)+1)=(q:Int)+1:=by rw [IntKind.wrap_i64];omega
   clear hM hx hxm hfi ha hq
   go_wp2_with fail
   go_roundw
   case rel=>
    refine ⟨j+1,by omega,by go_num,κ32 ?_⟩
    obtain ⟨v0',r0',f0',g0',hB'⟩:=HA.out
    refine ⟨fun a' ha'=>?_,fun i hi=>?_,fun i=>?_,fun i=>?_,below_set hB' (Nat.le_succ _) _⟩
    ·by_cases he:a'=a
     ·subst he
      rw [World.cell?_setCell_same' _ _ _ (by rw [v0];rfl)]
      simp only
      rw [cnt_take HX.out.1,if_pos HX.out.2,HQ.out]
      simp
     ·rw [World.cell?_setCell_other _ _ _ _ (by intro e;cases e;exact he rfl),v0' a' ha']
      simp only
      rw [cnt_take HX.out.1,if_neg (by rw [HX.out.2];omega)]
      simp
    ·rw [World.cell?_setCell_other _ _ _ _ (by intro e;have:=congrArg Addr.block e;simp at this)];exact r0' i hi
    ·rw [World.frozen?_setCell];exact f0' i
    ·rw [World.frozen?_setCell];exact g0' i
   case measure=>simp [RowKit.intOf];omega
  ·have j1:¬ (j:Int) < (n:Int):=by omega
   obtain rfl:j=n:=by omega
   obtain ⟨v0,r0,f0,g0,hB⟩:=HA.out
   have hK:K.take j=K:=by rw [HN.out];exact List.take_length
   rw [hK] at v0
   have d0:=v0 0 (by omega)
   have d1:=v0 1 (by omega)
   have d2:=v0 2 (by omega)
   have d3:=v0 3 (by omega)
   have r00:=r0 0 (by omega)
   have r1:=r0 1 (by omega)
   have r2:=r0 2 (by omega)
   have r3:=r0 3 (by omega)
   have g00:=g0 0
   have g1:=g0 1
   have g2:=g0 2
   have g3:=g0 3
   have hBx:=hB
   clear v0 r0 f0 g0 hM HM HA hB
   go_wp2_with fail
   refine bodyPost_ret (v:=.agg #[.int .i64 (cntB K 0),.int .i64 (cntB K 1),.int .i64 (cntB K 2),.int .i64 (cntB K 3)]) (by simp [results,Tryz.results43,go_sem,r00,r1,r2,r3]) rfl ⟨rfl,below_set (below_set (below_set (below_set hBx (Nat.le_refl _) _) (Nat.le_refl _) _) (Nat.le_refl _) _) (Nat.le_refl _) _⟩
theorem diffI_take {K:List OpT} {v:Int→Int} {j:Nat} {x:OpT} (hx:K[j]?=some x):diffI v (K.take (j+1))=if heardB v x then diffI v (K.take j) else diffI v (K.take j)++[x]:=by
 have hj:=(List.getElem?_eq_some_iff.1 hx).1
 have:K[j]=x:=(List.getElem?_eq_some_iff.1 hx).2
 rw [List.take_succ_eq_append_getElem hj,this]
 unfold diffI
 rw [List.filter_append]
 cases h:heardB v x <;> simp [h]
theorem diffI_len (v:Int→Int) (K:List OpT):(diffI v K).length≤K.length:=List.length_filter_le _ _
theorem mDiff_any (MB:Nat) (b:Int) (A:Option Addr) (n c:Nat) (K:List OpT) (v:Int→Int) (w:World) (h:MRep MB b A n c K w) (hD:∀ o∈K,OpFine o) (hl:K.length≤100000) :
  Calls Tryz.prog 47 #[ptrV MB,vecI v] w fun e w'=>∃ v',e=.returned v'∧Rw opE 31 w.heap.size v' (diffI v K) w'∧Below w.heap.size w w':=by
 have HM:=κ32 h
 have HN:=κ32 h.sl.len
 have HD:=κ32 hD
 have hn5:n≤100000:=by have:=h.sl.len;omega
 clear h hD
 unfold ptrV vecI
 go_enter Tryz.func47,Tryz.ntmps47
 go_wp2_with fail
 go_loopw [5,6] (fun v5 v6 wr=>∃ j:Nat,j≤n∧v6=.int .i64 j∧Hid (Rw opE 31 (w.heap.size+1) v5 (diffI v (K.take j)) wr∧VecAt w.heap.size v wr∧Below w.heap.size w wr)) (fun _ v6 _=>n - (RowKit.intOf v6).toNat)
 case atStart=>
  refine ⟨0,by omega,rfl,κ32 ⟨Rw.nil _ _ _ _,fun a ha=>?_,by go_grown⟩⟩
  rcases (show a=0∨a=1∨a=2∨a=3 by omega) with rfl | rfl | rfl | rfl <;> simp [go_sem]
 case round=>
  obtain ⟨j,hj,rfl,HA⟩:=hrel
  have hM:=HM.out.below HA.out.2.2
  have c1:=hM.c1
  by_cases hlt:j < n
  ·obtain ⟨x,hx⟩:∃ x,K[j]?=some x:=⟨_,List.getElem?_eq_getElem (by have:=HN.out;omega)⟩
   have hxm:=List.mem_of_getElem? hx
   have hfi:=HD.out x hxm
   obtain ⟨bb,off,rfl,hbl,q0,q1,q2,q3,q4,q5,q6,q7⟩:=ops_at hM.sl hx
   obtain ⟨a,ha⟩:∃ a:Nat,x.b=a:=⟨x.b.toNat,by have:=hfi.b1;omega⟩
   have ha4:a < 4:=by have:=hfi.b2;omega
   have HX:=κ32 (And.intro hx ha)
   rw [ha] at q1
   have j0:(0:Int)≤(j:Int):=by omega
   have j1:(j:Int) < (n:Int):=by omega
   have a0:(0:Int)≤(a:Int):=by omega
   have a4:(a:Int) < 4:=by omega
   have v0:=HA.out.2.1 a ha4
   obtain ⟨A5,m5,c5',hv5⟩:=HA.out.1.slice
   subst hv5
   obtain ⟨q,hq⟩:∃ q:Int,v a=q:=⟨_,rfl⟩
   have HQ:=κ32 hq
   rw [hq] at v0
   obtain ⟨tb,htb⟩:∃ tb,decide (q < x.n)=tb:=⟨_,rfl⟩
   have HT:Hid (heardB v x=!tb):=κ32 (by
    unfold heardB
    rw [HX.out.2,HQ.out,←htb]
    by_cases h:q < x.n
    ·rw [decide_eq_true h,decide_eq_false (by omega)];rfl
    ·rw [decide_eq_false h,decide_eq_true (by omega)];rfl)
   have hFz:∀ k,(Value.slice A5 m5 c5').ownBlock=some k→k≠w.heap.size:=fun k hk e=>by have:=(HA.out.1.lt k hk).1;omega
   have HFz:=κ32 hFz
   clear hM hx hxm hfi ha hq hbl hFz
   cases tb with
   | false=>
    have HR:Hid (diffI v (K.take (j+1))=diffI v (K.take j)):=κ32 (by rw [diffI_take HX.out.1,HT.out];rfl)
    go_wp2_with fail
    go_region
    all_goals
     go_wp2_with fail
     go_roundw
     case rel=>exact ⟨j+1,by omega,by go_num,κ32 (by rw [HR.out];exact ⟨HA.out.1.below (by go_grown),HA.out.2.1.fr (X:=fun _=>False) (Fr.of_below (by go_grown)) (fun h=>h),HA.out.2.2.trans (by go_grown)⟩)⟩
     case measure=>simp [RowKit.intOf];omega
   | true=>
    have HR:Hid (diffI v (K.take (j+1))=diffI v (K.take j)++[x]):=κ32 (by rw [diffI_take HX.out.1,HT.out];rfl)
    go_wp2_with fail
    go_region
    all_goals
     have HXe:Hid ((⟨x.t,(a:Int),x.n,x.k,x.nd,x.ot,x.nm,x.vl⟩:OpT)=x):=κ32 (by rw [←HX.out.2])
     have HX1:=κ32 (HA.out.1.below (((Below.refl wr.heap.size wr).alloc (Nat.le_refl _) (.cells (⟨x.t,(a:Int),x.n,x.k,x.nd,x.ot,x.nm,x.vl⟩:OpT).cells 31)).drew))
     go_wp2_with (at_builtin;refine wpList_append_rows_at rfl _ _ 36 rfl opE (w.heap.size+1) 31 (opV ⟨0,0,0,0,0,0,⟨#[]⟩,⟨#[]⟩⟩) 80 Tryz.underlying36 infoOp rfl (by decide) _ _ (diffI v (K.take j)) [⟨x.t,(a:Int),x.n,x.k,x.nd,x.ot,x.nm,x.vl⟩] rfl rfl HX1.out ((SlV.one wr _ _ _ rfl).below (Below.refl _ _).drew) ?za1 ?za2 ?za3 ?_)
     case za1=>have:=diffI_len v (K.take j);have:=List.length_take_le j K;unfold maxLen;simp;omega
     case za2=>have:=diffI_len v (K.take j);have:=List.length_take_le j K;simp;omega
     case za3=>have:=HA.out.2.2.size;have:=HA.out.2.1.lt;simp;omega
     intro v8 w8 hr8 hg8 hat8
     have HL8:Hid (Rw opE 31 (w.heap.size+1) v8 (diffI v (K.take (j+1))) w8∧VecAt w.heap.size v w8∧Below w.heap.size w w8):=κ32 (by
      rw [HR.out]
      rw [HXe.out] at hr8
      have hb1:Below w.heap.size w (wr.alloc (.cells (⟨x.t,(a:Int),x.n,x.k,x.nd,x.ot,x.nm,x.vl⟩:OpT).cells 31)).drew:=(HA.out.2.2.alloc HA.out.2.2.size _).drew
      have hV1:VecAt w.heap.size v (wr.alloc (.cells (⟨x.t,(a:Int),x.n,x.k,x.nd,x.ot,x.nm,x.vl⟩:OpT).cells 31)).drew:=HA.out.2.1.fr (X:=fun _=>False) (Fr.of_below ((Below.refl wr.heap.size wr).alloc (Nat.le_refl _) _).drew) (fun h=>h)
      exact ⟨hr8,hV1.fr (X:=fun k=>(Value.slice A5 m5 c5').ownBlock=some k) ⟨hg8.os,hg8.tape,hg8.output,hg8.size,fun k hk hn=>hg8.block k hk (fun e=>hn e.symm)⟩ (fun h=>HFz.out _ h rfl),hb1.grown hg8 (by have:=HA.out.2.2.size;simp;omega) (fun k hk=>Nat.le_of_succ_le (HA.out.1.lt k hk).1)⟩)
     clear hr8 hg8 hat8 HX1 q0 q1 q2 q3 q4 q5 q6 q7 v0 c1
     go_wp2_with fail
     go_roundw
     case rel=>exact ⟨j+1,by omega,by go_num,HL8⟩
     case measure=>simp [RowKit.intOf];omega
  ·have j1:¬ (j:Int) < (n:Int):=by omega
   obtain rfl:j=n:=by omega
   have hK:K.take j=K:=by rw [HN.out];exact List.take_length
   rw [hK] at HA
   go_wp2_with fail
   go_ret
   exact ⟨_,rfl,HA.out.1.lower (Nat.le_succ _),HA.out.2.2⟩
def ownR (L:List OpT) (b m:Int):OpT×Bool:=match L.find? (ownB b m) with | some o=>(o,true) | none=>(zOp,false)
def Blank8 (B:Nat) (w:World):Prop:=∀ j,j < 8→(∃ u,w.cell? ⟨B,j,none⟩=some u)∧w.frozen? ⟨B,j,none⟩=false
theorem Blank8.below {B:Nat} {w w':World} (h:Blank8 B w) (hb:Below w.heap.size w w'):Blank8 B w':=fun j hj=>by
 obtain ⟨⟨u,hu⟩,hf⟩:=h j hj
 have hl:=World.block_lt_of_cell? _ _ hu
 exact ⟨⟨u,(hb.cell hl).trans hu⟩,(hb.frozen (p:=⟨B,j,none⟩) hl).trans hf⟩
theorem mOwn_any (A:Option Addr) (n c:Nat) (L:List OpT) (b m:Int) (w:World) (h:SlV opE w (.slice A n c) L) (hl:L.length≤100000) :
  Calls Tryz.prog 88 #[.slice A n c,.int .i64 b,.int .i64 m] w fun e w'=>e=.returned (.tuple #[opV (ownR L b m).1,.bool (ownR L b m).2])∧Below w.heap.size w w':=by
 have HM:=κ32 h
 have HN:=κ32 h.len
 have hn5:n≤100000:=by have:=h.len;omega
 obtain ⟨R,hR⟩:∃ R,ownR L b m=R:=⟨_,rfl⟩
 have HR:=κ32 hR
 rw [hR]
 clear h hR
 go_enter Tryz.func88,Tryz.ntmps88
 go_wp2_with fail
 go_loopw [8] (fun v8 wr=>∃ j:Nat,j≤n∧v8=.int .i64 j∧Hid (∀ i y,i < j→L[i]?=some y→¬ (y.b=b∧y.n=m))∧Hid (Blank8 w.heap.size wr∧Below w.heap.size w wr)) (fun v8 _=>n - (RowKit.intOf v8).toNat)
 case atStart=>
  refine ⟨0,by omega,rfl,κ32 (fun i y h=>by omega),κ32 ⟨fun j hj=>⟨?_,?_⟩,by go_grown⟩⟩
  ·rcases (show j=0∨j=1∨j=2∨j=3∨j=4∨j=5∨j=6∨j=7 by omega) with rfl | rfl | rfl | rfl | rfl | rfl | rfl | rfl <;> exact ⟨_,by simp [go_sem];rfl⟩
  ·simp [go_sem]
 case round=>
  obtain ⟨j,hj,rfl,HA,HB⟩:=hrel
  by_cases hlt:j < n
  ·obtain ⟨x,hx⟩:∃ x,L[j]?=some x:=⟨_,List.getElem?_eq_getElem (by have:=HN.out;omega)⟩
   have HX:=κ32 hx
   obtain ⟨bb,off,rfl,hbl,q0,q1,q2,q3,q4,q5,q6,q7⟩:=ops_at (HM.out.below HB.out.2) hx
   have j0:(0:Int)≤(j:Int):=by omega
   have j1:(j:Int) < (n:Int):=by omega
   have HNx:Hid (¬ (x.b=b∧x.n=m)→Hid (∀ i y,i < j+1→L[i]?=some y→¬ (y.b=b∧y.n=m))):=κ32 fun hf=>κ32 (fun i y h1 h2=>by
    by_cases he:i=j
    ·subst he;rw [HX.out] at h2;cases h2;exact hf
    ·exact HA.out i y (by omega) h2)
   clear hx hbl
   by_cases h1:x.b=b
   ·have b1:(x.b == b)=true:=by simpa using h1
    by_cases h2:x.n=m
    ·have b2:(x.n == m)=true:=by simpa using h2
     have HE:Hid (R=(x,true)):=κ32 (by
      rw [←HR.out]
      have:L.find? (ownB b m)=some x:=by
       rw [List.find?_eq_some_iff_getElem]
       obtain ⟨hj1,hj2⟩:=List.getElem?_eq_some_iff.1 HX.out
       exact ⟨by unfold ownB;exact decide_eq_true ⟨h1,h2⟩,j,hj1,hj2,fun i hi=>by
        have:=HA.out i _ hi (List.getElem?_eq_getElem (by omega))
        unfold ownB
        rw [decide_eq_false this]
        rfl⟩
      unfold ownR
      rw [this])
     clear h1 h2 HR HNx
     obtain ⟨⟨u0,z0⟩,f0⟩:=HB.out.1 0 (by omega)
     obtain ⟨⟨u1,z1⟩,f1⟩:=HB.out.1 1 (by omega)
     obtain ⟨⟨u2,z2⟩,f2⟩:=HB.out.1 2 (by omega)
     obtain ⟨⟨u3,z3⟩,f3⟩:=HB.out.1 3 (by omega)
     obtain ⟨⟨u4,z4⟩,f4⟩:=HB.out.1 4 (by omega)
     obtain ⟨⟨u5,z5⟩,f5⟩:=HB.out.1 5 (by omega)
     obtain ⟨⟨u6,z6⟩,f6⟩:=HB.out.1 6 (by omega)
     obtain ⟨⟨u7,z7⟩,f7⟩:=HB.out.1 7 (by omega)
     have HBW:=HB.out.2
     have HB8:=κ32 HB.out.1
     clear HA HB HM
     go_wp2_with fail
     rw [HE.out]
     obtain ⟨W8,hW8⟩:∃ W8,W8=((((((((wr.setCell ⟨w.heap.size,0,none⟩ (.int .i64 x.t)).setCell ⟨w.heap.size,1,none⟩ (.int .i64 x.b)).setCell ⟨w.heap.size,2,none⟩ (.int .i64 x.n)).setCell ⟨w.heap.size,3,none⟩ (.int .u8 x.k)).setCell ⟨w.heap.size,4,none⟩ (.int .i64 x.nd)).setCell ⟨w.heap.size,5,none⟩ (.int .i64 x.ot)).setCell ⟨w.heap.size,6,none⟩ (.string x.nm)).setCell ⟨w.heap.size,7,none⟩ (.string x.vl)):=⟨_,rfl⟩
     have h8:OpAt W8 w.heap.size x∧Below w.heap.size w W8:=by
      rw [hW8]
      exact set8_at x (fun j hj=>(HB8.out j hj).1) HBW (Nat.le_refl _)
     obtain ⟨⟨l0,l1,l2,l3,l4,l5,l6,l7⟩,hb8⟩:=h8
     rw [←hW8]
     refine bodyPost_ret (v:=.tuple #[opV x,.bool true]) (by simp [results,Tryz.results88,go_sem,l0,l1,l2,l3,l4,l5,l6,l7,opV]) rfl ⟨rfl,hb8⟩
    ·have b2:(x.n == m)=false:=by simpa using h2
     have HF:=HNx.out (fun h=>h2 h.2)
     clear h1 h2 HNx
     go_wp2_with fail
     go_roundw
     case rel=>exact ⟨j+1,by omega,by go_num,HF,HB⟩
     case measure=>simp [RowKit.intOf];omega
   ·have b1:(x.b == b)=false:=by simpa using h1
    have HF:=HNx.out (fun h=>h1 h.1)
    clear h1 HNx
    go_wp2_with fail
    go_roundw
    case rel=>exact ⟨j+1,by omega,by go_num,HF,HB⟩
    case measure=>simp [RowKit.intOf];omega
  ·have j1:¬ (j:Int) < (n:Int):=by omega
   obtain rfl:j=n:=by omega
   have HE:Hid (R=(zOp,false)):=κ32 (by
    rw [←HR.out]
    have:L.find? (ownB b m)=none:=by
     rw [List.find?_eq_none]
     intro y hy
     obtain ⟨i,hi,rfl⟩:=List.getElem_of_mem hy
     have:=HA.out i _ (by have:=HN.out;omega) (List.getElem?_eq_getElem hi)
     unfold ownB
     rw [decide_eq_false this]
     simp
    unfold ownR
    rw [this])
   obtain ⟨⟨u0,z0⟩,f0⟩:=HB.out.1 0 (by omega)
   obtain ⟨⟨u1,z1⟩,f1⟩:=HB.out.1 1 (by omega)
   obtain ⟨⟨u2,z2⟩,f2⟩:=HB.out.1 2 (by omega)
   obtain ⟨⟨u3,z3⟩,f3⟩:=HB.out.1 3 (by omega)
   obtain ⟨⟨u4,z4⟩,f4⟩:=HB.out.1 4 (by omega)
   obtain ⟨⟨u5,z5⟩,f5⟩:=HB.out.1 5 (by omega)
   obtain ⟨⟨u6,z6⟩,f6⟩:=HB.out.1 6 (by omega)
   obtain ⟨⟨u7,z7⟩,f7⟩:=HB.out.1 7 (by omega)
   have HBW:=HB.out.2
   have HB8:=κ32 HB.out.1
   clear HA HB HM
   go_wp2_with fail
   rw [HE.out]
   obtain ⟨W8,hW8⟩:∃ W8,W8=((((((((wr.setCell ⟨w.heap.size,0,none⟩ (.int .i64 zOp.t)).setCell ⟨w.heap.size,1,none⟩ (.int .i64 zOp.b)).setCell ⟨w.heap.size,2,none⟩ (.int .i64 zOp.n)).setCell ⟨w.heap.size,3,none⟩ (.int .u8 zOp.k)).setCell ⟨w.heap.size,4,none⟩ (.int .i64 zOp.nd)).setCell ⟨w.heap.size,5,none⟩ (.int .i64 zOp.ot)).setCell ⟨w.heap.size,6,none⟩ (.string zOp.nm)).setCell ⟨w.heap.size,7,none⟩ (.string zOp.vl)):=⟨_,rfl⟩
   have h8:OpAt W8 w.heap.size zOp∧Below w.heap.size w W8:=by
    rw [hW8]
    exact set8_at zOp (fun j hj=>(HB8.out j hj).1) HBW (Nat.le_refl _)
   obtain ⟨⟨l0,l1,l2,l3,l4,l5,l6,l7⟩,hb8⟩:=h8
   simp only [zOp] at hW8 l0 l1 l2 l3 l4 l5 l6 l7
   rw [←hW8]
   refine bodyPost_ret (v:=.tuple #[opV zOp,.bool false]) (by simp [results,Tryz.results88,go_sem,l0,l1,l2,l3,l4,l5,l6,l7,opV,zOp]) rfl ⟨rfl,hb8⟩
def gapE (L:List OpT) (o:OpT):Bool:=!decide (o.n=1) && !(ownR L o.b (o.n - 1)).2
def fallE (L:List OpT) (o:OpT):Bool:=!decide (o.n=1) && ((ownR L o.b (o.n - 1)).2 && !opLt (ownR L o.b (o.n - 1)).1 o)
def RefM (M:List OpT) (o:OpT):Prop:=((o.id=o.nd∧o.k=109)∨Known M o.nd)∧(o.k=109→o.ot=0∨o.ot=1∨Known M o.ot)∧(((o.k=105∧0 < o.ot)∨o.k=100)→HasLet M o.nd o.ot)
open Classical in
noncomputable def joinM (K l:List OpT):(Nat×Int) ⊕ List OpT:=
 match freshG K [] 0 l with
 | .inl e=>.inl e
 | .inr F=>if (K++F).any (gapE (K++F))=true then .inl (9,-1) else if (K++F).any (fallE (K++F))=true then .inl (3,-1)
  else if ∀ o∈sortOps (K++F),RefM (sortOps (K++F)) o then (if 400 < K.length+F.length then .inl (8,-1) else .inr F) else .inl (6,-1)
theorem find_own {L:List OpT} (hu:∀ o∈L,∀ p∈L,o.b=p.b→o.n=p.n→o=p) (b m:Int):L.find? (ownB b m)=findOwn L b m:=by
 cases h:L.find? (ownB b m) with
 | none=>
  symm
  unfold findOwn
  rw [List.find?_eq_none] at h ⊢
  exact fun x hx=>h x (List.mem_reverse.1 hx)
 | some o=>
  have h1:=List.find?_some h
  have h2:=List.mem_of_find?_eq_some h
  unfold ownB at h1
  obtain ⟨e1,e2⟩:=of_decide_eq_true h1
  rw [←e1,←e2]
  exact (findOwn_is hu h2).symm
theorem ownR_is {L:List OpT} (hu:∀ o∈L,∀ p∈L,o.b=p.b→o.n=p.n→o=p) (b m:Int):ownR L b m=match findOwn L b m with | some o=>(o,true) | none=>(zOp,false):=by
 unfold ownR
 rw [find_own hu]
 all_goals (cases findOwn L b m <;> rfl)
theorem refM_iff {M:List OpT} {o:OpT} (h:OpFine o):RefM M o↔RefOk M o:=by
 have hk:=h.k
 constructor
 ·rintro ⟨h1,h2,h3⟩
  refine ⟨fun e=>⟨h1.imp (fun q=>q.1.symm) id,h2 e⟩,fun e=>⟨h1.resolve_left fun q=>by omega,?_⟩,fun e=>⟨h1.resolve_left fun q=>by omega,h3 (.inr e)⟩,fun e=>h1.resolve_left fun q=>by omega⟩
  by_cases h0:o.ot=0
  ·exact .inl h0
  ·exact .inr (h3 (.inl ⟨e,by have:=(h.ins e).1;omega⟩))
 ·intro hr
  refine ⟨?_,fun e=>(hr.mv e).2,?_⟩
  ·rcases hk with e | e | e | e
   ·exact (hr.mv e).1.imp (fun q=>⟨q.symm,e⟩) id
   ·exact .inr (hr.ins e).1
   ·exact .inr (hr.del e).1
   ·exact .inr (hr.set e)
  ·rintro (⟨e,h0⟩ | e)
   ·exact (hr.ins e).2.resolve_left fun q=>by omega
   ·exact (hr.del e).2
theorem joinM_is {K l:List OpT} (hL:DOk K) (hup:Rising K):joinP K l=match joinM K l with | .inl e=>.inl e | .inr F=>.inr (sortOps F):=by
 unfold joinP joinM
 cases hf:freshG K [] 0 l with
 | inl e=>rfl
 | inr F=>
  simp only
  have hF:=fresh_of hf
  have hnd:(K++F).Nodup:=by
   refine List.pairwise_append.2 ⟨hL.nod,hF.nod.imp fun hh e=>hh (by subst e;exact ⟨rfl,rfl⟩),fun a ha b hb e=>?_⟩
   subst e
   exact hF.new a ha a hb ⟨rfl,rfl⟩
  have hnum:∀ o∈K++F,∀ p∈K++F,o.b=p.b→o.n=p.n→o=p:=fun o ho p hp hb hn=>by
   rcases List.mem_append.1 ho with ho | ho <;> rcases List.mem_append.1 hp with hp | hp
   ·exact hL.num o ho p hp hb hn
   ·exact absurd ⟨hb,hn⟩ (hF.new o ho p hp)
   ·exact absurd ⟨hb.symm,hn.symm⟩ (hF.new p hp o ho)
   ·refine Classical.byContradiction fun hne=>?_
    obtain ⟨i,hi,rfl⟩:=List.getElem_of_mem ho
    obtain ⟨j,hj,rfl⟩:=List.getElem_of_mem hp
    have hpw:=List.pairwise_iff_getElem.1 hF.nod
    rcases Nat.lt_trichotomy i j with hij | hij | hij
    ·exact hpw i j hi hj hij ⟨hb,hn⟩
    ·subst hij;exact hne rfl
    ·exact hpw j i hj hi hij ⟨hb.symm,hn.symm⟩
  have her:∀ o∈K++F,opErr o=0:=fun o ho=>(List.mem_append.1 ho).elim (hL.er o) (hF.er o)
  have hfi:∀ o∈K++F,OpFine o:=fun o ho=>fine_of (her o ho)
  have hn1:∀ o∈K++F,1≤o.n:=fun o ho=>(hfi o ho).n1
  have hfind:∀ b m,findOwn (K++F) b m=none↔∀ p∈K++F,¬ (p.b=b∧p.n=m):=fun b m=>by
   rw [←find_own hnum,List.find?_eq_none]
   unfold ownB
   simp only [decide_eq_true_eq]
  have hgapE:∀ o,gapE (K++F) o=true↔o.n≠1∧findOwn (K++F) o.b (o.n - 1)=none:=fun o=>by
   unfold gapE
   rw [ownR_is hnum]
   cases h:findOwn (K++F) o.b (o.n - 1) <;> simp
  have hgap:(K++F).any (gapE (K++F))=gapP K F:=by
   rw [Bool.eq_iff_iff]
   constructor
   ·intro h
    obtain ⟨o,ho,hg⟩:=List.any_eq_true.1 h
    obtain ⟨g1,g2⟩:=(hgapE o).1 hg
    have hgt:1 < o.n:=by have:=hn1 o ho;omega
    refine Classical.byContradiction fun h1=>?_
    have hg:gapP K F=false:=by simpa using h1
    rcases List.mem_append.1 ho with ho' | ho'
    ·obtain ⟨p,hp,e1,e2,_⟩:=hL.low o ho' hgt
     exact (hfind _ _).1 g2 p (List.mem_append.2 (.inl hp)) ⟨e1,e2⟩
    ·have hle:∀ x∈numsB (K++F) o.b,1≤x∧x≤((cntB (K++F) o.b:Nat):Int):=fun x hx=>by
      obtain ⟨q,hq,hb,rfl⟩:=mem_numsB.1 hx
      refine ⟨hn1 q hq,?_⟩
      rw [cntB_app]
      rcases List.mem_append.1 hq with hq | hq
      ·have:=((nums_are hL o.b q.n).1 ⟨q,hq,hb,rfl⟩).2
       omega
      ·unfold gapP at hg
       rw [List.any_eq_false] at hg
       have:=hg q hq
       rw [hb] at this
       simpa using this
     have hlen:(numsB (K++F) o.b).length=cntB (K++F) o.b:=numsB_len _ _
     have hno:o.n - 1 ∉ numsB (K++F) o.b:=fun hm=>by
      obtain ⟨p,hp,e1,e2⟩:=mem_numsB.1 hm
      exact (hfind _ _).1 g2 p hp ⟨e1,e2⟩
     have hox:o.n∈numsB (K++F) o.b:=mem_numsB.2 ⟨o,ho,rfl,rfl⟩
     have:=(hle _ hox).2
     have:((o.n - 1) :: numsB (K++F) o.b).length≤cntB (K++F) o.b:=ints_len_le _ _ (List.nodup_cons.2 ⟨hno,numsB_nodup hnd hnum _⟩) fun x hx=>by
      rcases List.mem_cons.1 hx with rfl | hx
      ·exact ⟨by omega,by omega⟩
      ·exact hle x hx
     rw [List.length_cons] at this
     omega
   ·intro h
    refine Classical.byContradiction fun hno=>?_
    have hno:(K++F).any (gapE (K++F))=false:=by simpa using hno
    rw [List.any_eq_false] at hno
    unfold gapP at h
    obtain ⟨o,ho,hg⟩:=List.any_eq_true.1 h
    have hg:=of_decide_eq_true hg
    have:=(ints_are (numsB_nodup hnd hnum o.b) (fun k hk=>by obtain ⟨q,hq,_,rfl⟩:=mem_numsB.1 hk;exact hn1 q hq) (fun k hk hk1=>by
     obtain ⟨q,hq,e1,rfl⟩:=mem_numsB.1 hk
     refine Classical.byContradiction fun hm=>hno q hq ((hgapE q).2 ⟨by omega,(hfind _ _).2 fun p hp hh=>hm (mem_numsB.2 ⟨p,hp,by rw [hh.1,e1],hh.2⟩)⟩)) o.n).1 (mem_numsB.2 ⟨o,List.mem_append.2 (.inr ho),rfl,rfl⟩)
    rw [numsB_len,cntB_app] at this
    omega
  rw [hgap]
  by_cases h1:gapP K F=true
  ·rw [if_pos h1,if_pos h1]
  rw [if_neg h1,if_neg h1]
  have hng:∀ o∈K++F,1 < o.n→∃ p,findOwn (K++F) o.b (o.n - 1)=some p∧p∈K++F∧p.b=o.b∧p.n=o.n - 1:=fun o ho hgt=>by
   have h1':(K++F).any (gapE (K++F))=false:=by rw [hgap];simpa using h1
   rw [List.any_eq_false] at h1'
   have:=h1' o ho
   rw [hgapE] at this
   cases hq:findOwn (K++F) o.b (o.n - 1) with
   | none=>exact absurd ⟨by omega,hq⟩ this
   | some p=>
    have hq':=hq
    rw [←find_own hnum] at hq'
    have:=List.find?_some hq'
    unfold ownB at this
    exact ⟨p,rfl,List.mem_of_find?_eq_some hq',of_decide_eq_true this⟩
  have hfallE:∀ o∈K++F,fallE (K++F) o=fallB (K++F) o:=fun o ho=>by
   unfold fallE fallB
   rw [ownR_is hnum]
   by_cases h1':o.n=1
   ·have:findOwn (K++F) o.b (o.n - 1)=none:=(hfind _ _).2 fun p hp hh=>by have:=hn1 p hp;omega
    rw [this,decide_eq_true h1']
    rfl
   ·rw [decide_eq_false h1']
    cases findOwn (K++F) o.b (o.n - 1) <;> simp
  have hfall:(K++F).any (fallE (K++F))=fallsP K F:=by
   unfold fallsP
   rw [List.any_append]
   have hK:K.any (fallE (K++F))=false:=by
    rw [List.any_eq_false]
    intro o ho
    have ho':=List.mem_append.2 (.inl ho:o∈K∨o∈F)
    rw [hfallE o ho']
    unfold fallB
    by_cases hgt:1 < o.n
    ·obtain ⟨p,hp,e1,e2,e3⟩:=hL.low o ho hgt
     have:findOwn (K++F) o.b (o.n - 1)=some p:=by rw [←e1,←e2];exact findOwn_is hnum (List.mem_append.2 (.inl hp))
     rw [this]
     simp [e3]
    ·have:findOwn (K++F) o.b (o.n - 1)=none:=(hfind _ _).2 fun p hp hh=>by have:=hn1 p hp;omega
     rw [this]
     simp
   rw [hK,Bool.false_or,Bool.eq_iff_iff,List.any_eq_true,List.any_eq_true]
   exact exists_congr fun o=>and_congr_right fun ho=>by rw [hfallE o (List.mem_append.2 (.inr ho))]
  rw [hfall]
  by_cases h2:fallsP K F=true
  ·rw [if_pos h2,if_pos h2]
  rw [if_neg h2,if_neg h2]
  have hlow:∀ o∈K++F,1 < o.n→∃ p,p∈K++F∧p.b=o.b∧p.n=o.n - 1∧opLt p o=true:=fun o ho ho1=>by
   obtain ⟨p,hp,hpm,e1,e2⟩:=hng o ho ho1
   refine ⟨p,hpm,e1,e2,?_⟩
   have hfl:(K++F).any (fallE (K++F))=false:=by rw [hfall];simpa using h2
   rw [List.any_eq_false] at hfl
   have:=hfl o ho
   rw [hfallE o ho] at this
   exact fallB_no (by simpa using this) hp
  have hone:∀ o∈K++F,∀ p∈K++F,SameS o p→o=p:=fun o ho p hp hs=>one_of_own hnum hlow hn1 ho hp hs
  have hup1:Rising (sortOps (K++F)):=rising_sort (pairwise_of_nodup hnd _ fun o ho p hp hne hs=>hne (hone o ho p hp hs))
  have hpm:(K++sortOps F).Perm (K++F):=List.Perm.append_left K (sortOps_perm F)
  have hseq:sortOps (K++sortOps F)=sortOps (K++F):=by
   have hnd2:(K++sortOps F).Nodup:=hpm.nodup_iff.2 hnd
   have hup2:Rising (sortOps (K++sortOps F)):=rising_sort (pairwise_of_nodup hnd2 _ fun o ho p hp hne hs=>hne (hone o (hpm.mem_iff.1 ho) p (hpm.mem_iff.1 hp) hs))
   exact hup2.eq hup1 ((sortOps_perm _).trans (hpm.trans (sortOps_perm _).symm))
  rw [hseq]
  have hfM:∀ o∈sortOps (K++F),OpFine o:=fun o ho=>hfi o (sortOps_mem.1 ho)
  have hrefs:refersP [] (sortOps (K++F))=true↔∀ o∈sortOps (K++F),RefM (sortOps (K++F)) o:=
   ⟨fun h o ho=>(refM_iff (hfM o ho)).2 (refers_ok (fun o ho=>(hfM o ho).k) h o ho),fun h=>refers_all hfM hup1 fun o ho=>(refM_iff (hfM o ho)).1 (h o ho)⟩
  by_cases h3:∀ o∈sortOps (K++F),RefM (sortOps (K++F)) o
  ·rw [if_pos h3,if_neg (by rw [hrefs.2 h3];simp)]
   by_cases h4:400 < K.length+F.length
   ·rw [if_pos h4,if_pos h4]
   ·rw [if_neg h4,if_neg h4]
  ·rw [if_neg h3,if_pos (by cases hq:refersP [] (sortOps (K++F)) with | true=>exact absurd (hrefs.1 hq) h3 | false=>rfl)]
set_option maxHeartbeats 20000000
theorem Blank8.set {B:Nat} {w:World} (h:Blank8 B w) (B' i:Nat) (v:Value):Blank8 B (w.setCell ⟨B',i,none⟩ v):=fun j hj=>by
 obtain ⟨⟨u,hu⟩,hf⟩:=h j hj
 refine ⟨?_,by rw [World.frozen?_setCell];exact hf⟩
 by_cases he:(⟨B',i,none⟩:Addr)=⟨B,j,none⟩
 ·rw [he];exact ⟨_,World.cell?_setCell_same' _ _ _ (by rw [hu];rfl)⟩
 ·exact ⟨u,by rw [World.cell?_setCell_other _ _ _ _ he];exact hu⟩
theorem opAt_set2 {w:World} {B:Nat} {o:OpT} (h:OpAt w B o) (t b:Int):OpAt ((w.setCell ⟨B,0,none⟩ (.int .i64 t)).setCell ⟨B,1,none⟩ (.int .i64 b)) B ⟨t,b,o.n,o.k,o.nd,o.ot,o.nm,o.vl⟩:=by
 obtain ⟨h0,h1,h2,h3,h4,h5,h6,h7⟩:=h
 have gs:∀ {w:World} {i j:Nat} {u v:Value},j≠i→w.cell? ⟨B,j,none⟩=some u→(w.setCell ⟨B,i,none⟩ v).cell? ⟨B,j,none⟩=some u:=fun {w i j u v} hj hc=>by
  rw [World.cell?_setCell_other _ _ _ _ (by intro e;cases e;exact hj rfl)];exact hc
 have hs:∀ {w:World} {i:Nat} {u v:Value},w.cell? ⟨B,i,none⟩=some u→(w.setCell ⟨B,i,none⟩ v).cell? ⟨B,i,none⟩=some v:=fun hc=>World.cell?_setCell_same' _ _ _ (by rw [hc];rfl)
 exact ⟨gs (by omega) (hs h0),hs (gs (by omega) h1),gs (by omega) (gs (by omega) h2),gs (by omega) (gs (by omega) h3),gs (by omega) (gs (by omega) h4),gs (by omega) (gs (by omega) h5),gs (by omega) (gs (by omega) h6),gs (by omega) (gs (by omega) h7)⟩
theorem opAt_setN {w:World} {B:Nat} {o:OpT} (h:OpAt w B o) (n:Int):OpAt (w.setCell ⟨B,2,none⟩ (.int .i64 n)) B ⟨o.t,o.b,n,o.k,o.nd,o.ot,o.nm,o.vl⟩:=by
 obtain ⟨h0,h1,h2,h3,h4,h5,h6,h7⟩:=h
 have gs:∀ {w:World} {i j:Nat} {u v:Value},j≠i→w.cell? ⟨B,j,none⟩=some u→(w.setCell ⟨B,i,none⟩ v).cell? ⟨B,j,none⟩=some u:=fun {w i j u v} hj hc=>by
  rw [World.cell?_setCell_other _ _ _ _ (by intro e;cases e;exact hj rfl)];exact hc
 have hs:∀ {w:World} {i:Nat} {u v:Value},w.cell? ⟨B,i,none⟩=some u→(w.setCell ⟨B,i,none⟩ v).cell? ⟨B,i,none⟩=some v:=fun hc=>World.cell?_setCell_same' _ _ _ (by rw [hc];rfl)
 exact ⟨gs (by omega) h0,gs (by omega) h1,hs h2,gs (by omega) h3,gs (by omega) h4,gs (by omega) h5,gs (by omega) h6,gs (by omega) h7⟩
theorem mNext_any (MB:Nat) (b:Int) (A:Option Addr) (n c:Nat) (K:List OpT) (is:Bool) (o:OpT) (w:World) (h:MRep MB b A n c K w) (hD:∀ o∈K,OpFine o) (hup:Rising K) (hl:K.length≤1000) (hb0:0≤b) (hb4:b < 4) (hw:(nextO b K o).Wf) :
  Calls Tryz.prog 99 #[ptrV MB,.bool is,opV o] w fun e w'=>e=.returned (.tuple #[opV (nextP b K is o).1,.int .i64 (nextP b K is o).2])∧Below w.heap.size w w':=by
 have HM:=κ32 h
 have HW:=κ32 hw
 have hMB:MB < w.heap.size:=World.block_lt_of_cell? w _ h.c0
 have hnk:=h.sl.len
 have HNk:=κ32 hnk
 have hT0:=(timeOf_ge K).1
 have hTm:timeOf K≤1073741824:=by
  rcases (timeOf_ge K).2.2 with h0 | ⟨x,hx,h0⟩
  ·omega
  ·have:=(hD x hx).t2;omega
 have HTm:Hid (∀ w',Below w.heap.size w w'→Calls Tryz.prog 45 #[ptrV MB] w' fun e w''=>e=.returned (.int .i64 (timeOf K))∧Below w'.heap.size w' w''):=κ32 fun w' hb=>mTime_any MB b A n c K w' (h.below hb) hD hup (by omega)
 have HVe:Hid (∀ w',Below w.heap.size w w'→Calls Tryz.prog 43 #[ptrV MB] w' fun e w''=>e=.returned (.agg #[.int .i64 (cntB K 0),.int .i64 (cntB K 1),.int .i64 (cntB K 2),.int .i64 (cntB K 3)])∧Below w'.heap.size w' w''):=κ32 fun w' hb=>mVector_any MB b A n c K w' (h.below hb) hD (by omega)
 obtain ⟨T,hT⟩:∃ T,timeOf K=T:=⟨_,rfl⟩
 rw [hT] at hT0 hTm HTm
 have HT:=κ32 hT
 unfold ptrV at HTm HVe ⊢
 cases is with
 | false=>
  have HP:Hid (nextP b K false o=(zOp,6)):=κ32 (by unfold nextP;rw [if_pos rfl])
  rw [HP.out]
  clear h hD hup hw hnk hT
  go_enter Tryz.func99,Tryz.ntmps99
  go_wp2_with fail
  refine bodyPost_ret (v:=.tuple #[opV zOp,.int .i64 6]) (by simp [results,Tryz.results99,go_sem,zOp,opV]) rfl ⟨rfl,?_⟩
  go_grown
 | true=>
  have HM2:Hid (∀ w',Below w.heap.size w w'→w'.cell? ⟨MB,1,none⟩=some (.slice A n c)):=κ32 fun w' hb=>(h.below hb).c1
  have c1':=HM2.out ((w.alloc (.cells o.cells 31)).alloc (.cells #[.int .i64 0,.int .i64 0,.int .i64 0,.int .u8 0,.int .i64 0,.int .i64 0,.string ⟨#[]⟩,.string ⟨#[]⟩] 31)) (((Below.refl w.heap.size w).alloc (Nat.le_refl _) _).alloc (by simp) _)
  have HTw:=κ32 (HTm.out ((w.alloc (.cells o.cells 31)).alloc (.cells #[.int .i64 0,.int .i64 0,.int .i64 0,.int .u8 0,.int .i64 0,.int .i64 0,.string ⟨#[]⟩,.string ⟨#[]⟩] 31)) (((Below.refl w.heap.size w).alloc (Nat.le_refl _) _).alloc (by simp) _))
  by_cases h1:400≤n
  ·have HP:Hid (nextP b K true o=(zOp,8)):=κ32 (by unfold nextP;rw [if_neg (by simp),if_pos (.inl (by omega))])
   rw [HP.out]
   have h1':(400:Int)≤(n:Int):=by omega
   clear h hD hup hw hnk hT
   go_enter Tryz.func99,Tryz.ntmps99
   go_wp2_with fail
   refine bodyPost_ret (v:=.tuple #[opV zOp,.int .i64 8]) (by simp [results,Tryz.results99,go_sem,zOp,opV]) rfl ⟨rfl,?_⟩
   go_grown
  ·have h1':¬ (400:Int)≤(n:Int):=by omega
   by_cases h2:1073741824≤T
   ·have HP:Hid (nextP b K true o=(zOp,8)):=κ32 (by unfold nextP;rw [if_neg (by simp),if_pos (.inr (by rw [hT];omega))])
    rw [HP.out]
    clear h hD hup hw hnk hT
    go_enter Tryz.func99,Tryz.ntmps99
    go_wp2_with fail
    refine HTw.out.mono ?_
    rintro e w1 ⟨rfl,hb1⟩
    have hR1:Blank8 (w.heap.size+1) w1:=by
     have:=box8_at (w:=w.alloc (.cells o.cells 31)) (o:=zOp) (ty:=31) hb1
     rw [World.size_alloc] at this
     exact this
    have HR1:=κ32 hR1
    have HB1:Hid (Below w.heap.size w w1):=κ32 (bel2 (((Below.refl w.heap.size w).alloc (Nat.le_refl _) _).alloc (by simp) _) hb1)
    clear hR1 hb1
    obtain ⟨⟨u0,z0⟩,f0⟩:=HR1.out 0 (by omega)
    obtain ⟨⟨u1,z1⟩,f1⟩:=HR1.out 1 (by omega)
    obtain ⟨⟨u2,z2⟩,f2⟩:=HR1.out 2 (by omega)
    obtain ⟨⟨u3,z3⟩,f3⟩:=HR1.out 3 (by omega)
    obtain ⟨⟨u4,z4⟩,f4⟩:=HR1.out 4 (by omega)
    obtain ⟨⟨u5,z5⟩,f5⟩:=HR1.out 5 (by omega)
    obtain ⟨⟨u6,z6⟩,f6⟩:=HR1.out 6 (by omega)
    obtain ⟨⟨u7,z7⟩,f7⟩:=HR1.out 7 (by omega)
    go_wp2_with fail
    obtain ⟨W8,hW8⟩:∃ W8,W8=((((((((w1.setCell ⟨w.heap.size+1,0,none⟩ (.int .i64 zOp.t)).setCell ⟨w.heap.size+1,1,none⟩ (.int .i64 zOp.b)).setCell ⟨w.heap.size+1,2,none⟩ (.int .i64 zOp.n)).setCell ⟨w.heap.size+1,3,none⟩ (.int .u8 zOp.k)).setCell ⟨w.heap.size+1,4,none⟩ (.int .i64 zOp.nd)).setCell ⟨w.heap.size+1,5,none⟩ (.int .i64 zOp.ot)).setCell ⟨w.heap.size+1,6,none⟩ (.string zOp.nm)).setCell ⟨w.heap.size+1,7,none⟩ (.string zOp.vl)):=⟨_,rfl⟩
    have h8:OpAt W8 (w.heap.size+1) zOp∧Below w.heap.size w W8:=by
     rw [hW8]
     exact set8_at zOp (fun j hj=>(HR1.out j hj).1) HB1.out (by omega)
    obtain ⟨⟨l0,l1,l2,l3,l4,l5,l6,l7⟩,hb8⟩:=h8
    simp only [zOp] at hW8 l0 l1 l2 l3 l4 l5 l6 l7
    rw [←hW8]
    refine bodyPost_ret (v:=.tuple #[opV zOp,.int .i64 8]) (by simp [results,Tryz.results99,go_sem,l0,l1,l2,l3,l4,l5,l6,l7,opV,zOp]) rfl ⟨rfl,hb8⟩
   ·have HP:Hid (nextP b K true o=if opErr (nextO b K o)≠0 then (zOp,opErr (nextO b K o)) else (nextO b K o,0)):=κ32 (by unfold nextP;rw [if_neg (by simp),if_neg (by rw [hT];omega)])
    have h2':¬ (1073741824:Int)≤T:=by omega
    obtain ⟨a,ha⟩:∃ a:Nat,b=a:=⟨b.toNat,by omega⟩
    have ha4:a < 4:=by omega
    obtain ⟨v,hv⟩:∃ v:Nat,cntB K b=v:=⟨_,rfl⟩
    have hv4:v≤1000:=by rw [←hv];have:=cnt_le K b;omega
    have HAv:=κ32 (And.intro ha hv)
    have HMc:Hid (∀ w',Below w.heap.size w w'→w'.cell? ⟨MB,0,none⟩=some (.int .i64 (a:Int))):=κ32 fun w' hb=>by rw [←ha];exact (h.below hb).c0
    clear h hD hup hw hnk hT
    go_enter Tryz.func99,Tryz.ntmps99
    go_wp2_with fail
    refine HTw.out.mono ?_
    rintro e w1 ⟨rfl,hb1⟩
    have hR1:Blank8 (w.heap.size+1) w1:=by
     have:=box8_at (w:=w.alloc (.cells o.cells 31)) (o:=zOp) (ty:=31) hb1
     rw [World.size_alloc] at this
     exact this
    have hO1:OpAt w1 w.heap.size o:=((OpAt.start w o _).below ((Below.refl _ _).alloc (Nat.le_refl _) _)).below hb1
    have hZ1:Blank8 w.heap.size w1:=by
     have:=box8_at (w:=w) (o:=o) (ty:=31) (w':=w1) (bel2 ((Below.refl _ _).alloc (Nat.le_refl _) _) hb1)
     exact this
    have HB1:Hid (Below w.heap.size w w1):=κ32 (bel2 (((Below.refl w.heap.size w).alloc (Nat.le_refl _) _).alloc (by simp) _) hb1)
    have HR1:=κ32 hR1
    have HZ1:=κ32 hZ1
    have HO1:=κ32 hO1
    clear hR1 hO1 hZ1 hb1
    go_wp2_with fail
    refine (HVe.out _ HB1.out).mono ?_
    rintro e w2 ⟨rfl,hb2⟩
    have HB2:=κ32 (bel2 HB1.out hb2)
    have HR2:=κ32 (HR1.out.below hb2)
    have HZ2:=κ32 (HZ1.out.below hb2)
    have HO2:=κ32 (HO1.out.below hb2)
    clear hb2 HR1 HZ1 HO1 HTw
    go_upto_region 6 with (fail)
    obtain ⟨W3,hW3⟩:∃ W3,W3=w2.alloc (.cells #[.int .i64 (cntB K 0),.int .i64 (cntB K 1),.int .i64 (cntB K 2),.int .i64 (cntB K 3)] 47):=⟨_,rfl⟩
    have hb3:Below w2.heap.size w2 W3:=by rw [hW3];exact (Below.refl _ _).alloc (Nat.le_refl _) _
    have HV3:Hid (W3.cell? ⟨w2.heap.size,a,none⟩=some (.int .i64 v)):=κ32 (by
     rw [hW3,World.cell?_alloc_new,←HAv.out.2,HAv.out.1]
     rcases (show a=0∨a=1∨a=2∨a=3 by omega) with rfl | rfl | rfl | rfl <;> rfl)
    rw [←hW3]
    have HO3:=κ32 (HO2.out.below hb3)
    have HZ3:=κ32 (fun w' (hb:Below W3.heap.size W3 w')=>HZ2.out.below (bel2 hb3 hb))
    have HR3:=κ32 (HR2.out.below hb3)
    have HB3:=κ32 (bel2 HB2.out hb3)
    have HVl:Hid (w2.heap.size≠w.heap.size∧w2.heap.size < W3.heap.size∧w.heap.size < W3.heap.size):=κ32 ⟨by have:=HO2.out.lt;omega,World.block_lt_of_cell? _ _ HV3.out,HO3.out.lt⟩
    clear hb3 hW3 HZ2 HO2 HR2 HB2 HB1
    have hne:MB≠w.heap.size:=by omega
    have HS6:Hid (∀ w',Fr (·=w.heap.size) W3 w'→w'.cell? ⟨MB,0,none⟩=some (.int .i64 (a:Int))):=κ32 fun w' hf=>(hf.cell (p:=⟨MB,0,none⟩) (by have:=HVl.out;simp;omega) hne).trans (HMc.out _ HB3.out)
    have cd:=HS6.out W3.drew (Fr.of_below (Below.refl _ _).drew)
    have s1:IntKind.i64.wrap (T+1)=T+1:=by rw [IntKind.wrap_i64];omega
    have HT3:Hid (∀ w',Below W3.heap.size W3 w'→Calls Tryz.prog 45 #[.pointer (some ⟨MB,0,none⟩)] w' fun e w''=>e=.returned (.int .i64 T)∧Below w'.heap.size w' w''):=κ32 fun w' hb=>HTm.out w' (bel2 HB3.out hb)
    go_cut [] (fun wc=>Hid (OpAt wc w.heap.size ⟨T+1,(a:Int),o.n,o.k,o.nd,o.ot,o.nm,o.vl⟩∧Fr (·=w.heap.size) W3 wc∧Blank8 w.heap.size wc))
    case first=>
     go_region_held_law (fun w'=>w'.cell? ⟨MB,0,none⟩=some (.int .i64 (a:Int))) (exact HS6.out _ (by repeat (first | (with_reducible refine Fr.trans ?_ (fr_set _ _ _ _)) | exact Fr.of_below (by assumption) | exact Fr.of_below (Below.refl _ _) | exact Fr.of_below (Below.refl _ _).drew | exact Fr.of_below (by go_grown))))
      (first
       | (go_at_call 45;refine (HT3.out _ (by go_grown)).mono ?_;rintro e wA ⟨rfl,hbA⟩;have hA:=bel2 (w0:=W3) (by go_grown) hbA;have sA:=hA.size;obtain ⟨⟨u0z,y0z⟩,x0z⟩:=HZ3.out _ hA 0 (by omega);obtain ⟨⟨u1z,y1z⟩,x1z⟩:=HZ3.out _ hA 1 (by omega)))
     all_goals
      rename_i hH
      clear hH
      go_wp2_with fail
      go_meet
      case rel=>
       have HZA:=HZ3.out _ hA
       have hOA:=HO3.out.below hA
       refine κ32 ⟨opAt_set2 hOA _ _,?_,(HZA.set _ _ _).set _ _ _⟩
       repeat (first | (with_reducible refine Fr.trans ?_ (fr_set _ _ _ _)) | exact Fr.of_below (by assumption))
    case rest=>
     have HC:=hcut
     clear hcut HS6 HT3 cd
     have hF2:=HC.out.2.1
     obtain ⟨j0,j1,j2,j3,j4,j5,j6,j7⟩:=HC.out.1
     simp only at j0 j1 j2 j3 j4 j5 j6 j7
     have g0:wc.cell? ⟨MB,0,none⟩=some (.int .i64 (a:Int)):=(hF2.cell (p:=⟨MB,0,none⟩) (by have:=HVl.out;simp;omega) hne).trans (HMc.out _ HB3.out)
     have g1:wc.cell? ⟨w2.heap.size,a,none⟩=some (.int .i64 v):=(hF2.cell (p:=⟨w2.heap.size,a,none⟩) HVl.out.2.1 (by have:=HVl.out.1;exact this)).trans HV3.out
     have fz2:=(HC.out.2.2 2 (by omega)).2
     have s2:IntKind.i64.wrap ((v:Int)+1)=(v:Int)+1:=by rw [IntKind.wrap_i64];omega
     have a0:(0:Int)≤(a:Int):=by omega
     have a4:(a:Int) < 4:=by omega
     clear hF2
     go_upto_region 8 with (fail)
     obtain ⟨W5,hW5⟩:∃ W5,W5=wc.setCell ⟨w.heap.size,2,none⟩ (.int .i64 ((v:Int)+1)):=⟨_,rfl⟩
     have HO5:Hid (OpAt W5 w.heap.size ⟨T+1,(a:Int),(v:Int)+1,o.k,o.nd,o.ot,o.nm,o.vl⟩):=κ32 (by rw [hW5];exact opAt_setN HC.out.1 _)
     have HF5:Hid (Fr (·=w.heap.size) W3 W5∧Blank8 w.heap.size W5):=κ32 (by rw [hW5];exact ⟨HC.out.2.1.trans (fr_set _ _ _ _),HC.out.2.2.set _ _ _⟩)
     rw [←hW5]
     clear hW5 HC j0 j1 j2 j3 j4 j5 j6 j7 g0 g1 fz2 HV3
     obtain ⟨j0,j1,j2,j3,j4,j5,j6,j7⟩:=HO5.out
     simp only at j0 j1 j2 j3 j4 j5 j6 j7
     obtain ⟨m,hm⟩:∃ m,(o.k == 109)=m:=⟨_,rfl⟩
     obtain ⟨z,hz⟩:∃ z,(o.nd == 0)=z:=⟨_,rfl⟩
     have HM5:Hid ((o.k == 109)=m∧(o.nd == 0)=z):=κ32 ⟨hm,hz⟩
     obtain ⟨nx,hnx⟩:∃ nx,nextO b K o=nx:=⟨_,rfl⟩
     have HNx:Hid (nx=⟨T+1,(a:Int),(v:Int)+1,o.k,if o.k=109∧o.nd=0 then (T+1)*4+(a:Int) else o.nd,o.ot,o.nm,o.vl⟩):=κ32 (by rw [←hnx];unfold nextO;rw [HT.out,HAv.out.1,←HAv.out.2,HAv.out.1])
     have HNx2:=κ32 hnx
     clear hnx
     go_cut [51] (fun v51 wd=>∃ q:Bool,v51=.bool q∧wd=W5∧Hid (q=(m && z)))
     case first=>
      cases m with
      | false=>
       go_wp2_with fail
       go_meet
       case rel=>exact ⟨false,rfl,rfl,κ32 rfl⟩
      | true=>
       go_wp2_with fail
       go_meet
       case rel=>exact ⟨z,rfl,rfl,κ32 (by simp)⟩
     case rest=>
      obtain ⟨q,rfl,hwc,HQ⟩:=hcut
      rw [hwc]
      clear hwc
      go_upto_if 51 with (fail)
      go_cut [] (fun wd=>Hid (OpAt wd w.heap.size nx∧Fr (·=w.heap.size) W3 wd))
      case first=>
       cases q with
       | false=>
        go_wp2_with fail
        go_meet
        case rel=>
         refine κ32 ⟨?_,HF5.out.1⟩
         rw [HNx.out,if_neg (fun hh=>by
          have h1:=HM5.out.1
          have h2:=HM5.out.2
          rw [hh.1] at h1
          rw [hh.2] at h2
          have:=HQ.out
          rw [←h1,←h2] at this
          simp at this)]
         exact HO5.out
       | true=>
         have HI:=κ32 (idOf_ok (T+1) (a:Int) W5 ⟨by omega,by omega,by omega,by omega⟩)
         unfold stampV at HI
         go_wp2_with fail
         refine HI.out.mono ?_
         rintro e wA ⟨rfl,hbA⟩
         have hO6:=HO5.out.below hbA
         have hF6:=HF5.out.1.trans (Fr.of_below hbA)
         have hZ6:=HF5.out.2.below hbA
         have HO6:=κ32 hO6
         have HF6:=κ32 hF6
         obtain ⟨⟨u4,z4⟩,f4⟩:=hZ6 4 (by omega)
         clear hO6 hF6 hZ6 hbA
         go_wp2_with fail
         go_meet
         case rel=>
          refine κ32 ⟨?_,HF6.out.trans (fr_set _ _ _ _)⟩
          have hq:=HQ.out
          rw [eq_comm,Bool.and_eq_true,←HM5.out.1,←HM5.out.2,beq_iff_eq,beq_iff_eq] at hq
          rw [HNx.out,if_pos hq]
          exact opAt_set4 HO6.out _
      case rest=>
       have HC:=hcut
       clear hcut j0 j1 j2 j3 j4 j5 j6 j7
       obtain ⟨j0,j1,j2,j3,j4,j5,j6,j7⟩:=HC.out.1
       have HCk:=κ32 (opError_any nx wc (by rw [←HNx2.out];exact HW.out))
       have HRc:Hid (Blank8 (w.heap.size+1) wc):=κ32 fun j hj=>by
        obtain ⟨⟨u,hu⟩,hf⟩:=HR3.out j hj
        have hlt:=World.block_lt_of_cell? _ _ hu
        exact ⟨⟨u,(HC.out.2.cell (p:=⟨w.heap.size+1,j,none⟩) hlt (by simp)).trans hu⟩,(HC.out.2.frozen (p:=⟨w.heap.size+1,j,none⟩) hlt (by simp)).trans hf⟩
       have HBc:=κ32 (HB3.out.trans (HC.out.2.below (base:=w.heap.size) HB3.out.size (fun k hk=>by omega)))
       obtain ⟨er,her⟩:∃ er,opErr nx=er:=⟨_,rfl⟩
       have HEr:=κ32 her
       rw [her] at HCk
       clear her
       by_cases he:er=0
       ·subst he
        go_wp2_with fail
        refine HCk.out.mono ?_
        rintro e w5 ⟨rfl,hb5⟩
        have HO5':=κ32 (HC.out.1.below hb5)
        have HR5:=κ32 (HRc.out.below hb5)
        have HB5:=κ32 (bel2 HBc.out hb5)
        have HPe:Hid (nextP b K true o=(nx,0)):=κ32 (by rw [HP.out,HNx2.out,HEr.out,if_neg (by simp)])
        clear hb5 j0 j1 j2 j3 j4 j5 j6 j7
        obtain ⟨j0,j1,j2,j3,j4,j5,j6,j7⟩:=HO5'.out
        obtain ⟨⟨u0,z0⟩,f0⟩:=HR5.out 0 (by omega)
        obtain ⟨⟨u1,z1⟩,f1⟩:=HR5.out 1 (by omega)
        obtain ⟨⟨u2,z2⟩,f2⟩:=HR5.out 2 (by omega)
        obtain ⟨⟨u3,z3⟩,f3⟩:=HR5.out 3 (by omega)
        obtain ⟨⟨u4,z4⟩,f4⟩:=HR5.out 4 (by omega)
        obtain ⟨⟨u5,z5⟩,f5⟩:=HR5.out 5 (by omega)
        obtain ⟨⟨u6,z6⟩,f6⟩:=HR5.out 6 (by omega)
        obtain ⟨⟨u7,z7⟩,f7⟩:=HR5.out 7 (by omega)
        go_wp2_with fail
        obtain ⟨W8,hW8⟩:∃ W8,W8=((((((((w5.setCell ⟨w.heap.size+1,0,none⟩ (.int .i64 nx.t)).setCell ⟨w.heap.size+1,1,none⟩ (.int .i64 nx.b)).setCell ⟨w.heap.size+1,2,none⟩ (.int .i64 nx.n)).setCell ⟨w.heap.size+1,3,none⟩ (.int .u8 nx.k)).setCell ⟨w.heap.size+1,4,none⟩ (.int .i64 nx.nd)).setCell ⟨w.heap.size+1,5,none⟩ (.int .i64 nx.ot)).setCell ⟨w.heap.size+1,6,none⟩ (.string nx.nm)).setCell ⟨w.heap.size+1,7,none⟩ (.string nx.vl)):=⟨_,rfl⟩
        have h8:OpAt W8 (w.heap.size+1) nx∧Below w.heap.size w W8:=by
         rw [hW8]
         exact set8_at nx (fun j hj=>(HR5.out j hj).1) HB5.out (by omega)
        obtain ⟨⟨l0,l1,l2,l3,l4,l5,l6,l7⟩,hb8⟩:=h8
        rw [←hW8]
        refine bodyPost_ret (v:=.tuple #[opV nx,.int .i64 (0:Nat)]) (by simp [results,Tryz.results99,go_sem,l0,l1,l2,l3,l4,l5,l6,l7,opV]) rfl ⟨by rw [HPe.out],hb8⟩
       ·have hpos:(0:Int) < (er:Int):=by omega
        go_wp2_with fail
        refine HCk.out.mono ?_
        rintro e w5 ⟨rfl,hb5⟩
        have HR5:=κ32 (HRc.out.below hb5)
        have HB5:=κ32 (bel2 HBc.out hb5)
        have HPe:Hid (nextP b K true o=(zOp,er)):=κ32 (by rw [HP.out,HNx2.out,HEr.out,if_pos he])
        clear hb5 j0 j1 j2 j3 j4 j5 j6 j7
        obtain ⟨⟨u0,z0⟩,f0⟩:=HR5.out 0 (by omega)
        obtain ⟨⟨u1,z1⟩,f1⟩:=HR5.out 1 (by omega)
        obtain ⟨⟨u2,z2⟩,f2⟩:=HR5.out 2 (by omega)
        obtain ⟨⟨u3,z3⟩,f3⟩:=HR5.out 3 (by omega)
        obtain ⟨⟨u4,z4⟩,f4⟩:=HR5.out 4 (by omega)
        obtain ⟨⟨u5,z5⟩,f5⟩:=HR5.out 5 (by omega)
        obtain ⟨⟨u6,z6⟩,f6⟩:=HR5.out 6 (by omega)
        obtain ⟨⟨u7,z7⟩,f7⟩:=HR5.out 7 (by omega)
        go_wp2_with fail
        obtain ⟨W8,hW8⟩:∃ W8,W8=((((((((w5.setCell ⟨w.heap.size+1,0,none⟩ (.int .i64 zOp.t)).setCell ⟨w.heap.size+1,1,none⟩ (.int .i64 zOp.b)).setCell ⟨w.heap.size+1,2,none⟩ (.int .i64 zOp.n)).setCell ⟨w.heap.size+1,3,none⟩ (.int .u8 zOp.k)).setCell ⟨w.heap.size+1,4,none⟩ (.int .i64 zOp.nd)).setCell ⟨w.heap.size+1,5,none⟩ (.int .i64 zOp.ot)).setCell ⟨w.heap.size+1,6,none⟩ (.string zOp.nm)).setCell ⟨w.heap.size+1,7,none⟩ (.string zOp.vl)):=⟨_,rfl⟩
        have h8:OpAt W8 (w.heap.size+1) zOp∧Below w.heap.size w W8:=by
         rw [hW8]
         exact set8_at zOp (fun j hj=>(HR5.out j hj).1) HB5.out (by omega)
        obtain ⟨⟨l0,l1,l2,l3,l4,l5,l6,l7⟩,hb8⟩:=h8
        simp only [zOp] at hW8 l0 l1 l2 l3 l4 l5 l6 l7
        rw [←hW8]
        refine bodyPost_ret (v:=.tuple #[opV zOp,.int .i64 er]) (by simp [results,Tryz.results99,go_sem,l0,l1,l2,l3,l4,l5,l6,l7,opV,zOp]) rfl ⟨by rw [HPe.out],hb8⟩
end Go.Proofs.YtjekalilfhnpmaaGreatDoor
