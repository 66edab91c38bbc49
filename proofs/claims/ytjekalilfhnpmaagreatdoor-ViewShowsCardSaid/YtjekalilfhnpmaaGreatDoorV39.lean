/- played: replicas behind some turns. -/
import Derived.Test.YtjekalilfhnpmaaGreatDoorV38
namespace Go.Proofs.YtjekalilfhnpmaaGreatDoor
open Go Go.RowKit Go.Maps Go.Shelf LineOrd Tree
set_option linter.unusedVariables false
set_option linter.unusedSimpArgs false
set_option maxHeartbeats 20000000
set_option maxRecDepth 100000
theorem RepsW.more' {m:Nat} {ids:Nat→Int} {cs:Nat→Nat→Int} {RBs:Nat→Nat} {Ks:Nat→List OpT} {w0 w w':World} (h:RepsW m ids cs RBs Ks w0 w) {c:Nat→Int} {RB:Nat} {K:List OpT} (hR:RepD c RB (ids m) K w') (hb:Below w.heap.size w w') (hc:∀ k,c k≠0→w.heap.size≤k) :
  RepsW (m+1) ids (putT cs m c) (putT RBs m RB) (putT Ks m K) w0 w':=by
 have:=h.more hR hb hc
 have e:putT ids m (ids m)=ids:=by funext a;unfold putT;split <;> simp_all
 rwa [e] at this
theorem RowW.more {T:Type} {E:Enc T} {ty:TypeId} {m:Nat} {cs:Nat→Nat→Int} {base:Nat} {v:Value} {L:List T} {w w':World} (h:RowW E ty m cs base v L w) (hb:Below w.heap.size w w') {c:Nat→Int} (hc:∀ k,c k≠0→w.heap.size≤k):RowW E ty (m+1) (putT cs m c) base v L w':=by
 refine ⟨h.row.below hb,fun b hbm k hk=>?_⟩
 by_cases e:b=m
 ·rw [e,putT_self]
  refine Classical.byContradiction fun hn=>?_
  have:=hc k hn
  have:=(h.row.lt k hk).2
  omega
 ·rw [putT_other e]
  exact h.free b (by omega) k hk
theorem RowW.app {T:Type} {E:Enc T} {ty:TypeId} {m:Nat} {ids:Nat→Int} {cs:Nat→Nat→Int} {RBs:Nat→Nat} {Ks:Nat→List OpT} {w0 w wX w5:World} {base:Nat} {v v5:Value} {L:List T} {y:T} (h:RepsW m ids cs RBs Ks w0 w) (hr:RowW E ty m cs base v L w) (hbs:w0.heap.size≤base) (hb:Below w.heap.size w wX) (hr5:Rw E ty base v5 (L++[y]) w5) (hg:wX.grownBy w5 v.ownBlock) (hat:v5.ownBlock=v.ownBlock∨v5.ownBlock=some wX.heap.size) :
  RepsW m ids cs RBs Ks w0 w5∧RowW E ty m cs base v5 (L++[y]) w5:=by
 have hF:Fr (fun k=>v.ownBlock=some k) wX w5:=⟨hg.os,hg.tape,hg.output,hg.size,fun k hk hx=>hg.block k hk (fun e=>hx e.symm)⟩
 have hX:=h.below hb
 refine ⟨hX.fr hF (fun b hbm k hk=>hr.free b hbm k hk) (fun k hk=>Nat.le_trans hbs (hr.row.lt k hk).1),hr5,fun b hbm k hk=>?_⟩
 rcases hat with e | e
 ·exact hr.free b hbm k (e▸hk)
 ·refine Classical.byContradiction fun hn=>?_
  have:=(hX.rep b hbm).lt k hn
  rw [e] at hk
  cases hk
  omega
theorem RepsW.box {T:Type} {E:Enc T} {ty:TypeId} {m:Nat} {ids:Nat→Int} {cs:Nat→Nat→Int} {RBs:Nat→Nat} {Ks:Nat→List OpT} {w0 w:World} {x:T} {a:Array Value} (h:RepsW m ids cs RBs Ks w0 w) (ha:a.toList=E.cells x):RowW E ty m cs w.heap.size (.slice (some ⟨w.heap.size,0,none⟩) 1 1) [x] (w.alloc (.cells a ty)):=
 RepsW.row h (by
  have h1:a.size=1*E.k:=by rw [←Array.length_toList,ha,E.len];omega
  have:=World.ownsRow_lit (e:=ty) (base:=w.heap.size) (size:=E.k) w a 1 (Nat.le_refl _) (by decide) h1
  unfold Rw
  have h2:E.row [x]=a.toList:=by rw [ha];simp [Enc.row]
  rw [h2]
  exact this)
theorem RowW.at0 {T:Type} {E:Enc T} {ty:TypeId} {m:Nat} {cs:Nat→Nat→Int} {base B:Nat} {x:T} {w:World} (h:RowW E ty m cs base (.slice (some ⟨B,0,none⟩) 1 1) [x] w) {q:Nat} {u:Value} (hu:(E.cells x)[q]?=some u):w.cell? ⟨B,q,none⟩=some u:=by
 have:=h.row.at' rfl (i:=0) (x:=x) rfl hu
 rwa [Nat.zero_mul,Nat.zero_add] at this
def PlayEnds (n:Nat) (w:World) (e:Ending) (w':World):Prop:=
 ∃ (v:Value) (cs:Nat→Nat→Int) (RBs:Nat→Nat) (Ks:Nat→List OpT) (H:List OpT),e=.returned v∧RepsW 4 (fun b=>(b:Int)) cs RBs Ks w w'∧RowW repE 23 4 cs w.heap.size v ((List.range 4).map RBs) w'∧FourR H Ks∧H.length≤n
theorem range_put (RBs:Nat→Nat) (m x:Nat):(List.range (m+1)).map (putT RBs m x)=(List.range m).map RBs++[x]:=by
 rw [List.range_succ,List.map_append]
 congr 1
 ·refine List.map_congr_left fun a ha=>putT_other ?_
  have:=List.mem_range.1 ha
  omega
 ·simp [putT_self]
theorem played_any {F0:Nat→Bool} (ea:Nat→Addr) (A:Option Addr) (n c:Nat) (Ts:List TurnT) (w:World) (hG:Gd F0 ea w) (f2:F0 2=true) (f3:F0 3=true) (f4:F0 4=true) (f5:F0 5=true) (f6:F0 6=true) (f7:F0 7=true) (f8:F0 8=true) (f9:F0 9=true) (f10:F0 10=true)
  (hs:SlV turnE w (.slice A n c) Ts) (hn:n≤60) (hw:∀ x∈Ts,x.Wf) :
  Calls Tryz.prog 17 #[.slice A n c] w (PlayEnds n w):=by
 have HG:=Lib.hid hG
 have HS:=Lib.hid hs
 have HN:=Lib.hid hs.len
 have HW:=Lib.hid hw
 clear hG hs hw
 go_enter Tryz.func17,Tryz.ntmps17
 go_wp2_with fail
 go_loopw [3,4,5,6] (fun v3 v4 _ _ wr=>∃ j:Nat,j≤4∧v4=.int .i64 j∧∃ (cs:Nat→Nat→Int) (RBs:Nat→Nat),Hid (RepsW j (fun b=>(b:Int)) cs RBs (fun _=>[]) w wr∧RowW repE 23 j cs w.heap.size v3 ((List.range j).map RBs) wr)) (fun _ v4 _ _ _=>4 - (RowKit.intOf v4).toNat)
 case atStart=>exact ⟨0,by omega,rfl,fun _ _=>0,fun _=>0,Lib.hid ⟨RepsW.start _ _ _ _ w,Rw.nil _ _ _ _,fun b hb=>by omega⟩⟩
 case round=>
  obtain ⟨j,hj,rfl,cs,RBs,HH⟩:=hrel
  by_cases hlt:j < 4
  ·have i1:(0:Int)≤(j:Int):=by omega
   have i2:(j:Int) < 4:=by omega
   have HNw:=Lib.hid (newB_any ea j wr (HG.out.below HH.out.1.bel) f2 (by constructor <;> omega))
   go_wp2_with fail
   refine HNw.out.mono ?_
   rintro e w1 hN
   obtain ⟨col,RB,rfl,hR,hb1,hge⟩:∃ col RB,e=.returned (.tuple #[ptrV RB,.nilIface])∧RepD col RB j [] w1∧Below wr.heap.size wr w1∧∀ k,col k≠0→wr.heap.size≤k:=by
    rcases hN with ⟨_,h⟩ | ⟨h,_⟩
    ·exact h
    ·exact absurd ⟨by omega,by omega⟩ h
   have H1:Hid (RepsW (j+1) (fun b=>(b:Int)) (putT cs j col) (putT RBs j RB) (fun _=>[]) w w1∧RowW repE 23 (j+1) (putT cs j col) w.heap.size u3 ((List.range j).map RBs) w1):=Lib.hid ⟨by
    have:=HH.out.1.more' hR hb1 hge
    have e:putT (fun _:Nat=>([]:List OpT)) j []=fun _=>[]:=by funext a;unfold putT;split <;> rfl
    rwa [e] at this,HH.out.2.more hb1 hge⟩
   clear hR hb1 hge hN HNw HH
   unfold ptrV
   have HRow:=Lib.hid (fun o'=>H1.out.2.row.below ((Below.refl w1.heap.size w1).alloc (Nat.le_refl _) o'))
   have hl1:((List.range j).map RBs).length+1≤maxLen:=by rw [List.length_map,List.length_range];unfold maxLen;omega
   have hl2:(((List.range j).map RBs).length+1)*8≤140737488355328:=by rw [List.length_map,List.length_range];omega
   have hsz:=H1.out.1.bel.size
   go_wp2_with (at_builtin;refine wpList_append_rw rfl _ _ 44 rfl repE w.heap.size 23 (.pointer none) 8 Tryz.underlying44 infoRep rfl (by decide) u3 ((List.range j).map RBs) (by rfl) (HRow.out _) _ _ RB (by rfl) (SlV.one (E:=repE) _ RB _ _ rfl) hl1 hl2 (by simp;omega) ?_)
   intro v5 w5 hr5 hg5 hat5
   have H5:=Lib.hid (H1.out.2.app H1.out.1 (Nat.le_refl _) ((Below.refl w1.heap.size w1).alloc (Nat.le_refl _) (.cells #[ptrV RB] 23)) hr5 hg5 (by rw [World.size_alloc];exact hat5))
   rw [←range_put] at H5
   clear hr5 hg5 hat5 HRow hl1 hl2 hsz H1
   go_wp2_with fail
   go_roundw
   case rel=>exact ⟨j+1,by omega,by go_num,_,_,H5⟩
   case measure=>simp [RowKit.intOf];omega
  ·obtain rfl:j=4:=by omega
   have i2:¬ ((4:Nat):Int) < 4:=by omega
   have H4:Hid (RepsW 4 (fun b=>(b:Int)) cs RBs (fun _=>[]) w wr∧RowW repE 23 4 cs w.heap.size u3 ((List.range 4).map RBs) wr):=HH
   obtain ⟨g,cg,rfl⟩:∃ g cg,u3=.slice (some ⟨g,0,none⟩) 4 cg:=by
    rcases H4.out.2.row.form with ⟨_,h⟩ | ⟨g,cap,h,_⟩
    ·simp at h
    ·exact ⟨g,cap,h⟩
   clear HH hlt hj
   go_wp2_with fail
   go_loopw [7,8,9,10,11,12,13,14] (fun v7 _ _ _ _ _ _ _ wr=>∃ j:Nat,j≤n∧v7=.int .i64 j∧∃ (cs:Nat→Nat→Int) (Ks:Nat→List OpT) (H:List OpT),Hid (RepsW 4 (fun b=>(b:Int)) cs RBs Ks w wr∧RowW repE 23 4 cs w.heap.size (.slice (some ⟨g,0,none⟩) 4 cg) ((List.range 4).map RBs) wr∧FourR H Ks∧H.length≤j)) (fun v7 _ _ _ _ _ _ _ _=>n - (RowKit.intOf v7).toNat)
   case atStart=>exact ⟨0,by omega,rfl,cs,fun _=>[],[],Lib.hid ⟨H4.out.1,H4.out.2,FourR.start,by simp⟩⟩
   case round=>
    clear H4
    obtain ⟨j,hj,rfl,cs2,Ks,H,HH⟩:=hrel
    by_cases hlt:j < n
    ·obtain ⟨x,hx⟩:∃ x,Ts[j]?=some x:=⟨_,List.getElem?_eq_getElem (by have:=HN.out;omega)⟩
     have i1:(0:Int)≤(j:Int):=by omega
     have i3:(j:Int) < (n:Int):=by omega
     have HX:=Lib.hid (HW.out x (List.mem_of_getElem? hx))
     obtain ⟨gt,off,rfl,hgl,hc⟩:=(HS.out.below HH.out.1.bel).at' (by decide) hx
     obtain ⟨⟩:True:=trivial
     have gc:∀ q u,(turnE.cells x)[q]?=some u→wr.cell? ⟨gt,off+j*10+q,none⟩=some u:=fun q u hu=>by rw [Nat.add_assoc];exact hc q u hu
     have c0:wr.cell? ⟨gt,off+j*10,none⟩=some (.int .i64 x.b):=gc 0 _ rfl
     have c1:=gc 1 _ rfl
     have c2:=gc 2 _ rfl
     have c3:=gc 3 _ rfl
     have c4:=gc 4 _ rfl
     have c5:=gc 5 _ rfl
     have c6:=gc 6 _ rfl
     have c7:=gc 7 _ rfl
     have c8:=gc 8 _ rfl
     have c9:=gc 9 _ rfl
     clear gc hc hgl hx
     by_cases hb0:x.b < 0
     ·go_wp2_with fail
      go_roundw
      case rel=>exact ⟨j+1,by omega,by go_num,cs2,Ks,H,Lib.hid ⟨HH.out.1.below ((Below.refl _ _).alloc (Nat.le_refl _) _),HH.out.2.1.below ((Below.refl _ _).alloc (Nat.le_refl _) _),HH.out.2.2.1,by have:=HH.out.2.2.2;omega⟩⟩
      case measure=>simp [RowKit.intOf];omega
     by_cases hb4:4≤x.b
     ·go_wp2_with fail
      go_roundw
      case rel=>exact ⟨j+1,by omega,by go_num,cs2,Ks,H,Lib.hid ⟨HH.out.1.below ((Below.refl _ _).alloc (Nat.le_refl _) _),HH.out.2.1.below ((Below.refl _ _).alloc (Nat.le_refl _) _),HH.out.2.2.1,by have:=HH.out.2.2.2;omega⟩⟩
      case measure=>simp [RowKit.intOf];omega
     go_upto_region 14 with (fail)
     obtain ⟨W,hW⟩:∃ W,W=wr.alloc (.cells #[.int .i64 x.b,.int .i64 x.f,.int .i64 x.o.t,.int .i64 x.o.b,.int .i64 x.o.n,.int .u8 x.o.k,.int .i64 x.o.nd,.int .i64 x.o.ot,.string x.o.nm,.string x.o.vl] 121):=⟨_,rfl⟩
     have HHW:Hid (RepsW 4 (fun b=>(b:Int)) cs2 RBs Ks w W∧RowW repE 23 4 cs2 w.heap.size (.slice (some ⟨g,0,none⟩) 4 cg) ((List.range 4).map RBs) W∧RowW turnE 121 4 cs2 wr.heap.size (.slice (some ⟨wr.heap.size,0,none⟩) 1 1) [x] W):=Lib.hid (by
      have hb:Below wr.heap.size wr W:=by rw [hW];exact (Below.refl _ _).alloc (Nat.le_refl _) _
      refine ⟨HH.out.1.below hb,HH.out.2.1.below hb,?_⟩
      rw [hW]
      exact HH.out.1.box rfl)
     have HF4:=Lib.hid HH.out.2.2
     rw [show _=W from hW.symm]
     clear hW HH c0 c1 c2 c3 c4 c5 c6 c7 c8 c9
     obtain ⟨bn,hbn⟩:∃ bn:Nat,x.b=bn:=⟨x.b.toNat,by omega⟩
     have hbn4:bn < 4:=by omega
     have b0:=HHW.out.2.2.at0 (q:=0) rfl
     have b1:=HHW.out.2.2.at0 (q:=1) rfl
     go_cut [59] (fun v59 wc=>∃ fb:Bool,v59=.bool fb∧wc=W∧Hid (fb=true↔0≤x.f∧x.f < 4))
     case first=>
      by_cases hf0:x.f < 0
      ·have hf1:¬ (0:Int)≤x.f:=by omega
       go_wp2_with fail
       go_meet
       case rel=>exact ⟨false,rfl,rfl,Lib.hid ⟨fun h=>(by cases h),fun h=>absurd h.1 (by omega)⟩⟩
      by_cases hf4:4≤x.f
      ·have hf1:(0:Int)≤x.f:=by omega
       have hf2:¬ x.f < 4:=by omega
       go_wp2_with fail
       go_meet
       case rel=>exact ⟨false,rfl,rfl,Lib.hid ⟨fun h=>(by cases h),fun h=>absurd h.2 (by omega)⟩⟩
      have hf1:(0:Int)≤x.f:=by omega
      have hf2:x.f < 4:=by omega
      go_wp2_with fail
      go_meet
      case rel=>exact ⟨true,rfl,rfl,Lib.hid ⟨fun _=>⟨hf1,hf2⟩,fun _=>rfl⟩⟩
     case rest=>
      obtain ⟨fb,rfl,rfl,HFb⟩:=hcut
      go_upto_if 59 with (fail)
      go_cut [] (fun wc=>∃ (cs3:Nat→Nat→Int) (Ks3:Nat→List OpT),Hid (RepsW 4 (fun b=>(b:Int)) cs3 RBs Ks3 w wc∧RowW repE 23 4 cs3 w.heap.size (.slice (some ⟨g,0,none⟩) 4 cg) ((List.range 4).map RBs) wc∧RowW turnE 121 4 cs3 wr.heap.size (.slice (some ⟨wr.heap.size,0,none⟩) 1 1) [x] wc∧FourR H Ks3))
      case first=>
       cases fb with
       | false=>
        go_wp2_with fail
        go_meet
        case rel=>exact ⟨cs2,Ks,Lib.hid ⟨HHW.out.1,HHW.out.2.1,HHW.out.2.2,HF4.out.1⟩⟩
       | true=>
        have hfr:=HFb.out.1 rfl
        obtain ⟨fn,hfn⟩:∃ fn:Nat,x.f=fn:=⟨x.f.toNat,by omega⟩
        have hfn4:fn < 4:=by omega
        have HSC:Hid (∀ w',Below wc.heap.size wc w'→w'.cell? ⟨wr.heap.size,0,none⟩=some (.int .i64 (bn:Int))∧w'.cell? ⟨wr.heap.size,1,none⟩=some (.int .i64 (fn:Int))∧w'.cell? ⟨g,fn,none⟩=some (.pointer (some ⟨RBs fn,0,none⟩))∧w'.cell? ⟨g,bn,none⟩=some (.pointer (some ⟨RBs bn,0,none⟩))):=Lib.hid fun w' hb=>by
         have h3:=HHW.out.2.2.below hb
         have h2:=HHW.out.2.1.below hb
         have d0:=h3.at0 (q:=0) rfl
         have d1:=h3.at0 (q:=1) rfl
         rw [hbn] at d0
         rw [hfn] at d1
         exact ⟨d0,d1,h2.ptr hfn4,h2.ptr hbn4⟩
        have HVc:Hid (∀ w',Below wc.heap.size wc w'→Calls Tryz.prog 19 #[.pointer (some ⟨RBs bn,0,none⟩)] w' fun e w''=>e=.returned (vecV (cntB (Ks bn)))∧Below w'.heap.size w' w''):=Lib.hid fun w' hb=>vecD_any _ _ _ _ w' ((HHW.out.1.below hb).rep bn hbn4)
        have HDf:Hid (∀ w',Below wc.heap.size wc w'→Calls Tryz.prog 46 #[.pointer (some ⟨RBs fn,0,none⟩),vecV (cntB (Ks bn))] w' fun e w''=>∃ v',e=.returned v'∧Rw opE 31 w'.heap.size v' (diffP (cntB (Ks bn)) (Ks fn)) w''∧Below w'.heap.size w' w''):=Lib.hid fun w' hb=>diff_any _ _ _ _ _ w' ((HHW.out.1.below hb).rep fn hfn4) (HF4.out.1.ok fn hfn4) (by have:=HF4.out.1.len hfn4;have:=HF4.out.2;omega)
        have j1:(0:Int)≤(fn:Int):=by omega
        have j2:(fn:Int) < 4:=by omega
        have j3:(0:Int)≤(bn:Int):=by omega
        have j4:(bn:Int) < 4:=by omega
        have HBn:=Lib.hid hbn
        have HFn:=Lib.hid hfn
        have HB4:=Lib.hid (And.intro hb0 hb4)
        clear b0 b1 hbn hfn hfr hb0 hb4
        go_upto_region 15 with (fail)
        go_region_held_law (fun w'=>w'.cell? ⟨wr.heap.size,0,none⟩=some (.int .i64 (bn:Int))∧w'.cell? ⟨wr.heap.size,1,none⟩=some (.int .i64 (fn:Int))∧w'.cell? ⟨g,fn,none⟩=some (.pointer (some ⟨RBs fn,0,none⟩))∧w'.cell? ⟨g,bn,none⟩=some (.pointer (some ⟨RBs bn,0,none⟩))) (exact HSC.out _ (by go_grown))
         (first
          | (go_at_call 19;refine (HVc.out _ (by go_grown)).mono ?_;rintro e wA ⟨rfl,hbA⟩;have hA:=bel2 (w0:=wc) (by go_grown) hbA;have sA:=hA.size)
          | (go_at_call 46;refine (HDf.out _ hA).mono ?_;rintro e wB ⟨v9,rfl,hr9,hbB⟩;have hB:=bel2 hA hbB;have sB:=hB.size))
        all_goals
         rename_i hH
         have HHB:Hid (RepsW 4 (fun b=>(b:Int)) cs2 RBs Ks w wB∧RowW repE 23 4 cs2 w.heap.size (.slice (some ⟨g,0,none⟩) 4 cg) ((List.range 4).map RBs) wB∧RowW turnE 121 4 cs2 wr.heap.size (.slice (some ⟨wr.heap.size,0,none⟩) 1 1) [x] wB):=Lib.hid ⟨HHW.out.1.below hB,HHW.out.2.1.below hB,HHW.out.2.2.below hB⟩
         have HSC2:=Lib.hid (HSC.out wB hB)
         obtain ⟨A9,n9,c9,rfl⟩:=hr9.slice
         obtain ⟨G,g1,g2,_⟩:=HF4.out.1.join hfn4 hbn4 (l:=diffP (cntB (Ks bn)) (Ks fn)) (fun o=>diff_mem HF4.out.1.all (HF4.out.1.ok bn hbn4) (HF4.out.1.ok fn hfn4) (HF4.out.1.sub bn hbn4) (HF4.out.1.sub fn hfn4) o) (by have:=HF4.out.2;omega)
         have HG2:=Lib.hid g2
         have hlen9:(diffP (cntB (Ks bn)) (Ks fn)).length≤400:=Nat.le_trans (List.length_filter_le _ _) (by have:=HF4.out.1.len hfn4;have:=HF4.out.2;omega)
         have HJo:=Lib.hid (join_any ea w (cs2 bn) (RBs bn) bn (Ks bn) (diffP (cntB (Ks bn)) (Ks fn)) A9 n9 c9 wB (HHB.out.1.rep bn hbn4) HG.out HHB.out.1.bel (fun k hk=>HHB.out.1.ge bn k hbn4 hk) f2 f3 f4 f5 f6 f7 f8 f9 (HF4.out.1.ok bn hbn4) (HF4.out.1.rise bn hbn4) (by have:=HF4.out.1.len hbn4;have:=HF4.out.2;omega) hr9.sl (by omega) (fun o ho=>(HF4.out.1.ok fn hfn4).wf o (List.mem_filter.1 ho).1))
         rw [g1] at HJo
         obtain ⟨d0,d1,d2,d3⟩:=HSC2.out
         unfold ptrV at HJo
         clear hH hr9 hB sB hA sA hbA hbB g1 g2 hlen9 HVc HDf HSC
         go_upto_region 16 with (fail)
         go_wp2_with fail
         refine HJo.out.mono ?_
         rintro e w5 ⟨rfl,hRT⟩
         obtain ⟨c',hW5,hgr,hfr⟩:=HHB.out.1.join hbn4 hRT
         have H5:Hid (RepsW 4 (fun b=>(b:Int)) (putT cs2 bn c') RBs (putT Ks bn (sortOps (Ks bn++G))) w w5∧RowW repE 23 4 (putT cs2 bn c') w.heap.size (.slice (some ⟨g,0,none⟩) 4 cg) ((List.range 4).map RBs) w5∧RowW turnE 121 4 (putT cs2 bn c') wr.heap.size (.slice (some ⟨wr.heap.size,0,none⟩) 1 1) [x] w5):=Lib.hid ⟨hW5,HHB.out.2.1.join hbn4 hgr hfr,HHB.out.2.2.join hbn4 hgr hfr⟩
         clear hRT hW5 hgr hfr HJo HHB HSC2 d0 d1 d2 d3
         go_wp2_with fail
         go_meet
         case rel=>exact ⟨_,_,Lib.hid ⟨H5.out.1,H5.out.2.1,H5.out.2.2,HG2.out⟩⟩
      case rest=>
       obtain ⟨cs3,Ks3,H3⟩:=hcut
       have HFl:=Lib.hid HF4.out.2
       clear HHW HF4 HFb b0 b1
       have d2:=H3.out.2.2.1.at0 (q:=2) rfl
       have d3:=H3.out.2.2.1.at0 (q:=3) rfl
       have d4:=H3.out.2.2.1.at0 (q:=4) rfl
       have d5:=H3.out.2.2.1.at0 (q:=5) rfl
       have d6:=H3.out.2.2.1.at0 (q:=6) rfl
       have d7:=H3.out.2.2.1.at0 (q:=7) rfl
       have d8:=H3.out.2.2.1.at0 (q:=8) rfl
       have d9:=H3.out.2.2.1.at0 (q:=9) rfl
       go_upto_region 20 with (fail)
       obtain ⟨V,hV⟩:∃ V,V=wc.alloc (.cells #[.int .i64 x.o.t,.int .i64 x.o.b,.int .i64 x.o.n,.int .u8 x.o.k,.int .i64 x.o.nd,.int .i64 x.o.ot,.string x.o.nm,.string x.o.vl] 31):=⟨_,rfl⟩
       have HHV:Hid (RepsW 4 (fun b=>(b:Int)) cs3 RBs Ks3 w V∧RowW repE 23 4 cs3 w.heap.size (.slice (some ⟨g,0,none⟩) 4 cg) ((List.range 4).map RBs) V∧RowW turnE 121 4 cs3 wr.heap.size (.slice (some ⟨wr.heap.size,0,none⟩) 1 1) [x] V∧RowW opE 31 4 cs3 wc.heap.size (.slice (some ⟨wc.heap.size,0,none⟩) 1 1) [x.o] V):=Lib.hid (by
        have hb:Below wc.heap.size wc V:=by rw [hV];exact (Below.refl _ _).alloc (Nat.le_refl _) _
        refine ⟨H3.out.1.below hb,H3.out.2.1.below hb,H3.out.2.2.1.below hb,?_⟩
        rw [hV]
        exact H3.out.1.box rfl)
       have HF3:=Lib.hid H3.out.2.2.2
       rw [show _=V from hV.symm]
       clear hV H3 d2 d3 d4 d5 d6 d7 d8 d9
       have HSC:Hid (∀ w',Below V.heap.size V w'→w'.cell? ⟨wr.heap.size,0,none⟩=some (.int .i64 (bn:Int))∧w'.cell? ⟨g,bn,none⟩=some (.pointer (some ⟨RBs bn,0,none⟩))∧w'.cell? ⟨wc.heap.size,0,none⟩=some (.int .i64 x.o.t)∧w'.cell? ⟨wc.heap.size,1,none⟩=some (.int .i64 x.o.b)∧w'.cell? ⟨wc.heap.size,2,none⟩=some (.int .i64 x.o.n)∧w'.cell? ⟨wc.heap.size,3,none⟩=some (.int .u8 x.o.k)∧w'.cell? ⟨wc.heap.size,4,none⟩=some (.int .i64 x.o.nd)∧w'.cell? ⟨wc.heap.size,5,none⟩=some (.int .i64 x.o.ot)∧w'.cell? ⟨wc.heap.size,6,none⟩=some (.string x.o.nm)∧w'.cell? ⟨wc.heap.size,7,none⟩=some (.string x.o.vl)):=Lib.hid fun w' hb=>by
        have h4:=HHV.out.2.2.2.below hb
        have e0:=(HHV.out.2.2.1.below hb).at0 (q:=0) rfl
        rw [hbn] at e0
        exact ⟨e0,(HHV.out.2.1.below hb).ptr hbn4,h4.at0 (q:=0) rfl,h4.at0 (q:=1) rfl,h4.at0 (q:=2) rfl,h4.at0 (q:=3) rfl,h4.at0 (q:=4) rfl,h4.at0 (q:=5) rfl,h4.at0 (q:=6) rfl,h4.at0 (q:=7) rfl⟩
       have HMk:Hid (∀ w',Below V.heap.size V w'→Calls Tryz.prog 40 #[.pointer (some ⟨RBs bn,0,none⟩),opV x.o] w' (M1Ends ea bn (Ks3 bn) x.o w')):=Lib.hid fun w' hb=>make1_any ea _ _ _ _ x.o w' ((HHV.out.1.below hb).rep bn hbn4) (HG.out.below (HHV.out.1.below hb).bel) f2 f3 f4 f5 f6 f8 f10 (HF3.out.ok bn hbn4) (by have:=HF3.out.len hbn4;have:=HFl.out;omega) (by omega) (by omega) HX.out.o1
       have j3:(0:Int)≤(bn:Int):=by omega
       have j4:(bn:Int) < 4:=by omega
       go_cut [13,14] (fun v13 v14 wd=>∃ (B:Nat) (nx:OpT) (er:Nat),v13=.pointer (some ⟨B,0,none⟩)∧v14=errW ea er∧Hid (MakeIs bn (Ks3 bn) x.o (nx,er)∧OpAt wd B nx∧Below V.heap.size V wd∧V.heap.size≤B))
       case first=>
        go_region_held_law (fun w'=>w'.cell? ⟨wr.heap.size,0,none⟩=some (.int .i64 (bn:Int))∧w'.cell? ⟨g,bn,none⟩=some (.pointer (some ⟨RBs bn,0,none⟩))∧w'.cell? ⟨wc.heap.size,0,none⟩=some (.int .i64 x.o.t)∧w'.cell? ⟨wc.heap.size,1,none⟩=some (.int .i64 x.o.b)∧w'.cell? ⟨wc.heap.size,2,none⟩=some (.int .i64 x.o.n)∧w'.cell? ⟨wc.heap.size,3,none⟩=some (.int .u8 x.o.k)∧w'.cell? ⟨wc.heap.size,4,none⟩=some (.int .i64 x.o.nd)∧w'.cell? ⟨wc.heap.size,5,none⟩=some (.int .i64 x.o.ot)∧w'.cell? ⟨wc.heap.size,6,none⟩=some (.string x.o.nm)∧w'.cell? ⟨wc.heap.size,7,none⟩=some (.string x.o.vl)) (exact HSC.out _ (by go_grown))
         ((go_at_call 40;refine (HMk.out _ (by go_grown)).mono ?_;rintro e wA ⟨⟨nx,er⟩,hM,rfl,hbA⟩;have hA:=bel2 (w0:=V) (by go_grown) hbA;have sA:=hA.size;(first | (have hy:∀ j,j < 8→(∃ u,wA.cell? ⟨V.heap.size,j,none⟩=some u)∧wA.frozen? ⟨V.heap.size,j,none⟩=false:=box8_at (w:=V.drew) (o:=zOp) hbA;obtain ⟨⟨u0z,y0z⟩,x0z⟩:=hy 0 (by omega);obtain ⟨⟨u1z,y1z⟩,x1z⟩:=hy 1 (by omega);obtain ⟨⟨u2z,y2z⟩,x2z⟩:=hy 2 (by omega);obtain ⟨⟨u3z,y3z⟩,x3z⟩:=hy 3 (by omega);obtain ⟨⟨u4z,y4z⟩,x4z⟩:=hy 4 (by omega);obtain ⟨⟨u5z,y5z⟩,x5z⟩:=hy 5 (by omega);obtain ⟨⟨u6z,y6z⟩,x6z⟩:=hy 6 (by omega);obtain ⟨⟨u7z,y7z⟩,x7z⟩:=hy 7 (by omega)) | skip)))
        all_goals
         rename_i hH
         clear hH
         go_wp2_with fail
         go_meet
         case rel=>
          first
           | exact ⟨V.heap.size,nx,er,rfl,rfl,Lib.hid ⟨hM,(set8_at nx (fun j hj=>(hy j hj).1) hA (Nat.le_refl _)).1,(set8_at nx (fun j hj=>(hy j hj).1) hA (Nat.le_refl _)).2,Nat.le_refl _⟩⟩
           | exact ⟨wA.heap.size,nx,er,rfl,rfl,Lib.hid ⟨hM,OpAt.start wA nx _,hA.alloc sA _,sA⟩⟩
       case rest=>
        obtain ⟨B,nx,er,rfl,rfl,HM⟩:=hcut
        have HHD:Hid (RepsW 4 (fun b=>(b:Int)) cs3 RBs Ks3 w wc∧RowW repE 23 4 cs3 w.heap.size (.slice (some ⟨g,0,none⟩) 4 cg) ((List.range 4).map RBs) wc∧RowW turnE 121 4 cs3 wr.heap.size (.slice (some ⟨wr.heap.size,0,none⟩) 1 1) [x] wc):=Lib.hid ⟨HHV.out.1.below HM.out.2.2.1,HHV.out.2.1.below HM.out.2.2.1,HHV.out.2.2.1.below HM.out.2.2.1⟩
        have HBf:Hid (cs3 bn B=0):=Lib.hid (Classical.byContradiction fun hn=>by
         have h1:=(HHV.out.1.rep bn hbn4).lt B hn
         have h2:=HM.out.2.2.2
         omega)
        clear HSC HMk
        by_cases her:er=0
        ·subst her
         have he:errW ea 0=.nilIface:=rfl
         simp only [he]
         obtain ⟨q1,q2,q3⟩:=HF3.out.make hbn4 (made_ok HM.out.1 (HF3.out.ok bn hbn4) (by omega) (by omega) HX.out.o1)
         have hwf:=(q3.ok bn hbn4).wf
         rw [putK_self] at hwf
         have HQ3:=Lib.hid q3
         have HJo:=Lib.hid (fun W' (hb:Below wc.heap.size wc W') A (hs:SlV opE W' (.slice A 1 1) [nx])=>join_any ea w (cs3 bn) (RBs bn) bn (Ks3 bn) [nx] A 1 1 W' ((HHD.out.1.below hb).rep bn hbn4) HG.out (HHD.out.1.below hb).bel (fun k hk=>HHD.out.1.ge bn k hbn4 hk) f2 f3 f4 f5 f6 f7 f8 f9 (HF3.out.ok bn hbn4) (HF3.out.rise bn hbn4) (by have:=HF3.out.len hbn4;have:=HFl.out;omega) hs (by simp) (fun o ho=>by rw [List.mem_singleton.1 ho];exact hwf nx (by simp)))
         rw [q1] at HJo
         have HOB:=Lib.hid HM.out.2.1
         have HSC:Hid (∀ w',Below wc.heap.size wc w'→w'.cell? ⟨wr.heap.size,0,none⟩=some (.int .i64 (bn:Int))∧w'.cell? ⟨g,bn,none⟩=some (.pointer (some ⟨RBs bn,0,none⟩))∧w'.cell? ⟨B,0,none⟩=some (.int .i64 nx.t)∧w'.cell? ⟨B,1,none⟩=some (.int .i64 nx.b)∧w'.cell? ⟨B,2,none⟩=some (.int .i64 nx.n)∧w'.cell? ⟨B,3,none⟩=some (.int .u8 nx.k)∧w'.cell? ⟨B,4,none⟩=some (.int .i64 nx.nd)∧w'.cell? ⟨B,5,none⟩=some (.int .i64 nx.ot)∧w'.cell? ⟨B,6,none⟩=some (.string nx.nm)∧w'.cell? ⟨B,7,none⟩=some (.string nx.vl)):=Lib.hid fun w' hb=>by
          have h4:=HOB.out.below hb
          have e0:=(HHD.out.2.2.below hb).at0 (q:=0) rfl
          rw [hbn] at e0
          exact ⟨e0,(HHD.out.2.1.below hb).ptr hbn4,h4.c0,h4.c1,h4.c2,h4.c3,h4.c4,h4.c5,h4.c6,h4.c7⟩
         have HKj:Hid (∀ W' w',Below wc.heap.size wc W'→RepDTo (cs3 bn) (RBs bn) bn (sortOps (Ks3 bn++[nx])) W' w'→(w'.cell? ⟨wr.heap.size,0,none⟩=some (.int .i64 (bn:Int))∧w'.cell? ⟨g,bn,none⟩=some (.pointer (some ⟨RBs bn,0,none⟩))∧w'.cell? ⟨B,0,none⟩=some (.int .i64 nx.t)∧w'.cell? ⟨B,1,none⟩=some (.int .i64 nx.b)∧w'.cell? ⟨B,2,none⟩=some (.int .i64 nx.n)∧w'.cell? ⟨B,3,none⟩=some (.int .u8 nx.k)∧w'.cell? ⟨B,4,none⟩=some (.int .i64 nx.nd)∧w'.cell? ⟨B,5,none⟩=some (.int .i64 nx.ot)∧w'.cell? ⟨B,6,none⟩=some (.string nx.nm)∧w'.cell? ⟨B,7,none⟩=some (.string nx.vl))∧∃ cs4,RepsW 4 (fun b=>(b:Int)) cs4 RBs (putT Ks3 bn (Ks3 bn++[nx])) w w'∧RowW repE 23 4 cs4 w.heap.size (.slice (some ⟨g,0,none⟩) 4 cg) ((List.range 4).map RBs) w'):=Lib.hid fun W' w' hb hRT=>by
          rw [q2] at hRT
          obtain ⟨c',hW5,hgr,hfr⟩:=(HHD.out.1.below hb).join hbn4 hRT
          have h4:=(HOB.out.below hb).fr hfr (fun hn=>hn HBf.out)
          have e0:=((HHD.out.2.2.below hb).join hbn4 hgr hfr).at0 (q:=0) rfl
          rw [hbn] at e0
          have hrow:=(HHD.out.2.1.below hb).join hbn4 hgr hfr
          exact ⟨⟨e0,hrow.ptr hbn4,h4.c0,h4.c1,h4.c2,h4.c3,h4.c4,h4.c5,h4.c6,h4.c7⟩,_,hW5,hrow⟩
         unfold ptrV at HJo
         clear q1 q2 q3 hwf he
         have HSl:Hid (SlV opE (wc.alloc (.cells #[.int .i64 nx.t,.int .i64 nx.b,.int .i64 nx.n,.int .u8 nx.k,.int .i64 nx.nd,.int .i64 nx.ot,.string nx.nm,.string nx.vl] 31)) (.slice (some ⟨wc.heap.size,0,none⟩) 1 1) [nx]):=Lib.hid (SlV.one (E:=opE) wc nx 31 #[.int .i64 nx.t,.int .i64 nx.b,.int .i64 nx.n,.int .u8 nx.k,.int .i64 nx.nd,.int .i64 nx.ot,.string nx.nm,.string nx.vl] rfl)
         go_upto_region 22 with (fail)
         go_cut [14] (fun v14 wd=>v14=.nilIface∧Hid (∃ cs4,RepsW 4 (fun b=>(b:Int)) cs4 RBs (putT Ks3 bn (Ks3 bn++[nx])) w wd∧RowW repE 23 4 cs4 w.heap.size (.slice (some ⟨g,0,none⟩) 4 cg) ((List.range 4).map RBs) wd))
         case first=>
          go_region_held_law (fun w'=>w'.cell? ⟨wr.heap.size,0,none⟩=some (.int .i64 (bn:Int))∧w'.cell? ⟨g,bn,none⟩=some (.pointer (some ⟨RBs bn,0,none⟩))∧w'.cell? ⟨B,0,none⟩=some (.int .i64 nx.t)∧w'.cell? ⟨B,1,none⟩=some (.int .i64 nx.b)∧w'.cell? ⟨B,2,none⟩=some (.int .i64 nx.n)∧w'.cell? ⟨B,3,none⟩=some (.int .u8 nx.k)∧w'.cell? ⟨B,4,none⟩=some (.int .i64 nx.nd)∧w'.cell? ⟨B,5,none⟩=some (.int .i64 nx.ot)∧w'.cell? ⟨B,6,none⟩=some (.string nx.nm)∧w'.cell? ⟨B,7,none⟩=some (.string nx.vl)) (first | (with_reducible exact hSC) | exact HSC.out _ (by go_grown))
           ((go_at_call 12;refine (HJo.out _ (by go_grown) _ (HSl.out.below (by go_grown))).mono ?_;rintro e wA ⟨rfl,hRT⟩;have hfin:=HKj.out _ _ (by go_grown) hRT;have hSC:=hfin.1))
          all_goals
           rename_i hH
           clear hH hSC
           go_wp2_with fail
           go_meet
           case rel=>exact ⟨rfl,Lib.hid hfin.2⟩
         case rest=>
          obtain ⟨rfl,HR4⟩:=hcut
          go_wp2_with fail
          go_roundw
          case rel=>
           obtain ⟨cs4,h1,h2⟩:=HR4.out
           exact ⟨j+1,by omega,by go_num,cs4,_,_,Lib.hid ⟨h1,h2,HQ3.out,by have:=HFl.out;rw [List.length_append];simp;omega⟩⟩
          case measure=>simp [RowKit.intOf];omega
        ·have he:errW ea er=errV (ea er):=by rw [errW,if_neg her]
         simp only [he]
         go_wp2_with fail
         go_roundw
         case rel=>exact ⟨j+1,by omega,by go_num,cs3,Ks3,H,Lib.hid ⟨HHD.out.1,HHD.out.2.1,HF3.out,by have:=HFl.out;omega⟩⟩
         case measure=>simp [RowKit.intOf];omega
    ·obtain rfl:j=n:=by omega
     have i3:¬ (j:Int) < (j:Int):=by omega
     go_wp2_with fail
     go_ret
     exact ⟨_,cs2,RBs,Ks,H,rfl,HH.out.1,HH.out.2.1,HH.out.2.2.1,HH.out.2.2.2⟩
end Go.Proofs.YtjekalilfhnpmaaGreatDoor
