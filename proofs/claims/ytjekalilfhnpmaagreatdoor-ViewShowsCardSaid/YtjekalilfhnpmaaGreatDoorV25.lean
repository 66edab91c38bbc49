/- A replica's fresh operations: no number is left out, and stamps rise: the walk of rising. -/
import Derived.Deep.QuietTactic
import Derived.Test.YtjekalilfhnpmaaGreatDoorV05
import Derived.Test.YtjekalilfhnpmaaGreatDoorV10
import Derived.Test.YtjekalilfhnpmaaGreatDoorV14
namespace Go.Proofs.YtjekalilfhnpmaaGreatDoor
open Go Go.RowKit Go.Maps Go.Shelf
set_option linter.unusedVariables false
set_option linter.unusedSimpArgs false
set_option maxHeartbeats 4000000
set_option maxRecDepth 100000
theorem below_set {b:Nat} {w w':World} (h:Below b w w') {p:Addr} (hp:b≤p.block) (v:Value):Below b w (w'.setCell p v):=
 ⟨h.os,h.tape,h.output,by simpa [World.setCell] using h.size,fun k hk=>(Below.heap_setCell _ _ _ _ (by omega)).trans (h.block k hk)⟩
structure FourN (B:Nat) (f:Int→Int) (w:World):Prop where
 c0:w.cell? ⟨B,0,none⟩=some (.int .i64 (f 0))
 c1:w.cell? ⟨B,1,none⟩=some (.int .i64 (f 1))
 c2:w.cell? ⟨B,2,none⟩=some (.int .i64 (f 2))
 c3:w.cell? ⟨B,3,none⟩=some (.int .i64 (f 3))
 fz:∀ j,w.frozen? ⟨B,j,none⟩=false
theorem FourN.lt {B:Nat} {f:Int→Int} {w:World} (h:FourN B f w):B < w.heap.size:=World.block_lt_of_cell? w _ h.c0
theorem FourN.below {B:Nat} {f:Int→Int} {w w':World} (h:FourN B f w) (hb:Below w.heap.size w w'):FourN B f w':=
 ⟨(hb.cell h.lt).trans h.c0,(hb.cell h.lt).trans h.c1,(hb.cell h.lt).trans h.c2,(hb.cell h.lt).trans h.c3,fun j=>(hb.frozen (p:=⟨B,j,none⟩) h.lt).trans (h.fz j)⟩
theorem FourN.set {B:Nat} {f:Int→Int} {w:World} (h:FourN B f w) (a:Nat) (ha:a < 4) (v:Int):FourN B (fun x=>if x=a then v else f x) (w.setCell ⟨B,a,none⟩ (.int .i64 v)):=by
 have gs:∀ {j:Nat} {u:Value},j≠a→w.cell? ⟨B,j,none⟩=some u→(w.setCell ⟨B,a,none⟩ (.int .i64 v)).cell? ⟨B,j,none⟩=some u:=fun {j u} hj hc=>by
  rw [World.cell?_setCell_other _ _ _ _ (by intro e;cases e;exact hj rfl)];exact hc
 have hs:∀ {u:Value},w.cell? ⟨B,a,none⟩=some u→(w.setCell ⟨B,a,none⟩ (.int .i64 v)).cell? ⟨B,a,none⟩=some (.int .i64 v):=fun hc=>World.cell?_setCell_same' _ _ _ (by rw [hc];rfl)
 have hm:a=0∨a=1∨a=2∨a=3:=by omega
 refine ⟨?_,?_,?_,?_,fun j=>by rw [World.frozen?_setCell];exact h.fz j⟩
 ·rcases hm with rfl | rfl | rfl | rfl
  ·exact hs h.c0
  ·exact gs (by omega) h.c0
  ·exact gs (by omega) h.c0
  ·exact gs (by omega) h.c0
 ·rcases hm with rfl | rfl | rfl | rfl
  ·exact gs (by omega) h.c1
  ·exact hs h.c1
  ·exact gs (by omega) h.c1
  ·exact gs (by omega) h.c1
 ·rcases hm with rfl | rfl | rfl | rfl
  ·exact gs (by omega) h.c2
  ·exact gs (by omega) h.c2
  ·exact hs h.c2
  ·exact gs (by omega) h.c2
 ·rcases hm with rfl | rfl | rfl | rfl
  ·exact gs (by omega) h.c3
  ·exact gs (by omega) h.c3
  ·exact gs (by omega) h.c3
  ·exact hs h.c3
theorem FourN.at' {B:Nat} {f:Int→Int} {w:World} (h:FourN B f w) (a:Nat) (ha:a < 4):w.cell? ⟨B,a,none⟩=some (.int .i64 (f a)):=by
 have hm:a=0∨a=1∨a=2∨a=3:=by omega
 rcases hm with rfl | rfl | rfl | rfl
 ·exact h.c0
 ·exact h.c1
 ·exact h.c2
 ·exact h.c3
theorem FourN.congr {B:Nat} {f g:Int→Int} {w:World} (h:FourN B f w) (e:∀ x,0≤x→x < 4→g x=f x):FourN B g w:=
 ⟨by rw [e 0 (by omega) (by omega)];exact h.c0,by rw [e 1 (by omega) (by omega)];exact h.c1,by rw [e 2 (by omega) (by omega)];exact h.c2,by rw [e 3 (by omega) (by omega)];exact h.c3,h.fz⟩
def manyF (v:Int→Nat) (G:List OpT) (i:Nat):Int→Int:=fun x=>(v x:Int)+cntB (G.take i) x
theorem manyF_succ {v:Int→Nat} {G:List OpT} {i:Nat} {o:OpT} (h:G[i]?=some o) (x:Int):manyF v G (i+1) x=if x=o.b then manyF v G i o.b+1 else manyF v G i x:=by
 unfold manyF
 obtain ⟨h1,h2⟩:=List.getElem?_eq_some_iff.1 h
 rw [←List.take_append_getElem h1,h2,cntB_app]
 have:cntB [o] x=if x=o.b then 1 else 0:=by
  unfold cntB
  by_cases e:x=o.b
  ·rw [if_pos e,e];simp
  ·rw [if_neg e]
   have:¬ o.b=x:=fun h=>e h.symm
   simp [this]
 rw [this]
 by_cases e:x=o.b
 ·rw [if_pos e,if_pos e,e];omega
 ·rw [if_neg e,if_neg e];omega
theorem manyF_rg {v:Int→Nat} {G:List OpT} {i:Nat} (x:Int) (hv:∀ x,v x≤100000) (hn:G.length≤100000):0≤manyF v G i x∧manyF v G i x≤200000:=by
 unfold manyF
 have h1:=hv x
 have:cntB (G.take i) x≤(G.take i).length:=by unfold cntB;exact List.countP_le_length
 rw [List.length_take] at this
 omega
def gapB (v:Int→Nat) (G:List OpT) (o:OpT):Bool:=decide (manyF v G G.length o.b < o.n)
def RisEnds (ea:Nat→Addr) (gap falls:Bool) (sl:Value) (w:World) (e:Ending) (w':World):Prop:=
 e=.returned (if gap then .tuple #[.slice none 0 0,errV (ea 9)] else if falls then .tuple #[.slice none 0 0,errV (ea 3)] else .tuple #[sl,.nilIface])∧Below w.heap.size w w'
theorem any_take_succ {T:Type} {G:List T} {p:T→Bool} {i:Nat} {o:T} (h:G[i]?=some o) (h0:(G.take i).any p=false) (ho:p o=false):(G.take (i+1)).any p=false:=by
 obtain ⟨h1,h2⟩:=List.getElem?_eq_some_iff.1 h
 rw [←List.take_append_getElem h1,h2,List.any_append,h0]
 simp [ho]
theorem any_at {T:Type} {G:List T} {p:T→Bool} {i:Nat} {o:T} (h:G[i]?=some o) (ho:p o=true):G.any p=true:=List.any_eq_true.2 ⟨o,List.mem_of_getElem? h,ho⟩
theorem zeroOp (w:World):(zeroValue 31).run Tryz.prog w=.ok (opV ⟨0,0,0,0,0,0,⟨#[]⟩,⟨#[]⟩⟩) w:=by kernel_rfl
theorem rising_any {F:Nat→Bool} (ea:Nat→Addr) (RB mb nb:Nat) (v:Int→Nat) (P G:List OpT) (A:Option Addr) (n c:Nat) (w:World) (hG:Gd F ea w) (f3:F 3=true) (f9:F 9=true)
  (q2:w.cell? ⟨RB,2,none⟩=some (.int .i64 (v 0))) (q3:w.cell? ⟨RB,3,none⟩=some (.int .i64 (v 1))) (q4:w.cell? ⟨RB,4,none⟩=some (.int .i64 (v 2))) (q5:w.cell? ⟨RB,5,none⟩=some (.int .i64 (v 3)))
  (hM:MO mb nb P w) (hs:SlV opE w (.slice A n c) G) (hv:∀ x,v x≤100000) (hn:G.length≤100000) (hf:∀ o∈G,OpFine o) :
  Calls Tryz.prog 110 #[.pointer (some ⟨RB,0,none⟩),.map (some mb),.slice A n c] w (RisEnds ea (G.any (gapB v G)) (G.any (fallB P)) (.slice A n c) w):=by
 have hl:=hs.len
 have HS:=Lib.hid hs
 have HN:=Lib.hid hl
 have HF:=Lib.hid hf
 have HV:=Lib.hid hv
 have HG:=Lib.hid hG
 have HM:=Lib.hid hM
 obtain ⟨gap,hgap⟩:∃ gap,G.any (gapB v G)=gap:=⟨_,rfl⟩
 obtain ⟨falls,hfalls⟩:∃ falls,G.any (fallB P)=falls:=⟨_,rfl⟩
 have HGap:=Lib.hid hgap
 have HFal:=Lib.hid hfalls
 rw [hgap,hfalls]
 rw [←hl] at hn
 have hRB:=World.block_lt_of_cell? w _ q2
 have hfour:FourN w.heap.size (manyF v G 0) (w.alloc (.cells #[.int .i64 (v 0),.int .i64 (v 1),.int .i64 (v 2),.int .i64 (v 3)] 48)):=by
  have e:∀ x,manyF v G 0 x=v x:=fun x=>by unfold manyF;simp [cntB]
  refine ⟨?_,?_,?_,?_,fun j=>by simp [go_sem]⟩ <;> rw [e] <;> simp [go_sem]
 have HFour:=Lib.hid hfour
 generalize v 0=v0 at q2 HFour
 generalize v 1=v1 at q3 HFour
 generalize v 2=v2 at q4 HFour
 generalize v 3=v3 at q5 HFour
 clear hs hl hf hv hG hM hgap hfalls hfour
 go_enter Tryz.func110,Tryz.ntmps110
 go_wp2_with fail
 go_loopw [23] (fun v23 wr=>∃ i:Nat,i≤n∧v23=.int .i64 i∧Hid (FourN w.heap.size (manyF v G i) wr)∧Hid (Below w.heap.size w wr)) (fun v23 _=>n - (intOf v23).toNat)
 case atStart=>exact ⟨0,by omega,rfl,HFour,Lib.hid ((Below.refl _ _).alloc (Nat.le_refl _) _)⟩
 case round=>
  obtain ⟨i,hi,rfl,HQ,HB⟩:=hrel
  by_cases hlt:i < n
  ·obtain ⟨x,hx⟩:∃ x,G[i]?=some x:=⟨_,List.getElem?_eq_getElem (by have:=HN.out;omega)⟩
   have hfx:=HF.out x (List.mem_of_getElem? hx)
   obtain ⟨bb,off,rfl,hbl,c0,c1,c2,c3,c4,c5,c6,c7⟩:=ops_at (HS.out.below HB.out) hx
   have i1:(0:Int)≤(i:Int):=by omega
   have i2:(i:Int) < (n:Int):=by omega
   obtain ⟨a,ha⟩:∃ a:Nat,x.b=a:=⟨x.b.toNat,by have:=hfx.b1;omega⟩
   have ha4:a < 4:=by have:=hfx.b2;omega
   have hrg:=manyF_rg (v:=v) (G:=G) (i:=i) (a:Int) HV.out (by have:=HN.out;omega)
   have HSx:=Lib.hid (manyF_succ (v:=v) hx)
   have hq:=HQ.out.at' a ha4
   have hqf:=HQ.out.fz a
   have hwl:=HQ.out.lt
   obtain ⟨m,hm⟩:∃ m,manyF v G i (a:Int)=m:=⟨_,rfl⟩
   rw [hm] at hq hrg
   have m1:m+1≤9223372036854775807:=by omega
   have m2:-9223372036854775808≤m+1:=by omega
   have HMx:=Lib.hid hm
   have HAx:=Lib.hid ha
   rw [ha] at c1
   clear hx hlt hbl hfx hm ha hrg
   have a0:(0:Int)≤(a:Int):=by omega
   have a4:(a:Int) < 4:=by omega
   go_wp2_with fail
   go_roundw
   case rel=>
    refine ⟨i+1,by omega,by go_num,Lib.hid ?_,Lib.hid ?_⟩
    ·refine (((HQ.out.set _ ha4 (m+1)).congr fun y _ _=>?_).below ((Below.refl _ _).alloc (Nat.le_refl _) _))
     rw [HSx.out y,HAx.out,HMx.out]
    ·exact (below_set HB.out (Nat.le_refl _) _).alloc (by have:=HB.out.size;simp;omega) _
   case measure=>simp [intOf] <;> omega
  ·have i2:¬ (i:Int) < (n:Int):=by omega
   obtain rfl:n=i:=by omega
   have HQ2:Hid (FourN w.heap.size (manyF v G G.length) wr):=Lib.hid (by have:=HQ.out;rw [HN.out] at this;exact this)
   clear HQ HFour q2 q3 q4 q5 i2
   obtain ⟨wa,hwa⟩:∃ wa,wa=wr:=⟨_,rfl⟩
   go_wp2_with fail
   go_loopw [37] (fun v37 wr=>∃ i:Nat,i≤n∧v37=.int .i64 i∧Hid ((G.take i).any (gapB v G)=false)∧Hid (Below wa.heap.size wa wr)) (fun v37 _=>n - (intOf v37).toNat)
   case atStart=>exact ⟨0,by omega,rfl,Lib.hid (by simp),Lib.hid (by rw [hwa];exact Below.refl _ _)⟩
   case round=>
    obtain ⟨i,hi,rfl,HP,HBi⟩:=hrel
    by_cases hlt:i < n
    ·obtain ⟨x,hx⟩:∃ x,G[i]?=some x:=⟨_,List.getElem?_eq_getElem (by have:=HN.out;omega)⟩
     have hfx:=HF.out x (List.mem_of_getElem? hx)
     have hbw:Below w.heap.size w wr:=by subst hwa;exact HB.out.trans (HBi.out.mono HB.out.size)
     obtain ⟨bb,off,rfl,hbl,c0,c1,c2,c3,c4,c5,c6,c7⟩:=ops_at (HS.out.below hbw) hx
     have i1:(0:Int)≤(i:Int):=by omega
     have i2:(i:Int) < (n:Int):=by omega
     obtain ⟨a,ha⟩:∃ a:Nat,x.b=a:=⟨x.b.toNat,by have:=hfx.b1;omega⟩
     have ha4:a < 4:=by have:=hfx.b2;omega
     have HQ3:Hid (∀ o',FourN w.heap.size (manyF v G G.length) (wr.alloc o')):=Lib.hid fun o'=>by subst hwa;exact (HQ2.out.below HBi.out).below ((Below.refl _ _).alloc (Nat.le_refl _) o')
     have hq:=fun o'=>(HQ3.out o').at' a ha4
     obtain ⟨m,hm⟩:∃ m,manyF v G G.length (a:Int)=m:=⟨_,rfl⟩
     rw [hm] at hq
     have HMx:=Lib.hid hm
     have HX:=Lib.hid hx
     have HGb:Hid (gapB v G x=decide (m < x.n)):=Lib.hid (by unfold gapB;rw [ha,hm])
     have HBa:=Lib.hid (fun o'=>HBi.out.alloc HBi.out.size o')
     have g9:=fun o'=>(((HG.out.below hbw).alloc o').errs 9 (by omega) (by omega) f9).var
     simp only [errG] at g9
     rw [ha] at c1
     clear hx hlt hbl hfx hm ha
     by_cases hgp:m < x.n
     ·obtain rfl:gap=true:=by rw [←HGap.out];exact any_at HX.out (by rw [HGb.out];simpa using hgp)
      have a0:(0:Int)≤(a:Int):=by omega
      have a4:(a:Int) < 4:=by omega
      have hq1:=hq (.cells #[.int .i64 x.t,.int .i64 (a:Int),.int .i64 x.n,.int .u8 x.k,.int .i64 x.nd,.int .i64 x.ot,.string x.nm,.string x.vl] 31)
      have g91:=g9 (.cells #[.int .i64 x.t,.int .i64 (a:Int),.int .i64 x.n,.int .u8 x.k,.int .i64 x.nd,.int .i64 x.ot,.string x.nm,.string x.vl] 31)
      clear hq g9
      go_wp2_with fail
      go_quiet (fail)
      rename_i nq
      have HBq:Hid (Below w.heap.size w ((wr.alloc (.cells #[.int .i64 x.t,.int .i64 (a:Int),.int .i64 x.n,.int .u8 x.k,.int .i64 x.nd,.int .i64 x.ot,.string x.nm,.string x.vl] 31)).drewN nq)):=Lib.hid (below_drawn (hbw.alloc hbw.size _) nq)
      go_wp2_with fail
      go_quiet (fail)
      go_wp2_with fail
      go_ret2
      exact ⟨rfl,below_drawn HBq.out _⟩
     ·have HP1:=Lib.hid (any_take_succ HX.out HP.out (by rw [HGb.out];simpa using hgp))
      have a0:(0:Int)≤(a:Int):=by omega
      have a4:(a:Int) < 4:=by omega
      have hq1:=hq (.cells #[.int .i64 x.t,.int .i64 (a:Int),.int .i64 x.n,.int .u8 x.k,.int .i64 x.nd,.int .i64 x.ot,.string x.nm,.string x.vl] 31)
      clear hq g9
      go_wp2_with fail
      go_quiet (fail)
      rename_i nq
      go_wp2_with fail
      go_roundw
      case rel=>exact ⟨i+1,by omega,by go_num,HP1,Lib.hid (below_drawn (HBa.out _) nq)⟩
      case measure=>simp [intOf] <;> omega
    ·have i2:¬ (i:Int) < (n:Int):=by omega
     obtain rfl:n=i:=by omega
     obtain rfl:gap=false:=by rw [←HGap.out,←HP.out,HN.out,List.take_length]
     have HB2:Hid (Below w.heap.size w wr):=Lib.hid (by subst hwa;exact HB.out.trans (HBi.out.mono HB.out.size))
     clear HB hwa HBi HP HQ2 hlt
     obtain ⟨wb,hwb⟩:∃ wb,wb=wr:=⟨_,rfl⟩
     go_wp2_with fail
     go_loopw [53] (fun v53 wr=>∃ i:Nat,i≤n∧v53=.int .i64 i∧Hid ((G.take i).any (fallB P)=false)∧Hid (Below wb.heap.size wb wr)) (fun v53 _=>n - (intOf v53).toNat)
     case atStart=>exact ⟨0,by omega,rfl,Lib.hid (by simp),Lib.hid (by rw [hwb];exact Below.refl _ _)⟩
     case round=>
      obtain ⟨i,hi,rfl,HP,HBi⟩:=hrel
      have hbw:Below w.heap.size w wr:=by subst hwb;exact HB2.out.trans (HBi.out.mono HB2.out.size)
      by_cases hlt:i < n
      ·obtain ⟨x,hx⟩:∃ x,G[i]?=some x:=⟨_,List.getElem?_eq_getElem (by have:=HN.out;omega)⟩
       have hfx:=HF.out x (List.mem_of_getElem? hx)
       obtain ⟨bb,off,rfl,hbl,c0,c1,c2,c3,c4,c5,c6,c7⟩:=ops_at (HS.out.below hbw) hx
       have i1:(0:Int)≤(i:Int):=by omega
       have i2:(i:Int) < (n:Int):=by omega
       have x1:-9223372036854775808≤x.n - 1:=by have:=hfx.n1;omega
       have x2:x.n - 1≤9223372036854775807:=by have:=hfx.n2;omega
       have HK:Hid (∃ kl,keyOf Tryz.prog 195 (pairV (x.b,x.n - 1))=some kl):=Lib.hid (ownK_reads ⟨by have:=hfx.b1;show _≤x.b;omega,by have:=hfx.b2;show x.b≤_;omega⟩ ⟨x1,x2⟩)
       have HX:=Lib.hid hx
       have HMa:=Lib.hid (fun o'=>(HM.out.below hbw).below ((Below.refl wr.heap.size wr).alloc (Nat.le_refl _) o'))
       have HBa:=Lib.hid (fun o' o2=>(hbw.alloc hbw.size o').alloc (by have:=hbw.size;simp;omega) o2)
       have HBb:=Lib.hid (fun o' o2=>(HBi.out.alloc HBi.out.size o').alloc (by have:=HBi.out.size;simp;omega) o2)
       clear hx hlt hbl hfx
       obtain ⟨r,hr⟩:∃ r,findOwn P x.b (x.n - 1)=r:=⟨_,rfl⟩
       have hlk:ownM P (x.b,x.n - 1)=r:=hr
       have HFb:Hid ((r=none→fallB P x=false)∧∀ p,r=some p→fallB P x=!opLt p x):=Lib.hid ⟨fun e=>by unfold fallB;rw [hr,e],fun p e=>by unfold fallB;rw [hr,e]⟩
       clear hr
       cases r with
       | none=>
        have HP1:=Lib.hid (any_take_succ HX.out HP.out (HFb.out.1 rfl))
        go_wp2_with (at_lookup;refine wpList_lookT_ok _ rfl _ _ _ rfl 195 31 ownK Tryz.underlying189 _ (zeroOp _) pairV opV mb nb (ownM P) rfl (HMa.out _) (x.b,x.n - 1) rfl HK.out none hlk ?_)
        go_wp2_with fail
        go_roundw
        case rel=>exact ⟨i+1,by omega,by go_num,HP1,Lib.hid (HBb.out _ _)⟩
        case measure=>simp [intOf] <;> omega
       | some p=>
        obtain ⟨lt,hlt2⟩:∃ lt,opLt p x=lt:=⟨_,rfl⟩
        have HLs:Hid (∀ w,Calls Tryz.prog 119 #[stampV p.t p.b,stampV x.t x.b] w fun e w'=>e=.returned (.bool lt)∧Below w.heap.size w w'):=Lib.hid fun w=>by rw [←hlt2];exact less_any _ _ _ _ w
        have HLt:=Lib.hid hlt2
        clear hlt2
        go_wp2_with (at_lookup;refine wpList_lookT_ok _ rfl _ _ _ rfl 195 31 ownK Tryz.underlying189 _ (zeroOp _) pairV opV mb nb (ownM P) rfl (HMa.out _) (x.b,x.n - 1) rfl HK.out (some p) hlk ?_)
        go_wp2_with fail
        refine (HLs.out _).mono ?_
        rintro e w5 ⟨rfl,hb5⟩
        have HB5:=Lib.hid ((HBa.out _ _).trans (hb5.mono (HBa.out _ _).size))
        have HB6:=Lib.hid ((HBb.out _ _).trans (hb5.mono (HBb.out _ _).size))
        have g3:=((HG.out.below HB5.out).errs 3 (by omega) (by omega) f3).var
        simp only [errG] at g3
        clear hb5
        cases lt with
        | true=>
         have HP1:=Lib.hid (any_take_succ HX.out HP.out (by rw [HFb.out.2 p rfl,HLt.out];rfl))
         go_wp2_with fail
         go_roundw
         case rel=>exact ⟨i+1,by omega,by go_num,HP1,Lib.hid HB6.out⟩
         case measure=>simp [intOf] <;> omega
        | false=>
         obtain rfl:falls=true:=by rw [←HFal.out];exact any_at HX.out (by rw [HFb.out.2 p rfl,HLt.out];rfl)
         go_wp2_with fail
         go_quiet (fail)
         go_wp2_with fail
         go_ret2
         exact ⟨rfl,below_drawn HB5.out _⟩
      ·have i2:¬ (i:Int) < (n:Int):=by omega
       obtain rfl:n=i:=by omega
       obtain rfl:falls=false:=by rw [←HFal.out,←HP.out,HN.out,List.take_length]
       go_wp2_with fail
       go_ret2
       exact ⟨rfl,hbw⟩
end Go.Proofs.YtjekalilfhnpmaaGreatDoor
