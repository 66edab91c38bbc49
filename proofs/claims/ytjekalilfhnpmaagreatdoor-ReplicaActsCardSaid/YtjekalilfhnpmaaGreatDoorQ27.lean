/- A replica: new; what it makes; its operations. -/
import Derived.Test.YtjekalilfhnpmaaGreatDoorQ26
theorem Go.Proofs.YtjekalilfhnpmaaGreatDoor.κ27 {p:Prop} (h:p):Go.RowKit.Hid p:=Go.Lib.hid h
namespace Go.Proofs.YtjekalilfhnpmaaGreatDoor
open Go Go.RowKit Go.Maps Go.Shelf LineOrd
set_option linter.unusedVariables false
set_option linter.unusedSimpArgs false
set_option maxHeartbeats 2000000
set_option maxRecDepth 100000
theorem nextO_wf {b:Int} {K:List OpT} {o:OpT} (hK:DOk K) (h0:0≤b) (h4:b < 4) (k1:0≤o.k) (k2:o.k≤255) (hn:I64 o.nd) (ho:I64 o.ot) (hm:o.nm.size≤100000) (hv:o.vl.size≤100000):(nextO b K o).Wf:=by
 have h1:=timeOf_le hK
 have h2:=(timeOf_ge K).1
 have h3:=cnt_400 hK b
 have hnd:I64 (nextO b K o).nd:=by
  unfold nextO
  simp only
  split
  ·constructor <;> omega
  ·exact hn
 refine ⟨?_,?_,?_,?_,?_,?_,k1,k2,hnd.1,hnd.2,ho.1,ho.2,hm,hv⟩ <;> unfold nextO <;> simp only <;> omega
theorem RepD.kn {col:Nat→Int} {RB:Nat} {b:Int} {K:List OpT} {w:World} {y:RLay} {s:RpSt} (hO:Of K K s) (x:Int) (kb:Bool) (h:kb=true↔Known K x):kb=true↔s.kn x:=h.trans (hO.kn x).symm
theorem RepD.below {col:Nat→Int} {RB:Nat} {b:Int} {K:List OpT} {w w':World} (h:RepD col RB b K w) (hb:Below w.heap.size w w'):RepD col RB b K w':=by
 obtain ⟨y,s,h1,h2⟩:=h
 exact ⟨y,s,h1.below hb,h2⟩
theorem RepD.fr {X:Nat→Prop} {col:Nat→Int} {RB:Nat} {b:Int} {K:List OpT} {w w':World} (h:RepD col RB b K w) (hF:Fr X w w') (hx:∀ k,X k→col k=0):RepD col RB b K w':=by
 obtain ⟨y,s,h1,h2⟩:=h
 exact ⟨y,s,h1.fr hF hx,h2⟩
theorem RepD.lt {col:Nat→Int} {RB:Nat} {b:Int} {K:List OpT} {w:World} (h:RepD col RB b K w):∀ k,col k≠0→k < w.heap.size:=by
 obtain ⟨y,s,h1,h2⟩:=h
 exact h1.lt
theorem repOps_any (col:Nat→Int) (RB:Nat) (b:Int) (K:List OpT) (w:World) (h:RepD col RB b K w) (hl:K.length≤100000) :
  Calls Tryz.prog 14 #[ptrV RB] w fun e w'=>∃ v',e=.returned v'∧Rw opE 31 w.heap.size v' K w'∧Below w.heap.size w w':=by
 obtain ⟨y,s,hR,hO⟩:=h
 have HC:=κ27 (opsClone_any y.OV K w (by have:=hR.ops.sl;rwa [hO.K] at this) hl)
 have c6:=hR.a.c6
 obtain ⟨A0,nk,kc,hOV⟩:=hR.ops.slice
 rw [hOV] at c6 HC
 unfold ptrV
 clear hR hO hOV
 go_enter Tryz.func14,Tryz.ntmps14
 go_wp2_with fail
 refine HC.out.mono ?_
 rintro e w1 ⟨v1,rfl,h1,h2⟩
 have H1:=κ27 h1
 have H2:=κ27 h2
 obtain ⟨A1,n1,c1,rfl⟩:=h1.slice
 clear h1 h2 HC
 go_wp2_with fail
 go_ret
 exact ⟨_,rfl,H1.out,H2.out⟩
theorem box8_below {B:Nat} {w w':World} (h:∀ j,j < 8→(∃ u,w.cell? ⟨B,j,none⟩=some u)∧w.frozen? ⟨B,j,none⟩=false) (hb:Below w.heap.size w w'):∀ j,j < 8→(∃ u,w'.cell? ⟨B,j,none⟩=some u)∧w'.frozen? ⟨B,j,none⟩=false:=fun j hj=>by
 obtain ⟨⟨u,hu⟩,hf⟩:=h j hj
 have hl:=World.block_lt_of_cell? _ _ hu
 exact ⟨⟨u,(hb.cell hl).trans hu⟩,(hb.frozen (p:=⟨B,j,none⟩) hl).trans hf⟩
theorem box8_at {w w':World} {o:OpT} {ty:TypeId} (hb:Below (w.alloc (.cells o.cells ty)).heap.size (w.alloc (.cells o.cells ty)) w'):∀ j,j < 8→(∃ u,w'.cell? ⟨w.heap.size,j,none⟩=some u)∧w'.frozen? ⟨w.heap.size,j,none⟩=false:=
 box8_below (fun j hj=>by
  refine ⟨?_,by rw [World.frozen?_alloc_new]⟩
  rw [World.cell?_alloc_new]
  rcases (show j=0∨j=1∨j=2∨j=3∨j=4∨j=5∨j=6∨j=7 by omega) with rfl | rfl | rfl | rfl | rfl | rfl | rfl | rfl <;> exact ⟨_,rfl⟩) hb
def MkEnds (ea:Nat→Addr) (r:OpT×Nat) (w:World) (e:Ending) (w':World):Prop:=e=.returned (.tuple #[opV r.1,errW ea r.2])∧Below w.heap.size w w'
theorem nil_le:(⟨#[]⟩:ByteArray).size≤100000:=Nat.zero_le _
theorem make_any {F0:Nat→Bool} (ea:Nat→Addr) (col:Nat→Int) (RB:Nat) (b:Int) (K:List OpT) (into:Int) (nm:ByteArray) (w:World) (h:RepD col RB b K w) (hG:Gd F0 ea w) (f2:F0 2=true) (f3:F0 3=true) (f4:F0 4=true) (f5:F0 5=true) (f6:F0 6=true) (f8:F0 8=true)
  (hK:DOk K) (hKl:K.length≤400) (hb0:0≤b) (hb4:b < 4) (hi:I64 into) (hnm:nm.size≤100000) (pb:Bool) (hp:pb=true↔into=0∨into=1∨Known K into) :
  Calls Tryz.prog 11 #[ptrV RB,.int .i64 into,.string nm] w (MkEnds ea (nextP b K pb ⟨0,0,0,109,0,into,nm,⟨#[]⟩⟩) w):=by
 have HPl:Hid (∀ w',Below w.heap.size w w'→Calls Tryz.prog 54 #[ptrV RB,.int .i64 into] w' fun e w''=>e=.returned (.bool pb)∧Below w'.heap.size w' w''):=κ27 fun w' hb=>by
  obtain ⟨y,s,hR,hO⟩:=h
  exact repPlace_any (hR.below hb) into hi pb (by rw [hp,hO.kn])
 have HNx:Hid (∀ w',Below w.heap.size w w'→Calls Tryz.prog 53 #[ptrV RB,.bool pb,opV ⟨0,0,0,109,0,into,nm,⟨#[]⟩⟩] w' fun e w''=>e=.returned (.tuple #[opV (nextP b K pb ⟨0,0,0,109,0,into,nm,⟨#[]⟩⟩).1,errW ea (nextP b K pb ⟨0,0,0,109,0,into,nm,⟨#[]⟩⟩).2])∧Below w'.heap.size w' w''):=κ27 fun w' hb=>
  next_any ea col RB b K pb _ w' (h.below hb) (hG.below hb) f2 f3 f4 f5 f6 f8 hK hKl hb0 hb4 (nextO_wf hK hb0 hb4 (by simp) (by simp) ⟨by simp,by simp⟩ hi hnm nil_le)
 generalize nextP b K pb ⟨0,0,0,109,0,into,nm,⟨#[]⟩⟩=r at HNx ⊢
 obtain ⟨nx,er⟩:=r
 obtain ⟨E,hE⟩:∃ E,errW ea er=E:=⟨_,rfl⟩
 simp only at HNx
 rw [hE] at HNx
 have HE:=κ27 hE
 unfold ptrV at *
 clear h hG hK hKl hi hnm hp hE
 go_enter Tryz.func11,Tryz.ntmps11
 go_wp2_with fail
 refine (HPl.out _ ((Below.refl w.heap.size w).alloc (Nat.le_refl _) _)).mono ?_
 rintro e w1 ⟨rfl,hb1⟩
 have HB1:Hid (Below w.heap.size w w1):=κ27 (((Below.refl w.heap.size w).alloc (Nat.le_refl _) (.cells zOp.cells 31)).trans (hb1.mono (by simp)))
 have HR1:Hid (∀ j,j < 8→(∃ u,w1.cell? ⟨w.heap.size,j,none⟩=some u)∧w1.frozen? ⟨w.heap.size,j,none⟩=false):=κ27 (box8_at (o:=zOp) hb1)
 clear hb1
 clear HPl
 go_wp2_with fail
 refine (HNx.out _ HB1.out).mono ?_
 rintro e w5 ⟨rfl,hb5⟩
 have HB5:=κ27 (HB1.out.trans (hb5.mono HB1.out.size))
 have HR5:=κ27 (box8_below HR1.out hb5)
 clear hb5 HNx
 obtain ⟨⟨u0,y0⟩,x0⟩:=HR5.out 0 (by omega)
 obtain ⟨⟨u1,y1⟩,x1⟩:=HR5.out 1 (by omega)
 obtain ⟨⟨u2,y2⟩,x2⟩:=HR5.out 2 (by omega)
 obtain ⟨⟨u3,y3⟩,x3⟩:=HR5.out 3 (by omega)
 obtain ⟨⟨u4,y4⟩,x4⟩:=HR5.out 4 (by omega)
 obtain ⟨⟨u5,y5⟩,x5⟩:=HR5.out 5 (by omega)
 obtain ⟨⟨u6,y6⟩,x6⟩:=HR5.out 6 (by omega)
 obtain ⟨⟨u7,y7⟩,x7⟩:=HR5.out 7 (by omega)
 go_wp2_with fail
 obtain ⟨W8,hW8⟩:∃ W8,W8=((((((((w5.setCell ⟨w.heap.size,0,none⟩ (.int .i64 nx.t)).setCell ⟨w.heap.size,1,none⟩ (.int .i64 nx.b)).setCell ⟨w.heap.size,2,none⟩ (.int .i64 nx.n)).setCell ⟨w.heap.size,3,none⟩ (.int .u8 nx.k)).setCell ⟨w.heap.size,4,none⟩ (.int .i64 nx.nd)).setCell ⟨w.heap.size,5,none⟩ (.int .i64 nx.ot)).setCell ⟨w.heap.size,6,none⟩ (.string nx.nm)).setCell ⟨w.heap.size,7,none⟩ (.string nx.vl)):=⟨_,rfl⟩
 have h8:OpAt W8 w.heap.size nx∧Below w.heap.size w W8:=by
  rw [hW8]
  exact set8_at nx (fun j hj=>(HR5.out j hj).1) HB5.out (Nat.le_refl _)
 obtain ⟨⟨l0,l1,l2,l3,l4,l5,l6,l7⟩,hb8⟩:=h8
 rw [←hW8]
 refine bodyPost_ret (v:=.tuple #[opV nx,E]) (by simp [results,Tryz.results11,go_sem,l0,l1,l2,l3,l4,l5,l6,l7]) rfl ⟨?_,hb8⟩
 rw [HE.out]
theorem mark_any {F0:Nat→Bool} (ea:Nat→Addr) (col:Nat→Int) (RB:Nat) (b:Int) (K:List OpT) (nd:Int) (nm vl:ByteArray) (w:World) (h:RepD col RB b K w) (hG:Gd F0 ea w) (f2:F0 2=true) (f3:F0 3=true) (f4:F0 4=true) (f5:F0 5=true) (f6:F0 6=true) (f8:F0 8=true)
  (hK:DOk K) (hKl:K.length≤400) (hb0:0≤b) (hb4:b < 4) (hi:I64 nd) (hnm:nm.size≤100000) (hvl:vl.size≤100000) (kb:Bool) (hp:kb=true↔Known K nd) :
  Calls Tryz.prog 98 #[ptrV RB,.int .i64 nd,.string nm,.string vl] w (MkEnds ea (nextP b K kb ⟨0,0,0,115,nd,0,nm,vl⟩) w):=by
 have HKn:Hid (∀ w',Below w.heap.size w w'→Calls Tryz.prog 108 #[ptrV RB,.int .i64 nd] w' fun e w''=>e=.returned (.bool kb)∧Below w'.heap.size w' w''):=κ27 fun w' hb=>by
  obtain ⟨y,s,hR,hO⟩:=h
  exact repKnown_any (hR.below hb) nd hi kb (by rw [hp,hO.kn])
 have HNx:Hid (∀ w',Below w.heap.size w w'→Calls Tryz.prog 53 #[ptrV RB,.bool kb,opV ⟨0,0,0,115,nd,0,nm,vl⟩] w' fun e w''=>e=.returned (.tuple #[opV (nextP b K kb ⟨0,0,0,115,nd,0,nm,vl⟩).1,errW ea (nextP b K kb ⟨0,0,0,115,nd,0,nm,vl⟩).2])∧Below w'.heap.size w' w''):=κ27 fun w' hb=>
  next_any ea col RB b K kb _ w' (h.below hb) (hG.below hb) f2 f3 f4 f5 f6 f8 hK hKl hb0 hb4 (nextO_wf hK hb0 hb4 (by simp) (by simp) hi ⟨by simp,by simp⟩ hnm hvl)
 generalize nextP b K kb ⟨0,0,0,115,nd,0,nm,vl⟩=r at HNx ⊢
 obtain ⟨nx,er⟩:=r
 obtain ⟨E,hE⟩:∃ E,errW ea er=E:=⟨_,rfl⟩
 simp only at HNx
 rw [hE] at HNx
 have HE:=κ27 hE
 unfold ptrV at *
 clear h hG hK hKl hi hnm hvl hp hE
 go_enter Tryz.func98,Tryz.ntmps98
 go_wp2_with fail
 refine (HKn.out _ ((Below.refl w.heap.size w).alloc (Nat.le_refl _) _)).mono ?_
 rintro e w1 ⟨rfl,hb1⟩
 have HB1:Hid (Below w.heap.size w w1):=κ27 (((Below.refl w.heap.size w).alloc (Nat.le_refl _) (.cells zOp.cells 31)).trans (hb1.mono (by simp)))
 have HR1:Hid (∀ j,j < 8→(∃ u,w1.cell? ⟨w.heap.size,j,none⟩=some u)∧w1.frozen? ⟨w.heap.size,j,none⟩=false):=κ27 (box8_at (o:=zOp) hb1)
 clear hb1
 clear HKn
 go_wp2_with fail
 refine (HNx.out _ HB1.out).mono ?_
 rintro e w5 ⟨rfl,hb5⟩
 have HB5:=κ27 (HB1.out.trans (hb5.mono HB1.out.size))
 have HR5:=κ27 (box8_below HR1.out hb5)
 clear hb5 HNx
 obtain ⟨⟨u0,y0⟩,x0⟩:=HR5.out 0 (by omega)
 obtain ⟨⟨u1,y1⟩,x1⟩:=HR5.out 1 (by omega)
 obtain ⟨⟨u2,y2⟩,x2⟩:=HR5.out 2 (by omega)
 obtain ⟨⟨u3,y3⟩,x3⟩:=HR5.out 3 (by omega)
 obtain ⟨⟨u4,y4⟩,x4⟩:=HR5.out 4 (by omega)
 obtain ⟨⟨u5,y5⟩,x5⟩:=HR5.out 5 (by omega)
 obtain ⟨⟨u6,y6⟩,x6⟩:=HR5.out 6 (by omega)
 obtain ⟨⟨u7,y7⟩,x7⟩:=HR5.out 7 (by omega)
 go_wp2_with fail
 obtain ⟨W8,hW8⟩:∃ W8,W8=((((((((w5.setCell ⟨w.heap.size,0,none⟩ (.int .i64 nx.t)).setCell ⟨w.heap.size,1,none⟩ (.int .i64 nx.b)).setCell ⟨w.heap.size,2,none⟩ (.int .i64 nx.n)).setCell ⟨w.heap.size,3,none⟩ (.int .u8 nx.k)).setCell ⟨w.heap.size,4,none⟩ (.int .i64 nx.nd)).setCell ⟨w.heap.size,5,none⟩ (.int .i64 nx.ot)).setCell ⟨w.heap.size,6,none⟩ (.string nx.nm)).setCell ⟨w.heap.size,7,none⟩ (.string nx.vl)):=⟨_,rfl⟩
 have h8:OpAt W8 w.heap.size nx∧Below w.heap.size w W8:=by
  rw [hW8]
  exact set8_at nx (fun j hj=>(HR5.out j hj).1) HB5.out (Nat.le_refl _)
 obtain ⟨⟨l0,l1,l2,l3,l4,l5,l6,l7⟩,hb8⟩:=h8
 rw [←hW8]
 refine bodyPost_ret (v:=.tuple #[opV nx,E]) (by simp [results,Tryz.results98,go_sem,l0,l1,l2,l3,l4,l5,l6,l7]) rfl ⟨?_,hb8⟩
 rw [HE.out]
def LetAt (K:List OpT) (nd k:Int) (kb:Bool) (id:Int) (is:Bool):Prop:=
 (kb=true∧0≤k∧∃ L,LineOf K nd L∧∃ x,(seenL L)[k.toNat]?=some x∧id=x.id∧is=true)∨((kb=false∨∃ L,LineOf K nd L∧(k < 0∨(seenL L).length≤k))∧id=0∧is=false)
theorem seenL_mem {L:List Lt} {x:Lt} {k:Nat} (h:(seenL L)[k]?=some x):x∈L:=(List.mem_filter.1 (List.mem_of_getElem? h)).1
theorem LineOf.has {D:List OpT} {nd:Int} {L:List Lt} (h:LineOf D nd L) {x:Lt} (hx:x∈L):HasLet D nd x.id:=by
 obtain ⟨l,rfl,_,hm⟩:=h.l
 obtain ⟨z,hz,rfl⟩:=List.mem_map.1 hx
 exact (hm z).1 hz
theorem LetAt.has {K:List OpT} {nd k:Int} {kb:Bool} {id:Int} {is:Bool} (h:LetAt K nd k kb id is):I64 id∨is=false∨True:=.inr (.inr trivial)
theorem LetAt.rg {K:List OpT} (hK:DOk K) {nd k:Int} {kb:Bool} {id:Int} {is:Bool} (h:LetAt K nd k kb id is):I64 id:=by
 rcases h with ⟨_,_,L,hL,x,hx,rfl,_⟩ | ⟨_,rfl,_⟩
 ·obtain ⟨o,ho,_,_,h3⟩:=hL.has (seenL_mem hx)
  have:=(hK.fine ho).idr
  constructor <;> omega
 ·constructor <;> omega
theorem repLetter_false {y:RLay} {col:Nat→Int} {RB:Nat} {b:Int} {s:RpSt} {w:World} (h:RepL y col RB b s w) (x k:Int) (hx:I64 x) (hk:¬ s.kn x):Calls Tryz.prog 121 #[ptrV RB,.int .i64 x,.int .i64 k] w fun e w'=>e=.returned (.tuple #[.int .i64 0,.bool false])∧Below w.heap.size w w':=by
 have c9:=h.a.c9
 have htx:=h.tx
 have hlk:txM s.kn y.LB x=none:=by unfold txM;rw [if_neg hk]
 unfold ptrV
 clear h hk
 go_enter Tryz.func121,Tryz.ntmps121
 go_wp2_with (at_lookup;refine wpList_lookT_ok _ rfl _ _ _ rfl 3 118 treeK Tryz.underlying101 _ (zeroLn _) ekI ptrV y.XB y.xn (txM s.kn y.LB) rfl htx x rfl (ekI_reads hx) none hlk ?_)
 go_wp2_with fail
 go_ret2
 exact ⟨rfl,Below.refl _ _⟩
theorem repLetter_ex (col:Nat→Int) (RB:Nat) (b:Int) (K:List OpT) (nd k:Int) (w:World) (h:RepD col RB b K w) (hKl:K.length≤400) (hi:I64 nd) (hk:I64 k) (kb:Bool) (hp:kb=true↔Known K nd):∃ id is,LetAt K nd k kb id is∧∀ w',Below w.heap.size w w'→Calls Tryz.prog 121 #[ptrV RB,.int .i64 nd,.int .i64 k] w' fun e w''=>e=.returned (.tuple #[.int .i64 id,.bool is])∧Below w'.heap.size w' w'':=by
 obtain ⟨y,s,hR,hO⟩:=h
 have hlen:kb=true→(s.ll nd).length≤1000:=fun hkb=>Nat.le_trans (hO.ll nd (hp.1 hkb)).2 (by omega)
 have hkn:kb=true↔s.kn nd:=by rw [hp,hO.kn]
 cases kb with
 | false=>
  refine ⟨0,false,.inr ⟨.inl rfl,rfl,rfl⟩,fun w' hb=>?_⟩
  have:=repLetter_false (hR.below hb) nd k hi (fun hh=>by have:=hkn.2 hh;cases this)
  exact this
 | true=>
  have hL:=(hO.ll nd (hp.1 rfl)).1
  have hc:∀ w',Below w.heap.size w w'→_:=fun w' hb=>repLetter_any (hR.below hb) nd k hi hk true hkn (hlen rfl)
  by_cases hq:0≤k∧∃ x,(seenL (s.ll nd))[k.toNat]?=some x
  ·obtain ⟨h0,x,hx⟩:=hq
   refine ⟨x.id,true,.inl ⟨rfl,h0,_,hL,x,hx,rfl,rfl⟩,fun w' hb=>(hc w' hb).mono ?_⟩
   rintro e w'' ⟨hb2,⟨_,_,x',hx',rfl⟩ | ⟨h3,rfl⟩⟩
   ·rw [hx] at hx'
    cases hx'
    exact ⟨rfl,hb2⟩
   ·exfalso
    have:=(List.getElem?_eq_some_iff.1 hx).1
    rcases h3 with h3 | h3 | h3
    ·cases h3
    ·omega
    ·omega
  ·refine ⟨0,false,.inr ⟨.inr ⟨_,hL,?_⟩,rfl,rfl⟩,fun w' hb=>(hc w' hb).mono ?_⟩
   ·rcases Int.lt_or_le k 0 with h0 | h0
    ·exact .inl h0
    ·refine .inr (Classical.byContradiction fun hlt=>hq ⟨h0,_,List.getElem?_eq_getElem (by omega)⟩)
   ·rintro e w'' ⟨hb2,⟨_,h0,x',hx',rfl⟩ | ⟨h3,rfl⟩⟩
    ·exact absurd ⟨h0,x',hx'⟩ hq
    ·exact ⟨rfl,hb2⟩
def ErEnds (ea:Nat→Addr) (b:Int) (K:List OpT) (nd at':Int) (kb:Bool) (w:World) (e:Ending) (w':World):Prop:=∃ id is,LetAt K nd at' kb id is∧MkEnds ea (nextP b K is ⟨0,0,0,100,nd,id,⟨#[]⟩,⟨#[]⟩⟩) w e w'
theorem erase_any {F0:Nat→Bool} (ea:Nat→Addr) (col:Nat→Int) (RB:Nat) (b:Int) (K:List OpT) (nd at':Int) (w:World) (h:RepD col RB b K w) (hG:Gd F0 ea w) (f2:F0 2=true) (f3:F0 3=true) (f4:F0 4=true) (f5:F0 5=true) (f6:F0 6=true) (f8:F0 8=true)
  (hK:DOk K) (hKl:K.length≤400) (hb0:0≤b) (hb4:b < 4) (hi:I64 nd) (ha:I64 at') (kb:Bool) (hp:kb=true↔Known K nd) :
  Calls Tryz.prog 97 #[ptrV RB,.int .i64 nd,.int .i64 at'] w (ErEnds ea b K nd at' kb w):=by
 obtain ⟨id,is,hLA,hLc⟩:=repLetter_ex col RB b K nd at' w h hKl hi ha kb hp
 have HLc:=κ27 hLc
 suffices hh:Calls Tryz.prog 97 #[ptrV RB,.int .i64 nd,.int .i64 at'] w (MkEnds ea (nextP b K is ⟨0,0,0,100,nd,id,⟨#[]⟩,⟨#[]⟩⟩) w) from hh.mono fun e w' h=>⟨id,is,hLA,h⟩
 have HAt:Hid (is=true→0≤at'):=κ27 fun his=>by
  rcases hLA with ⟨_,h0,_⟩ | ⟨_,_,h0⟩
  ·exact h0
  ·rw [h0] at his;cases his
 have HNx:Hid (∀ w',Below w.heap.size w w'→Calls Tryz.prog 53 #[ptrV RB,.bool is,opV ⟨0,0,0,100,nd,id,⟨#[]⟩,⟨#[]⟩⟩] w' fun e w''=>e=.returned (.tuple #[opV (nextP b K is ⟨0,0,0,100,nd,id,⟨#[]⟩,⟨#[]⟩⟩).1,errW ea (nextP b K is ⟨0,0,0,100,nd,id,⟨#[]⟩,⟨#[]⟩⟩).2])∧Below w'.heap.size w' w''):=κ27 fun w' hb=>
  next_any ea col RB b K is _ w' (h.below hb) (hG.below hb) f2 f3 f4 f5 f6 f8 hK hKl hb0 hb4 (nextO_wf hK hb0 hb4 (by simp) (by simp) hi (hLA.rg hK) nil_le nil_le)
 generalize nextP b K is ⟨0,0,0,100,nd,id,⟨#[]⟩,⟨#[]⟩⟩=r at HNx ⊢
 obtain ⟨nx,er⟩:=r
 obtain ⟨E,hE⟩:∃ E,errW ea er=E:=⟨_,rfl⟩
 simp only at HNx
 rw [hE] at HNx
 have HE:=κ27 hE
 unfold ptrV at *
 clear h hG hK hKl hi ha hp hE hLA hLc
 cases is with
 | false=>
  go_enter Tryz.func97,Tryz.ntmps97
  go_wp2_with fail
  refine (HLc.out _ ((Below.refl w.heap.size w).alloc (Nat.le_refl _) _)).mono ?_
  rintro e w1 ⟨rfl,hb1⟩
  have HB1:Hid (Below w.heap.size w w1):=κ27 (((Below.refl w.heap.size w).alloc (Nat.le_refl _) (.cells zOp.cells 31)).trans (hb1.mono (by simp)))
  have HR1:Hid (∀ j,j < 8→(∃ u,w1.cell? ⟨w.heap.size,j,none⟩=some u)∧w1.frozen? ⟨w.heap.size,j,none⟩=false):=κ27 (box8_at (o:=zOp) hb1)
  clear hb1
  clear HLc
  go_wp2_with fail
  refine (HNx.out _ HB1.out).mono ?_
  rintro e w5 ⟨rfl,hb5⟩
  have HB5:=κ27 (HB1.out.trans (hb5.mono HB1.out.size))
  have HR5:=κ27 (box8_below HR1.out hb5)
  clear hb5 HNx
  obtain ⟨⟨u0,y0⟩,x0⟩:=HR5.out 0 (by omega)
  obtain ⟨⟨u1,y1⟩,x1⟩:=HR5.out 1 (by omega)
  obtain ⟨⟨u2,y2⟩,x2⟩:=HR5.out 2 (by omega)
  obtain ⟨⟨u3,y3⟩,x3⟩:=HR5.out 3 (by omega)
  obtain ⟨⟨u4,y4⟩,x4⟩:=HR5.out 4 (by omega)
  obtain ⟨⟨u5,y5⟩,x5⟩:=HR5.out 5 (by omega)
  obtain ⟨⟨u6,y6⟩,x6⟩:=HR5.out 6 (by omega)
  obtain ⟨⟨u7,y7⟩,x7⟩:=HR5.out 7 (by omega)
  go_wp2_with fail
  obtain ⟨W8,hW8⟩:∃ W8,W8=((((((((w5.setCell ⟨w.heap.size,0,none⟩ (.int .i64 nx.t)).setCell ⟨w.heap.size,1,none⟩ (.int .i64 nx.b)).setCell ⟨w.heap.size,2,none⟩ (.int .i64 nx.n)).setCell ⟨w.heap.size,3,none⟩ (.int .u8 nx.k)).setCell ⟨w.heap.size,4,none⟩ (.int .i64 nx.nd)).setCell ⟨w.heap.size,5,none⟩ (.int .i64 nx.ot)).setCell ⟨w.heap.size,6,none⟩ (.string nx.nm)).setCell ⟨w.heap.size,7,none⟩ (.string nx.vl)):=⟨_,rfl⟩
  have h8:OpAt W8 w.heap.size nx∧Below w.heap.size w W8:=by
   rw [hW8]
   exact set8_at nx (fun j hj=>(HR5.out j hj).1) HB5.out (Nat.le_refl _)
  obtain ⟨⟨l0,l1,l2,l3,l4,l5,l6,l7⟩,hb8⟩:=h8
  rw [←hW8]
  refine bodyPost_ret (v:=.tuple #[opV nx,E]) (by simp [results,Tryz.results97,go_sem,l0,l1,l2,l3,l4,l5,l6,l7]) rfl ⟨?_,hb8⟩
  rw [HE.out]
 | true=>
  have ha0:(0:Int)≤at':=HAt.out rfl
  go_enter Tryz.func97,Tryz.ntmps97
  go_wp2_with fail
  refine (HLc.out _ ((Below.refl w.heap.size w).alloc (Nat.le_refl _) _)).mono ?_
  rintro e w1 ⟨rfl,hb1⟩
  have HB1:Hid (Below w.heap.size w w1):=κ27 (((Below.refl w.heap.size w).alloc (Nat.le_refl _) (.cells zOp.cells 31)).trans (hb1.mono (by simp)))
  have HR1:Hid (∀ j,j < 8→(∃ u,w1.cell? ⟨w.heap.size,j,none⟩=some u)∧w1.frozen? ⟨w.heap.size,j,none⟩=false):=κ27 (box8_at (o:=zOp) hb1)
  clear hb1
  clear HLc
  go_wp2_with fail
  refine (HNx.out _ HB1.out).mono ?_
  rintro e w5 ⟨rfl,hb5⟩
  have HB5:=κ27 (HB1.out.trans (hb5.mono HB1.out.size))
  have HR5:=κ27 (box8_below HR1.out hb5)
  clear hb5 HNx
  obtain ⟨⟨u0,y0⟩,x0⟩:=HR5.out 0 (by omega)
  obtain ⟨⟨u1,y1⟩,x1⟩:=HR5.out 1 (by omega)
  obtain ⟨⟨u2,y2⟩,x2⟩:=HR5.out 2 (by omega)
  obtain ⟨⟨u3,y3⟩,x3⟩:=HR5.out 3 (by omega)
  obtain ⟨⟨u4,y4⟩,x4⟩:=HR5.out 4 (by omega)
  obtain ⟨⟨u5,y5⟩,x5⟩:=HR5.out 5 (by omega)
  obtain ⟨⟨u6,y6⟩,x6⟩:=HR5.out 6 (by omega)
  obtain ⟨⟨u7,y7⟩,x7⟩:=HR5.out 7 (by omega)
  go_wp2_with fail
  obtain ⟨W8,hW8⟩:∃ W8,W8=((((((((w5.setCell ⟨w.heap.size,0,none⟩ (.int .i64 nx.t)).setCell ⟨w.heap.size,1,none⟩ (.int .i64 nx.b)).setCell ⟨w.heap.size,2,none⟩ (.int .i64 nx.n)).setCell ⟨w.heap.size,3,none⟩ (.int .u8 nx.k)).setCell ⟨w.heap.size,4,none⟩ (.int .i64 nx.nd)).setCell ⟨w.heap.size,5,none⟩ (.int .i64 nx.ot)).setCell ⟨w.heap.size,6,none⟩ (.string nx.nm)).setCell ⟨w.heap.size,7,none⟩ (.string nx.vl)):=⟨_,rfl⟩
  have h8:OpAt W8 w.heap.size nx∧Below w.heap.size w W8:=by
   rw [hW8]
   exact set8_at nx (fun j hj=>(HR5.out j hj).1) HB5.out (Nat.le_refl _)
  obtain ⟨⟨l0,l1,l2,l3,l4,l5,l6,l7⟩,hb8⟩:=h8
  rw [←hW8]
  refine bodyPost_ret (v:=.tuple #[opV nx,E]) (by simp [results,Tryz.results97,go_sem,l0,l1,l2,l3,l4,l5,l6,l7]) rfl ⟨?_,hb8⟩
  rw [HE.out]
def WrAt (K:List OpT) (nd at':Int) (kb:Bool) (id:Int) (is:Bool):Prop:=
 (at'=0∧id=0∧is=kb)∨(at'≠0∧∃ k,LetAt K nd k kb id is∧(is=true→k=at' - 1)∧(k=at' - 1∨at' < 0))
def WrEnds (ea:Nat→Addr) (b:Int) (K:List OpT) (nd at':Int) (kb:Bool) (ch:UInt8) (w:World) (e:Ending) (w':World):Prop:=∃ id is,WrAt K nd at' kb id is∧MkEnds ea (nextP b K is ⟨0,0,0,105,nd,id,⟨#[]⟩,⟨#[ch]⟩⟩) w e w'
theorem conv1 (ch:UInt8) (W:World):(convert 212 9 (.slice (some ⟨W.heap.size,0,none⟩) 1 1)).run Tryz.prog (W.alloc (.cells #[.int .u8 ch.toNat] 5))=.ok (.string ⟨#[ch]⟩) (W.alloc (.cells #[.int .u8 ch.toNat] 5)):=by
 refine run_convert_bytes_back (P:=Tryz.prog) _ 212 9 5 ⟨W.heap.size,0,none⟩ 1 [ch] Tryz.underlying212 Tryz.underlying5 Tryz.underlying9 ?_
 intro j hj
 have:j=0:=by simp at hj;omega
 subst this
 rw [Addr.add_lit]
 simp [go_sem]
theorem write_any {F0:Nat→Bool} (ea:Nat→Addr) (col:Nat→Int) (RB:Nat) (b:Int) (K:List OpT) (nd at':Int) (ch:UInt8) (w:World) (h:RepD col RB b K w) (hG:Gd F0 ea w) (f2:F0 2=true) (f3:F0 3=true) (f4:F0 4=true) (f5:F0 5=true) (f6:F0 6=true) (f8:F0 8=true)
  (hK:DOk K) (hKl:K.length≤400) (hb0:0≤b) (hb4:b < 4) (hi:I64 nd) (ha:I64 at') (kb:Bool) (hp:kb=true↔Known K nd) :
  Calls Tryz.prog 60 #[ptrV RB,.int .i64 nd,.int .i64 at',.int .u8 ch.toNat] w (WrEnds ea b K nd at' kb ch w):=by
 have HKn:Hid (∀ w',Below w.heap.size w w'→Calls Tryz.prog 108 #[ptrV RB,.int .i64 nd] w' fun e w''=>e=.returned (.bool kb)∧Below w'.heap.size w' w''):=κ27 fun w' hb=>by
  obtain ⟨y,s,hR,hO⟩:=h
  exact repKnown_any (hR.below hb) nd hi kb (by rw [hp,hO.kn])
 by_cases h0:at'=0
 ·subst h0
  suffices hh:Calls Tryz.prog 60 #[ptrV RB,.int .i64 nd,.int .i64 0,.int .u8 ch.toNat] w (MkEnds ea (nextP b K kb ⟨0,0,0,105,nd,0,⟨#[]⟩,⟨#[ch]⟩⟩) w) from hh.mono fun e w' h=>⟨0,kb,.inl ⟨rfl,rfl,rfl⟩,h⟩
  have HNx:Hid (∀ w',Below w.heap.size w w'→Calls Tryz.prog 53 #[ptrV RB,.bool kb,opV ⟨0,0,0,105,nd,0,⟨#[]⟩,⟨#[ch]⟩⟩] w' fun e w''=>e=.returned (.tuple #[opV (nextP b K kb ⟨0,0,0,105,nd,0,⟨#[]⟩,⟨#[ch]⟩⟩).1,errW ea (nextP b K kb ⟨0,0,0,105,nd,0,⟨#[]⟩,⟨#[ch]⟩⟩).2])∧Below w'.heap.size w' w''):=κ27 fun w' hb=>
   next_any ea col RB b K kb _ w' (h.below hb) (hG.below hb) f2 f3 f4 f5 f6 f8 hK hKl hb0 hb4 (nextO_wf hK hb0 hb4 (by simp) (by simp) hi ⟨by simp,by simp⟩ nil_le (show (1:Nat)≤100000 by omega))
  generalize nextP b K kb ⟨0,0,0,105,nd,0,⟨#[]⟩,⟨#[ch]⟩⟩=r at HNx ⊢
  obtain ⟨nx,er⟩:=r
  obtain ⟨E,hE⟩:∃ E,errW ea er=E:=⟨_,rfl⟩
  simp only at HNx
  rw [hE] at HNx
  have HE:=κ27 hE
  unfold ptrV at *
  clear h hG hK hKl hi ha hp hE
  go_enter Tryz.func60,Tryz.ntmps60
  go_wp2_with fail
  refine (HKn.out _ ((Below.refl w.heap.size w).alloc (Nat.le_refl _) _)).mono ?_
  rintro e w1 ⟨rfl,hb1⟩
  have HB1:Hid (Below w.heap.size w w1):=κ27 (((Below.refl w.heap.size w).alloc (Nat.le_refl _) (.cells zOp.cells 31)).trans (hb1.mono (by simp)))
  have HR1:Hid (∀ j,j < 8→(∃ u,w1.cell? ⟨w.heap.size,j,none⟩=some u)∧w1.frozen? ⟨w.heap.size,j,none⟩=false):=κ27 (box8_at (o:=zOp) hb1)
  clear hb1
  clear HKn
  have HNx2:Hid (∀ o',Calls Tryz.prog 53 #[.pointer (some ⟨RB,0,none⟩),.bool kb,opV ⟨0,0,0,105,nd,0,⟨#[]⟩,⟨#[ch]⟩⟩] (w1.alloc o') fun e w''=>e=.returned (.tuple #[opV nx,E])∧Below (w1.alloc o').heap.size (w1.alloc o') w''):=κ27 fun o'=>HNx.out _ (HB1.out.alloc HB1.out.size o')
  have HBa:=κ27 (fun o'=>HB1.out.alloc HB1.out.size o')
  have HRa:=κ27 (fun o'=>box8_below HR1.out ((Below.refl w1.heap.size w1).alloc (Nat.le_refl _) o'))
  have hcv:=conv1 ch w1
  clear HNx
  go_wp2_with fail
  refine (HNx2.out _).mono ?_
  rintro e w5 ⟨rfl,hb5⟩
  have HB5:=κ27 ((HBa.out _).trans (hb5.mono (HBa.out _).size))
  have HR5:=κ27 (box8_below (HRa.out _) hb5)
  clear hb5 HNx2 hcv
  obtain ⟨⟨u0,y0⟩,x0⟩:=HR5.out 0 (by omega)
  obtain ⟨⟨u1,y1⟩,x1⟩:=HR5.out 1 (by omega)
  obtain ⟨⟨u2,y2⟩,x2⟩:=HR5.out 2 (by omega)
  obtain ⟨⟨u3,y3⟩,x3⟩:=HR5.out 3 (by omega)
  obtain ⟨⟨u4,y4⟩,x4⟩:=HR5.out 4 (by omega)
  obtain ⟨⟨u5,y5⟩,x5⟩:=HR5.out 5 (by omega)
  obtain ⟨⟨u6,y6⟩,x6⟩:=HR5.out 6 (by omega)
  obtain ⟨⟨u7,y7⟩,x7⟩:=HR5.out 7 (by omega)
  go_wp2_with fail
  obtain ⟨W8,hW8⟩:∃ W8,W8=((((((((w5.setCell ⟨w.heap.size,0,none⟩ (.int .i64 nx.t)).setCell ⟨w.heap.size,1,none⟩ (.int .i64 nx.b)).setCell ⟨w.heap.size,2,none⟩ (.int .i64 nx.n)).setCell ⟨w.heap.size,3,none⟩ (.int .u8 nx.k)).setCell ⟨w.heap.size,4,none⟩ (.int .i64 nx.nd)).setCell ⟨w.heap.size,5,none⟩ (.int .i64 nx.ot)).setCell ⟨w.heap.size,6,none⟩ (.string nx.nm)).setCell ⟨w.heap.size,7,none⟩ (.string nx.vl)):=⟨_,rfl⟩
  have h8:OpAt W8 w.heap.size nx∧Below w.heap.size w W8:=by
   rw [hW8]
   exact set8_at nx (fun j hj=>(HR5.out j hj).1) HB5.out (Nat.le_refl _)
  obtain ⟨⟨l0,l1,l2,l3,l4,l5,l6,l7⟩,hb8⟩:=h8
  rw [←hW8]
  refine bodyPost_ret (v:=.tuple #[opV nx,E]) (by simp [results,Tryz.results60,go_sem,l0,l1,l2,l3,l4,l5,l6,l7]) rfl ⟨?_,hb8⟩
  rw [HE.out]
 ·skip
  obtain ⟨k,hk1,hk2,hk3⟩:∃ k:Int,I64 k∧(at' = -9223372036854775808→k=9223372036854775807)∧(at'≠-9223372036854775808→k=at' - 1):=by
   by_cases hm:at' = -9223372036854775808
   ·exact ⟨9223372036854775807,by constructor <;> omega,fun _=>rfl,fun h=>absurd hm h⟩
   ·exact ⟨at' - 1,by have:=ha.1;have:=ha.2;constructor <;> omega,fun h=>absurd h hm,fun _=>rfl⟩
  obtain ⟨id,is,hLA,hLc⟩:=repLetter_ex col RB b K nd k w h hKl hi hk1 kb hp
  have HLc:=κ27 hLc
  have hkm:is=true→k=at' - 1:=fun his=>by
   by_cases hm:at' = -9223372036854775808
   ·exfalso
    have hk9:=hk2 hm
    rcases hLA with ⟨_,_,L,hL,x,hx,_⟩ | ⟨_,_,h9⟩
    ·have h1:=(List.getElem?_eq_some_iff.1 hx).1
     have h2:(seenL L).length≤L.length:=by unfold seenL;exact List.length_filter_le _ _
     have h3:L.length≤K.length:=by
      obtain ⟨y,s,hR,hO⟩:=h
      have hkn:Known K nd:=by
       refine hp.1 ?_
       rcases kb with _ | _
       ·exact absurd his (by rename_i hkb _ _;simp at *)
       ·rfl
      have:=hO.ll nd hkn
      rw [LineOf.unique hK.lines (fun _=>Iff.rfl) hL this.1]
      exact this.2
     omega
    ·rw [h9] at his;cases his
   ·exact hk3 hm
  have hkk:k=at' - 1∨at' < 0:=by
   by_cases hm:at' = -9223372036854775808
   ·exact .inr (by omega)
   ·exact .inl (hk3 hm)
  suffices hh:Calls Tryz.prog 60 #[ptrV RB,.int .i64 nd,.int .i64 at',.int .u8 ch.toNat] w (MkEnds ea (nextP b K is ⟨0,0,0,105,nd,id,⟨#[]⟩,⟨#[ch]⟩⟩) w) from hh.mono fun e w' h=>⟨id,is,.inr ⟨h0,k,hLA,hkm,hkk⟩,h⟩
  have HAt:Hid (is=true→0 < at'):=κ27 fun his=>by
   have:=hkm his
   rcases hLA with ⟨_,h9,_⟩ | ⟨_,_,h9⟩
   ·omega
   ·rw [h9] at his;cases his
  have hwk:IntKind.i64.wrap (at' - 1)=k:=by
   by_cases hm:at' = -9223372036854775808
   ·rw [hk2 hm,hm];decide +kernel
   ·rw [hk3 hm,IntKind.wrap_i64];have:=ha.1;have:=ha.2;omega
  have HNx:Hid (∀ w',Below w.heap.size w w'→Calls Tryz.prog 53 #[ptrV RB,.bool is,opV ⟨0,0,0,105,nd,id,⟨#[]⟩,⟨#[ch]⟩⟩] w' fun e w''=>e=.returned (.tuple #[opV (nextP b K is ⟨0,0,0,105,nd,id,⟨#[]⟩,⟨#[ch]⟩⟩).1,errW ea (nextP b K is ⟨0,0,0,105,nd,id,⟨#[]⟩,⟨#[ch]⟩⟩).2])∧Below w'.heap.size w' w''):=κ27 fun w' hb=>
   next_any ea col RB b K is _ w' (h.below hb) (hG.below hb) f2 f3 f4 f5 f6 f8 hK hKl hb0 hb4 (nextO_wf hK hb0 hb4 (by simp) (by simp) hi (hLA.rg hK) nil_le (show (1:Nat)≤100000 by omega))
  generalize nextP b K is ⟨0,0,0,105,nd,id,⟨#[]⟩,⟨#[ch]⟩⟩=r at HNx ⊢
  obtain ⟨nx,er⟩:=r
  obtain ⟨E,hE⟩:∃ E,errW ea er=E:=⟨_,rfl⟩
  simp only at HNx
  rw [hE] at HNx
  have HE:=κ27 hE
  unfold ptrV at *
  clear h hG hK hKl hi ha hp hE hLA hLc hk1 hk2 hk3 hkm
  cases is with
  | false=>
    have ha1:(at' == 0)=false:=by simpa using h0
    have hwr:IntKind.i64.wrap (at' - 1)=at' - 1∨True:=.inr trivial
    clear h0
    go_enter Tryz.func60,Tryz.ntmps60
    go_wp2_with fail
    refine (HKn.out _ ((Below.refl w.heap.size w).alloc (Nat.le_refl _) _)).mono ?_
    rintro e w1 ⟨rfl,hb1⟩
    have HB1:Hid (Below w.heap.size w w1):=κ27 (((Below.refl w.heap.size w).alloc (Nat.le_refl _) (.cells zOp.cells 31)).trans (hb1.mono (by simp)))
    have HR1:Hid (∀ j,j < 8→(∃ u,w1.cell? ⟨w.heap.size,j,none⟩=some u)∧w1.frozen? ⟨w.heap.size,j,none⟩=false):=κ27 (box8_at (o:=zOp) hb1)
    clear hb1
    clear HKn
    go_wp2_with fail
    refine (HLc.out _ HB1.out).mono ?_
    rintro e w2 ⟨rfl,hb2⟩
    have HB2:=κ27 (HB1.out.trans (hb2.mono HB1.out.size))
    have HR2:=κ27 (box8_below HR1.out hb2)
    clear hb2 HLc
    have HNx2:Hid (∀ o',Calls Tryz.prog 53 #[.pointer (some ⟨RB,0,none⟩),.bool false,opV ⟨0,0,0,105,nd,id,⟨#[]⟩,⟨#[ch]⟩⟩] (w2.alloc o') fun e w''=>e=.returned (.tuple #[opV nx,E])∧Below (w2.alloc o').heap.size (w2.alloc o') w''):=κ27 fun o'=>HNx.out _ (HB2.out.alloc HB2.out.size o')
    have HBa:=κ27 (fun o'=>HB2.out.alloc HB2.out.size o')
    have HRa:=κ27 (fun o'=>box8_below HR2.out ((Below.refl w2.heap.size w2).alloc (Nat.le_refl _) o'))
    have hcv:=conv1 ch w2
    clear HNx
    go_wp2_with fail
    refine (HNx2.out _).mono ?_
    rintro e w5 ⟨rfl,hb5⟩
    have HB5:=κ27 ((HBa.out _).trans (hb5.mono (HBa.out _).size))
    have HR5:=κ27 (box8_below (HRa.out _) hb5)
    clear hb5 HNx2 hcv
    obtain ⟨⟨u0,y0⟩,x0⟩:=HR5.out 0 (by omega)
    obtain ⟨⟨u1,y1⟩,x1⟩:=HR5.out 1 (by omega)
    obtain ⟨⟨u2,y2⟩,x2⟩:=HR5.out 2 (by omega)
    obtain ⟨⟨u3,y3⟩,x3⟩:=HR5.out 3 (by omega)
    obtain ⟨⟨u4,y4⟩,x4⟩:=HR5.out 4 (by omega)
    obtain ⟨⟨u5,y5⟩,x5⟩:=HR5.out 5 (by omega)
    obtain ⟨⟨u6,y6⟩,x6⟩:=HR5.out 6 (by omega)
    obtain ⟨⟨u7,y7⟩,x7⟩:=HR5.out 7 (by omega)
    go_wp2_with fail
    obtain ⟨W8,hW8⟩:∃ W8,W8=((((((((w5.setCell ⟨w.heap.size,0,none⟩ (.int .i64 nx.t)).setCell ⟨w.heap.size,1,none⟩ (.int .i64 nx.b)).setCell ⟨w.heap.size,2,none⟩ (.int .i64 nx.n)).setCell ⟨w.heap.size,3,none⟩ (.int .u8 nx.k)).setCell ⟨w.heap.size,4,none⟩ (.int .i64 nx.nd)).setCell ⟨w.heap.size,5,none⟩ (.int .i64 nx.ot)).setCell ⟨w.heap.size,6,none⟩ (.string nx.nm)).setCell ⟨w.heap.size,7,none⟩ (.string nx.vl)):=⟨_,rfl⟩
    have h8:OpAt W8 w.heap.size nx∧Below w.heap.size w W8:=by
     rw [hW8]
     exact set8_at nx (fun j hj=>(HR5.out j hj).1) HB5.out (Nat.le_refl _)
    obtain ⟨⟨l0,l1,l2,l3,l4,l5,l6,l7⟩,hb8⟩:=h8
    rw [←hW8]
    refine bodyPost_ret (v:=.tuple #[opV nx,E]) (by simp [results,Tryz.results60,go_sem,l0,l1,l2,l3,l4,l5,l6,l7]) rfl ⟨?_,hb8⟩
    rw [HE.out]
  | true=>
    have ha1:(at' == 0)=false:=by simpa using h0
    have ha0:(0:Int) < at':=HAt.out rfl
    have hwr:IntKind.i64.wrap (at' - 1)=at' - 1∨True:=.inr trivial
    clear h0
    go_enter Tryz.func60,Tryz.ntmps60
    go_wp2_with fail
    refine (HKn.out _ ((Below.refl w.heap.size w).alloc (Nat.le_refl _) _)).mono ?_
    rintro e w1 ⟨rfl,hb1⟩
    have HB1:Hid (Below w.heap.size w w1):=κ27 (((Below.refl w.heap.size w).alloc (Nat.le_refl _) (.cells zOp.cells 31)).trans (hb1.mono (by simp)))
    have HR1:Hid (∀ j,j < 8→(∃ u,w1.cell? ⟨w.heap.size,j,none⟩=some u)∧w1.frozen? ⟨w.heap.size,j,none⟩=false):=κ27 (box8_at (o:=zOp) hb1)
    clear hb1
    clear HKn
    go_wp2_with fail
    refine (HLc.out _ HB1.out).mono ?_
    rintro e w2 ⟨rfl,hb2⟩
    have HB2:=κ27 (HB1.out.trans (hb2.mono HB1.out.size))
    have HR2:=κ27 (box8_below HR1.out hb2)
    clear hb2 HLc
    have HNx2:Hid (∀ o',Calls Tryz.prog 53 #[.pointer (some ⟨RB,0,none⟩),.bool true,opV ⟨0,0,0,105,nd,id,⟨#[]⟩,⟨#[ch]⟩⟩] (w2.alloc o') fun e w''=>e=.returned (.tuple #[opV nx,E])∧Below (w2.alloc o').heap.size (w2.alloc o') w''):=κ27 fun o'=>HNx.out _ (HB2.out.alloc HB2.out.size o')
    have HBa:=κ27 (fun o'=>HB2.out.alloc HB2.out.size o')
    have HRa:=κ27 (fun o'=>box8_below HR2.out ((Below.refl w2.heap.size w2).alloc (Nat.le_refl _) o'))
    have hcv:=conv1 ch w2
    clear HNx
    go_wp2_with fail
    refine (HNx2.out _).mono ?_
    rintro e w5 ⟨rfl,hb5⟩
    have HB5:=κ27 ((HBa.out _).trans (hb5.mono (HBa.out _).size))
    have HR5:=κ27 (box8_below (HRa.out _) hb5)
    clear hb5 HNx2 hcv
    obtain ⟨⟨u0,y0⟩,x0⟩:=HR5.out 0 (by omega)
    obtain ⟨⟨u1,y1⟩,x1⟩:=HR5.out 1 (by omega)
    obtain ⟨⟨u2,y2⟩,x2⟩:=HR5.out 2 (by omega)
    obtain ⟨⟨u3,y3⟩,x3⟩:=HR5.out 3 (by omega)
    obtain ⟨⟨u4,y4⟩,x4⟩:=HR5.out 4 (by omega)
    obtain ⟨⟨u5,y5⟩,x5⟩:=HR5.out 5 (by omega)
    obtain ⟨⟨u6,y6⟩,x6⟩:=HR5.out 6 (by omega)
    obtain ⟨⟨u7,y7⟩,x7⟩:=HR5.out 7 (by omega)
    go_wp2_with fail
    obtain ⟨W8,hW8⟩:∃ W8,W8=((((((((w5.setCell ⟨w.heap.size,0,none⟩ (.int .i64 nx.t)).setCell ⟨w.heap.size,1,none⟩ (.int .i64 nx.b)).setCell ⟨w.heap.size,2,none⟩ (.int .i64 nx.n)).setCell ⟨w.heap.size,3,none⟩ (.int .u8 nx.k)).setCell ⟨w.heap.size,4,none⟩ (.int .i64 nx.nd)).setCell ⟨w.heap.size,5,none⟩ (.int .i64 nx.ot)).setCell ⟨w.heap.size,6,none⟩ (.string nx.nm)).setCell ⟨w.heap.size,7,none⟩ (.string nx.vl)):=⟨_,rfl⟩
    have h8:OpAt W8 w.heap.size nx∧Below w.heap.size w W8:=by
     rw [hW8]
     exact set8_at nx (fun j hj=>(HR5.out j hj).1) HB5.out (Nat.le_refl _)
    obtain ⟨⟨l0,l1,l2,l3,l4,l5,l6,l7⟩,hb8⟩:=h8
    rw [←hW8]
    refine bodyPost_ret (v:=.tuple #[opV nx,E]) (by simp [results,Tryz.results60,go_sem,l0,l1,l2,l3,l4,l5,l6,l7]) rfl ⟨?_,hb8⟩
    rw [HE.out]
end Go.Proofs.YtjekalilfhnpmaaGreatDoor
