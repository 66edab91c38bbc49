/- The program's line: a new one, a letter inserted. A letter inserted into a line. A line's text, its ids; a letter deleted. A letter deleted; a letter by its number. The document's line: what is seen, its text, a letter deleted. The program's letter by its number. -/
import Derived.Laws.OwnMore
import Derived.StillTailTactics
import Derived.Test.YtjekalilfhnpmaaGreatDoorQ02
import Derived.Test.YtjekalilfhnpmaaGreatDoorQ04
import Derived.Test.YtjekalilfhnpmaaGreatDoorQ06
import Derived.Test.YtjekalilfhnpmaaGreatDoorQ21
theorem Go.Proofs.YtjekalilfhnpmaaGreatDoor.κ22 {p:Prop} (h:p):Go.RowKit.Hid p:=Go.Lib.hid h
namespace Go.Proofs.YtjekalilfhnpmaaGreatDoor
open Go Go.RowKit Go.Shelf
set_option linter.unusedVariables false
set_option linter.unusedSimpArgs false
set_option maxHeartbeats 4000000
set_option maxRecDepth 100000
structure LineSt (base LB:Nat) (v:Value) (L:List Lt) (w:World):Prop where
 ptr:w.cell? ⟨LB,0,none⟩=some v
 fz:∀ o,w.frozen? ⟨LB,o,none⟩=false
 own:w.ownsRow base 217 3 v L.length (lts L)
 ne:v.ownBlock≠some LB
 ge:base≤LB
theorem LineSt.lt {base LB:Nat} {v:Value} {L:List Lt} {w:World} (h:LineSt base LB v L w):LB < w.heap.size:=World.block_lt_of_cell? w _ h.ptr
theorem LineSt.below {base LB:Nat} {v:Value} {L:List Lt} {w w':World} (h:LineSt base LB v L w) (hb:Below w.heap.size w w'):LineSt base LB v L w':=
 ⟨(hb.cell h.lt).trans h.ptr,fun o=>(hb.frozen h.lt).trans (h.fz o),h.own.kept (row:=none) ⟨hb.os,hb.tape,hb.output,hb.size,fun k hk _=>hb.block k hk⟩ (by cases hv:v.ownBlock <;> simp),h.ne,h.ge⟩
theorem LineSt.sl {base LB:Nat} {v:Value} {L:List Lt} {w:World} (h:LineSt base LB v L w):LtSl w v L:=by
 have hown:=h.own
 rcases h.own.2 with ⟨hv,h0⟩ | ⟨g,cap,cur,hv,hg,hh,hcap,hm,hsz,hcs⟩
 ·exact .inl ⟨hv,List.eq_nil_of_length_eq_zero h0⟩
 ·refine .inr ⟨g,cap,hv,hcap,(Array.getElem?_eq_some_iff.1 hh).1,fun j x hx=>?_⟩
  obtain ⟨a0,a1,a2⟩:=lts_at L j x hx
  have c:=hown.cells (g:=g) (by rw [hv];rfl)
  have c0:=c _ _ a0
  have c1:=c _ _ a1
  have c2:=c _ _ a2
  rw [Addr.add_lit] at c0 c1 c2
  simp only [Nat.zero_add] at c0 c1 c2
  exact ⟨c0,c1,c2⟩
theorem LineSt.at' {base LB:Nat} {v:Value} {L:List Lt} {w:World} (h:LineSt base LB v L w):LineAt w LB L:=⟨⟨v,h.ptr,h.sl⟩⟩
theorem Fr.line {X:Nat→Prop} {base LB:Nat} {v:Value} {L:List Lt} {w w':World} (h:Fr X w w') (hl:LineSt base LB v L w) (h1:¬ X LB) (h2:∀ k,v.ownBlock=some k→¬ X k):LineSt base LB v L w':=by
 refine ⟨(h.cell hl.lt h1).trans hl.ptr,fun o=>(h.frozen (p:=⟨LB,o,none⟩) hl.lt h1).trans (hl.fz o),?_,hl.ne,hl.ge⟩
 refine ⟨hl.own.1,?_⟩
 rcases hl.own.2 with hn | ⟨g,cap,cur,rfl,hb,hgg,rest⟩
 ·exact .inl hn
 ·refine .inr ⟨g,cap,cur,rfl,hb,?_,rest⟩
  rw [h.block g (Array.getElem?_eq_some_iff.1 hgg).1 (h2 g rfl)]
  exact hgg
theorem line_new (w:World) :
  Calls Tryz.prog 112 #[] w fun e w'=>e=.returned (.pointer (some ⟨w.heap.size,0,none⟩))∧w'=w.alloc (.cells #[.slice none 0 0] 215):=by
 go_enter Tryz.func112,Tryz.ntmps112
 go_wp2_with fail
 go_ret
 exact ⟨rfl,rfl⟩
theorem LineSt.new (base:Nat) (w:World) (h:base≤w.heap.size):LineSt base w.heap.size (.slice none 0 0) [] (w.alloc (.cells #[.slice none 0 0] 215)):=
 ⟨by simp [go_sem],fun o=>by simp [go_sem],World.ownsRow_nil _ _ _ _,by simp [Value.ownBlock],h⟩
theorem ins_bad {F:Nat→Bool} (ea:Nat→Addr) (base LB:Nat) (v:Value) (id behind:Int) (c:UInt8) (L:List Lt) (w:World) (hG:Gd F ea w) (f3:F 3=true)
  (hb:id < 4∨4294967300≤id∨behind < 0∨id≤behind) :
  Calls Tryz.prog 113 #[.pointer (some ⟨LB,0,none⟩),.int .i64 id,.int .i64 behind,.int .u8 c.toNat] w fun e w'=>e=.returned (errV (ea 3))∧Below w.heap.size w w':=by
 have gv:=(hG.errs 3 (by omega) (by omega) f3).var
 simp only [errG] at gv
 clear hG
 rcases (show id < 4∨(¬ id < 4∧4294967300≤id)∨(¬ id < 4∧¬ 4294967300≤id∧behind < 0)∨(¬ id < 4∧¬ 4294967300≤id∧¬ behind < 0∧id≤behind) by omega) with h1 | ⟨h1,h2⟩ | ⟨h1,h2,h3⟩ | ⟨h1,h2,h3,h4⟩
 all_goals
  clear hb
  go_enter Tryz.func113,Tryz.ntmps113
  go_wp2_with fail
  go_ret
  exact ⟨rfl,Below.refl _ _⟩
theorem ins_exist {F:Nat→Bool} (ea:Nat→Addr) (base LB:Nat) (v:Value) (id behind:Int) (c:UInt8) (L:List Lt) (w:World) (hG:Gd F ea w) (f7:F 7=true) (hn:L.length≤1000)
  (hst:LineSt base LB v L w) (h1:¬ id < 4) (h2:¬ 4294967300≤id) (h3:¬ behind < 0) (h4:¬ id≤behind) (hx:0≤ixOf id L) :
  Calls Tryz.prog 113 #[.pointer (some ⟨LB,0,none⟩),.int .i64 id,.int .i64 behind,.int .u8 c.toNat] w fun e w'=>e=.returned (errV (ea 7))∧Below w.heap.size w w':=by
 have HF:=κ22 (find_any id LB L w hn hst.at')
 have HG:=κ22 hG
 clear hG hst hn
 generalize ixOf id L=k at HF hx
 go_enter Tryz.func113,Tryz.ntmps113
 go_wp2_with fail
 refine HF.out.mono ?_
 rintro e w1 ⟨rfl,hb⟩
 have gv:=((HG.out.below hb).errs 7 (by omega) (by omega) f7).var
 simp only [errG] at gv
 have HB:=κ22 hb
 clear hb
 go_wp2_with fail
 go_ret
 exact ⟨rfl,HB.out⟩
theorem ins_none {F:Nat→Bool} (ea:Nat→Addr) (base LB:Nat) (v:Value) (id behind:Int) (c:UInt8) (L:List Lt) (w:World) (hG:Gd F ea w) (f6:F 6=true) (hn:L.length≤1000)
  (hst:LineSt base LB v L w) (h1:¬ id < 4) (h2:¬ 4294967300≤id) (h3:0 < behind) (h4:¬ id≤behind) (hx:ixOf id L < 0) (hy:ixOf behind L < 0) :
  Calls Tryz.prog 113 #[.pointer (some ⟨LB,0,none⟩),.int .i64 id,.int .i64 behind,.int .u8 c.toNat] w fun e w'=>e=.returned (errV (ea 6))∧Below w.heap.size w w':=by
 have HF:=κ22 (find_any id LB L w hn hst.at')
 have hm:=(ixOf_lt behind L).2
 have hy2:ixOf behind L = -1:=by omega
 have HF2:Hid (∀ w,LineSt base LB v L w→Calls Tryz.prog 160 #[.pointer (some ⟨LB,0,none⟩),.int .i64 behind] w fun e w'=>e=.returned (.int .i64 (-1))∧Below w.heap.size w w'):=κ22 fun w hst=>by rw [←hy2];exact find_any behind LB L w hn hst.at'
 have HG:=κ22 hG
 have HS:=κ22 hst
 have h3':¬ behind < 0:=by omega
 clear hG hst hn hy hy2 hm
 generalize ixOf id L=k at HF hx
 have hx':¬ 0≤k:=by omega
 go_enter Tryz.func113,Tryz.ntmps113
 go_wp2_with fail
 refine HF.out.mono ?_
 rintro e w1 ⟨rfl,hb⟩
 have HS1:=κ22 (HS.out.below hb)
 have HG1:=κ22 (HG.out.below hb)
 have HB:=κ22 hb
 clear hb
 go_wp2_with fail
 refine (HF2.out _ HS1.out).mono ?_
 rintro e w2 ⟨rfl,hb⟩
 have gv:=((HG1.out.below hb).errs 6 (by omega) (by omega) f6).var
 simp only [errG] at gv
 have HB2:=κ22 (HB.out.trans (hb.mono HB.out.size))
 clear hb
 go_wp2_with fail
 go_ret
 exact ⟨rfl,HB2.out⟩
theorem LineSt.append {base LB:Nat} {v v':Value} {L L':List Lt} {w w1 w2:World} (hst:LineSt base LB v L w) (hb:base≤w.heap.size) (hown:w2.ownsRow base 217 3 v' L'.length (lts L')) (hg:w1.grownBy w2 v.ownBlock) (hb1:Below w.heap.size w w1) (hnew:∀ k,v'.ownBlock=some k→v.ownBlock=some k∨w1.heap.size≤k) :
  LineSt base LB v' L' (w2.setCell ⟨LB,0,none⟩ v')∧Fr (Own LB v) w (w2.setCell ⟨LB,0,none⟩ v'):=by
 have h1:=hst.below hb1
 have hlt1:=h1.lt
 have hlt2:LB < w2.heap.size:=Nat.lt_of_lt_of_le hlt1 hg.size
 have hc:w2.cell? ⟨LB,0,none⟩=some v:=hg.cell h1.ptr (fun e=>h1.ne e.symm)
 have hne:v'.ownBlock≠some LB:=fun e=>by
  rcases hnew LB e with h | h
  ·exact h1.ne h
  ·omega
 refine ⟨⟨World.cell?_setCell_same _ _ _ hc,fun o=>?_,?_,hne,hst.ge⟩,?_⟩
 ·have:w2.frozen? ⟨LB,o,none⟩=w1.frozen? ⟨LB,o,none⟩:=World.frozen?_of_block (hg.block LB hlt1 (fun e=>h1.ne e.symm))
  simpa [this] using h1.fz o
 ·refine hown.kept (row:=some LB) ⟨rfl,rfl,rfl,by simp,fun k hk hk2=>?_⟩ (.inr hne)
  exact heap_setCell_other w2 ⟨LB,0,none⟩ k v' (fun e=>hk2 (by rw [e]))
 ·refine ⟨hg.os.trans hb1.os,hg.tape.trans hb1.tape,hg.output.trans hb1.output,by have:=hb1.size;have:=hg.size;simp;omega,fun k hk hx=>?_⟩
  have k1:k≠LB:=fun e=>hx (.inl e)
  have k2:some k≠v.ownBlock:=fun e=>hx (.inr e.symm)
  have:(w2.setCell ⟨LB,0,none⟩ v').heap[k]?=w2.heap[k]?:=heap_setCell_other w2 ⟨LB,0,none⟩ k v' k1
  rw [this,hg.block k (Nat.lt_of_lt_of_le hk hb1.size) k2]
  exact hb1.block k hk
theorem ins_nil (base LB:Nat) (id:Int) (c:UInt8) (w:World) (hst:LineSt base LB (.slice none 0 0) [] w) (hb:base≤w.heap.size) (h1:¬ id < 4) (h2:¬ 4294967300≤id) :
  Calls Tryz.prog 113 #[.pointer (some ⟨LB,0,none⟩),.int .i64 id,.int .i64 0,.int .u8 c.toNat] w fun e w'=>e=.returned .nilIface∧∃ v',LineSt base LB v' [⟨id,c,false⟩] w'∧Fr (Own LB (.slice none 0 0)) w w'∧∀ k,v'.ownBlock=some k→w.heap.size≤k:=by
 have HF:=κ22 (find_any id LB [] w (by simp) hst.at')
 have HS:=κ22 hst
 have h4:¬ id≤0:=by omega
 clear hst
 go_enter Tryz.func113,Tryz.ntmps113
 go_wp2_with fail
 refine HF.out.mono ?_
 rintro e w1 ⟨he,hb1⟩
 rw [show ixOf id [] = -1 from rfl] at he
 subst he
 have hS1:=HS.out.below hb1
 have HS1:=κ22 hS1
 have q:=hS1.ptr
 have HB:=κ22 hb1
 have hlt:=hS1.lt
 clear hS1 hb1
 go_wp2_with fail
 go_loop [9] (fun v9=>v9=.int .i64 0) (fun _=>0)
 case atStart=>rfl
 case round=>
  obtain rfl:=hrel
  have HI:=κ22 (insert_any base (.slice none 0 0) 0 w1.heap.size [] ⟨id,c,false⟩ (w1.alloc (.cells #[.int .i64 id,.int .u8 c.toNat,.bool false] 217)) (by simp) (by simp) (World.ownsRow_nil _ _ _ _) (by have:=HB.out.size;simp;omega) (heap_alloc_new w1 _) (by simp [Value.ownBlock]))
  go_wp2_with fail
  refine HI.out.mono ?_
  rintro e w2 ⟨v',rfl,hown,hgr,hnew⟩
  obtain ⟨g2,cap2,rfl⟩:∃ g2 cap2,v'=.slice (some ⟨g2,0,none⟩) 1 cap2:=by
   rcases hown.2 with ⟨_,h0⟩ | ⟨g2,cap2,_,hv,_⟩
   ·simp at h0
   ·exact ⟨g2,cap2,hv⟩
  have hap:=HS.out.append (L':=[⟨id,c,false⟩]) hb hown hgr (HB.out.trans (((Below.refl _ w1).alloc (Nat.le_refl _) _).mono HB.out.size)) (fun k hk=>(hnew k hk).imp (fun h=>h) (fun h=>h))
  have hcell:w2.cell? ⟨LB,0,none⟩=some (.slice none 0 0):=hgr.cell (a:=⟨LB,0,none⟩) ((World.cell?_of_block (heap_alloc_old w1 _ hlt)).trans q) (by simp [Value.ownBlock])
  have hfz:w2.frozen? ⟨LB,0,none⟩=false:=(World.frozen?_of_block (hgr.block LB (by simp;omega) (by simp [Value.ownBlock]))).trans ((World.frozen?_of_block (a:=⟨LB,0,none⟩) (heap_alloc_old w1 _ hlt)).trans (HS1.out.fz 0))
  have HA:=κ22 hap
  have HNw:=κ22 hnew
  clear hap hown hgr hnew HI
  go_wp2_with fail
  go_ret
  exact ⟨rfl,_,HA.out.1,HA.out.2,fun k hk=>by
   rcases HNw.out k hk with h | h
   ·simp [Value.ownBlock] at h
   ·have:=HB.out.size
    simp at h
    omega⟩
theorem insL_is {id behind:Int} {c:UInt8} {L:List Lt} {a:Nat} (h:insFrom behind L=a):insL id behind c L=L.take (insAt L a id)++⟨id,c,false⟩ :: L.drop (insAt L a id):=by
 unfold insL
 rw [h]
def InsOk (base LB:Nat) (v:Value) (L':List Lt) (w:World) (e:Ending) (w':World):Prop:=
 e=.returned .nilIface∧∃ v',LineSt base LB v' L' w'∧Fr (Own LB v) w w'∧∀ k,v'.ownBlock=some k→v.ownBlock=some k∨w.heap.size≤k
theorem ins_row0 (base LB g n cap:Nat) (id:Int) (c:UInt8) (L:List Lt) (w:World) (hst:LineSt base LB (.slice (some ⟨g,0,none⟩) n cap) L w) (hn:L.length=n) (hn2:n≤1000) (hb:base≤w.heap.size) (h1:¬ id < 4) (h2:¬ 4294967300≤id) (hx:ixOf id L < 0) :
  Calls Tryz.prog 113 #[.pointer (some ⟨LB,0,none⟩),.int .i64 id,.int .i64 0,.int .u8 c.toNat] w (InsOk base LB (.slice (some ⟨g,0,none⟩) n cap) (insL id 0 c L) w):=by
 have hix:ixOf id L = -1:=by have:=(ixOf_lt id L).2;omega
 have HF:Hid (Calls Tryz.prog 160 #[.pointer (some ⟨LB,0,none⟩),.int .i64 id] w fun e w'=>e=.returned (.int .i64 (-1))∧Below w.heap.size w w'):=κ22 (by rw [←hix];exact find_any id LB L w (by omega) hst.at')
 have HS:=κ22 hst
 have HN:=κ22 hn
 have h4:¬ id≤0:=by omega
 have HA0:Hid (insFrom 0 L=0):=rfl
 clear hst hn hx hix
 go_enter Tryz.func113,Tryz.ntmps113
 go_wp2_with fail
 refine HF.out.mono ?_
 rintro e w1 ⟨rfl,hb1⟩
 have hSX:=HS.out.below hb1
 have HSX:=κ22 hSX
 have q:=hSX.ptr
 have HB:=κ22 hb1
 have hlt:=hSX.lt
 have hlts:LtsAt w1 g L:=by
  rcases hSX.sl with ⟨h,_⟩ | ⟨g',cap',h,_,_,hl⟩
  ·cases h
  ·cases h;exact hl
 have HLt:=κ22 hlts
 clear hSX hb1 hlts
 go_wp2_with fail
 go_loop [9] (fun v9=>∃ k:Nat,v9=.int .i64 k∧0≤k∧k≤n∧∀ j x,0≤j→j < k→L[j]?=some x→id < x.id) (fun v9=>n - (intOf v9).toNat)
 case atStart=>exact ⟨0,by first | rfl | go_num,Nat.le_refl _,by first | omega | exact HA0le.out,fun j x h1 h2=>by omega⟩
 case round=>
  obtain ⟨k,rfl,hk1,hk2,hall⟩:=hrel
  have HAll:=κ22 hall
  clear hall
  by_cases hlt3:k < n
  ·obtain ⟨x,hx0⟩:∃ x,L[k]?=some x:=⟨_,List.getElem?_eq_getElem (by have:=HN.out;omega)⟩
   obtain ⟨q0,q1,q2⟩:=HLt.out k x hx0
   have HXK:=κ22 hx0
   have i0:(0:Int)≤(k:Int):=by omega
   have i1:(k:Int) < (n:Int):=by omega
   clear hx0
   by_cases hgt:id < x.id
   ·have HGT:=κ22 hgt
    go_wp2_with fail
    go_round
    case rel=>exact ⟨k+1,by go_num,by omega,by omega,fun j y h1 h2 h3=>by
     by_cases e:j=k
     ·subst e;rw [HXK.out] at h3;cases h3;exact HGT.out
     ·exact HAll.out j y h1 (by omega) h3⟩
    case measure=>simp [intOf];omega
   ·have HGT:=κ22 hgt
    have HAt:=κ22 (insAt_is (id:=id) hk1 (by have:=HN.out;omega) HAll.out (fun y hy=>by rw [HXK.out] at hy;cases hy;exact HGT.out))
    have hat:insAt L 0 id=k:=HAt.out
    have HI:=κ22 (insert_any base (.slice (some ⟨g,0,none⟩) n cap) k w1.heap.size L ⟨id,c,false⟩ (w1.alloc (.cells #[.int .i64 id,.int .u8 c.toNat,.bool false] 217)) (by have:=HN.out;omega) (by have:=HN.out;omega) (HSX.out.own.alloc _) (by have:=HB.out.size;simp;omega) (heap_alloc_new w1 _) (by have:=(HSX.out.own.lt g rfl).2;simp [Value.ownBlock];omega))
    have HAT:=κ22 hat
    clear hat HAt
    go_wp2_with fail
    refine HI.out.mono ?_
    rintro e w3 ⟨v',rfl,hown,hgr,hnew⟩
    obtain ⟨g2,cap2,m2,rfl⟩:∃ g2 cap2 m2,v'=.slice (some ⟨g2,0,none⟩) m2 cap2:=by
     rcases hown.2 with ⟨_,h0⟩ | ⟨g2,cap2,_,hv,_⟩
     ·simp at h0
     ·exact ⟨g2,cap2,_,hv⟩
    have hap:=HS.out.append hb hown hgr (HB.out.trans (((Below.refl _ w1).alloc (Nat.le_refl _) _).mono HB.out.size)) (fun k hk=>(hnew k hk).imp (fun h=>h) (fun h=>h))
    have hcell:w3.cell? ⟨LB,0,none⟩=some (.slice (some ⟨g,0,none⟩) n cap):=hgr.cell (a:=⟨LB,0,none⟩) ((World.cell?_of_block (heap_alloc_old w1 _ hlt)).trans HSX.out.ptr) (fun e=>HSX.out.ne e.symm)
    have hfz:w3.frozen? ⟨LB,0,none⟩=false:=(World.frozen?_of_block (hgr.block LB (by simp;omega) (fun e=>HSX.out.ne e.symm))).trans ((World.frozen?_of_block (a:=⟨LB,0,none⟩) (heap_alloc_old w1 _ hlt)).trans (HSX.out.fz 0))
    have HA:=κ22 hap
    have HNw:=κ22 hnew
    clear hap hown hgr hnew HI
    go_wp2_with fail
    go_ret
    exact ⟨rfl,_,by
     have:=HA.out.1
     rw [←HAT.out] at this
     rw [insL_is HA0.out]
     exact this,HA.out.2,fun k hk=>by
     rcases HNw.out k hk with h | h
     ·exact .inl h
     ·have:=HB.out.size
      simp at h
      exact .inr (by omega)⟩
  ·have hkn:n≤k:=by omega
   have hge:¬ (k:Int) < (n:Int):=by omega
   have HAt:=κ22 (insAt_is (id:=id) hk1 (by have:=HN.out;omega) HAll.out (fun y hy=>by
    have:=(List.getElem?_eq_some_iff.1 hy).1
    have:=HN.out
    omega))
   clear hlt3
   have hat:insAt L 0 id=k:=HAt.out
   have HI:=κ22 (insert_any base (.slice (some ⟨g,0,none⟩) n cap) k w1.heap.size L ⟨id,c,false⟩ (w1.alloc (.cells #[.int .i64 id,.int .u8 c.toNat,.bool false] 217)) (by have:=HN.out;omega) (by have:=HN.out;omega) (HSX.out.own.alloc _) (by have:=HB.out.size;simp;omega) (heap_alloc_new w1 _) (by have:=(HSX.out.own.lt g rfl).2;simp [Value.ownBlock];omega))
   have HAT:=κ22 hat
   clear hat HAt
   go_wp2_with fail
   refine HI.out.mono ?_
   rintro e w3 ⟨v',rfl,hown,hgr,hnew⟩
   obtain ⟨g2,cap2,m2,rfl⟩:∃ g2 cap2 m2,v'=.slice (some ⟨g2,0,none⟩) m2 cap2:=by
    rcases hown.2 with ⟨_,h0⟩ | ⟨g2,cap2,_,hv,_⟩
    ·simp at h0
    ·exact ⟨g2,cap2,_,hv⟩
   have hap:=HS.out.append hb hown hgr (HB.out.trans (((Below.refl _ w1).alloc (Nat.le_refl _) _).mono HB.out.size)) (fun k hk=>(hnew k hk).imp (fun h=>h) (fun h=>h))
   have hcell:w3.cell? ⟨LB,0,none⟩=some (.slice (some ⟨g,0,none⟩) n cap):=hgr.cell (a:=⟨LB,0,none⟩) ((World.cell?_of_block (heap_alloc_old w1 _ hlt)).trans HSX.out.ptr) (fun e=>HSX.out.ne e.symm)
   have hfz:w3.frozen? ⟨LB,0,none⟩=false:=(World.frozen?_of_block (hgr.block LB (by simp;omega) (fun e=>HSX.out.ne e.symm))).trans ((World.frozen?_of_block (a:=⟨LB,0,none⟩) (heap_alloc_old w1 _ hlt)).trans (HSX.out.fz 0))
   have HA:=κ22 hap
   have HNw:=κ22 hnew
   clear hap hown hgr hnew HI
   go_wp2_with fail
   go_ret
   exact ⟨rfl,_,by
    have:=HA.out.1
    rw [←HAT.out] at this
    rw [insL_is HA0.out]
    exact this,HA.out.2,fun k hk=>by
    rcases HNw.out k hk with h | h
    ·exact .inl h
    ·have:=HB.out.size
     simp at h
     exact .inr (by omega)⟩
theorem ins_row1 (base LB g n cap:Nat) (id behind:Int) (c:UInt8) (L:List Lt) (w:World) (hst:LineSt base LB (.slice (some ⟨g,0,none⟩) n cap) L w) (hn:L.length=n) (hn2:n≤1000) (hb:base≤w.heap.size) (h1:¬ id < 4) (h2:¬ 4294967300≤id) (h3:0 < behind) (h4:¬ id≤behind) (hx:ixOf id L < 0) (hy:0≤ixOf behind L) :
  Calls Tryz.prog 113 #[.pointer (some ⟨LB,0,none⟩),.int .i64 id,.int .i64 behind,.int .u8 c.toNat] w (InsOk base LB (.slice (some ⟨g,0,none⟩) n cap) (insL id behind c L) w):=by
 have hix:ixOf id L = -1:=by have:=(ixOf_lt id L).2;omega
 have HF:Hid (Calls Tryz.prog 160 #[.pointer (some ⟨LB,0,none⟩),.int .i64 id] w fun e w'=>e=.returned (.int .i64 (-1))∧Below w.heap.size w w'):=κ22 (by rw [←hix];exact find_any id LB L w (by omega) hst.at')
 obtain ⟨a,ha⟩:∃ a:Nat,ixOf behind L=(a:Int):=⟨(ixOf behind L).toNat,by omega⟩
 have han:a < n:=by have:=(ixOf_lt behind L).1;omega
 have HF2:Hid (∀ w,LineSt base LB (.slice (some ⟨g,0,none⟩) n cap) L w→Calls Tryz.prog 160 #[.pointer (some ⟨LB,0,none⟩),.int .i64 behind] w fun e w'=>e=.returned (.int .i64 (a:Int))∧Below w.heap.size w w'):=κ22 fun w hst=>by rw [←ha];exact find_any behind LB L w (by omega) hst.at'
 have HS:=κ22 hst
 have HN:=κ22 hn
 have HA0:Hid (insFrom behind L=a+1):=κ22 (by unfold insFrom;rw [if_pos h3,ha];omega)
 have h3':¬ behind < 0:=by omega
 have hz:(((a:Int)+1) == 0)=false:=by rw [beq_eq_false_iff_ne];omega
 clear hst hn hx hix hy ha
 go_enter Tryz.func113,Tryz.ntmps113
 go_wp2_with fail
 refine HF.out.mono ?_
 rintro e w1 ⟨rfl,hb1⟩
 have HS1:=κ22 (HS.out.below hb1)
 have HB1:=κ22 hb1
 clear hb1
 go_wp2_with fail
 refine (HF2.out _ HS1.out).mono ?_
 rintro e w2 ⟨rfl,hb2⟩
 have hSX:=HS1.out.below hb2
 have HSX:=κ22 hSX
 have q:=hSX.ptr
 have HB:=κ22 (HB1.out.trans (hb2.mono HB1.out.size))
 have hlt:=hSX.lt
 have hlts:LtsAt w2 g L:=by
  rcases hSX.sl with ⟨h,_⟩ | ⟨g',cap',h,_,_,hl⟩
  ·cases h
  ·cases h;exact hl
 have HLt:=κ22 hlts
 clear hSX hb2 hlts HS1 HB1
 go_wp2_with fail
 go_loop [9] (fun v9=>∃ k:Nat,v9=.int .i64 k∧(a+1)≤k∧k≤n∧∀ j x,(a+1)≤j→j < k→L[j]?=some x→id < x.id) (fun v9=>n - (intOf v9).toNat)
 case atStart=>exact ⟨(a+1),by first | rfl | go_num,Nat.le_refl _,by first | omega | exact HA0le.out,fun j x h1 h2=>by omega⟩
 case round=>
  obtain ⟨k,rfl,hk1,hk2,hall⟩:=hrel
  have HAll:=κ22 hall
  clear hall
  by_cases hlt3:k < n
  ·obtain ⟨x,hx0⟩:∃ x,L[k]?=some x:=⟨_,List.getElem?_eq_getElem (by have:=HN.out;omega)⟩
   obtain ⟨q0,q1,q2⟩:=HLt.out k x hx0
   have HXK:=κ22 hx0
   have i0:(0:Int)≤(k:Int):=by omega
   have i1:(k:Int) < (n:Int):=by omega
   clear hx0
   by_cases hgt:id < x.id
   ·have HGT:=κ22 hgt
    go_wp2_with fail
    go_round
    case rel=>exact ⟨k+1,by go_num,by omega,by omega,fun j y h1 h2 h3=>by
     by_cases e:j=k
     ·subst e;rw [HXK.out] at h3;cases h3;exact HGT.out
     ·exact HAll.out j y h1 (by omega) h3⟩
    case measure=>simp [intOf];omega
   ·have HGT:=κ22 hgt
    have HAt:=κ22 (insAt_is (id:=id) hk1 (by have:=HN.out;omega) HAll.out (fun y hy=>by rw [HXK.out] at hy;cases hy;exact HGT.out))
    have hat:insAt L (a+1) id=k:=HAt.out
    have HI:=κ22 (insert_any base (.slice (some ⟨g,0,none⟩) n cap) k w2.heap.size L ⟨id,c,false⟩ (w2.alloc (.cells #[.int .i64 id,.int .u8 c.toNat,.bool false] 217)) (by have:=HN.out;omega) (by have:=HN.out;omega) (HSX.out.own.alloc _) (by have:=HB.out.size;simp;omega) (heap_alloc_new w2 _) (by have:=(HSX.out.own.lt g rfl).2;simp [Value.ownBlock];omega))
    have HAT:=κ22 hat
    clear hat HAt
    go_wp2_with fail
    refine HI.out.mono ?_
    rintro e w3 ⟨v',rfl,hown,hgr,hnew⟩
    obtain ⟨g2,cap2,m2,rfl⟩:∃ g2 cap2 m2,v'=.slice (some ⟨g2,0,none⟩) m2 cap2:=by
     rcases hown.2 with ⟨_,h0⟩ | ⟨g2,cap2,_,hv,_⟩
     ·simp at h0
     ·exact ⟨g2,cap2,_,hv⟩
    have hap:=HS.out.append hb hown hgr (HB.out.trans (((Below.refl _ w2).alloc (Nat.le_refl _) _).mono HB.out.size)) (fun k hk=>(hnew k hk).imp (fun h=>h) (fun h=>h))
    have hcell:w3.cell? ⟨LB,0,none⟩=some (.slice (some ⟨g,0,none⟩) n cap):=hgr.cell (a:=⟨LB,0,none⟩) ((World.cell?_of_block (heap_alloc_old w2 _ hlt)).trans HSX.out.ptr) (fun e=>HSX.out.ne e.symm)
    have hfz:w3.frozen? ⟨LB,0,none⟩=false:=(World.frozen?_of_block (hgr.block LB (by simp;omega) (fun e=>HSX.out.ne e.symm))).trans ((World.frozen?_of_block (a:=⟨LB,0,none⟩) (heap_alloc_old w2 _ hlt)).trans (HSX.out.fz 0))
    have HA:=κ22 hap
    have HNw:=κ22 hnew
    clear hap hown hgr hnew HI
    go_wp2_with fail
    go_ret
    exact ⟨rfl,_,by
     have:=HA.out.1
     rw [←HAT.out] at this
     rw [insL_is HA0.out]
     exact this,HA.out.2,fun k hk=>by
     rcases HNw.out k hk with h | h
     ·exact .inl h
     ·have:=HB.out.size
      simp at h
      exact .inr (by omega)⟩
  ·have hkn:n≤k:=by omega
   have hge:¬ (k:Int) < (n:Int):=by omega
   have HAt:=κ22 (insAt_is (id:=id) hk1 (by have:=HN.out;omega) HAll.out (fun y hy=>by
    have:=(List.getElem?_eq_some_iff.1 hy).1
    have:=HN.out
    omega))
   clear hlt3
   have hat:insAt L (a+1) id=k:=HAt.out
   have HI:=κ22 (insert_any base (.slice (some ⟨g,0,none⟩) n cap) k w2.heap.size L ⟨id,c,false⟩ (w2.alloc (.cells #[.int .i64 id,.int .u8 c.toNat,.bool false] 217)) (by have:=HN.out;omega) (by have:=HN.out;omega) (HSX.out.own.alloc _) (by have:=HB.out.size;simp;omega) (heap_alloc_new w2 _) (by have:=(HSX.out.own.lt g rfl).2;simp [Value.ownBlock];omega))
   have HAT:=κ22 hat
   clear hat HAt
   go_wp2_with fail
   refine HI.out.mono ?_
   rintro e w3 ⟨v',rfl,hown,hgr,hnew⟩
   obtain ⟨g2,cap2,m2,rfl⟩:∃ g2 cap2 m2,v'=.slice (some ⟨g2,0,none⟩) m2 cap2:=by
    rcases hown.2 with ⟨_,h0⟩ | ⟨g2,cap2,_,hv,_⟩
    ·simp at h0
    ·exact ⟨g2,cap2,_,hv⟩
   have hap:=HS.out.append hb hown hgr (HB.out.trans (((Below.refl _ w2).alloc (Nat.le_refl _) _).mono HB.out.size)) (fun k hk=>(hnew k hk).imp (fun h=>h) (fun h=>h))
   have hcell:w3.cell? ⟨LB,0,none⟩=some (.slice (some ⟨g,0,none⟩) n cap):=hgr.cell (a:=⟨LB,0,none⟩) ((World.cell?_of_block (heap_alloc_old w2 _ hlt)).trans HSX.out.ptr) (fun e=>HSX.out.ne e.symm)
   have hfz:w3.frozen? ⟨LB,0,none⟩=false:=(World.frozen?_of_block (hgr.block LB (by simp;omega) (fun e=>HSX.out.ne e.symm))).trans ((World.frozen?_of_block (a:=⟨LB,0,none⟩) (heap_alloc_old w2 _ hlt)).trans (HSX.out.fz 0))
   have HA:=κ22 hap
   have HNw:=κ22 hnew
   clear hap hown hgr hnew HI
   go_wp2_with fail
   go_ret
   exact ⟨rfl,_,by
    have:=HA.out.1
    rw [←HAT.out] at this
    rw [insL_is HA0.out]
    exact this,HA.out.2,fun k hk=>by
    rcases HNw.out k hk with h | h
    ·exact .inl h
    ·have:=HB.out.size
     simp at h
     exact .inr (by omega)⟩
theorem ins_ok (base LB:Nat) (v:Value) (id behind:Int) (c:UInt8) (L:List Lt) (w:World) (hst:LineSt base LB v L w) (hn2:L.length≤1000) (hb:base≤w.heap.size) (h1:¬ id < 4) (h2:¬ 4294967300≤id) (h3:¬ behind < 0) (h4:¬ id≤behind) (hx:ixOf id L < 0) (hy:¬ (0 < behind∧ixOf behind L < 0)) :
  Calls Tryz.prog 113 #[.pointer (some ⟨LB,0,none⟩),.int .i64 id,.int .i64 behind,.int .u8 c.toNat] w (InsOk base LB v (insL id behind c L) w):=by
 rcases hst.own.2 with ⟨rfl,h0⟩ | ⟨g,cap,cur,rfl,_⟩
 ·have hL:L=[]:=List.eq_nil_of_length_eq_zero h0
  subst hL
  have hb0:behind=0:=by
   have:ixOf behind [] = -1:=rfl
   omega
  subst hb0
  refine (ins_nil base LB id c w hst hb h1 h2).mono ?_
  rintro e w' ⟨he,v',hs,hf,hk⟩
  exact ⟨he,v',hs,hf,fun k h=>.inr (hk k h)⟩
 ·by_cases hb0:0 < behind
  ·exact ins_row1 base LB g L.length cap id behind c L w hst rfl hn2 hb h1 h2 hb0 h4 hx (by omega)
  ·have:behind=0:=by omega
   subst this
   exact ins_row0 base LB g L.length cap id c L w hst rfl hn2 hb h1 h2 hx
def InsEnd (ea:Nat→Addr) (base LB:Nat) (v:Value) (id behind:Int) (c:UInt8) (L:List Lt) (w:World) (e:Ending) (w':World):Prop:=
 e=.returned (if insErr id behind L=0 then .nilIface else errV (ea (insErr id behind L)))∧∃ v',LineSt base LB v' (insAfter id behind c L) w'∧Fr (Own LB v) w w'∧∀ k,v'.ownBlock=some k→v.ownBlock=some k∨w.heap.size≤k
theorem lineInsert_any {F:Nat→Bool} (ea:Nat→Addr) (base LB:Nat) (v:Value) (id behind:Int) (c:UInt8) (L:List Lt) (w:World) (hG:Gd F ea w) (f3:F 3=true) (f6:F 6=true) (f7:F 7=true) (hst:LineSt base LB v L w) (hn2:L.length≤1000) (hb:base≤w.heap.size) :
  Calls Tryz.prog 113 #[.pointer (some ⟨LB,0,none⟩),.int .i64 id,.int .i64 behind,.int .u8 c.toNat] w (InsEnd ea base LB v id behind c L w):=by
 have hstay:∀ {k:Nat} {w':World},k≠0→insErr id behind L=k→Below w.heap.size w w'→InsEnd ea base LB v id behind c L w (.returned (errV (ea k))) w':=fun {k w'} hk he hb=>by
  unfold InsEnd insAfter
  rw [he,if_neg hk,if_neg hk]
  exact ⟨rfl,v,hst.below hb,Fr.of_below hb,fun k h=>.inl h⟩
 by_cases hs:id < 4∨4294967300≤id∨behind < 0∨id≤behind
 ·refine (ins_bad ea base LB v id behind c L w hG f3 hs).mono ?_
  rintro e w' ⟨rfl,hb⟩
  exact hstay (by decide) (by unfold insErr;rw [if_pos hs]) hb
 ·by_cases hx:0≤ixOf id L
  ·refine (ins_exist ea base LB v id behind c L w hG f7 hn2 hst (by omega) (by omega) (by omega) (by omega) hx).mono ?_
   rintro e w' ⟨rfl,hb⟩
   exact hstay (by decide) (by unfold insErr;rw [if_neg hs,if_pos hx]) hb
  ·by_cases hy:0 < behind∧ixOf behind L < 0
   ·refine (ins_none ea base LB v id behind c L w hG f6 hn2 hst (by omega) (by omega) hy.1 (by omega) (by omega) hy.2).mono ?_
    rintro e w' ⟨rfl,hb⟩
    exact hstay (by decide) (by unfold insErr;rw [if_neg hs,if_neg hx,if_pos hy]) hb
   ·refine (ins_ok base LB v id behind c L w hst hn2 hb (by omega) (by omega) (by omega) (by omega) (by omega) hy).mono ?_
    rintro e w' ⟨rfl,v',h5,h6,h7⟩
    have he:insErr id behind L=0:=by unfold insErr;rw [if_neg hs,if_neg hx,if_neg hy]
    unfold InsEnd insAfter
    rw [he,if_pos rfl,if_pos rfl]
    exact ⟨rfl,v',h5,h6,h7⟩
theorem txtL_take (L:List Lt) (j:Nat) (x:Lt) (h:L[j]?=some x):txtL (L.take (j+1))=txtL (L.take j)++if x.gone then [] else [x.c]:=by
 unfold txtL
 rw [List.take_add_one,h]
 cases hg:x.gone <;> simp [hg]
theorem line_text (LB:Nat) (L:List Lt) (w:World) (h:LineAt w LB L) (hn:L.length≤1000) :
  Calls Tryz.prog 62 #[.pointer (some ⟨LB,0,none⟩)] w fun e w'=>e=.returned (.string (S (txtL L)))∧Below w.heap.size w w':=by
 have hlt:=h.lt
 obtain ⟨v,hv,hs⟩:=h.sl
 rcases hs with ⟨rfl,rfl⟩ | ⟨g,cap,rfl,hcap,hg,hL⟩
 ·have kc:=(BSt.start w).text
  clear h
  go_enter Tryz.func62,Tryz.ntmps62
  go_wp2_with fail
  go_loop [3,11] (fun v3 v11=>v3=.slice none 0 0∧v11=.int .i64 0) (fun _ _=>0)
  case atStart=>exact ⟨rfl,rfl⟩
  case round=>
   obtain ⟨rfl,rfl⟩:=hrel
   go_wp2_with fail
   go_ret
   exact ⟨rfl,Below.refl _ _⟩
 ·obtain ⟨n,hn1⟩:∃ n,n=L.length:=⟨_,rfl⟩
  rw [←hn1] at hv hcap
  have HL:=κ22 hL
  have HN:=κ22 hn1
  have hn2:n≤1000:=by omega
  clear h hL hn hn1
  go_enter Tryz.func62,Tryz.ntmps62
  go_wp2_with fail
  go_loopw [3,11] (fun v3 v11 wr=>∃ j:Nat,v11=.int .i64 j∧j≤n∧BSt w v3 (txtL (L.take j)) wr) (fun _ v11 _=>n - (intOf v11).toNat)
  case atStart=>exact ⟨0,rfl,by omega,BSt.start _⟩
  case round=>
   obtain ⟨j,rfl,hj,hB⟩:=hrel
   have HB:=κ22 hB
   clear hB
   by_cases hlt2:j < n
   ·obtain ⟨x,hx⟩:∃ x,L[j]?=some x:=⟨_,List.getElem?_eq_getElem (by have:=HN.out;omega)⟩
    obtain ⟨q0,q1,q2⟩:=HL.out.below hg HB.out.bel j x hx
    have HX:=κ22 (txtL_take L j x hx)
    have i0:(0:Int)≤(j:Int):=by omega
    have i1:(j:Int) < (n:Int):=by omega
    have hsz:=HB.out.bel.size
    have hln:=txtL_len (L.take j)
    rw [List.length_take] at hln
    have HB1:=κ22 (HB.out.below ((Below.refl _ _).alloc (Nat.le_refl _) (.cells #[.int .i64 x.id,.int .u8 x.c.toNat,.bool x.gone] 217)))
    clear hx
    cases hgn:x.gone with
    | true=>
     rw [hgn] at q2 HX HB1
     have HX2:Hid (txtL (L.take (j+1))=txtL (L.take j)):=κ22 (by rw [HX.out];simp)
     clear HX
     go_wp2_with fail
     go_roundw
     case rel=>exact ⟨j+1,by go_num,by omega,by rw [HX2.out];exact HB1.out⟩
     case measure=>simp [intOf];omega
    | false=>
     rw [hgn] at q2 HX HB1
     have HX2:Hid (txtL (L.take (j+1))=txtL (L.take j)++[x.c]):=κ22 (by rw [HX.out];simp)
     clear HX
     obtain ⟨i0',hi0,hz0,hz1,hz2⟩:=info_parts infoByte
     go_wp2_with (at_builtin;refine wpList_append_own _ rfl _ _ 212 rfl w.heap.size 5 i0' (.int .u8 0) 1 1 Tryz.underlying212 hi0 hz0 hz1 hz2 rfl (by decide) _ _ _ rfl (HB1.out.own.alloc _) ⟨wr.heap.size+1,0,none⟩ 1 1 (bytesV [x.c]) rfl rfl ?a1 ?a2 ?a3 ?a4 ?a5 ?_)
     case a1=>intro jj u hjj;match jj,hjj with | 0,hjj=>simp [bytesV] at hjj;subst hjj;simp [Addr.add]
     case a2=>intro u hu;simp [bytesV] at hu;subst hu;rfl
     case a3=>unfold maxLen;omega
     case a4=>omega
     case a5=>first | omega | (simp;omega)
     intro v' wF hown' hgrow _
     have hb2:=HB1.out.app (ys:=[x.c]) hown' hgrow
     have HB2:=κ22 hb2
     clear hown' hgrow hb2 hi0 hz0 hz1 hz2
     go_wp2_with fail
     go_roundw
     case rel=>exact ⟨j+1,by go_num,by omega,by rw [HX2.out];exact HB2.out⟩
     case measure=>simp [intOf];omega
   ·have hge:¬ (j:Int) < (n:Int):=by omega
    have kc:=HB.out.text
    have HE:Hid (L.take j=L):=κ22 (List.take_of_length_le (by have:=HN.out;omega))
    rw [HE.out] at kc
    clear hlt2
    go_wp2_with fail
    go_ret
    exact ⟨rfl,HB.out.bel⟩
theorem lts_del {id:Int} {L:List Lt} {k:Nat} (h:ixOf id L=k):lts (delL id L)=(lts L).set (k*3+2) (.bool true):=by
 obtain ⟨A,x,B,rfl,h2,h3,h4⟩:=ixOf_at (id:=id) (L:=L) (by omega)
 have hk:k=A.length:=by omega
 rw [delL_at h2 h4,lts_app,lts_app,List.set_append_right _ _ (by rw [lts_len];omega),lts_len,hk,show A.length*3+2 - A.length*3=2 by omega]
 rfl
def DelEnd (ea:Nat→Addr) (base LB:Nat) (v:Value) (id:Int) (L:List Lt) (w:World) (e:Ending) (w':World):Prop:=
 e=.returned (if ixOf id L < 0 then errV (ea 6) else .nilIface)∧LineSt base LB v (delL id L) w'∧Fr (Own LB v) w w'
theorem line_delete {F:Nat→Bool} (ea:Nat→Addr) (base LB:Nat) (v:Value) (id:Int) (L:List Lt) (w:World) (hG:Gd F ea w) (f6:F 6=true) (hst:LineSt base LB v L w) (hn:L.length≤1000) :
  Calls Tryz.prog 114 #[.pointer (some ⟨LB,0,none⟩),.int .i64 id] w (DelEnd ea base LB v id L w):=by
 have HF:=κ22 (find_any id LB L w hn hst.at')
 have hlb:=ixOf_lt id L
 obtain ⟨k,hk⟩:∃ k,ixOf id L=k:=⟨_,rfl⟩
 have HK:=κ22 hk
 rw [hk] at HF hlb
 have HG:=κ22 hG
 have HS:=κ22 hst
 clear hG hst hk
 by_cases hx:k < 0
 ·go_enter Tryz.func114,Tryz.ntmps114
  go_wp2_with fail
  refine HF.out.mono ?_
  rintro e w1 ⟨rfl,hb⟩
  have gv:=((HG.out.below hb).errs 6 (by omega) (by omega) f6).var
  simp only [errG] at gv
  have HB:=κ22 hb
  clear hb
  go_wp2_with fail
  go_ret
  refine ⟨by rw [HK.out,if_pos hx];rfl,?_,Fr.of_below HB.out⟩
  rw [delL_none (by rw [HK.out];exact hx)]
  exact HS.out.below HB.out
 ·obtain ⟨n,rfl⟩:∃ n:Nat,k=n:=⟨k.toNat,by omega⟩
  have hnl:n < L.length:=by omega
  rcases HS.out.own.2 with ⟨_,h0⟩ | ⟨g,cap,cur,hv,hg0,hgg,hcap,hcm,hcs,htk⟩
  ·omega
  subst hv
  obtain ⟨m,hm⟩:∃ m,m=L.length:=⟨_,rfl⟩
  rw [←hm] at hlb hnl hcap HS
  have HM:=κ22 hm
  have hm2:m≤1000:=by omega
  clear hm hgg hcs htk hcm hn
  go_enter Tryz.func114,Tryz.ntmps114
  go_wp2_with fail
  refine HF.out.mono ?_
  rintro e w1 ⟨rfl,hb⟩
  have hS1:=HS.out.below hb
  have HS1:=κ22 hS1
  have q:=hS1.ptr
  have own1:=hS1.own
  rw [←HM.out] at own1
  have HO:=κ22 own1
  have st:=own1.stored (n*3+2) (.bool true)
  have fz:=own1.frozenAt (n*3+2)
  have cc:=own1.cellAt (n*3+2) (by omega)
  rw [List.getElem?_eq_getElem (by rw [lts_len,←HM.out];omega)] at cc
  generalize (lts L)[n*3+2]'_=old at cc
  have HST:=κ22 st
  have HB:=κ22 hb
  have i0:(0:Int)≤(n:Int):=by omega
  have i1:(n:Int) < (m:Int):=by omega
  clear st own1 hS1 hb
  go_wp2_with fail
  go_ret
  have hgne:g≠LB:=fun e=>HS1.out.ne (by rw [e];rfl)
  have hm:=HM.out
  subst hm
  refine ⟨by rw [HK.out,if_neg (by omega)];rfl,⟨(World.cell?_setCell_other _ _ _ _ (by simp [Ne.symm hgne])).trans HS1.out.ptr,fun o=>by have:=HS1.out.fz o;simpa using this,?_,HS1.out.ne,HS1.out.ge⟩,?_⟩
  ·rw [lts_del HK.out,delL_len,←HM.out]
   exact HST.out.1
  ·refine ⟨HB.out.os,HB.out.tape,HB.out.output,by have:=HB.out.size;simpa using this,fun j hj hne=>?_⟩
   exact (heap_setCell_other w1 ⟨g,n*3+2,none⟩ j _ (fun e=>hne (.inr (by rw [e];rfl)))).trans (HB.out.block j hj)
def seenL (L:List Lt):List Lt:=L.filter fun x=>!x.gone
theorem seenL_take (L:List Lt) (j:Nat) (x:Lt) (h:L[j]?=some x):seenL (L.take (j+1))=seenL (L.take j)++if x.gone then [] else [x]:=by
 unfold seenL
 rw [List.take_add_one,h]
 cases hg:x.gone <;> simp [hg]
def AtEnds (k:Int) (L:List Lt) (w:World) (e:Ending) (w':World):Prop:=
 Below w.heap.size w w'∧((0≤k∧∃ x,(seenL L)[k.toNat]?=some x∧e=.returned (.tuple #[.int .i64 x.id,.bool true]))∨((k < 0∨(seenL L).length≤k)∧e=.returned (.tuple #[.int .i64 0,.bool false])))
theorem seenL_app (A B:List Lt):seenL (A++B)=seenL A++seenL B:=by unfold seenL;exact List.filter_append _ _
theorem split_at {L:List Lt} {j:Nat} {x:Lt} (hx:L[j]?=some x):L=L.take j++x :: L.drop (j+1):=by
 obtain ⟨hl,rfl⟩:=List.getElem?_eq_some_iff.1 hx
 rw [←List.drop_eq_getElem_cons hl,List.take_append_drop]
theorem lineAt_pos (k:Nat) (LB:Nat) (L:List Lt) (w:World) (h:LineAt w LB L) (hn:L.length≤1000) (hk:(k:Int)≤9223372036854775807) :
  Calls Tryz.prog 165 #[.pointer (some ⟨LB,0,none⟩),.int .i64 k] w (AtEnds k L w):=by
 have hlt:=h.lt
 obtain ⟨v,hv,hs⟩:=h.sl
 rcases hs with ⟨rfl,rfl⟩ | ⟨g,cap,rfl,hcap,hg,hL⟩
 ·clear h
  go_enter Tryz.func165,Tryz.ntmps165
  go_wp2_with fail
  go_loop [13] (fun v13=>v13=.int .i64 0) (fun _=>0)
  case atStart=>rfl
  case round=>
   obtain rfl:=hrel
   go_wp2_with fail
   go_ret2
   exact ⟨Below.refl _ _,.inr ⟨.inr (by simp [seenL]),rfl⟩⟩
 ·obtain ⟨n,hn1⟩:∃ n,n=L.length:=⟨_,rfl⟩
  rw [←hn1] at hv hcap
  have HL:=κ22 hL
  have HN:=κ22 hn1
  have hn2:n≤1000:=by omega
  clear h hL hn hn1
  go_enter Tryz.func165,Tryz.ntmps165
  go_wp2_with fail
  go_loopw [1,13] (fun v1 v13 wr=>∃ j q:Nat,v13=.int .i64 j∧j≤n∧v1=.int .i64 q∧Hid (k=q+(seenL (L.take j)).length)∧Below w.heap.size w wr) (fun _ v13 _=>n - (intOf v13).toNat)
  case atStart=>exact ⟨0,k,rfl,by omega,rfl,κ22 (by simp [seenL]),Below.refl _ _⟩
  case round=>
   obtain ⟨j,q,rfl,hj,rfl,HQ,hB⟩:=hrel
   have HB:=κ22 hB
   clear hB
   by_cases hlt2:j < n
   ·obtain ⟨x,hx⟩:∃ x,L[j]?=some x:=⟨_,List.getElem?_eq_getElem (by have:=HN.out;omega)⟩
    obtain ⟨q0,q1,q2⟩:=HL.out.below hg HB.out j x hx
    have HX:=κ22 (seenL_take L j x hx)
    have HD:=κ22 (split_at hx)
    have i0:(0:Int)≤(j:Int):=by omega
    have i1:(j:Int) < (n:Int):=by omega
    have q00:(0:Int)≤(q:Int):=by omega
    have HB1:=κ22 (HB.out.alloc HB.out.size (.cells #[.int .i64 x.id,.int .u8 x.c.toNat,.bool x.gone] 217))
    clear hx
    cases hgn:x.gone with
    | true=>
     rw [hgn] at q2 HX HB1
     have HX2:Hid (seenL (L.take (j+1))=seenL (L.take j)):=κ22 (by rw [HX.out];simp)
     clear HX hgn
     go_wp2_with fail
     go_roundw
     case rel=>exact ⟨j+1,q,by go_num,by omega,rfl,κ22 (by rw [HX2.out];exact HQ.out),HB1.out⟩
     case measure=>simp [intOf];omega
    | false=>
     rw [hgn] at q2 HX HB1
     have HX2:Hid (seenL (L.take (j+1))=seenL (L.take j)++[x]):=κ22 (by rw [HX.out];simp)
     have HGN:=κ22 hgn
     clear HX hgn
     rcases Nat.eq_zero_or_pos q with hq | hq
     ·subst hq
      go_wp2_with fail
      go_ret2
      refine ⟨HB1.out,.inl ⟨by omega,x,?_,rfl⟩⟩
      rw [HD.out,seenL_app]
      have e:(k:Int).toNat=(seenL (L.take j)).length:=by have:=HQ.out;omega
      rw [e,List.getElem?_append_right (by omega)]
      simp [seenL,HGN.out]
     ·obtain ⟨r,rfl⟩:∃ r,q=r+1:=⟨q - 1,by omega⟩
      have qz:((r:Int)+1 == 0)=false:=by simp;omega
      have qz1:(r:Int)+1 - 1=(r:Int):=by omega
      have qz3:(r:Int)+1≤9223372036854775807:=by have:=HQ.out;omega
      rw [show (((r+1:Nat):Int))=(r:Int)+1 by omega]
      go_wp2_with fail
      go_roundw
      case rel=>exact ⟨j+1,r,by go_num,by omega,rfl,κ22 (by rw [HX2.out,List.length_append,List.length_singleton];have:=HQ.out;omega),HB1.out⟩
      case measure=>simp [intOf];omega
   ·have hge:¬ (j:Int) < (n:Int):=by omega
    have HE:Hid (L.take j=L):=κ22 (List.take_of_length_le (by have:=HN.out;omega))
    clear hlt2
    go_wp2_with fail
    go_ret2
    exact ⟨HB.out,.inr ⟨.inr (by have:=HQ.out;rw [HE.out] at this;omega),rfl⟩⟩
theorem lineAt_neg (k:Int) (LB:Nat) (L:List Lt) (w:World) (h:LineAt w LB L) (hn:L.length≤1000) (hk:k < 0) (hk2:-9223372036854775808≤k) :
  Calls Tryz.prog 165 #[.pointer (some ⟨LB,0,none⟩),.int .i64 k] w (AtEnds k L w):=by
 have hlt:=h.lt
 obtain ⟨v,hv,hs⟩:=h.sl
 rcases hs with ⟨rfl,rfl⟩ | ⟨g,cap,rfl,hcap,hg,hL⟩
 ·clear h
  go_enter Tryz.func165,Tryz.ntmps165
  go_wp2_with fail
  go_loop [13] (fun v13=>v13=.int .i64 0) (fun _=>0)
  case atStart=>rfl
  case round=>
   obtain rfl:=hrel
   go_wp2_with fail
   go_ret2
   exact ⟨Below.refl _ _,.inr ⟨.inl hk,rfl⟩⟩
 ·obtain ⟨n,hn1⟩:∃ n,n=L.length:=⟨_,rfl⟩
  rw [←hn1] at hv hcap
  have HL:=κ22 hL
  have HN:=κ22 hn1
  have hn2:n≤1000:=by omega
  clear h hL hn hn1
  go_enter Tryz.func165,Tryz.ntmps165
  go_wp2_with fail
  go_loopw [1,13] (fun v1 v13 wr=>∃ (j:Nat) (z:Int),v13=.int .i64 j∧j≤n∧v1=.int .i64 z∧-9223372036854775808≤z∧(z < 0∨(9223372036854775807 - j≤z∧z≤9223372036854775807))∧Below w.heap.size w wr) (fun _ v13 _=>n - (intOf v13).toNat)
  case atStart=>exact ⟨0,k,rfl,by omega,rfl,hk2,.inl hk,Below.refl _ _⟩
  case round=>
   obtain ⟨j,z,rfl,hj,rfl,hz1,hz2,hB⟩:=hrel
   have HB:=κ22 hB
   clear hB
   by_cases hlt2:j < n
   ·obtain ⟨x,hx⟩:∃ x,L[j]?=some x:=⟨_,List.getElem?_eq_getElem (by have:=HN.out;omega)⟩
    obtain ⟨q0,q1,q2⟩:=HL.out.below hg HB.out j x hx
    have i0:(0:Int)≤(j:Int):=by omega
    have i1:(j:Int) < (n:Int):=by omega
    have HB1:=κ22 (HB.out.alloc HB.out.size (.cells #[.int .i64 x.id,.int .u8 x.c.toNat,.bool x.gone] 217))
    clear hx
    cases hgn:x.gone with
    | true=>
     rw [hgn] at q2 HB1
     clear hgn
     have HZ1:=κ22 hz1
     have HZ2:=κ22 hz2
     clear hz1 hz2
     go_wp2_with fail
     go_roundw
     case rel=>exact ⟨j+1,z,by go_num,by omega,rfl,HZ1.out,by have:=HZ2.out;omega,HB1.out⟩
     case measure=>simp [intOf];omega
    | false=>
     rw [hgn] at q2 HB1
     clear hgn
     have zz:(z == 0)=false:=by simp;omega
     by_cases hm:z = -9223372036854775808
     ·subst hm
      go_wp2_with fail
      go_roundw
      case rel=>exact ⟨j+1,9223372036854775807,by go_num,by omega,by rw [show wrap64 (-9223372036854775809)=9223372036854775807 by decide +kernel],by omega,.inr (by omega),HB1.out⟩
      case measure=>simp [intOf];omega
     ·have h1:-9223372036854775807≤z:=by omega
      have h2:z≤9223372036854775807:=by omega
      have HZ2:=κ22 hz2
      clear hz2 hm
      go_wp2_with fail
      go_roundw
      case rel=>exact ⟨j+1,z - 1,by go_num,by omega,rfl,by omega,by have:=HZ2.out;omega,HB1.out⟩
      case measure=>simp [intOf];omega
   ·have hge:¬ (j:Int) < (n:Int):=by omega
    clear hlt2
    go_wp2_with fail
    go_ret2
    exact ⟨HB.out,.inr ⟨.inl hk,rfl⟩⟩
theorem lineAt_any (k:Int) (LB:Nat) (L:List Lt) (w:World) (h:LineAt w LB L) (hn:L.length≤1000) (hk1:-9223372036854775808≤k) (hk2:k≤9223372036854775807) :
  Calls Tryz.prog 165 #[.pointer (some ⟨LB,0,none⟩),.int .i64 k] w (AtEnds k L w):=by
 by_cases hk:k < 0
 ·exact lineAt_neg k LB L w h hn hk hk1
 ·obtain ⟨m,rfl⟩:∃ m:Nat,k=m:=⟨k.toNat,by omega⟩
  exact lineAt_pos m LB L w h hn hk2
end Go.Proofs.YtjekalilfhnpmaaGreatDoor
