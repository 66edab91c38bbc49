/- Slices of operations: are they long; a copy; are two the same. Operations in order, by the document: the walk of SortedOf. A replica's operations by whose, and number: the walk of byOwn. Rows that come in with a property of each of their parts. -/
import Derived.Deep.CutBlock
import Derived.Maps.AppendAt
import Derived.Test.YtjekalilfhnpmaaGreatDoorV06
import Derived.Test.YtjekalilfhnpmaaGreatDoorV07
import Derived.Test.YtjekalilfhnpmaaGreatDoorV08
namespace Go.Proofs.YtjekalilfhnpmaaGreatDoor
open Go Go.RowKit Go.Shelf Go.Lib Go.Sort
set_option linter.unusedVariables false
set_option linter.unusedSimpArgs false
set_option maxHeartbeats 4000000
set_option maxRecDepth 100000
theorem ops_at {w:World} {A:Option Addr} {n c:Nat} {L:List OpT} (h:SlV opE w (.slice A n c) L) {i:Nat} {x:OpT} (hx:L[i]?=some x) :
  ∃ b off,A=some ⟨b,off,none⟩∧b < w.heap.size∧w.cell? ⟨b,off+i*8,none⟩=some (.int .i64 x.t)∧w.cell? ⟨b,off+i*8+1,none⟩=some (.int .i64 x.b)∧w.cell? ⟨b,off+i*8+2,none⟩=some (.int .i64 x.n)∧w.cell? ⟨b,off+i*8+3,none⟩=some (.int .u8 x.k)∧
   w.cell? ⟨b,off+i*8+4,none⟩=some (.int .i64 x.nd)∧w.cell? ⟨b,off+i*8+5,none⟩=some (.int .i64 x.ot)∧w.cell? ⟨b,off+i*8+6,none⟩=some (.string x.nm)∧w.cell? ⟨b,off+i*8+7,none⟩=some (.string x.vl):=by
 obtain ⟨b,off,e,hb,hc⟩:=h.at' (by decide) hx
 refine ⟨b,off,e,hb,?_⟩
 have g:∀ j u,(opE.cells x)[j]?=some u→w.cell? ⟨b,off+i*8+j,none⟩=some u:=fun j u hu=>by rw [Nat.add_assoc];exact hc j u hu
 exact ⟨g 0 _ rfl,g 1 _ rfl,g 2 _ rfl,g 3 _ rfl,g 4 _ rfl,g 5 _ rfl,g 6 _ rfl,g 7 _ rfl⟩
theorem below_drawn {b:Nat} {w w':World} (h:Below b w w') (q:Nat):Below b w (w'.drewN q):=⟨h.os,h.tape,h.output,h.size,fun k hk=>h.block k hk⟩
theorem ownOps_any (A:Option Addr) (n c:Nat) (L:List OpT) (w:World) (hs:SlV opE w (.slice A n c) L) (hn:L.length≤100000) :
  Calls Tryz.prog 35 #[.slice A n c] w fun e w'=>∃ v',e=.returned v'∧Rw opE 31 w.heap.size v' L w'∧Below w.heap.size w w':=by
 have HS:=Lib.hid hs
 have HN:=Lib.hid hn
 clear hs hn
 go_enter Tryz.func35,Tryz.ntmps35
 go_wp2_with (at_builtin;refine wpList_append_rows rfl _ _ 36 rfl opE w.heap.size 31 (opV ⟨0,0,0,0,0,0,⟨#[]⟩,⟨#[]⟩⟩) 80 Tryz.underlying36 infoOp rfl (by decide) _ _ [] L rfl rfl (Rw.nil _ _ _ _) HS.out ?e1 ?e2 ?e3 ?_)
 case e1=>have:=HN.out;simp [maxLen];omega
 case e2=>have:=HN.out;simp;omega
 case e3=>exact Nat.le_refl _
 intro v1 w1 hr1 hg1
 have HR1:=Lib.hid hr1
 have HB1:Hid (Below w.heap.size w w1):=Lib.hid ((Below.refl _ _).grown hg1 (Nat.le_refl _) (fun k hk=>by simp [Value.ownBlock] at hk))
 clear hr1 hg1
 go_wp2_with fail
 go_ret
 exact ⟨_,rfl,by have:=HR1.out;simpa using this,HB1.out⟩
theorem Rw.lower {T:Type} {E:Enc T} {ty:TypeId} {base b:Nat} {v:Value} {L:List T} {w:World} (h:Rw E ty base v L w) (hb:b≤base):Rw E ty b v L w:=⟨h.1,by
 rcases h.2 with hn | ⟨g,cap,cur,e1,e2,e3⟩
 ·exact .inl hn
 ·exact .inr ⟨g,cap,cur,e1,by omega,e3⟩⟩
theorem kOf_succ {x y:OpT} {O:List OpT} {k:Nat} (hy:O[k]?=some y):kOf opLt x O (k+1)=if opLt x y then kOf opLt x O k else k+1:=by
 conv=>lhs;unfold kOf
 rw [hy]
end Go.Proofs.YtjekalilfhnpmaaGreatDoor
namespace Go.Proofs.YtjekalilfhnpmaaGreatDoor
open Go Go.RowKit Go.Maps Go.Shelf
set_option linter.unusedVariables false
set_option linter.unusedSimpArgs false
set_option maxHeartbeats 4000000
set_option maxRecDepth 100000
def ownM (K:List OpT):Int×Int→Option OpT:=fun k=>findOwn K k.1 k.2
abbrev MO (mb n:Nat) (K:List OpT) (w:World):Prop:=MT Tryz.prog 195 pairV opV mb n (ownM K) w
theorem ownM_snoc (K:List OpT) (o:OpT):ownM (K++[o])=updT (ownM K) (o.b,o.n) (some o):=by
 funext k
 unfold ownM updT
 rw [findOwn_snoc]
 obtain ⟨a,c⟩:=k
 by_cases h:o.b=a∧o.n=c
 ·obtain ⟨rfl,rfl⟩:=h
  simp
 ·rw [if_neg h,if_neg]
  rintro ⟨⟩
  exact h ⟨rfl,rfl⟩
theorem wf_own {o:OpT} (h:o.Wf):∃ kl,keyOf Tryz.prog 195 (pairV (o.b,o.n))=some kl:=ownK_reads ⟨h.b1,h.b2⟩ ⟨h.n1,h.n2⟩
theorem byOwn_any (RB:Nat) (A:Option Addr) (n c:Nat) (K:List OpT) (w:World) (hc:w.cell? ⟨RB,6,none⟩=some (.slice A n c)) (hs:SlV opE w (.slice A n c) K) (hn:K.length≤100000) (hw:∀ o∈K,o.Wf) :
  Calls Tryz.prog 109 #[.pointer (some ⟨RB,0,none⟩)] w fun e w'=>∃ mb,e=.returned (.map (some mb))∧w.heap.size≤mb∧MO mb K.length K w'∧Below w.heap.size w w':=by
 have hl:=hs.len
 have HS:=Lib.hid hs
 have HW:=Lib.hid hw
 have HN:=Lib.hid hl
 rw [←hl] at hn
 have hRB:=World.block_lt_of_cell? w _ hc
 have hmm:=@run_makeMap Tryz.prog
 clear hs hw hl
 go_enter Tryz.func109,Tryz.ntmps109
 go_wp2_with fail
 go_loopw [12] (fun v12 wr=>∃ i:Nat,i≤n∧v12=.int .i64 i∧Hid (MO w.heap.size i (K.take i) wr)∧Hid (Below w.heap.size w wr)) (fun v12 _=>n - (intOf v12).toNat)
 case atStart=>exact ⟨0,by omega,rfl,Lib.hid (by rw [List.take_zero];exact MT.made w _ _ _ _),Lib.hid ((Below.refl _ _).alloc (Nat.le_refl _) _)⟩
 case round=>
  obtain ⟨i,hi,rfl,HM,HB⟩:=hrel
  by_cases hlt:i < n
  ·obtain ⟨x,hx⟩:∃ x,K[i]?=some x:=⟨_,List.getElem?_eq_getElem (by have:=HN.out;omega)⟩
   obtain ⟨b,off,rfl,hbl,c0,c1,c2,c3,c4,c5,c6,c7⟩:=ops_at (HS.out.below HB.out) hx
   have i1:(0:Int)≤(i:Int):=by omega
   have i2:(i:Int) < (n:Int):=by omega
   have HT:Hid (ownM (K.take (i+1))=updT (ownM (K.take i)) (x.b,x.n) (some x)):=Lib.hid (by
    obtain ⟨h1,h2⟩:=List.getElem?_eq_some_iff.1 hx
    rw [←List.take_append_getElem h1,h2,ownM_snoc])
   have HK:=Lib.hid (wf_own (HW.out x (List.mem_of_getElem? hx)))
   have HMa:=Lib.hid (fun o'=>HM.out.below ((Below.refl wr.heap.size wr).alloc (Nat.le_refl _) o'))
   have HBa:=Lib.hid (fun o'=>HB.out.alloc HB.out.size o')
   have hnm:i < maxLen:=by unfold maxLen;omega
   have hwr:w.heap.size < wr.heap.size:=HM.out.lt
   clear hx hlt hbl HM
   go_wp2_with (at_mapUpdate;refine wpList_putT _ rfl _ _ _ 189 rfl 195 31 ownK Tryz.underlying189 pairV opV pairV_inj w.heap.size i (ownM (K.take i)) rfl (HMa.out _) hnm (x.b,x.n) x rfl rfl HK.out ?_;intro w4 hm4 hg4)
   have HM4:Hid (MO w.heap.size (i+1) (K.take (i+1)) w4):=Lib.hid (by show MT _ _ _ _ _ _ (ownM (K.take (i+1))) _;rw [HT.out];exact hm4)
   have HB4:Hid (Below w.heap.size w w4):=Lib.hid ((HBa.out _).grown hg4 (by have:=HB.out.size;simp;omega) (fun k hk=>by have:=Option.some.inj hk;omega))
   clear hm4 hg4
   go_wp2_with fail
   go_roundw
   case rel=>exact ⟨i+1,by omega,by go_num,HM4,HB4⟩
   case measure=>simp [intOf] <;> omega
  ·have i2:¬ (i:Int) < (n:Int):=by omega
   obtain rfl:i=n:=by omega
   have HM7:Hid (MO w.heap.size K.length K wr):=Lib.hid (by have:=HM.out;rw [HN.out,List.take_length] at this;exact this)
   go_wp2_with fail
   go_ret
   exact ⟨_,rfl,Nat.le_refl _,HM7.out,HB.out⟩
end Go.Proofs.YtjekalilfhnpmaaGreatDoor
namespace Go.Proofs.YtjekalilfhnpmaaGreatDoor
open Go Go.RowKit Go.Joins Go.ChangeShapes Go.WideShapes Go.Deep
set_option linter.unusedVariables false
set_option linter.unusedSimpArgs false
set_option maxHeartbeats 1000000
set_option maxRecDepth 100000
def subE {T:Type} (E:Enc T) (Pp:T→Prop):Enc {x:T // Pp x}:=⟨fun x=>E.cells x.1,E.k,fun x=>E.len x.1,fun x v hv=>E.one x.1 v hv⟩
theorem subE_row {T:Type} (E:Enc T) (Pp:T→Prop):∀ L:List {x:T // Pp x},(subE E Pp).row L=E.row (L.map Subtype.val)
 | []=>rfl
 | x :: L=>by
  have:=subE_row E Pp L
  simp only [Enc.row,List.map_cons,List.flatMap_cons] at this ⊢
  rw [this];rfl
theorem SlV.of_sub {T:Type} {E:Enc T} {Pp:T→Prop} {w:World} {v:Value} {L:List {x:T // Pp x}} (h:SlV (subE E Pp) w v L):SlV E w v (L.map Subtype.val):=by
 rcases h with ⟨h1,h2⟩ | ⟨p,c,h1,h2,h3⟩
 ·exact .inl ⟨h1,by rw [h2];rfl⟩
 ·refine .inr ⟨p,c,by rw [h1,List.length_map],by rw [List.length_map];exact h2,fun j u hu=>?_⟩
  rw [←subE_row] at hu
  exact h3 j u hu
theorem open_rowsP {T H:Type} {enc:TypeId×Value→H} {P:Program} {W:World} {r:Reach} {b0 base:Nat} {t e:TypeId} {v:Value} {d:DataW H} {p:List MemPlace} (E:Enc T) (Pp:T→Prop)
  (ht:P.underlying t=some (.slice e)) (hk:P.cellsOf e=E.k)
  (hone:∀ fuel cs y,cs.length=E.k→DataW.trod enc P W base (fun _=>true) true fuel e cs=some y→∃ x:T,E.cells x=cs∧Pp x)
  (o:Value.okWide P W r b0 t v) (h:DataW.Trod enc P W base (fun _=>true) true t v d p) :
  ∃ A n c L,v=.slice A n c∧L.length=n∧SlV E W (.slice A n c) L∧c≤maxLen∧∀ x∈L,Pp x:=by
 obtain ⟨A,n,c,L,h1,h2,h3,h4⟩:=open_rows (subE E Pp) ht hk (fun fuel cs y hl ht=>by
  obtain ⟨x,hx,hp⟩:=hone fuel cs y hl ht
  exact ⟨⟨x,hp⟩,hx⟩) o h
 refine ⟨A,n,c,L.map Subtype.val,h1,by rw [List.length_map,h2],h3.of_sub,h4,fun x hx=>?_⟩
 obtain ⟨y,_,rfl⟩:=List.mem_map.1 hx
 exact y.2
end Go.Proofs.YtjekalilfhnpmaaGreatDoor
