/- Acts on a replica beside the document's: what both answer when asked. -/
import Derived.Test.YtjekalilfhnpmaaGreatDoorQ28
import Derived.Test.YtjekalilfhnpmaaGreatDoorQ39
import Derived.Test.YtjekalilfhnpmaaGreatDoorQ41
import Derived.Test.YtjekalilfhnpmaaGreatDoorQ42
namespace Go.Proofs.YtjekalilfhnpmaaGreatDoor
open Go Go.RowKit Go.Maps Go.Shelf LineOrd Tree
set_option linter.unusedVariables false
set_option linter.unusedSimpArgs false
set_option maxHeartbeats 2000000
set_option maxRecDepth 100000
theorem LetAt.unique {K:List OpT} {nd k:Int} {kb is is':Bool} {id id':Int} (hK:DOk K) (h:LetAt K nd k kb id is) (h':LetAt K nd k kb id' is'):id=id'∧is=is':=by
 rcases h with ⟨h1,h2,L,hL,x,hx,rfl,rfl⟩ | ⟨h1,rfl,rfl⟩ <;> rcases h' with ⟨g1,g2,L',hL',x',hx',rfl,rfl⟩ | ⟨g1,rfl,rfl⟩
 ·obtain rfl:=LineOf.unique hK.lines (fun _=>Iff.rfl) hL hL'
  rw [hx] at hx'
  cases hx'
  exact ⟨rfl,rfl⟩
 ·rcases g1 with g1 | ⟨L',hL',g1⟩
  ·rw [h1] at g1;cases g1
  ·obtain rfl:=LineOf.unique hK.lines (fun _=>Iff.rfl) hL hL'
   have:=(List.getElem?_eq_some_iff.1 hx).1
   omega
 ·rcases h1 with h1 | ⟨L,hL,h1⟩
  ·rw [g1] at h1;cases h1
  ·obtain rfl:=LineOf.unique hK.lines (fun _=>Iff.rfl) hL hL'
   have:=(List.getElem?_eq_some_iff.1 hx').1
   omega
 ·exact ⟨rfl,rfl⟩
theorem LetAt.no {K:List OpT} {nd k:Int} {kb is:Bool} {id:Int} (h:LetAt K nd k kb id is) (hk:is=true→k < 0):id=0∧is=false:=by
 rcases h with ⟨h1,h2,L,hL,x,hx,rfl,rfl⟩ | ⟨h1,rfl,rfl⟩
 ·have:=hk rfl;omega
 ·exact ⟨rfl,rfl⟩
theorem WrAt.unique {K:List OpT} {nd k:Int} {kb is is':Bool} {id id':Int} (hK:DOk K) (h:WrAt K nd k kb id is) (h':WrAt K nd k kb id' is'):id=id'∧is=is':=by
 rcases h with ⟨h1,rfl,rfl⟩ | ⟨h1,q,h2,h3,h4⟩ <;> rcases h' with ⟨g1,rfl,rfl⟩ | ⟨g1,p,g2,g3,g4⟩
 ·exact ⟨rfl,rfl⟩
 ·exact absurd h1 g1
 ·exact absurd g1 h1
 ·by_cases hk:k < 0
  ·obtain ⟨rfl,rfl⟩:=h2.no (fun e=>by have:=h3 e;omega)
   obtain ⟨rfl,rfl⟩:=g2.no (fun e=>by have:=g3 e;omega)
   exact ⟨rfl,rfl⟩
  ·obtain rfl:q=p:=by omega
   exact h2.unique hK g2
theorem MakeIs.unique {b:Int} {K:List OpT} {o:OpT} {r r':OpT×Nat} (hK:DOk K) (h:MakeIs b K o r) (h':MakeIs b K o r'):r=r':=by
 have same:∀ {p q:Bool} {P:Prop},(p=true↔P)→(q=true↔P)→p=q:=fun h1 h2=>Bool.eq_iff_iff.2 (h1.trans h2.symm)
 unfold MakeIs at h h'
 split at h
 ·rename_i k1
  rw [if_pos k1] at h'
  split at h
  ·rename_i k2
   rw [if_pos k2] at h'
   obtain ⟨p,h1,rfl⟩:=h
   obtain ⟨q,g1,rfl⟩:=h'
   rw [same h1 g1]
  ·rename_i k2
   rw [if_neg k2] at h'
   obtain ⟨p,p2,h1,h2,rfl⟩:=h
   obtain ⟨q,q2,g1,g2,rfl⟩:=h'
   rw [same h1 g1,same h2 g2]
 ·rename_i k1
  rw [if_neg k1] at h'
  split at h
  ·rename_i k2
   rw [if_pos k2] at h'
   obtain ⟨p,i1,s1,h1,h2,rfl⟩:=h
   obtain ⟨q,i2,s2,g1,g2,rfl⟩:=h'
   obtain rfl:=same h1 g1
   obtain ⟨rfl,rfl⟩:=h2.unique hK g2
   rfl
  ·rename_i k2
   rw [if_neg k2] at h'
   split at h
   ·rename_i k3
    rw [if_pos k3] at h'
    obtain ⟨p,i1,s1,h1,h2,rfl⟩:=h
    obtain ⟨q,i2,s2,g1,g2,rfl⟩:=h'
    obtain rfl:=same h1 g1
    obtain ⟨rfl,rfl⟩:=h2.unique hK g2
    rfl
   ·rename_i k3
    rw [if_neg k3] at h'
    obtain ⟨p,h1,rfl⟩:=h
    obtain ⟨q,g1,rfl⟩:=h'
    rw [same h1 g1]
theorem mMake_any (MB:Nat) (b:Int) (A:Option Addr) (n c:Nat) (K:List OpT) (o:OpT) (w:World) (h:MRep MB b A n c K w) (hK:DOk K) (hup:Rising K) (hl:K.length≤1000) (hb0:0≤b) (hb4:b < 4) (hw:o.Wf) (hk:o.k=109∨o.k=105∨o.k=100∨o.k=115) :
  Calls Tryz.prog 41 #[ptrV MB,opV o] w (MmEnds b K o w):=by
 rcases hk with hk | hk | hk | hk
 ·by_cases h0:o.nd=0
  ·exact mMakeNew_any MB b A n c K o w h hK hup hl hb0 hb4 hw hk h0
  ·exact mMakeMove_any MB b A n c K o w h hK hup hl hb0 hb4 hw hk h0
 ·exact mMakeIns_any MB b A n c K o w h hK hup hl hb0 hb4 hw hk
 ·exact mMakeDel_any MB b A n c K o w h hK hup hl hb0 hb4 hw hk
 ·exact mMakeSet_any MB b A n c K o w h hK hup hl hb0 hb4 hw hk
open Classical in
noncomputable def strOf (K:List OpT):ByteArray:=if h:∃ s,StateOf K s then Classical.choose h else ⟨#[]⟩
theorem strOf_is {K:List OpT} (hK:DOk K) {s:ByteArray} (h:StateOf K s):s=strOf K:=by
 have he:∃ s,StateOf K s:=⟨s,h⟩
 unfold strOf
 rw [dif_pos he]
 exact StateOf.unique hK h (Classical.choose_spec he)
open Classical in
noncomputable def txtOf (K:List OpT) (nd:Int):ByteArray:=if h:∃ L,LineOf K nd L then S (txtL (Classical.choose h)) else ⟨#[]⟩
theorem txtOf_is {K:List OpT} (hK:DOk K) {nd:Int} {L:List Lt} (h:LineOf K nd L):S (txtL L)=txtOf K nd:=by
 have he:∃ L,LineOf K nd L:=⟨L,h⟩
 unfold txtOf
 rw [dif_pos he,LineOf.unique hK.lines (fun _=>Iff.rfl) h (Classical.choose_spec he)]
theorem line_none {K:List OpT} (hK:DOk K) {nd:Int} (h:¬ Known K nd):LineOf K nd []:=LineOf.nil nd (fun x hx=>by
 obtain ⟨o,ho,h1,h2,_⟩:=hx
 have:=((hK.refs o ho).ins h1).1
 rw [h2] at this
 exact h this)
theorem acState1 {F0:Nat→Bool} (ea:Nat→Addr) {b:Int} {col:Nat→Int} {RB MB:Nat} {A:Option Addr} {n c:Nat} {K Km:List OpT} {w0 w:World} (h:AcS b col RB MB A n c K Km w0 w) (hG:Gd F0 ea w) (f21:F0 21=true) (hK:DOk K) (hl:K.length≤400) :
  Calls Tryz.prog 18 #[ptrV RB] w fun e w'=>e=.returned (.string (strOf K))∧Below w.heap.size w w':=by
 refine (state_any ea col RB b K w h.rep hG f21 hK hl).mono ?_
 rintro e w' ⟨str,rfl,h1,h2⟩
 exact ⟨by rw [strOf_is hK h1],h2⟩
theorem acState2 {b:Int} {col:Nat→Int} {RB MB:Nat} {A:Option Addr} {n c:Nat} {K Kr:List OpT} {w0 w:World} (h:AcS b col RB MB A n c Kr K w0 w) (hK:DOk K) (hup:Rising K) (hl:K.length≤400) :
  Calls Tryz.prog 42 #[ptrV MB] w fun e w'=>e=.returned (.string (strOf K))∧Below w.heap.size w w':=by
 refine (mState_any MB b A n c K w h.mod hK hup (by omega)).mono ?_
 rintro e w' ⟨str,rfl,h1,h2⟩
 exact ⟨by rw [strOf_is hK h1],h2⟩
theorem acText1 {b:Int} {col:Nat→Int} {RB MB:Nat} {A:Option Addr} {n c:Nat} {K Km:List OpT} {w0 w:World} (h:AcS b col RB MB A n c K Km w0 w) (hK:DOk K) (hl:K.length≤400) (nd:Int) (hn:I64 nd) :
  Calls Tryz.prog 15 #[ptrV RB,.int .i64 nd] w fun e w'=>e=.returned (.string (txtOf K nd))∧Below w.heap.size w w':=by
 obtain ⟨y,s,hR,hO⟩:=h.rep
 by_cases hk:Known K nd
 ·obtain ⟨h1,h2⟩:=hO.ll nd hk
  rw [←txtOf_is hK h1]
  exact repText_any hR nd hn true ⟨fun _=>(hO.kn nd).2 hk,fun _=>rfl⟩ (by omega)
 ·rw [←txtOf_is hK (line_none hK hk)]
  have c9:=hR.a.c9
  have htx:=hR.tx
  have hlk:txM s.kn y.LB nd=none:=by unfold txM;rw [if_neg (fun h=>hk ((hO.kn nd).1 h))]
  show Calls _ _ _ _ fun e w'=>e=.returned (.string ⟨#[]⟩)∧Below w.heap.size w w'
  unfold ptrV
  clear h hR hO hk hl
  go_enter Tryz.func15,Tryz.ntmps15
  go_wp2_with (at_lookup;refine wpList_lookT_ok _ rfl _ _ _ rfl 3 118 treeK Tryz.underlying101 _ (zeroLn _) ekI ptrV y.XB y.xn (txM s.kn y.LB) rfl htx nd rfl (ekI_reads hn) none hlk ?_)
  go_wp2_with fail
  go_ret
  exact ⟨rfl,Below.refl _ _⟩
theorem acText2 {b:Int} {col:Nat→Int} {RB MB:Nat} {A:Option Addr} {n c:Nat} {K Kr:List OpT} {w0 w:World} (h:AcS b col RB MB A n c Kr K w0 w) (hK:DOk K) (hup:Rising K) (hl:K.length≤400) (nd:Int) :
  Calls Tryz.prog 48 #[ptrV MB,.int .i64 nd] w fun e w'=>e=.returned (.string (txtOf K nd))∧Below w.heap.size w w':=by
 refine (mText_any MB b A n c K nd w h.mod hK hup (by omega)).mono ?_
 rintro e w' ⟨L,h1,_,rfl,h2⟩
 exact ⟨by rw [txtOf_is hK h1],h2⟩
end Go.Proofs.YtjekalilfhnpmaaGreatDoor
