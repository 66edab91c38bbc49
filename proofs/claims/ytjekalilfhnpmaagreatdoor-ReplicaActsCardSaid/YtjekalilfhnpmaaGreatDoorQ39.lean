/- The document's line of a node, of operations: the walk. The document's replica: Text, Marks. The document's replica: Marks. Plain: the text that the document's State makes is what StateOf says. The document's State: the walk. -/
import Derived.Lib.Join
import Derived.Test.YtjekalilfhnpmaaGreatDoorQ29
import Derived.Test.YtjekalilfhnpmaaGreatDoorQ32
import Derived.Test.YtjekalilfhnpmaaGreatDoorQ35
import Derived.Test.YtjekalilfhnpmaaGreatDoorQ37
import Derived.Test.YtjekalilfhnpmaaGreatDoorQ38
theorem Go.Proofs.YtjekalilfhnpmaaGreatDoor.κ39 {p:Prop} (h:p):Go.RowKit.Hid p:=Go.Lib.hid h
namespace Go.Proofs.YtjekalilfhnpmaaGreatDoor
open Go Go.RowKit Go.Maps Go.Shelf LineOrd Tree
set_option linter.unusedVariables false
set_option linter.unusedSimpArgs false
set_option maxHeartbeats 20000000
set_option maxRecDepth 100000
theorem insL_top {id behind:Int} {c:UInt8} {L:List Lt} (h:∀ x∈L,x.id < id):insL id behind c L=L.take (insFrom behind L)++⟨id,c,false⟩ :: L.drop (insFrom behind L):=by
 unfold insL
 have:insAt L (insFrom behind L) id=insFrom behind L:=by
  unfold insAt
  have hh:((L.drop (insFrom behind L)).takeWhile fun x=>decide (id < x.id))=[]:=by
   cases hq:L.drop (insFrom behind L) with
   | nil=>rfl
   | cons y r=>
    have:=h y (List.mem_of_mem_drop (by rw [hq];simp))
    rw [List.takeWhile_cons_of_neg (by simp only [decide_eq_true_eq];omega)]
  rw [hh]
  rfl
 rw [this]
def LnEnds (K:List OpT) (nd:Int) (w:World) (e:Ending) (w':World):Prop:=∃ (LB:Nat) (v:Value) (L:List Lt),e=.returned (ptrV LB)∧MSt w.heap.size LB v L w'∧LineOf K nd L∧L.length≤K.length∧Below w.heap.size w w'
structure LnSt (K:List OpT) (nd:Int) (A7:Option Addr) (n7 c7:Nat) (j:Nat) (v:Value) (L:List Lt) (w wr:World):Prop where
 m:MSt w.heap.size w.heap.size v L wr
 row:Rw opE 31 (w.heap.size+1) (.slice A7 n7 c7) K wr
 ln:LineOf (K.take j) nd L
 le:L.length≤j
 ne:∀ k,v.ownBlock=some k→(Value.slice A7 n7 c7).ownBlock≠some k
 bel:Below w.heap.size w wr
theorem LnSt.below {K:List OpT} {nd:Int} {A7:Option Addr} {n7 c7 j:Nat} {v:Value} {L:List Lt} {w wr w':World} (h:LnSt K nd A7 n7 c7 j v L w wr) (hb:Below wr.heap.size wr w'):LnSt K nd A7 n7 c7 j v L w w':=
 ⟨h.m.below hb,h.row.below hb,h.ln,h.le,h.ne,bel2 h.bel hb⟩
theorem LnSt.laid {K:List OpT} {nd:Int} {A7:Option Addr} {n7 c7 j:Nat} {v v':Value} {L L':List Lt} {w w0 w':World} (h:LnSt K nd A7 n7 c7 j v L w w0) (hm:MSt w.heap.size w.heap.size v' L' w') (hF:Fr (fun k=>k=w.heap.size∨v.ownBlock=some k) w0 w') (hv:∀ k,v'.ownBlock=some k→v.ownBlock=some k∨w0.heap.size≤k) (hln:LineOf (K.take (j+1)) nd L') (hle:L'.length≤j+1):LnSt K nd A7 n7 c7 (j+1) v' L' w w' where
 m:=hm
 row:=h.row.kept fun k hk=>hF.block k (h.row.lt k hk).2 (fun e=>by
  rcases e with e | e
  ·have:=(h.row.lt k hk).1;omega
  ·exact h.ne k e hk)
 ln:=hln
 le:=hle
 ne:=fun k hk e=>by
  rcases hv k hk with h1 | h1
  ·exact h.ne k h1 e
  ·have:=(h.row.lt k e).2;omega
 bel:=h.bel.trans (hF.below h.bel.size (fun k hk=>by
  rcases hk with e | e
  ·omega
  ·exact (h.m.own.lt k e).1))
theorem letter_below {D:List OpT} {nd:Int} {L:List Lt} {o:OpT} (hf:∀ x∈D,OpFine x) (hL:LineOf D nd L) (hlt:∀ x∈D,opLt x o=true) (ho:OpFine o):∀ x∈L,x.id < o.id:=by
 obtain ⟨l,rfl,_,hm⟩:=hL
 intro x hx
 obtain ⟨z,hz,rfl⟩:=List.mem_map.1 hx
 obtain ⟨p,hp,_,_,h3⟩:=(hm z).1 hz
 show (z:Int) < o.id
 rw [←h3]
 exact (lt_of_id (hf p hp) ho).1 (hlt p hp)
theorem mLineOf_any (A:Option Addr) (n c:Nat) (K:List OpT) (nd:Int) (w:World) (hs:SlV opE w (.slice A n c) K) (hK:DOk K) (hup:Rising K) (hl:K.length≤1000) :
  Calls Tryz.prog 100 #[.slice A n c,.int .i64 nd] w (LnEnds K nd w):=by
 obtain ⟨W,hW⟩:∃ W,W=w.alloc (.cells #[.slice none 0 0] 241):=⟨_,rfl⟩
 have hbW:Below w.heap.size w W:=by rw [hW];exact (Below.refl _ _).alloc (Nat.le_refl _) _
 have hsW:W.heap.size=w.heap.size+1:=by rw [hW];simp
 have HSo:=κ39 (sortedOf_any A n c K W (hs.below hbW) (by omega))
 rw [sort_self hup] at HSo
 have HMW:Hid (MSt w.heap.size w.heap.size (.slice none 0 0) [] W):=κ39 ⟨by rw [hW];simp [go_sem],fun o=>by rw [hW];simp [go_sem],Rw.nil _ _ _ _,by simp [Value.ownBlock],Nat.le_refl _⟩
 have HbW:=κ39 (And.intro hbW hsW)
 have HK:=κ39 hK
 have HUp:=κ39 hup
 have HWe:=κ39 hW.symm
 clear hs hK hup hbW hsW hW
 go_enter Tryz.func100,Tryz.ntmps100
 go_upto_region 2 with (fail)
 rw [HWe.out]
 go_wp2_with fail
 refine HSo.out.mono ?_
 rintro e w1 ⟨v6,rfl,hr1,hb1⟩
 obtain ⟨A7,n7,c7,rfl⟩:=hr1.slice
 have hn7:n7=K.length:=hr1.sl.len
 have HL1:Hid (LnSt K nd A7 n7 c7 0 (.slice none 0 0) [] w w1):=κ39 ⟨HMW.out.below hb1,by rw [HbW.out.2] at hr1;exact hr1,LineOf.nil nd (fun x hx=>by obtain ⟨o,ho,_⟩:=hx;simp at ho),Nat.le_refl _,fun k hk=>by simp [Value.ownBlock] at hk,bel2 HbW.out.1 hb1⟩
 have HN7:=κ39 hn7
 have hn5:n7≤1000:=by omega
 clear hr1 hb1 hn7 HSo
 go_wp2_with fail
 go_loopw [7] (fun v7 wr=>∃ (j:Nat) (v:Value) (L:List Lt),j≤n7∧v7=.int .i64 j∧Hid (LnSt K nd A7 n7 c7 j v L w wr)) (fun v7 _=>n7 - (RowKit.intOf v7).toNat)
 case atStart=>exact ⟨0,_,[],by omega,rfl,HL1⟩
 case round=>
  obtain ⟨j,v,L,hj,rfl,HL⟩:=hrel
  by_cases hlt:j < n7
  ·obtain ⟨x,hx⟩:∃ x,K[j]?=some x:=⟨_,List.getElem?_eq_getElem (by have:=HN7.out;omega)⟩
   have HX:=κ39 hx
   have HFi:=κ39 (HK.out.fine (List.mem_of_getElem? hx))
   obtain ⟨bb,off,rfl,hbl,q0,q1,q2,q3,q4,q5,q6,q7⟩:=ops_at HL.out.row.sl hx
   have j0:(0:Int)≤(j:Int):=by omega
   have j1:(j:Int) < (n7:Int):=by omega
   have htk:K.take (j+1)=K.take j++[x]:=by
    obtain ⟨h1,h2⟩:=List.getElem?_eq_some_iff.1 hx
    rw [List.take_succ_eq_append_getElem h1,h2]
   have hD1:DOk (K.take j):=by have:=DOk.cut DOk.nil (G:=K) (by simpa using HK.out) HUp.out j;simpa using this
   have hD2:DOk (K.take j++[x]):=by rw [←htk];have:=DOk.cut DOk.nil (G:=K) (by simpa using HK.out) HUp.out (j+1);simpa using this
   have HOne:=κ39 (And.intro htk (oneMore hD1 hD2))
   have HTop:Hid (∀ y∈L,y.id < x.id):=κ39 (letter_below (fun y hy=>hD1.fine hy) HL.out.ln (fun y hy=>by
    have:=HUp.out
    unfold Rising at this
    rw [←List.take_append_drop (j+1) K,htk] at this
    exact (List.pairwise_append.1 (List.pairwise_append.1 this).1).2.2 y hy x (by simp)) HFi.out)
   have HD1:=κ39 hD1
   obtain ⟨W6,hW6⟩:∃ W6,W6=wr.alloc (.cells x.cells 31):=⟨_,rfl⟩
   have HL6:Hid (LnSt K nd (some ⟨bb,off,none⟩) n7 c7 j v L w W6):=κ39 (by rw [hW6];exact HL.out.below ((Below.refl _ _).alloc (Nat.le_refl _) _))
   have HO6:Hid (OpAt W6 wr.heap.size x∧w.heap.size < wr.heap.size):=κ39 ⟨by rw [hW6];exact OpAt.start wr x _,HL.out.m.lt⟩
   clear hx hbl htk hD1 hD2
   go_upto_region 7 with (fail)
   rw [show wr.alloc (.cells #[.int .i64 x.t,.int .i64 x.b,.int .i64 x.n,.int .u8 x.k,.int .i64 x.nd,.int .i64 x.ot,.string x.nm,.string x.vl] 31)=W6 from hW6.symm]
   clear hW6 q0 q1 q2 q3 q4 q5 q6 q7
   obtain ⟨k0,k1,k2,k3,k4,k5,k6,k7⟩:=HO6.out.1
   by_cases hn:x.nd=nd
   ·have hnb:(x.nd == nd)=true:=by simpa using hn
    have HNd:=κ39 hn
    clear hn
    by_cases hk:x.k=105
    ·have hkb:(x.k == 105)=true:=by simpa using hk
     have hkd:(x.k == 100)=false:=by rw [hk];rfl
     have hins:=HL6.out.ln.ins HOne.out.2 hk HNd.out
     have hvl:=HFi.out.val hk
     obtain ⟨ch,hch⟩:∃ ch,x.vl=⟨#[ch]⟩:=by
      cases hv:x.vl with
      | mk d=>
       cases d with
       | mk l=>
        rw [hv] at hvl
        obtain ⟨c0,rfl⟩:=List.length_eq_one_iff.1 hvl
        exact ⟨c0,rfl⟩
     rw [hch] at k7 hins
     have hot:=(HFi.out.ins hk).1
     have hat:insFrom x.ot L≤L.length:=by
      unfold insFrom
      split
      ·have:=ixOf_lt x.ot L;omega
      ·omega
     obtain ⟨at',hat'⟩:∃ at',insFrom x.ot L=at':=⟨_,rfl⟩
     rw [insL_top HTop.out,hat'] at hins
     rw [hat'] at hat
     have HIns:=κ39 hins
     have HAt:=κ39 hat'
     have hLl:=HL6.out.le
     clear hins hvl hat' hk
     go_upto_if 33 with (fail)
     go_cut [9] (fun v9 wd=>v9=.int .i64 (at':Int)∧Hid (Below W6.heap.size W6 wd))
     case first=>
      by_cases ho:0 < x.ot
      ·have HF:=κ39 (mfind_any x.ot w.heap.size w.heap.size v L W6 (by omega) HL6.out.m)
       have hix:ixOf x.ot L+1=(at':Int):=by
        have h1:=HAt.out
        unfold insFrom at h1
        rw [if_pos ho] at h1
        have h2:=HIns.out.1
        unfold insErr at h2
        have:¬ (0 < x.ot∧ixOf x.ot L < 0):=fun hh=>by
         rw [if_pos hh] at h2
         split at h2
         ·cases h2
         ·split at h2 <;> cases h2
        omega
       have s1:IntKind.i64.wrap (ixOf x.ot L+1)=(at':Int):=by rw [hix,IntKind.wrap_i64];omega
       go_wp2_with fail
       refine HF.out.mono ?_
       rintro e wA ⟨rfl,hbA⟩
       have HbA:=κ39 hbA
       clear hbA
       go_wp2_with fail
       go_meet
       case rel=>exact ⟨by first | rw [hix] | rw [s1] | rfl,HbA⟩
      ·have h0:at'=0:=by rw [←HAt.out];unfold insFrom;rw [if_neg ho]
       go_wp2_with fail
       go_meet
       case rel=>exact ⟨by rw [h0];rfl,κ39 (Below.refl _ _)⟩
     case rest=>
      obtain ⟨rfl,HB9⟩:=hcut
      have HLc:=κ39 (HL6.out.below HB9.out)
      have HSx:Hid (∀ w',Fr (·=w.heap.size) wc w'→w'.cell? ⟨wr.heap.size,0,none⟩=some (.int .i64 x.t)∧w'.cell? ⟨wr.heap.size,1,none⟩=some (.int .i64 x.b)∧w'.cell? ⟨wr.heap.size,6,none⟩=some (.string x.nm)∧w'.cell? ⟨wr.heap.size,7,none⟩=some (.string ⟨#[ch]⟩)):=κ39 fun w' hf=>by
       have h:=HO6.out.1.below HB9.out
       have hl:=h.lt
       have hne:wr.heap.size≠w.heap.size:=by have:=HO6.out.2;omega
       obtain ⟨h0,h1,h2,h3,h4,h5,h6,h7⟩:=h
       exact ⟨(hf.cell (p:=⟨wr.heap.size,0,none⟩) hl hne).trans h0,(hf.cell (p:=⟨wr.heap.size,1,none⟩) hl hne).trans h1,(hf.cell (p:=⟨wr.heap.size,6,none⟩) hl hne).trans h6,by rw [←hch];exact (hf.cell (p:=⟨wr.heap.size,7,none⟩) hl hne).trans h7⟩
      have HIo:Hid (∀ w',Calls Tryz.prog 91 #[stampV x.t x.b] w' fun e w''=>e=.returned (.int .i64 (x.t*4+x.b))∧Below w'.heap.size w' w''):=κ39 fun w'=>idOf_ok x.t x.b w' ⟨by have:=HFi.out.t1;omega,HFi.out.t2,HFi.out.b1,HFi.out.b2⟩
      unfold stampV at HIo
      have HLay:Hid (∀ w',Below wc.heap.size wc w'→Calls Tryz.prog 146 #[.pointer (some ⟨w.heap.size,0,none⟩),.int .i64 (at':Int),ltV ⟨x.t*4+x.b,ch,false⟩] w' fun e w''=>e=.returned (.tuple #[])∧∃ v',MSt w.heap.size w.heap.size v' (L.take at'++⟨x.t*4+x.b,ch,false⟩ :: L.drop at') w''∧Fr (fun k=>k=w.heap.size) w' w''∧∀ k,v'.ownBlock=some k→w'.heap.size≤k):=κ39 fun w' hb=>mlay_any w.heap.size w.heap.size v at' ⟨x.t*4+x.b,ch,false⟩ L w' (HLc.out.below hb).bel.size (by omega) hat (HLc.out.below hb).m
      unfold ltV at HLay
      obtain ⟨g0,g1,g6,g7⟩:=HSx.out _ (Fr.of_below (Below.refl _ _).drew)
      clear k0 k1 k2 k3 k4 k5 k6 k7
      go_upto_region 12 with (fail)
      go_cut [] (fun wd=>∃ v',Hid (LnSt K nd (some ⟨bb,off,none⟩) n7 c7 (j+1) v' (L.take at'++⟨x.t*4+x.b,ch,false⟩ :: L.drop at') w wd∧wd.cell? ⟨wr.heap.size,3,none⟩=some (.int .u8 x.k)))
      case first=>
       go_region_held_law (fun w'=>w'.cell? ⟨wr.heap.size,0,none⟩=some (.int .i64 x.t)∧w'.cell? ⟨wr.heap.size,1,none⟩=some (.int .i64 x.b)∧w'.cell? ⟨wr.heap.size,6,none⟩=some (.string x.nm)∧w'.cell? ⟨wr.heap.size,7,none⟩=some (.string ⟨#[ch]⟩)) (exact HSx.out _ (by first | exact Fr.of_below (by assumption) | exact Fr.of_below (Below.refl _ _) | exact Fr.of_below (Below.refl _ _).drew | exact (Fr.of_below (by assumption)).trans (by assumption) | exact (Fr.of_below (Below.refl _ _).drew).trans (by assumption) | exact Fr.of_below (by go_grown)))
        (first
         | (go_at_call 91;refine (HIo.out _).mono ?_;rintro e wA ⟨rfl,hbA⟩;have hA:=bel2 (w0:=wc) (by go_grown) hbA;have sA:=hA.size)
         | (go_at_call 146;refine (HLay.out _ (by first | assumption | go_grown)).mono ?_;rintro e wL ⟨rfl,v',hM',hFl,hvl⟩))
       all_goals
        rename_i hH
        clear hH
        go_wp2_with fail
        go_meet
        case rel=>
         refine ⟨v',κ39 ⟨(HLc.out.below hA).laid hM' (hFl.mono fun k hk=>.inl hk) (fun k hk=>.inr (hvl k hk)) (by rw [HOne.out.1];exact HIns.out.2) (by rw [List.length_append,List.length_cons,List.length_take,List.length_drop];omega),?_⟩⟩
         have h:=HO6.out.1.below (bel2 HB9.out hA)
         exact (hFl.cell (p:=⟨wr.heap.size,3,none⟩) h.lt (by have:=HO6.out.2;simp;omega)).trans h.c3
      case rest=>
       obtain ⟨v',HLn⟩:=hcut
       have k3:=HLn.out.2
       go_wp2_with fail
       go_roundw
       case rel=>exact ⟨j+1,v',_,by omega,by go_num,κ39 HLn.out.1⟩
       case measure=>simp [RowKit.intOf];omega
    ·have hkb:(x.k == 105)=false:=by simpa using hk
     by_cases hkd':x.k=100
     ·have hkd:(x.k == 100)=true:=by simpa using hkd'
      have hLl:=HL6.out.le
      have HDl:=κ39 (mdelete_any w.heap.size w.heap.size v x.ot L W6 HL6.out.bel.size (by omega) HL6.out.m)
      have HLd:=κ39 (HL6.out.ln.del HOne.out.2 hkd' HNd.out)
      unfold MDelEnd at HDl
      clear hk hkd'
      go_wp2_with fail
      refine HDl.out.mono ?_
      rintro e wA ⟨rfl,hM',hFl⟩
      have HNx:Hid (LnSt K nd (some ⟨bb,off,none⟩) n7 c7 (j+1) v (delL x.ot L) w wA):=κ39 (HL6.out.laid hM' hFl (fun k hk=>.inl hk) (by rw [HOne.out.1];exact HLd.out.2) (by rw [delL_len];omega))
      clear hM' hFl
      go_wp2_with fail
      go_roundw
      case rel=>exact ⟨j+1,v,_,by omega,by go_num,HNx⟩
      case measure=>simp [RowKit.intOf];omega
     ·have hkd:(x.k == 100)=false:=by simpa using hkd'
      have HNx:Hid (LnSt K nd (some ⟨bb,off,none⟩) n7 c7 (j+1) v L w W6):=κ39 ⟨HL6.out.m,HL6.out.row,by rw [HOne.out.1];exact HL6.out.ln.other HOne.out.2 (fun h=>hk h.1) (fun h=>hkd' h.1),by have:=HL6.out.le;omega,HL6.out.ne,HL6.out.bel⟩
      clear hk hkd'
      go_wp2_with fail
      go_roundw
      case rel=>exact ⟨j+1,v,L,by omega,by go_num,HNx⟩
      case measure=>simp [RowKit.intOf];omega
   ·have hnb:(x.nd == nd)=false:=by simpa using hn
    have HNx:Hid (LnSt K nd (some ⟨bb,off,none⟩) n7 c7 (j+1) v L w W6):=κ39 ⟨HL6.out.m,HL6.out.row,by rw [HOne.out.1];exact HL6.out.ln.other HOne.out.2 (fun h=>hn h.2) (fun h=>hn h.2),by have:=HL6.out.le;omega,HL6.out.ne,HL6.out.bel⟩
    clear hn
    go_wp2_with fail
    go_roundw
    case rel=>exact ⟨j+1,v,L,by omega,by go_num,HNx⟩
    case measure=>simp [RowKit.intOf];omega
  ·have j1:¬ (j:Int) < (n7:Int):=by omega
   obtain rfl:j=n7:=by omega
   have htk:K.take j=K:=by rw [HN7.out];exact List.take_length
   go_wp2_with fail
   go_ret
   refine ⟨w.heap.size,v,L,rfl,HL.out.m,?_,by have:=HL.out.le;have:=HN7.out;omega,HL.out.bel⟩
   have:=HL.out.ln
   rw [htk] at this
   exact this
def TxEnds (K:List OpT) (nd:Int) (w:World) (e:Ending) (w':World):Prop:=∃ L,LineOf K nd L∧L.length≤K.length∧e=.returned (.string (S (txtL L)))∧Below w.heap.size w w'
theorem mText_any (MB:Nat) (b:Int) (A:Option Addr) (n c:Nat) (K:List OpT) (nd:Int) (w:World) (h:MRep MB b A n c K w) (hK:DOk K) (hup:Rising K) (hl:K.length≤1000) :
  Calls Tryz.prog 48 #[ptrV MB,.int .i64 nd] w (TxEnds K nd w):=by
 have HKn:=κ39 (mKnown_any MB b A n c K nd w h (fun o ho=>hK.fine ho) (by omega))
 have HM:=κ39 h
 have HK:=κ39 (And.intro hK hup)
 unfold ptrV KnEnds at HKn
 unfold ptrV
 clear h hK hup
 go_enter Tryz.func48,Tryz.ntmps48
 go_wp2_with fail
 refine HKn.out.mono ?_
 rintro e w1 ⟨kb,rfl,hk,hb1⟩
 have HKb:=κ39 hk
 have HB1:=κ39 hb1
 clear hk hb1 HKn
 cases kb with
 | false=>
  go_wp2_with fail
  go_ret
  refine ⟨[],LineOf.nil nd (fun x hx=>?_),Nat.zero_le _,rfl,HB1.out⟩
  obtain ⟨o,ho,h1,h2,_⟩:=hx
  have:=((HK.out.1.refs o ho).ins h1).1
  rw [h2] at this
  have:=HKb.out.2 this
  cases this
 | true=>
  have hM1:=HM.out.below HB1.out
  have c1:=hM1.c1
  have HLn:=κ39 (mLineOf_any A n c K nd w1 hM1.sl HK.out.1 HK.out.2 hl)
  unfold LnEnds at HLn
  clear hM1
  go_wp2_with fail
  refine HLn.out.mono ?_
  rintro e w2 ⟨LB,v,L,rfl,hm,hln,hle,hb2⟩
  have HTx:=κ39 (mtext_any w1.heap.size LB v L w2 (by omega) hm)
  have HLe:=κ39 hle
  have HL:=κ39 (And.intro hln (bel2 HB1.out hb2))
  clear hm hln hle hb2 HLn
  unfold ptrV
  go_wp2_with fail
  refine HTx.out.mono ?_
  rintro e w3 ⟨rfl,hb3⟩
  have HB3:=κ39 (bel2 HL.out.2 hb3)
  clear hb3 HTx
  go_wp2_with fail
  go_ret
  exact ⟨L,HL.out.1,HLe.out,rfl,HB3.out⟩
def MkEndsM (K:List OpT) (w:World) (e:Ending) (w':World):Prop:=∃ (CB:Nat) (v:Value) (L:List DMk) (m:MapC),e=.returned (ptrV CB)∧DSt w.heap.size CB v L w'∧Rep L m∧BestAll (InL K) m∧L.length≤K.length∧Below w.heap.size w w'
theorem mMarks_any (MB:Nat) (b:Int) (A:Option Addr) (n c:Nat) (K:List OpT) (w:World) (h:MRep MB b A n c K w) (hK:DOk K) (hl:K.length≤1000) :
  Calls Tryz.prog 102 #[ptrV MB] w (MkEndsM K w):=by
 have HM:=κ39 h
 have HN:=κ39 h.sl.len
 have HK:=κ39 hK
 have hn5:n≤1000:=by have:=h.sl.len;omega
 have HD0:Hid (DSt w.heap.size w.heap.size (.slice none 0 0) [] (w.alloc (.cells #[.slice none 0 0] 178))):=κ39 ⟨by simp [go_sem],fun o=>by simp [go_sem],Rw.nil _ _ _ _,by simp [Value.ownBlock],Nat.le_refl _⟩
 clear h hK
 unfold ptrV
 go_enter Tryz.func102,Tryz.ntmps102
 go_wp2_with fail
 go_loopw [4] (fun v4 wr=>∃ (j:Nat) (v:Value) (L:List DMk) (m:MapC),j≤n∧v4=.int .i64 j∧Hid (DSt w.heap.size w.heap.size v L wr∧Rep L m∧BestAll (InL (K.take j)) m∧L.length≤j∧Below w.heap.size w wr)) (fun v4 _=>n - (RowKit.intOf v4).toNat)
 case atStart=>exact ⟨0,_,[],fun _=>none,by omega,rfl,κ39 ⟨HD0.out,Rep.start,BestAll.start,Nat.le_refl _,(Below.refl _ _).alloc (Nat.le_refl _) _⟩⟩
 case round=>
  obtain ⟨j,v,L,m,hj,rfl,HA⟩:=hrel
  have hM:=HM.out.below HA.out.2.2.2.2
  have c1:=hM.c1
  by_cases hlt:j < n
  ·obtain ⟨x,hx⟩:∃ x,K[j]?=some x:=⟨_,List.getElem?_eq_getElem (by have:=HN.out;omega)⟩
   have hxm:=List.mem_of_getElem? hx
   obtain ⟨bb,off,rfl,hbl,q0,q1,q2,q3,q4,q5,q6,q7⟩:=ops_at hM.sl hx
   have j0:(0:Int)≤(j:Int):=by omega
   have j1:(j:Int) < (n:Int):=by omega
   have htk:K.take (j+1)=K.take j++[x]:=by
    obtain ⟨h1,h2⟩:=List.getElem?_eq_some_iff.1 hx
    rw [List.take_succ_eq_append_getElem h1,h2]
   have HTk:=κ39 htk
   by_cases hk:x.k=115
   ·have hkb:(x.k == 115)=true:=by simpa using hk
    have hle:=HA.out.2.2.2.1
    have HSt:=κ39 (dset_any w.heap.size w.heap.size v L m x wr (HK.out.wf x hxm) HA.out.2.2.2.2.size (by omega) HA.out.1 HA.out.2.1)
    have HEr:=κ39 (HK.out.er x hxm)
    have HKx:=κ39 hk
    clear hM hx hxm htk hk hbl
    go_wp2_with fail
    refine HSt.out.mono ?_
    rintro e w1 ⟨v',L',rfl,hR',hL',hD',hF',hv'⟩
    have HNx:Hid (DSt w.heap.size w.heap.size v' L' w1∧Rep L' (setC m x).1∧BestAll (InL (K.take (j+1))) (setC m x).1∧L'.length≤j+1∧Below w.heap.size w w1):=κ39 ⟨hD',hR',by rw [HTk.out];exact best_set HA.out.2.2.1,by omega,HA.out.2.2.2.2.trans (hF'.below HA.out.2.2.2.2.size (fun k hk=>by
     rcases hk with e | e
     ·omega
     ·exact (HA.out.1.own.lt k e).1))⟩
    clear hR' hL' hD' hF' hv' HSt
    go_wp2_with fail
    go_roundw
    case rel=>exact ⟨j+1,v',L',_,by omega,by go_num,HNx⟩
    case measure=>simp [RowKit.intOf];omega
   ·have hkb:(x.k == 115)=false:=by simpa using hk
    have HBn:Hid (BestAll (InL (K.take (j+1))) m):=κ39 (by rw [htk];exact best_no HA.out.2.2.1 hk)
    clear hM hx hxm htk hk hbl
    go_wp2_with fail
    go_roundw
    case rel=>exact ⟨j+1,v,L,m,by omega,by go_num,κ39 ⟨HA.out.1,HA.out.2.1,HBn.out,by have:=HA.out.2.2.2.1;omega,HA.out.2.2.2.2⟩⟩
    case measure=>simp [RowKit.intOf];omega
  ·have j1:¬ (j:Int) < (n:Int):=by omega
   obtain rfl:j=n:=by omega
   have htk:K.take j=K:=by rw [HN.out];exact List.take_length
   have HTk:=κ39 htk
   clear hM htk
   go_wp2_with fail
   go_ret
   have hB:=HA.out.2.2.1
   rw [HTk.out] at hB
   exact ⟨w.heap.size,v,L,m,rfl,HA.out.1,HA.out.2.1,hB,by have:=HA.out.2.2.2.1;have:=HN.out;omega,HA.out.2.2.2.2⟩
def nlB (L:List ByteArray):ByteArray:=L.foldl (fun a x=>a++⟨#[10]⟩++x) ⟨#[]⟩
theorem nlB_snoc (L:List ByteArray) (x:ByteArray):nlB (L++[x])=nlB L++⟨#[10]⟩++x:=by unfold nlB;rw [List.foldl_append];rfl
theorem nlB_from (L:List ByteArray):∀ a:ByteArray,(L.foldl (fun a x=>a++⟨#[10]⟩++x) a).data.toList=a.data.toList++((L.map (·.data.toList)).map ([10]++·)).flatten:=by
 induction L with
 | nil=>intro a;simp
 | cons x r ih=>
  intro a
  rw [List.foldl_cons,ih]
  simp [ByteArray.data_append,List.append_assoc]
theorem nlB_data (L:List ByteArray):(nlB L).data.toList=((L.map (·.data.toList)).map ([10]++·)).flatten:=by
 unfold nlB
 rw [nlB_from]
 rfl
theorem nlB_nil {L:List ByteArray}:nlB L=⟨#[]⟩↔L=[]:=by
 constructor
 ·intro h
  cases L with
  | nil=>rfl
  | cons x r=>
   have:=nlB_data (x :: r)
   rw [h] at this
   simp at this
 ·rintro rfl;rfl
def idB (o:OpT):Bool:=decide (o.k=109∧o.nd=o.id)
def idsOf (K:List OpT):List Int:=(K.filter idB).map OpT.id
theorem idsOf_succ {K:List OpT} {j:Nat} {x:OpT} (hx:K[j]?=some x):idsOf (K.take (j+1))=if idB x then idsOf (K.take j)++[x.id] else idsOf (K.take j):=by
 obtain ⟨h1,h2⟩:=List.getElem?_eq_some_iff.1 hx
 unfold idsOf
 rw [List.take_succ_eq_append_getElem h1,h2,List.filter_append]
 cases h:idB x <;> simp [h]
theorem idsOf_up {K:List OpT} (hf:∀ o∈K,OpFine o) (hup:Rising K):(idsOf K).Pairwise (· < ·):=by
 unfold idsOf
 rw [List.pairwise_map]
 have h2:(K.filter idB).Pairwise fun x y=>opLt x y=true:=List.Pairwise.sublist List.filter_sublist hup
 refine h2.imp_of_mem fun {a b} ha hb hab=>?_
 exact (lt_of_id (hf a (List.mem_filter.1 ha).1) (hf b (List.mem_filter.1 hb).1)).1 hab
theorem idsOf_mem {K:List OpT} (x:Int):x∈idsOf K↔Known K x:=by
 unfold idsOf
 rw [List.mem_map]
 constructor
 ·rintro ⟨o,ho,rfl⟩
  obtain ⟨h1,h2⟩:=List.mem_filter.1 ho
  obtain ⟨h3,h4⟩:=of_decide_eq_true h2
  exact ⟨o,h1,h3,h4,rfl⟩
 ·rintro ⟨o,ho,h1,h2,h3⟩
  exact ⟨o,List.mem_filter.2 ⟨ho,decide_eq_true ⟨h1,by rw [h2,h3]⟩⟩,h3⟩
theorem moves_log {K:List OpT} (hup:Rising K):movesOf (sortOps K)=logOf K:=by
 rw [sort_self hup]
 unfold logOf movesOf
 have h2:Rising (K.filter movB):=List.Pairwise.sublist List.filter_sublist hup
 rw [sort_self h2]
 refine List.filter_congr fun o _=>?_
 unfold movB
 by_cases h:o.k=109 <;> simp [h]
def dmLine (x:DMk):ByteArray:=mkLine ⟨x.nd,x.nm,x.vl⟩
theorem stateM_of {K:List OpT} (hK:DOk K) (hup:Rising K) {Q:List PlT} {T:Int→List UInt8} {L:List DMk} {m:MapC} (hQ:RepP Q (runO p00 (movesOf (sortOps K)))) (hT:∀ x,Known K x→∃ L,LineOf K x L∧T x=txtL L) (hR:Rep L m) (hB:BestAll (InL K) m) :
  StateOf K (joinB (Q.map plLine++txLines T (idsOf K)++(fullL L).map dmLine)):=by
 rw [moves_log hup] at hQ
 have hs:((fullL L).map DMk.key).Pairwise (fun x y=>kLt x y=true):=hR.so.sublist ((List.filter_sublist).map _)
 have hk:∀ k,k∈(fullL L).map DMk.key↔(KeyOk k∧∃ c,m k=some c∧c.v.size≠0):=fun k=>by
  rw [List.mem_map]
  constructor
  ·rintro ⟨y,hy,rfl⟩
   obtain ⟨hy,hv⟩:=List.mem_filter.1 hy
   refine ⟨hR.ok y hy,y.cell,hR.at' hy,fun h0=>?_⟩
   have:=(empty_iff y.vl).2 h0
   rw [this] at hv;cases hv
  ·rintro ⟨hk,c,hc,hv⟩
   obtain ⟨y,hy,hyk,rfl⟩:=(hR.is k c).1 hc
   refine ⟨y,List.mem_filter.2 ⟨hy,?_⟩,hyk⟩
   simp only [Bool.not_eq_true']
   cases hh:(y.vl.toList == []) with
   | false=>rfl
   | true=>exact absurd ((empty_iff _).1 hh) hv
 refine ⟨Q,idsOf K,T,(fullL L).map DMk.key,m,hQ,idsOf_up (fun o ho=>hK.fine ho) hup,idsOf_mem,hT,hB,hs,hk,?_⟩
 unfold stateB
 rw [hR.marks hs hk,List.map_map]
 rfl
theorem nlB_join {L:List ByteArray} (h:L≠[]):(nlB L).data.toList=10 :: (joinB L).data.toList:=by
 cases L with
 | nil=>exact absurd rfl h
 | cons x r=>
  rw [nlB_data]
  unfold joinB
  rw [List.map_cons,Lib.join_cons]
  show _=10 :: (x.data.toList++Lib.joinTail [10] (r.map (·.data.toList)))
  unfold Lib.joinTail
  rw [List.map_cons,List.flatten_cons]
  rfl
def SmEnds (K:List OpT) (w:World) (e:Ending) (w':World):Prop:=∃ str,e=.returned (.string str)∧StateOf K str∧Below w.heap.size w w'
theorem plc_ok {K:List OpT} (hK:DOk K) {Q:List PlT} (hQ:RepP Q (runO p00 (movesOf (sortOps K)))):∀ y∈Q,I64 y.nd∧I64 y.into∧y.nm.size≤100000:=fun y hy=>by
 have h:=(hQ.is y).1 hy
 rcases run_from _ h with h0 | ⟨o,ho,h1,h2⟩
 ·cases h0
 ·have hw:=hK.wf o (sortOps_mem.1 (List.mem_filter.1 ho).1)
  have e1:=congrArg Prod.fst h2
  have e2:=congrArg Prod.snd h2
  simp only at e1 e2
  rw [←h1,e1,e2]
  exact ⟨⟨hw.nd1,hw.nd2⟩,⟨hw.ot1,hw.ot2⟩,hw.nm1⟩
theorem dm_at {w:World} {A:Option Addr} {n c:Nat} {L:List DMk} (h:SlV dmkE w (.slice A n c) L) {i:Nat} {y:DMk} (hy:L[i]?=some y) :
  ∃ b off,A=some ⟨b,off,none⟩∧b < w.heap.size∧w.cell? ⟨b,off+i*5,none⟩=some (.int .i64 y.nd)∧w.cell? ⟨b,off+i*5+1,none⟩=some (.string y.nm)∧w.cell? ⟨b,off+i*5+2,none⟩=some (.string y.vl):=by
 obtain ⟨b,off,e,hb,hc⟩:=h.at' (by decide) hy
 refine ⟨b,off,e,hb,?_⟩
 have g:∀ j u,(dmkE.cells y)[j]?=some u→w.cell? ⟨b,off+i*5+j,none⟩=some u:=fun j u hu=>by rw [Nat.add_assoc];exact hc j u hu
 exact ⟨g 0 _ rfl,g 1 _ rfl,g 2 _ rfl⟩
theorem Bstr.drop1 {b z:ByteArray} {c:UInt8} (h:b.data.toList=c :: z.data.toList):b.extract 1 b.size=z:=by
 obtain ⟨⟨l⟩⟩:=b
 obtain ⟨⟨m⟩⟩:=z
 simp only at h
 subst h
 simp [ByteArray.extract,ByteArray.copySlice,ByteArray.size]
theorem dm_ok {K:List OpT} {L:List DMk} {m:MapC} (hK:DOk K) (hR:Rep L m) (hB:BestAll (InL K) m):∀ y∈L,I64 y.nd∧y.nm.size≤100000∧y.vl.size≤100000:=fun y hy=>by
 obtain ⟨o,ho,_,_,h1,h2⟩:=((hB y.key (hR.ok y hy)).is y.cell (hR.at' hy)).1
 have hw:=hK.wf o ho
 have e1:o.nd=y.nd:=congrArg Prod.fst h1
 have e2:o.nm=y.nm:=congrArg Prod.snd h1
 have e3:y.vl=o.vl:=congrArg CellT.v h2
 rw [←e1,←e2,e3]
 exact ⟨⟨hw.nd1,hw.nd2⟩,hw.nm1,hw.vl1⟩
theorem mState_any (MB:Nat) (b:Int) (A:Option Addr) (n c:Nat) (K:List OpT) (w:World) (h:MRep MB b A n c K w) (hK:DOk K) (hup:Rising K) (hl:K.length≤1000) :
  Calls Tryz.prog 42 #[ptrV MB] w (SmEnds K w):=by
 have HM:=κ39 h
 have c1:=h.c1
 have HPl:=κ39 (placesOf_any A n c K w h.sl hl)
 have HK:=κ39 (And.intro hK hup)
 have HN:=κ39 h.sl.len
 have hnn:n≤1000:=by have:=h.sl.len;omega
 unfold PlEnds at HPl
 clear h hK hup
 unfold ptrV
 go_enter Tryz.func42,Tryz.ntmps42
 go_wp2_with fail
 refine HPl.out.mono ?_
 rintro e w1 ⟨v4,Q,rfl,hr1,hQ,hQl,hb1⟩
 obtain ⟨A4,n4,c4,rfl⟩:=hr1.slice
 have hn4:n4=Q.length:=hr1.sl.len
 have hn5:n4≤1000:=by omega
 have HN4:=κ39 hn4
 have HR1:=κ39 hr1
 have HQ:=κ39 hQ
 have HOk:=κ39 (plc_ok HK.out.1 hQ)
 have HB1:=κ39 hb1
 clear hr1 hQ hQl hb1 hn4 HPl c1
 go_wp2_with fail
 go_loopw [3,5] (fun v3 v5 wr=>∃ (j:Nat) (out:ByteArray),j≤n4∧v5=.int .i64 j∧v3=.string out∧Hid (out=nlB ((Q.take j).map plLine))∧out.size≤j*100100∧Hid (Below w1.heap.size w1 wr)) (fun _ v5 _=>n4 - (RowKit.intOf v5).toNat)
 case atStart=>exact ⟨0,⟨#[]⟩,by omega,rfl,rfl,κ39 rfl,Nat.le_refl _,κ39 (Below.refl _ _)⟩
 case round=>
  obtain ⟨j,out,hj,rfl,rfl,HOut,hsz,HB⟩:=hrel
  by_cases hlt:j < n4
  ·obtain ⟨x,hx⟩:∃ x,Q[j]?=some x:=⟨_,List.getElem?_eq_getElem (by have:=HN4.out;omega)⟩
   have hxo:=HOk.out x (List.mem_of_getElem? hx)
   obtain ⟨bb,off,rfl,hbl,hq0,hq1,hq2⟩:=pl_at (HR1.out.below HB.out).sl hx
   have j0:(0:Int)≤(j:Int):=by omega
   have j1:(j:Int) < (n4:Int):=by omega
   have HTk:Hid ((Q.take (j+1)).map plLine=(Q.take j).map plLine++[plLine x]):=κ39 (by
    obtain ⟨h1,h2⟩:=List.getElem?_eq_some_iff.1 hx
    rw [←List.take_append_getElem h1,h2,List.map_append]
    rfl)
   have HX:=κ39 hx
   obtain ⟨D,hD⟩:∃ D:Int→ByteArray,∀ z,D z=S (Lib.itoa z):=⟨_,fun _=>rfl⟩
   have hD0:=hD x.nd
   have hD1:=hD x.into
   obtain ⟨V1,hV1⟩:∃ V1,V1=out++⟨#[10]⟩:=⟨_,rfl⟩
   obtain ⟨V2,hV2⟩:∃ V2,V2=V1++D x.nd:=⟨_,rfl⟩
   obtain ⟨V3,hV3⟩:∃ V3,V3=V2++⟨#[32,105,110,32]⟩:=⟨_,rfl⟩
   obtain ⟨V4,hV4⟩:∃ V4,V4=V3++D x.into:=⟨_,rfl⟩
   obtain ⟨V5,hV5⟩:∃ V5,V5=V4++⟨#[32]⟩:=⟨_,rfl⟩
   obtain ⟨V6,hV6⟩:∃ V6,V6=V5++x.nm:=⟨_,rfl⟩
   have HV:Hid (V6=nlB ((Q.take (j+1)).map plLine)):=κ39 (by
    rw [HTk.out,nlB_snoc,←HOut.out,hV6,hV5,hV4,hV3,hV2,hV1,hD0,hD1]
    unfold plLine
    simp only [ByteArray.append_assoc])
   have z0:(D x.nd).size≤21:=by rw [hD0];exact itoa_len20 _ hxo.1.1 hxo.1.2
   have z1:(D x.into).size≤21:=by rw [hD1];exact itoa_len20 _ hxo.2.1.1 hxo.2.1.2
   have y1:V1.size=out.size+1:=by rw [hV1,ByteArray.size_append];rfl
   have y2:V2.size=V1.size+(D x.nd).size:=by rw [hV2,ByteArray.size_append]
   have y3:V3.size=V2.size+4:=by rw [hV3,ByteArray.size_append];rfl
   have y4:V4.size=V3.size+(D x.into).size:=by rw [hV4,ByteArray.size_append]
   have y5:V5.size=V4.size+1:=by rw [hV5,ByteArray.size_append];rfl
   have y6:V6.size=V5.size+x.nm.size:=by rw [hV6,ByteArray.size_append]
   have y7:=hxo.2.2
   have m1:∀ w,(Op.stringOp .add out ⟨#[10]⟩).run Tryz.prog w=.ok (.string V1) w:=fun w=>by rw [hV1];exact run_string_add_sum (P:=Tryz.prog) (w:=w) _ _ (by show out.size+1≤_;omega)
   have m2:∀ w,(Op.stringOp .add V1 (D x.nd)).run Tryz.prog w=.ok (.string V2) w:=fun w=>by rw [hV2];exact run_string_add_sum (P:=Tryz.prog) (w:=w) _ _ (by omega)
   have m3:∀ w,(Op.stringOp .add V2 ⟨#[32,105,110,32]⟩).run Tryz.prog w=.ok (.string V3) w:=fun w=>by rw [hV3];exact run_string_add_sum (P:=Tryz.prog) (w:=w) _ _ (by show V2.size+4≤_;omega)
   have m4:∀ w,(Op.stringOp .add V3 (D x.into)).run Tryz.prog w=.ok (.string V4) w:=fun w=>by rw [hV4];exact run_string_add_sum (P:=Tryz.prog) (w:=w) _ _ (by omega)
   have m5:∀ w,(Op.stringOp .add V4 ⟨#[32]⟩).run Tryz.prog w=.ok (.string V5) w:=fun w=>by rw [hV5];exact run_string_add_sum (P:=Tryz.prog) (w:=w) _ _ (by show V4.size+1≤_;omega)
   have m6:∀ w,(Op.stringOp .add V5 x.nm).run Tryz.prog w=.ok (.string V6) w:=fun w=>by rw [hV6];exact run_string_add_sum (P:=Tryz.prog) (w:=w) _ _ (by omega)
   have hsz2:V6.size≤(j+1)*100100:=by omega
   have i0:=hxo.1
   have i1:=hxo.2.1
   have HI:Hid (∀ w' z,I64 z→Calls Tryz.prog 75 #[.int .i64 z] w' fun e w''=>e=.returned (.string (D z))∧Below w'.heap.size w' w''):=κ39 fun w' z hz=>by rw [hD];exact decimal_any z w' hz.1 hz.2
   have HI0:=κ39 (And.intro i0 i1)
   clear i0 i1
   have HKp:Hid (∀ w',Below wr.heap.size wr w'→Below wr.heap.size wr w'∧w'.cell? ⟨bb,off+j*3,none⟩=some (.int .i64 x.nd)∧w'.cell? ⟨bb,off+j*3+1,none⟩=some (.int .i64 x.into)∧w'.cell? ⟨bb,off+j*3+2,none⟩=some (.string x.nm)):=κ39 fun w' hb=>by
    obtain ⟨bb',off',hA,_,h0,h1,h2⟩:=pl_at (HR1.out.below (bel2 HB.out hb)).sl HX.out
    cases hA
    exact ⟨hb,h0,h1,h2⟩
   clear hbl hq0 hq1 hq2 hx hxo hD hD0 hD1 hV1 hV2 hV3 hV4 hV5 hV6 z0 z1 y1 y2 y3 y4 y5 y6 y7
   obtain ⟨k0,k1,k2⟩:=(HKp.out _ (Below.refl _ _).drew).2
   go_upto_region 6 with (fail)
   go_region_held_law (fun w'=>Below wr.heap.size wr w'∧w'.cell? ⟨bb,off+j*3,none⟩=some (.int .i64 x.nd)∧w'.cell? ⟨bb,off+j*3+1,none⟩=some (.int .i64 x.into)∧w'.cell? ⟨bb,off+j*3+2,none⟩=some (.string x.nm)) (exact HKp.out _ (by go_grown))
    (first
     | (go_at_call 75;refine (HI.out _ _ (by first | exact HI0.out.1 | exact HI0.out.2)).mono ?_;rintro e wA ⟨rfl,hbA⟩;have hA:=bel2 (w0:=wr) (by go_grown) hbA;have sA:=hA.size))
   all_goals
    rename_i hH
    have HH:=κ39 hH.1
    clear hH
    go_wp2_with fail
    go_roundw
    case rel=>exact ⟨j+1,V6,by omega,by go_num,rfl,HV,hsz2,κ39 (bel2 HB.out HH.out)⟩
    case measure=>simp [RowKit.intOf];omega
  ·obtain rfl:j=n4:=by omega
   have j1:¬ (j:Int) < (j:Int):=by omega
   have htk:Q.take j=Q:=by rw [HN4.out];exact List.take_length
   rw [htk] at HOut
   have HB2:=κ39 (bel2 HB1.out HB.out)
   clear htk HB HB1
   go_upto_region 7 with (fail)
   go_wp2_with fail
   obtain ⟨T,hT⟩:∃ T:Int→List UInt8,∀ x L,LineOf K x L→T x=txtL L:=by
    classical
    refine ⟨fun x=>if h:∃ L,LineOf K x L then txtL (Classical.choose h) else [],fun x L hL=>?_⟩
    have h:∃ L,LineOf K x L:=⟨L,hL⟩
    simp only [dif_pos h]
    rw [LineOf.unique HK.out.1.lines (fun _=>Iff.rfl) (Classical.choose_spec h) hL]
   have HT:=κ39 hT
   clear hT
   go_loopw [3,6] (fun v3 v6 wr=>∃ (q:Nat) (out:ByteArray),q≤n∧v6=.int .i64 q∧v3=.string out∧Hid (out=nlB (Q.map plLine++txLines T (idsOf (K.take q))))∧out.size≤j*100100+q*2000∧Hid (∀ x∈idsOf (K.take q),∃ L,LineOf K x L)∧Hid (Below w.heap.size w wr)) (fun _ v6 _=>n - (RowKit.intOf v6).toNat)
   case atStart=>exact ⟨0,out,by omega,rfl,rfl,κ39 (HOut.out.trans (by rw [List.take_zero];show _=nlB (_++[]);rw [List.append_nil])),Nat.le_trans hsz (Nat.le_add_right _ _),κ39 (by rw [List.take_zero];intro x hx;cases hx),HB2⟩
   case round=>
    obtain ⟨q,out2,hq,rfl,rfl,HOut2,hsz2,HEx,HBq⟩:=hrel
    have hM:=HM.out.below HBq.out
    have c1:=hM.c1
    by_cases hlt2:q < n
    ·obtain ⟨x,hx⟩:∃ x,K[q]?=some x:=⟨_,List.getElem?_eq_getElem (by have:=HN.out;omega)⟩
     have hxm:=List.mem_of_getElem? hx
     have HFi:=κ39 (HK.out.1.fine hxm)
     obtain ⟨bb,off,rfl,hbl,q0,q1,q2,q3,q4,q5,q6,q7⟩:=ops_at hM.sl hx
     have j0:(0:Int)≤(q:Int):=by omega
     have j2:(q:Int) < (n:Int):=by omega
     have HX:=κ39 hx
     have HId:=κ39 (idOf_ok x.t x.b wr ⟨by have:=HFi.out.t1;omega,HFi.out.t2,HFi.out.b1,HFi.out.b2⟩)
     unfold stampV at HId
     clear hM hx hxm hbl
     go_wp2_with fail
     refine HId.out.mono ?_
     rintro e w3 ⟨rfl,hb3⟩
     have HB3:=κ39 (bel2 HBq.out hb3)
     have hM3:=HM.out.below HB3.out
     have c3:=hM3.c1
     obtain ⟨bb',off',hA,hbl,q0,q1,q2,q3,q4,q5,q6,q7⟩:=ops_at hM3.sl HX.out
     cases hA
     clear hM3 hb3 hbl c1
     have HTk:=κ39 (idsOf_succ HX.out)
     by_cases hk:x.k=109
     ·have hkb:(x.k == 109)=true:=by simpa using hk
      by_cases hid:x.nd=x.t*4+x.b
      ·have hib:(x.nd == x.t*4+x.b)=true:=by simpa using hid
       have HIb:Hid (idB x=true):=κ39 (decide_eq_true ⟨hk,hid⟩)
       clear hid
       obtain ⟨id,hidv⟩:∃ id:Int,x.t*4+x.b=id:=⟨_,rfl⟩
       have HIv:=κ39 hidv
       have HIr:=κ39 HFi.out.idr
       have HTx:=κ39 (mText_any MB b _ n c K id w3 (HM.out.below HB3.out) HK.out.1 HK.out.2 hl)
       unfold TxEnds ptrV at HTx
       rw [hidv] at hib ⊢
       clear hidv
       go_wp2_with fail
       refine HTx.out.mono ?_
       rintro e w4 ⟨L,hL,hLl,rfl,hb4⟩
       obtain ⟨TX,hTX⟩:∃ TX,S (txtL L)=TX:=⟨_,rfl⟩
       have HTX:Hid (S (T id)=TX):=κ39 (by rw [HT.out id L hL,hTX])
       have HB4:=κ39 (bel2 HB3.out hb4)
       have HExn:Hid (∀ y∈idsOf (K.take (q+1)),∃ L,LineOf K y L):=κ39 (by
        rw [HTk.out,HIb.out,if_pos rfl]
        intro y hy
        rcases List.mem_append.1 hy with h | h
        ·exact HEx.out y h
        ·rw [List.mem_singleton.1 h,show x.id=id from HIv.out];exact ⟨L,hL⟩)
       have hTs:TX.size≤1000:=by
        rw [←hTX]
        show (txtL L).toArray.size≤1000
        have:=txtL_len L
        simp only [List.size_toArray]
        omega
       rw [hTX]
       obtain ⟨tb,htb⟩:∃ tb,(TX.toList == [])=tb:=⟨_,rfl⟩
       clear hL hLl hTX hb4 HTx
       cases tb with
       | true=>
        have HTl:Hid (txLines T (idsOf (K.take (q+1)))=txLines T (idsOf (K.take q))):=κ39 (by
         rw [HTk.out,HIb.out,if_pos rfl,txLines_snoc,show x.id=id from HIv.out,HTX.out,if_pos (by
          have h:=htb
          rw [beq_iff_eq,ByteArray.toList_eq] at h
          obtain ⟨⟨l⟩⟩:=TX
          simp at h
          rw [h]),List.append_nil])
        go_wp2_with fail
        go_roundw
        case rel=>exact ⟨q+1,out2,by omega,by go_num,rfl,κ39 (by rw [HTl.out];exact HOut2.out),Nat.le_trans hsz2 (by omega),HExn,HB4⟩
        case measure=>simp [RowKit.intOf];omega
       | false=>
        obtain ⟨D,hD⟩:∃ D,D=S (Lib.itoa id):=⟨_,rfl⟩
        obtain ⟨V1,hV1⟩:∃ V1,V1=out2++⟨#[10]⟩:=⟨_,rfl⟩
        obtain ⟨V2,hV2⟩:∃ V2,V2=V1++D:=⟨_,rfl⟩
        obtain ⟨V3,hV3⟩:∃ V3,V3=V2++⟨#[32,116,101,120,116,32]⟩:=⟨_,rfl⟩
        obtain ⟨V4,hV4⟩:∃ V4,V4=V3++TX:=⟨_,rfl⟩
        have hir:=HIr.out
        rw [show x.id=id from HIv.out] at hir
        have HTl:Hid (V4=nlB (Q.map plLine++txLines T (idsOf (K.take (q+1))))):=κ39 (by
         rw [HTk.out,HIb.out,if_pos rfl,txLines_snoc,show x.id=id from HIv.out,HTX.out,if_neg (fun h=>by
          have h2:((⟨#[]⟩:ByteArray).toList == [])=true:=by rw [ByteArray.toList_eq];rfl
          rw [h,h2] at htb
          cases htb),←List.append_assoc,nlB_snoc,←HOut2.out,hV4,hV3,hV2,hV1,hD]
         unfold txLine
         simp only [ByteArray.append_assoc])
        have z0:D.size≤21:=by rw [hD];exact itoa_len20 _ (by omega) (by omega)
        have y1:V1.size=out2.size+1:=by rw [hV1,ByteArray.size_append];rfl
        have y2:V2.size=V1.size+D.size:=by rw [hV2,ByteArray.size_append]
        have y3:V3.size=V2.size+6:=by rw [hV3,ByteArray.size_append];rfl
        have y4:V4.size=V3.size+TX.size:=by rw [hV4,ByteArray.size_append]
        have m1:∀ w,(Op.stringOp .add out2 ⟨#[10]⟩).run Tryz.prog w=.ok (.string V1) w:=fun w=>by rw [hV1];exact run_string_add_sum (P:=Tryz.prog) (w:=w) _ _ (by show out2.size+1≤_;omega)
        have m2:∀ w,(Op.stringOp .add V1 D).run Tryz.prog w=.ok (.string V2) w:=fun w=>by rw [hV2];exact run_string_add_sum (P:=Tryz.prog) (w:=w) _ _ (by omega)
        have m3:∀ w,(Op.stringOp .add V2 ⟨#[32,116,101,120,116,32]⟩).run Tryz.prog w=.ok (.string V3) w:=fun w=>by rw [hV3];exact run_string_add_sum (P:=Tryz.prog) (w:=w) _ _ (by show V2.size+6≤_;omega)
        have m4:∀ w,(Op.stringOp .add V3 TX).run Tryz.prog w=.ok (.string V4) w:=fun w=>by rw [hV4];exact run_string_add_sum (P:=Tryz.prog) (w:=w) _ _ (by omega)
        have HDe:=κ39 (decimal_any id w4 (by omega) (by omega))
        rw [←hD] at HDe
        have hsz3:V4.size≤j*100100+(q+1)*2000:=by omega
        clear hD hV1 hV2 hV3 hV4 z0 y1 y2 y3 y4 hir
        go_wp2_with fail
        refine HDe.out.mono ?_
        rintro e w5 ⟨rfl,hb5⟩
        have HB5:=κ39 (bel2 HB4.out hb5)
        clear hb5 HDe
        go_wp2_with fail
        go_roundw
        case rel=>exact ⟨q+1,V4,by omega,by go_num,rfl,HTl,hsz3,HExn,HB5⟩
        case measure=>simp [RowKit.intOf];omega
      ·have hib:(x.nd == x.t*4+x.b)=false:=by simpa using hid
       have HIb:Hid (idB x=false):=κ39 (decide_eq_false fun h=>hid h.2)
       clear hk hid
       go_wp2_with fail
       all_goals
        go_roundw
        case rel=>exact ⟨q+1,out2,by omega,by go_num,rfl,κ39 (by rw [HTk.out,HIb.out];exact HOut2.out),Nat.le_trans hsz2 (by omega),κ39 (by rw [HTk.out,HIb.out];exact HEx.out),HB3⟩
        case measure=>simp [RowKit.intOf];omega
     ·have hkb:(x.k == 109)=false:=by simpa using hk
      have HIb:Hid (idB x=false):=κ39 (decide_eq_false fun h=>hk h.1)
      clear hk
      go_wp2_with fail
      all_goals
       go_roundw
       case rel=>exact ⟨q+1,out2,by omega,by go_num,rfl,κ39 (by rw [HTk.out,HIb.out];exact HOut2.out),Nat.le_trans hsz2 (by omega),κ39 (by rw [HTk.out,HIb.out];exact HEx.out),HB3⟩
       case measure=>simp [RowKit.intOf];omega
    ·obtain rfl:q=n:=by omega
     have j2:¬ (q:Int) < (q:Int):=by omega
     have htk2:K.take q=K:=by rw [HN.out];exact List.take_length
     rw [htk2] at HOut2 HEx
     have HMk:=κ39 (mMarks_any MB b _ q c K wr hM HK.out.1 hl)
     unfold MkEndsM ptrV at HMk
     clear htk2 hM
     go_upto_region 15 with (fail)
     go_wp2_with fail
     refine HMk.out.mono ?_
     rintro e w7 ⟨CB,v,L,m,rfl,hD7,hR7,hB7,hl7,hb7⟩
     obtain ⟨A7,n7,c7,rfl⟩:=hD7.own.slice
     have hn7:n7=L.length:=hD7.own.sl.len
     have hn8:n7≤1000:=by omega
     have HN7:=κ39 hn7
     have HD7:=κ39 hD7
     have HR7:=κ39 hR7
     have HBa:=κ39 hB7
     have HOk7:=κ39 (dm_ok HK.out.1 hR7 hB7)
     have HB7:=κ39 (bel2 HBq.out hb7)
     clear hD7 hR7 hB7 hl7 hb7 hn7 HMk HBq
     go_wp2_with fail
     go_loopw [3,10] (fun v3 v10 wr=>∃ (i:Nat) (out:ByteArray),i≤n7∧v10=.int .i64 i∧v3=.string out∧Hid (out=nlB (Q.map plLine++txLines T (idsOf K)++(fullL (L.take i)).map dmLine))∧out.size≤j*100100+q*2000+i*200100∧Hid (Below w7.heap.size w7 wr)) (fun _ v10 _=>n7 - (RowKit.intOf v10).toNat)
     case atStart=>exact ⟨0,out2,by omega,rfl,rfl,κ39 (HOut2.out.trans (by rw [List.take_zero];show _=nlB (_++[]);rw [List.append_nil])),Nat.le_trans hsz2 (Nat.le_add_right _ _),κ39 (Below.refl _ _)⟩
     case round=>
      obtain ⟨i,out3,hi,rfl,rfl,HOut3,hsz3,HBi⟩:=hrel
      have hD:=HD7.out.below HBi.out
      have p0:=hD.ptr
      by_cases hlt3:i < n7
      ·obtain ⟨x,hx⟩:∃ x,L[i]?=some x:=⟨_,List.getElem?_eq_getElem (by have:=HN7.out;omega)⟩
       have hxo:=HOk7.out x (List.mem_of_getElem? hx)
       obtain ⟨bb,off,rfl,hbl,hq0,hq1,hq2⟩:=dm_at hD.own.sl hx
       have j0:(0:Int)≤(i:Int):=by omega
       have j3:(i:Int) < (n7:Int):=by omega
       have HTk:=κ39 (fullL_succ hx)
       have HX:=κ39 hx
       obtain ⟨tb,htb⟩:∃ tb,(x.vl.toList == [])=tb:=⟨_,rfl⟩
       cases tb with
       | true=>
        have HTl:Hid (out3=nlB (Q.map plLine++txLines T (idsOf K)++(fullL (L.take (i+1))).map dmLine)):=κ39 (by rw [HTk.out,htb,if_pos rfl];exact HOut3.out)
        clear hD hx hxo
        go_wp2_with fail
        go_roundw
        case rel=>exact ⟨i+1,out3,by omega,by go_num,rfl,HTl,Nat.le_trans hsz3 (by omega),HBi⟩
        case measure=>simp [RowKit.intOf];omega
       | false=>
        obtain ⟨D,hDd⟩:∃ D,D=S (Lib.itoa x.nd):=⟨_,rfl⟩
        obtain ⟨V1,hV1⟩:∃ V1,V1=out3++⟨#[10]⟩:=⟨_,rfl⟩
        obtain ⟨V2,hV2⟩:∃ V2,V2=V1++D:=⟨_,rfl⟩
        obtain ⟨V3,hV3⟩:∃ V3,V3=V2++⟨#[32,109,97,114,107,32]⟩:=⟨_,rfl⟩
        obtain ⟨V4,hV4⟩:∃ V4,V4=V3++x.nm:=⟨_,rfl⟩
        obtain ⟨V5,hV5⟩:∃ V5,V5=V4++⟨#[32]⟩:=⟨_,rfl⟩
        obtain ⟨V6,hV6⟩:∃ V6,V6=V5++x.vl:=⟨_,rfl⟩
        have HTl:Hid (V6=nlB (Q.map plLine++txLines T (idsOf K)++(fullL (L.take (i+1))).map dmLine)):=κ39 (by
         rw [HTk.out,htb,if_neg (by simp),List.map_append,←List.append_assoc,List.map_singleton,nlB_snoc,←HOut3.out,hV6,hV5,hV4,hV3,hV2,hV1,hDd]
         unfold dmLine mkLine
         simp only [ByteArray.append_assoc])
        have z0:D.size≤21:=by rw [hDd];exact itoa_len20 _ hxo.1.1 hxo.1.2
        have y1:V1.size=out3.size+1:=by rw [hV1,ByteArray.size_append];rfl
        have y2:V2.size=V1.size+D.size:=by rw [hV2,ByteArray.size_append]
        have y3:V3.size=V2.size+6:=by rw [hV3,ByteArray.size_append];rfl
        have y4:V4.size=V3.size+x.nm.size:=by rw [hV4,ByteArray.size_append]
        have y5:V5.size=V4.size+1:=by rw [hV5,ByteArray.size_append];rfl
        have y6:V6.size=V5.size+x.vl.size:=by rw [hV6,ByteArray.size_append]
        have y7:=hxo.2.1
        have y8:=hxo.2.2
        have m1:∀ w,(Op.stringOp .add out3 ⟨#[10]⟩).run Tryz.prog w=.ok (.string V1) w:=fun w=>by rw [hV1];exact run_string_add_sum (P:=Tryz.prog) (w:=w) _ _ (by show out3.size+1≤_;omega)
        have m2:∀ w,(Op.stringOp .add V1 D).run Tryz.prog w=.ok (.string V2) w:=fun w=>by rw [hV2];exact run_string_add_sum (P:=Tryz.prog) (w:=w) _ _ (by omega)
        have m3:∀ w,(Op.stringOp .add V2 ⟨#[32,109,97,114,107,32]⟩).run Tryz.prog w=.ok (.string V3) w:=fun w=>by rw [hV3];exact run_string_add_sum (P:=Tryz.prog) (w:=w) _ _ (by show V2.size+6≤_;omega)
        have m4:∀ w,(Op.stringOp .add V3 x.nm).run Tryz.prog w=.ok (.string V4) w:=fun w=>by rw [hV4];exact run_string_add_sum (P:=Tryz.prog) (w:=w) _ _ (by omega)
        have m5:∀ w,(Op.stringOp .add V4 ⟨#[32]⟩).run Tryz.prog w=.ok (.string V5) w:=fun w=>by rw [hV5];exact run_string_add_sum (P:=Tryz.prog) (w:=w) _ _ (by show V4.size+1≤_;omega)
        have m6:∀ w,(Op.stringOp .add V5 x.vl).run Tryz.prog w=.ok (.string V6) w:=fun w=>by rw [hV6];exact run_string_add_sum (P:=Tryz.prog) (w:=w) _ _ (by omega)
        have hsz4:V6.size≤j*100100+q*2000+(i+1)*200100:=by omega
        have HDe:Hid (∀ w',Calls Tryz.prog 75 #[.int .i64 x.nd] w' fun e w''=>e=.returned (.string D)∧Below w'.heap.size w' w''):=κ39 fun w'=>by rw [hDd];exact decimal_any x.nd w' hxo.1.1 hxo.1.2
        have HKp:Hid (∀ w',Below wr.heap.size wr w'→Below wr.heap.size wr w'∧w'.cell? ⟨CB,0,none⟩=some (.slice (some ⟨bb,off,none⟩) n7 c7)∧w'.cell? ⟨bb,off+i*5,none⟩=some (.int .i64 x.nd)∧w'.cell? ⟨bb,off+i*5+1,none⟩=some (.string x.nm)∧w'.cell? ⟨bb,off+i*5+2,none⟩=some (.string x.vl)):=κ39 fun w' hb=>by
         have hD':=HD7.out.below (bel2 HBi.out hb)
         obtain ⟨bb',off',hA,_,h0,h1,h2⟩:=dm_at hD'.own.sl HX.out
         cases hA
         exact ⟨hb,hD'.ptr,h0,h1,h2⟩
        clear hbl hx hxo hDd hV1 hV2 hV3 hV4 hV5 hV6 z0 y1 y2 y3 y4 y5 y6 y7 y8 hD
        obtain ⟨k00,k0,k1,k2⟩:=(HKp.out _ (Below.refl _ _).drew).2
        go_upto_region 20 with (fail)
        go_region_held_law (fun w'=>Below wr.heap.size wr w'∧w'.cell? ⟨CB,0,none⟩=some (.slice (some ⟨bb,off,none⟩) n7 c7)∧w'.cell? ⟨bb,off+i*5,none⟩=some (.int .i64 x.nd)∧w'.cell? ⟨bb,off+i*5+1,none⟩=some (.string x.nm)∧w'.cell? ⟨bb,off+i*5+2,none⟩=some (.string x.vl)) (exact HKp.out _ (by go_grown))
         (first
          | (go_at_call 75;refine (HDe.out _).mono ?_;rintro e wA ⟨rfl,hbA⟩;have hA:=bel2 (w0:=wr) (by go_grown) hbA;have sA:=hA.size))
        all_goals
         rename_i hH
         have HH:=κ39 hH.1
         clear hH
         go_wp2_with fail
         go_roundw
         case rel=>exact ⟨i+1,V6,by omega,by go_num,rfl,HTl,hsz4,κ39 (bel2 HBi.out HH.out)⟩
         case measure=>simp [RowKit.intOf];omega
      ·obtain rfl:i=n7:=by omega
       have j3:¬ (i:Int) < (i:Int):=by omega
       have htk3:L.take i=L:=by rw [HN7.out];exact List.take_length
       rw [htk3] at HOut3
       obtain ⟨X,hX⟩:∃ X,Q.map plLine++txLines T (idsOf K)++(fullL L).map dmLine=X:=⟨_,rfl⟩
       rw [hX] at HOut3
       have HEnd:Hid (StateOf K (joinB X)):=κ39 (by
        rw [←hX]
        refine stateM_of HK.out.1 HK.out.2 HQ.out (fun x hx=>?_) HR7.out HBa.out
        have hk:=(idsOf_mem x).2 hx
        obtain ⟨L',hL'⟩:=HEx.out x hk
        exact ⟨L',hL',HT.out x L' hL'⟩)
       clear htk3 hX
       have HBe:=κ39 (bel2 HB7.out HBi.out)
       obtain ⟨eb,heb⟩:∃ eb,(out3.toList == [])=eb:=⟨_,rfl⟩
       cases eb with
       | true=>
        have HSt:Hid (StateOf K ⟨#[]⟩):=κ39 (by
         have h0:out3=⟨#[]⟩:=by
          have h:=heb
          rw [beq_iff_eq,ByteArray.toList_eq] at h
          obtain ⟨⟨l⟩⟩:=out3
          simp at h
          rw [h]
         have hn:=nlB_nil.1 (HOut3.out.symm.trans h0)
         have:=HEnd.out
         rw [hn] at this
         exact this)
        go_wp2_with fail
        go_ret
        exact ⟨_,rfl,HSt.out,HBe.out⟩
       | false=>
        have hne:X≠[]:=fun h=>by
         have h1:=HOut3.out
         rw [h] at h1
         have h2:((⟨#[]⟩:ByteArray).toList == [])=true:=by rw [ByteArray.toList_eq];rfl
         rw [h1] at heb
         exact absurd (h2.symm.trans heb) (by simp)
        have hcn:out3.data.toList=10 :: (joinB X).data.toList:=by rw [HOut3.out];exact nlB_join hne
        have hsz4:1≤out3.size:=by
         have:=congrArg List.length hcn
         rw [Array.length_toList,List.length_cons] at this
         show 1≤out3.data.size
         omega
        obtain ⟨Z,hZ⟩:∃ Z,Z=out3.extract 1 out3.size:=⟨_,rfl⟩
        have HZe:Hid (Z=joinB X):=κ39 (by
         rw [hZ,Bstr.drop1 hcn])
        have sl:∀ w,(Instr.slice 9 (.string out3) (some (.int .i64 1)) none none).run Tryz.prog w=.ok (.string Z) w:=fun w=>by rw [hZ];go_simp;intro h;omega
        clear hne hcn hZ
        go_upto_region 23 with (fail)
        go_wp2_with fail
        go_ret
        exact ⟨Z,rfl,by rw [HZe.out];exact HEnd.out,HBe.out⟩
end Go.Proofs.YtjekalilfhnpmaaGreatDoor
