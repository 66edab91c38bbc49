/- The document's Join: the walk. -/
import Derived.Test.YtjekalilfhnpmaaGreatDoorQ30
import Derived.Test.YtjekalilfhnpmaaGreatDoorQ32
theorem Go.Proofs.YtjekalilfhnpmaaGreatDoor.κ33 {p:Prop} (h:p):Go.RowKit.Hid p:=Go.Lib.hid h
namespace Go.Proofs.YtjekalilfhnpmaaGreatDoor
open Go Go.RowKit Go.Maps Go.Shelf LineOrd Tree
set_option linter.unusedVariables false
set_option linter.unusedSimpArgs false
set_option maxHeartbeats 400000000
set_option maxRecDepth 100000
abbrev mFault (k:Int) (a:Int):Value:=.agg #[.int .i64 k,.int .i64 a]
theorem bare_any (k:Int) (w:World):Calls Tryz.prog 90 #[.int .i64 k] w fun e w'=>e=.returned (mFault k (-1))∧Below w.heap.size w w':=by
 go_enter Tryz.func90,Tryz.ntmps90
 go_wp2_with fail
 refine bodyPost_ret (v:=mFault k (-1)) (by simp [results,Tryz.results90,go_sem]) rfl ⟨rfl,by go_grown⟩
theorem fineF_any (w:World):Calls Tryz.prog 95 #[] w fun e w'=>e=.returned (mFault 0 (-1))∧Below w.heap.size w w':=by
 go_enter Tryz.func95,Tryz.ntmps95
 go_wp2_with fail
 refine bodyPost_ret (v:=mFault 0 (-1)) (by simp [results,Tryz.results95,go_sem]) rfl ⟨rfl,by go_grown⟩
def JmEnds (MB:Nat) (b:Int) (K l:List OpT) (w:World) (e:Ending) (w':World):Prop:=
 match joinM K l with
 | .inl q=>e=.returned (.tuple #[.int .i64 0,mFault q.1 q.2])∧Below w.heap.size w w'
 | .inr F=>e=.returned (.tuple #[.int .i64 F.length,mFault 0 (-1)])∧(∃ A n c,MRep MB b A n c (sortOps (K++F)) w'∧∀ a,A=some a→w.heap.size≤a.block)∧Fr (·=MB) w w'
structure JS (MB:Nat) (b:Int) (A:Option Addr) (n c:Nat) (K:List OpT) (v6:Value) (L:List OpT) (w wr:World):Prop where
 rep:MRep MB b A n c K wr
 row:Rw opE 31 (w.heap.size+1) v6 L wr
 r0:wr.cell? ⟨w.heap.size,0,none⟩=some (.int .i64 0)
 r1:wr.cell? ⟨w.heap.size,1,none⟩=some (.int .i64 0)
 fz:∀ j,wr.frozen? ⟨w.heap.size,j,none⟩=false
 bel:Below w.heap.size w wr
 lt:w.heap.size < wr.heap.size
theorem JS.below {MB:Nat} {b:Int} {A:Option Addr} {n c:Nat} {K L:List OpT} {v6:Value} {w wr w':World} (h:JS MB b A n c K v6 L w wr) (hb:Below wr.heap.size wr w'):JS MB b A n c K v6 L w w':=
 ⟨h.rep.below hb,h.row.below hb,(hb.cell (p:=⟨w.heap.size,0,none⟩) h.lt).trans h.r0,(hb.cell (p:=⟨w.heap.size,1,none⟩) h.lt).trans h.r1,fun j=>(hb.frozen (p:=⟨w.heap.size,j,none⟩) h.lt).trans (h.fz j),bel2 h.bel hb,Nat.lt_of_lt_of_le h.lt hb.size⟩
theorem JS.app {MB:Nat} {b:Int} {A:Option Addr} {n c:Nat} {K L:List OpT} {v6 v8:Value} {w wr w8:World} {x:OpT} {o:Obj} (hM:MRep MB b A n c K w) (h:JS MB b A n c K v6 L w wr) (hr:Rw opE 31 (w.heap.size+1) v8 (L++[x]) w8) (hg:(wr.alloc o).grownBy w8 v6.ownBlock):JS MB b A n c K v8 (L++[x]) w w8:=by
 have h1:=h.below ((Below.refl wr.heap.size wr).alloc (Nat.le_refl _) o)
 have hF:Fr (fun k=>v6.ownBlock=some k) (wr.alloc o) w8:=⟨hg.os,hg.tape,hg.output,hg.size,fun k hk hn=>hg.block k hk (fun e=>hn e.symm)⟩
 have hx:¬ v6.ownBlock=some w.heap.size:=fun e=>by have:=(h1.row.lt _ e).1;omega
 have hb:Below w.heap.size w w8:=h1.bel.grown hg h1.bel.size (fun k hk=>Nat.le_of_succ_le (h1.row.lt k hk).1)
 exact ⟨hM.below hb,hr,(hF.cell (p:=⟨w.heap.size,0,none⟩) h1.lt hx).trans h1.r0,(hF.cell (p:=⟨w.heap.size,1,none⟩) h1.lt hx).trans h1.r1,fun j=>(hF.frozen (p:=⟨w.heap.size,j,none⟩) h1.lt hx).trans (h1.fz j),hb,Nat.lt_of_lt_of_le h1.lt hg.size⟩
theorem fr_then {X:Nat→Prop} {w w1 w2:World} (h:Fr X w w1) (hb:Below w.heap.size w1 w2):Fr X w w2:=
 ⟨hb.os.trans h.os,hb.tape.trans h.tape,hb.output.trans h.output,Nat.le_trans h.size hb.size,fun k hk hx=>(hb.block k hk).trans (h.block k hk hx)⟩
theorem MRep.set {MB:Nat} {b:Int} {A A7:Option Addr} {n c n7 c7:Nat} {K M:List OpT} {base:Nat} {w:World} (h:MRep MB b A n c K w) (hr:Rw opE 31 base (.slice A7 n7 c7) M w) (hb:MB < base):MRep MB b A7 n7 c7 M (w.setCell ⟨MB,1,none⟩ (.slice A7 n7 c7)) where
 c0:=by rw [World.cell?_setCell_other _ _ _ _ (by intro e;have:=congrArg Addr.off e;simp at this)];exact h.c0
 c1:=World.cell?_setCell_same' _ _ _ (by rw [h.c1];rfl)
 sl:=(hr.kept fun k hk=>(fr_set w MB 1 (.slice A7 n7 c7)).block k (hr.lt k hk).2 (fun e=>by have:=(hr.lt k hk).1;omega)).sl
 fz:=fun j=>by rw [World.frozen?_setCell];exact h.fz j
theorem MRep.other {MB B i:Nat} {b:Int} {A:Option Addr} {n c:Nat} {K:List OpT} {w:World} {v:Value} (h:MRep MB b A n c K w) (hB:MB≠B) (hA:∀ k,(Value.slice A n c).ownBlock=some k→k≠B):MRep MB b A n c K (w.setCell ⟨B,i,none⟩ v) where
 c0:=by rw [World.cell?_setCell_other _ _ _ _ (by intro e;exact hB (congrArg Addr.block e).symm)];exact h.c0
 c1:=by rw [World.cell?_setCell_other _ _ _ _ (by intro e;exact hB (congrArg Addr.block e).symm)];exact h.c1
 sl:=h.sl.kept fun k hk hl=>(fr_set w B i v).block k hl (hA k hk)
 fz:=fun j=>by rw [World.frozen?_setCell];exact h.fz j
theorem mJoin_any (MB:Nat) (b:Int) (A:Option Addr) (n c:Nat) (K:List OpT) (A2:Option Addr) (n2 c2:Nat) (l:List OpT) (w:World) (h:MRep MB b A n c K w) (hs:SlV opE w (.slice A2 n2 c2) l) (hK:DOk K) (hw:∀ o∈l,o.Wf) (hKl:K.length≤1000) (hl:l.length≤1000) :
  Calls Tryz.prog 38 #[ptrV MB,.slice A2 n2 c2] w (JmEnds MB b K l w):=by
 have HN:=κ33 hs.len
 have HNK:=κ33 h.sl.len
 have hn5:n2≤1000:=by have:=hs.len;omega
 have hk5:n≤1000:=by have:=h.sl.len;omega
 have hMB:MB < w.heap.size:=World.block_lt_of_cell? w _ h.c0
 have HS:=κ33 hs
 have HM:=κ33 h
 have HW:=κ33 hw
 have HK:=κ33 hK
 have HKl:=κ33 hKl
 have HL:=κ33 hl
 have c1:=h.c1
 have hM1:MRep MB b A n c K (w.alloc (.cells #[.int .i64 0,.int .i64 0] 90)):=h.below ((Below.refl _ _).alloc (Nat.le_refl _) _)
 have HM1:=κ33 hM1
 have c1':=hM1.c1
 clear h hs hK hw hKl hl hM1
 unfold ptrV
 go_enter Tryz.func38,Tryz.ntmps38
 go_wp2_with (at_builtin;refine wpList_append_rows rfl _ _ 36 rfl opE (w.heap.size+1) 31 (opV ⟨0,0,0,0,0,0,⟨#[]⟩,⟨#[]⟩⟩) 80 Tryz.underlying36 infoOp rfl (by decide) _ _ ([]) K rfl rfl (Rw.nil _ _ _ _) HM1.out.sl ?e1 ?e2 ?e3 ?_)
 case e1=>have:=HKl.out;unfold maxLen;simp;omega
 case e2=>have:=HKl.out;simp;omega
 case e3=>simp
 intro v6 w1 hr1 hg1
 have HJ1:Hid (JS MB b A n c K v6 (K++[]) w w1):=κ33 (by
  have hb1:Below (w.alloc (.cells #[.int .i64 0,.int .i64 0] 90)).heap.size (w.alloc (.cells #[.int .i64 0,.int .i64 0] 90)) w1:=(Below.refl _ _).grown hg1 (Nat.le_refl _) (fun k hk=>by simp [Value.ownBlock] at hk)
  have hl1:w.heap.size < (w.alloc (.cells #[.int .i64 0,.int .i64 0] 90)).heap.size:=by simp
  refine ⟨HM1.out.below hb1,?_,(hb1.cell (p:=⟨w.heap.size,0,none⟩) hl1).trans (by simp [go_sem]),(hb1.cell (p:=⟨w.heap.size,1,none⟩) hl1).trans (by simp [go_sem]),fun j=>(hb1.frozen (p:=⟨w.heap.size,j,none⟩) hl1).trans (by simp [go_sem]),bel2 ((Below.refl _ _).alloc (Nat.le_refl _) _) hb1,Nat.lt_of_lt_of_le hl1 hb1.size⟩
  rw [List.append_nil]
  exact hr1)
 clear hr1 hg1 c1 c1'
 go_wp2_with fail
 obtain ⟨R,hR⟩:∃ R,freshG K [] 0 l=R:=⟨_,rfl⟩
 have HR:=κ33 hR
 clear hR
 go_loopw [6,7] (fun v6 v7 wr=>∃ (i:Nat) (F:List OpT),i≤n2∧v7=.int .i64 i∧Hid (freshG K F i (l.drop i)=R)∧Hid (F.length≤i∧(∀ o∈F,opErr o=0)∧(∀ o∈K++F,∀ p∈K++F,o.b=p.b→o.n=p.n→o=p))∧Hid (JS MB b A n c K v6 (K++F) w wr)) (fun _ v7 _=>n2 - (RowKit.intOf v7).toNat)
 case atStart=>exact ⟨0,[],by omega,rfl,κ33 (by simpa using HR.out),κ33 ⟨by simp,by simp,by rw [List.append_nil];exact HK.out.num⟩,HJ1⟩
 case round=>
  obtain ⟨i,F,hi,rfl,HRr,HFl,HJ⟩:=hrel
  by_cases hlt:i < n2
  ·obtain ⟨x,hx⟩:∃ x,l[i]?=some x:=⟨_,List.getElem?_eq_getElem (by have:=HN.out;omega)⟩
   have hxw:=HW.out x (List.mem_of_getElem? hx)
   obtain ⟨bb,off,rfl,hbl,q0,q1,q2,q3,q4,q5,q6,q7⟩:=ops_at (HS.out.below HJ.out.bel) hx
   have i1:(0:Int)≤(i:Int):=by omega
   have i2:(i:Int) < (n2:Int):=by omega
   have HD:Hid (l.drop i=x :: l.drop (i+1)):=κ33 (by
    obtain ⟨h1,h2⟩:=List.getElem?_eq_some_iff.1 hx
    rw [List.drop_eq_getElem_cons h1,h2])
   have HXw:=κ33 hxw
   have HX:=κ33 hx
   have HCk:=κ33 (opError_any x wr hxw)
   obtain ⟨A6,n6,c6,hv6⟩:=HJ.out.row.slice
   subst hv6
   clear hx hbl hxw
   obtain ⟨er,her⟩:∃ er,opErr x=er:=⟨_,rfl⟩
   have HEr:=κ33 her
   rw [her] at HCk
   clear her
   by_cases he:er=0
   ·subst he
    go_wp2_with fail
    refine HCk.out.mono ?_
    rintro e w5 ⟨rfl,hb5⟩
    have HJ5:=κ33 (HJ.out.below hb5)
    have HS5:Hid (∀ w',Below w5.heap.size w5 w'→Below w5.heap.size w5 w'∧OpC bb (off+i*8) x w'):=κ33 fun w' hb=>by
     obtain ⟨bb',off',hA,_,d0,d1,d2,d3,d4,d5,d6,d7⟩:=ops_at (HS.out.below (bel2 HJ5.out.bel hb)) HX.out
     cases hA
     exact ⟨hb,d0,d1,d2,d3,d4,d5,d6,d7⟩
    clear hb5 q0 q1 q2 q3 q4 q5 q6 q7 HJ HCk
    obtain ⟨pr,hpr⟩:∃ pr,ownR (K++F) x.b x.n=pr:=⟨_,rfl⟩
    have HPr:=κ33 hpr
    have HOw:Hid (∀ w',Below w5.heap.size w5 w'→Calls Tryz.prog 88 #[.slice A6 n6 c6,.int .i64 x.b,.int .i64 x.n] w' fun e w''=>e=.returned (.tuple #[opV pr.1,.bool pr.2])∧Below w'.heap.size w' w''):=κ33 fun w' hb=>by
     have:=mOwn_any A6 n6 c6 (K++F) x.b x.n w' (HJ5.out.row.below hb).sl (by have:=HKl.out;have:=HFl.out.1;simp;omega)
     rw [hpr] at this
     exact this
    clear hpr
    obtain ⟨d0,d1,d2,d3,d4,d5,d6,d7⟩:=(HS5.out _ (Below.refl _ _).drew).2
    have HJd:=κ33 (HJ5.out.below (Below.refl _ _).drew)
    go_upto_region 9 with (fail)
    go_cut [9,10] (fun v9 v10 wd=>∃ B:Nat,v9=.pointer (some ⟨B,0,none⟩)∧v10=.bool pr.2∧Hid (OpAt wd B pr.1∧Below w5.heap.size w5 wd∧w5.heap.size≤B))
    case first=>
     go_region_held_law (fun w'=>Below w5.heap.size w5 w'∧OpC bb (off+i*8) x w') (exact HS5.out _ (by go_grown))
      (first
       | (go_at_call 88;refine (HOw.out _ (by go_grown)).mono ?_;rintro e wA ⟨rfl,hbA⟩;have hA:=bel2 (w0:=w5) (by go_grown) hbA;have sA:=hA.size;(first | (have hy:∀ j,j < 8→(∃ u,wA.cell? ⟨w5.heap.size,j,none⟩=some u)∧wA.frozen? ⟨w5.heap.size,j,none⟩=false:=box8_at (w:=w5.drew) (o:=zOp) hbA;obtain ⟨⟨u0z,y0z⟩,x0z⟩:=hy 0 (by omega);obtain ⟨⟨u1z,y1z⟩,x1z⟩:=hy 1 (by omega);obtain ⟨⟨u2z,y2z⟩,x2z⟩:=hy 2 (by omega);obtain ⟨⟨u3z,y3z⟩,x3z⟩:=hy 3 (by omega);obtain ⟨⟨u4z,y4z⟩,x4z⟩:=hy 4 (by omega);obtain ⟨⟨u5z,y5z⟩,x5z⟩:=hy 5 (by omega);obtain ⟨⟨u6z,y6z⟩,x6z⟩:=hy 6 (by omega);obtain ⟨⟨u7z,y7z⟩,x7z⟩:=hy 7 (by omega)) | skip)))
     all_goals
      rename_i hH
      clear hH
      go_wp2_with fail
      go_meet
      case rel=>
       first
        | exact ⟨w5.heap.size,rfl,rfl,κ33 ⟨(set8_at pr.1 (fun j hj=>(hy j hj).1) hA (Nat.le_refl _)).1,(set8_at pr.1 (fun j hj=>(hy j hj).1) hA (Nat.le_refl _)).2,Nat.le_refl _⟩⟩
        | exact ⟨wA.heap.size,rfl,rfl,κ33 ⟨OpAt.start wA pr.1 _,hA.alloc sA _,sA⟩⟩
    case rest=>
     obtain ⟨B,rfl,rfl,HB⟩:=hcut
     have HJc:=κ33 (HJ5.out.below HB.out.2.1)
     have HSc:=κ33 (fun w' (hb:Below wc.heap.size wc w')=>(HS5.out _ (bel2 HB.out.2.1 hb)).2)
     obtain ⟨d0,d1,d2,d3,d4,d5,d6,d7⟩:=HSc.out _ (Below.refl _ wc)
     clear HOw HJd HJ5 HS5
     obtain ⟨r,hr⟩:∃ r,findOwn (K++F) x.b x.n=r:=⟨_,rfl⟩
     have HRf:=κ33 hr
     have hpq:=HPr.out
     rw [ownR_is HFl.out.2.2,hr] at hpq
     clear hr HPr
     cases r with
     | none=>
      subst hpq
      have HW:∀ nq,Hid (Below wc.heap.size wc (wc.drewN nq)):=fun nq=>κ33 (below_drawn (Below.refl _ _) nq)
      go_upto_region 10 with (fail)
      go_quiet (fail)
      rename_i nq
      have HH:=HW nq
      generalize wc.drewN nq=wq at HH ⊢
      obtain ⟨d0,d1,d2,d3,d4,d5,d6,d7⟩:=HSc.out _ HH.out
      have HJq:=κ33 (HJc.out.below HH.out)
      have HJa:=κ33 (HJq.out.below ((Below.refl wq.heap.size wq).alloc (Nat.le_refl _) (.cells x.cells 31)))
      go_wp2_with (at_builtin;refine wpList_append_rows_at rfl _ _ 36 rfl opE (w.heap.size+1) 31 (opV ⟨0,0,0,0,0,0,⟨#[]⟩,⟨#[]⟩⟩) 80 Tryz.underlying36 infoOp rfl (by decide) _ _ (K++F) [x] rfl rfl HJa.out.row (SlV.one wq x _ _ rfl) ?za1 ?za2 ?za3 ?_)
      case za1=>have:=HFl.out.1;have:=HKl.out;unfold maxLen;simp;omega
      case za2=>have:=HFl.out.1;have:=HKl.out;simp;omega
      case za3=>first | exact Nat.succ_le_of_lt HJa.out.lt | exact Nat.le_of_lt HJq.out.lt | (have:=HJq.out.lt;simp;omega)
      intro v8 w8 hr8 hg8 hat8
      have HJ8:Hid (JS MB b A n c K v8 (K++(F++[x])) w w8):=κ33 (by rw [←List.append_assoc];exact JS.app HM.out HJq.out (by rw [List.append_assoc];exact hr8) hg8)
      have HF8:Hid ((F++[x]).length≤i+1∧(∀ o∈F++[x],opErr o=0)∧(∀ o∈K++(F++[x]),∀ p∈K++(F++[x]),o.b=p.b→o.n=p.n→o=p)):=κ33 (by
       refine ⟨by have:=HFl.out.1;simp;omega,fun o ho=>?_,?_⟩
       ·rcases List.mem_append.1 ho with ho | ho
        ·exact HFl.out.2.1 o ho
        ·rw [List.mem_singleton.1 ho];exact HEr.out
       ·have hno:∀ p∈K++F,¬ (p.b=x.b∧p.n=x.n):=by
         have:=HRf.out
         rw [←find_own HFl.out.2.2,List.find?_eq_none] at this
         unfold ownB at this
         simpa only [decide_eq_true_eq] using this
        rw [←List.append_assoc]
        intro o ho p hp e1 e2
        rcases List.mem_append.1 ho with ho | ho <;> rcases List.mem_append.1 hp with hp | hp
        ·exact HFl.out.2.2 o ho p hp e1 e2
        ·rw [List.mem_singleton.1 hp] at e1 e2;exact absurd ⟨e1,e2⟩ (hno o ho)
        ·rw [List.mem_singleton.1 ho] at e1 e2;exact absurd ⟨e1.symm,e2.symm⟩ (hno p hp)
        ·rw [List.mem_singleton.1 ho,List.mem_singleton.1 hp])
      have HRd:Hid (freshG K (F++[x]) (i+1) (l.drop (i+1))=R):=κ33 (by rw [←HRr.out,HD.out,freshG_new HEr.out HRf.out])
      clear hr8 hg8 hat8 HJa HJq d0 d1 d2 d3 d4 d5 d6 d7
      go_wp2_with fail
      go_roundw
      case rel=>exact ⟨i+1,F++[x],by omega,by go_num,HRd,HF8,HJ8⟩
      case measure=>simp [RowKit.intOf];omega
     | some p=>
      subst hpq
      obtain ⟨b0,b1,b2,b3,b4,b5,b6,b7⟩:=HB.out.1
      obtain ⟨te,hte⟩:∃ te,opEqB p x=te:=⟨_,rfl⟩
      have heo:∀ w,(Op.equalIn 10000 31 (opV p) (opV x)).run Tryz.prog w=.ok te w:=fun w=>by rw [eqOp_run,hte]
      have HTe:=κ33 hte
      clear hte
      have HW:∀ nq,Hid (Below wc.heap.size wc (wc.drewN nq)):=fun nq=>κ33 (below_drawn (Below.refl _ _) nq)
      cases te with
      | true=>
       have HRd:Hid (freshG K F (i+1) (l.drop (i+1))=R):=κ33 (by rw [←HRr.out,HD.out,freshG_same HEr.out (by rw [HRf.out,(opEqB_iff p x).1 HTe.out])])
       go_upto_region 10 with (fail)
       go_region
       all_goals
        have HH:Hid (Below wc.heap.size wc wc.drew):=κ33 (Below.refl _ _).drew
        generalize wc.drew=wq at HH ⊢
        go_wp2_with fail
        go_roundw
        case rel=>exact ⟨i+1,F,by omega,by go_num,HRd,κ33 ⟨by have:=HFl.out.1;omega,HFl.out.2⟩,κ33 (HJc.out.below HH.out)⟩
        case measure=>simp [RowKit.intOf];omega
      | false=>
       have HRe:Hid (R=.inl (7,(i:Int))):=κ33 (by rw [←HRr.out,HD.out,freshG_other HEr.out HRf.out (fun e=>by have:=(opEqB_iff p x).2 e;rw [HTe.out] at this;cases this)])
       go_upto_region 10 with (fail)
       go_region
       all_goals
        have HH:Hid (Below wc.heap.size wc wc.drew):=κ33 (Below.refl _ _).drew
        generalize wc.drew=wq at HH ⊢
        have HJq:=κ33 (HJc.out.below HH.out)
        have z0:=HJq.out.r0
        have z1:=HJq.out.r1
        have f0:=HJq.out.fz 0
        have f1:=HJq.out.fz 1
        go_wp2_with fail
        refine bodyPost_ret (v:=.tuple #[.int .i64 0,mFault 7 i]) (by simp [results,Tryz.results38,go_sem,z0,z1]) rfl ?_
        unfold JmEnds joinM
        rw [HR.out,HRe.out]
        exact ⟨rfl,below_set (below_set HJq.out.bel (Nat.le_refl _) _) (Nat.le_refl _) _⟩
   ·have hpos:(0:Int) < (er:Int):=by omega
    have HRe:Hid (R=.inl (er,(i:Int))):=κ33 (by
     rw [←HRr.out,HD.out,←HEr.out]
     unfold freshG
     rw [if_pos (by rw [HEr.out];exact he)])
    go_wp2_with fail
    refine HCk.out.mono ?_
    rintro e w5 ⟨rfl,hb5⟩
    have HJ5:=κ33 (HJ.out.below hb5)
    have z0:=HJ5.out.r0
    have z1:=HJ5.out.r1
    have f0:=HJ5.out.fz 0
    have f1:=HJ5.out.fz 1
    clear hb5 q0 q1 q2 q3 q4 q5 q6 q7 HJ HCk
    go_wp2_with fail
    refine bodyPost_ret (v:=.tuple #[.int .i64 0,mFault er i]) (by simp [results,Tryz.results38,go_sem,z0,z1]) rfl ?_
    unfold JmEnds joinM
    rw [HR.out,HRe.out]
    exact ⟨rfl,below_set (below_set HJ5.out.bel (Nat.le_refl _) _) (Nat.le_refl _) _⟩
  ·obtain rfl:i=n2:=by omega
   have i2:¬ (i:Int) < (i:Int):=by omega
   have HRF:Hid (R=.inr F):=κ33 (by
    have:=HRr.out
    rw [List.drop_eq_nil_of_le (by have:=HN.out;omega)] at this
    rw [←this]
    rfl)
   obtain ⟨L,hL⟩:∃ L,K++F=L:=⟨_,rfl⟩
   have HLe:=κ33 hL
   have HJL:=κ33 HJ.out
   rw [hL] at HJL
   have HLl:Hid (L.length≤2000):=κ33 (by rw [←hL];have:=HFl.out.1;have:=HKl.out;simp;omega)
   have hLf:∀ o∈L,opErr o=0:=by
    rw [←hL]
    intro o ho
    exact (List.mem_append.1 ho).elim (HK.out.er o) (HFl.out.2.1 o)
   have HLf:=κ33 hLf
   clear hLf hL HJ HRr
   obtain ⟨A6,n6,c6,hv6⟩:=HJL.out.row.slice
   subst hv6
   have HN6:=κ33 HJL.out.row.sl.len
   have hn6:n6≤2000:=by have:=HN6.out;have:=HLl.out;omega
   go_upto_region 14 with (fail)
   go_wp2_with fail
   go_loopw [11,12,13] (fun v11 v12 v13 wr=>∃ j:Nat,j≤n6∧v13=.int .i64 j∧v11=.bool ((L.take j).any (gapE L))∧v12=.bool ((L.take j).any (fallE L))∧Hid (JS MB b A n c K (.slice A6 n6 c6) L w wr)) (fun _ _ v13 _=>n6 - (RowKit.intOf v13).toNat)
   case atStart=>exact ⟨0,by omega,rfl,rfl,rfl,HJL⟩
   case round=>
    obtain ⟨j,hj,rfl,rfl,rfl,HJ⟩:=hrel
    by_cases hlt2:j < n6
    ·obtain ⟨x,hx⟩:∃ x,L[j]?=some x:=⟨_,List.getElem?_eq_getElem (by have:=HN6.out;omega)⟩
     obtain ⟨bb,off,rfl,hbl,q0,q1,q2,q3,q4,q5,q6,q7⟩:=ops_at HJ.out.row.sl hx
     have j1:(0:Int)≤(j:Int):=by omega
     have j2:(j:Int) < (n6:Int):=by omega
     have HX:=κ33 hx
     have hfi:=fine_of (HLf.out x (List.mem_of_getElem? hx))
     have HFi:=κ33 hfi
     have htk:∀ f:OpT→Bool,(L.take (j+1)).any f=((L.take j).any f || f x):=fun f=>by
      obtain ⟨h1,h2⟩:=List.getElem?_eq_some_iff.1 hx
      rw [List.take_succ_eq_append_getElem h1,h2,List.any_append]
      simp
     have HTk:=κ33 htk
     clear htk hx hfi hbl
     obtain ⟨gb,hgb⟩:∃ gb,(L.take j).any (gapE L)=gb:=⟨_,rfl⟩
     obtain ⟨fb,hfb⟩:∃ fb,(L.take j).any (fallE L)=fb:=⟨_,rfl⟩
     rw [hgb,hfb]
     have HGb:=κ33 (And.intro hgb hfb)
     clear hgb hfb
     by_cases h1:x.n=1
     ·have b1:(x.n == 1)=true:=by simpa using h1
      have HE:Hid (gapE L x=false∧fallE L x=false):=κ33 (by unfold gapE fallE;rw [decide_eq_true h1];exact ⟨rfl,rfl⟩)
      clear h1
      go_wp2_with fail
      go_roundw
      case rel=>exact ⟨j+1,by omega,by go_num,by rw [HTk.out,HGb.out.1,HE.out.1,Bool.or_false],by rw [HTk.out,HGb.out.2,HE.out.2,Bool.or_false],HJ⟩
      case measure=>simp [RowKit.intOf];omega
     ·have b1:(x.n == 1)=false:=by simpa using h1
      obtain ⟨pr,hpr⟩:∃ pr,ownR L x.b (x.n - 1)=pr:=⟨_,rfl⟩
      have HE:Hid (gapE L x=!pr.2∧fallE L x=(pr.2 && !opLt pr.1 x)):=κ33 (by unfold gapE fallE;rw [decide_eq_false h1,hpr];exact ⟨rfl,rfl⟩)
      have HOw:Hid (∀ w',Below wr.heap.size wr w'→Calls Tryz.prog 88 #[.slice (some ⟨bb,off,none⟩) n6 c6,.int .i64 x.b,.int .i64 (x.n - 1)] w' fun e w''=>e=.returned (.tuple #[opV pr.1,.bool pr.2])∧Below w'.heap.size w' w''):=κ33 fun w' hb=>by
       have:=mOwn_any (some ⟨bb,off,none⟩) n6 c6 L x.b (x.n - 1) w' (HJ.out.row.below hb).sl (by have:=HLl.out;omega)
       rw [hpr] at this
       exact this
      have HS5:Hid (∀ w',Below wr.heap.size wr w'→Below wr.heap.size wr w'∧OpC bb (off+j*8) x w'):=κ33 fun w' hb=>by
       obtain ⟨bb',off',hA,_,d0,d1,d2,d3,d4,d5,d6,d7⟩:=ops_at (HJ.out.row.below hb).sl HX.out
       cases hA
       exact ⟨hb,d0,d1,d2,d3,d4,d5,d6,d7⟩
      have s1:IntKind.i64.wrap (x.n - 1)=x.n - 1:=by rw [IntKind.wrap_i64];have:=HFi.out.n1;have:=HFi.out.n2;omega
      clear hpr h1
      obtain ⟨d0,d1,d2,d3,d4,d5,d6,d7⟩:=(HS5.out _ (Below.refl _ _).drew).2
      go_upto_region 20 with (fail)
      go_cut [14,15] (fun v14 v15 wd=>∃ B:Nat,v14=.pointer (some ⟨B,0,none⟩)∧v15=.bool pr.2∧Hid (OpAt wd B pr.1∧Below wr.heap.size wr wd∧wr.heap.size≤B))
      case first=>
       go_region_held_law (fun w'=>Below wr.heap.size wr w'∧OpC bb (off+j*8) x w') (exact HS5.out _ (by go_grown))
        (first
         | (go_at_call 88;refine (HOw.out _ (by go_grown)).mono ?_;rintro e wA ⟨rfl,hbA⟩;have hA:=bel2 (w0:=wr) (by go_grown) hbA;have sA:=hA.size;(first | (have hy:∀ j,j < 8→(∃ u,wA.cell? ⟨wr.heap.size,j,none⟩=some u)∧wA.frozen? ⟨wr.heap.size,j,none⟩=false:=box8_at (w:=wr.drew) (o:=zOp) hbA;obtain ⟨⟨u0z,y0z⟩,x0z⟩:=hy 0 (by omega);obtain ⟨⟨u1z,y1z⟩,x1z⟩:=hy 1 (by omega);obtain ⟨⟨u2z,y2z⟩,x2z⟩:=hy 2 (by omega);obtain ⟨⟨u3z,y3z⟩,x3z⟩:=hy 3 (by omega);obtain ⟨⟨u4z,y4z⟩,x4z⟩:=hy 4 (by omega);obtain ⟨⟨u5z,y5z⟩,x5z⟩:=hy 5 (by omega);obtain ⟨⟨u6z,y6z⟩,x6z⟩:=hy 6 (by omega);obtain ⟨⟨u7z,y7z⟩,x7z⟩:=hy 7 (by omega)) | skip)))
       all_goals
        rename_i hH
        clear hH
        go_wp2_with fail
        go_meet
        case rel=>
         first
          | exact ⟨wr.heap.size,rfl,rfl,κ33 ⟨(set8_at pr.1 (fun j hj=>(hy j hj).1) hA (Nat.le_refl _)).1,(set8_at pr.1 (fun j hj=>(hy j hj).1) hA (Nat.le_refl _)).2,Nat.le_refl _⟩⟩
          | exact ⟨wA.heap.size,rfl,rfl,κ33 ⟨OpAt.start wA pr.1 _,hA.alloc sA _,sA⟩⟩
      case rest=>
       obtain ⟨B,rfl,rfl,HB⟩:=hcut
       obtain ⟨fl,hfl⟩:∃ fl,opLt pr.1 x=fl:=⟨_,rfl⟩
       have HFL:=κ33 hfl
       have HLe2:Hid (∀ w',Below wc.heap.size wc w'→Calls Tryz.prog 89 #[stampV pr.1.t pr.1.b,stampV x.t x.b] w' fun e w''=>e=.returned (.bool fl)∧Below w'.heap.size w' w''):=κ33 fun w' hb=>by
        have:=isLess_any pr.1.t pr.1.b x.t x.b w'
        rw [show decide (pr.1.t < x.t∨pr.1.t=x.t∧pr.1.b < x.b)=fl by rw [←hfl];rfl] at this
        exact this
       unfold stampV at HLe2
       clear hfl
       have HS6:Hid (∀ w',Below wc.heap.size wc w'→Below wc.heap.size wc w'∧w'.cell? ⟨bb,off+j*8,none⟩=some (.int .i64 x.t)∧w'.cell? ⟨bb,off+j*8+1,none⟩=some (.int .i64 x.b)∧w'.cell? ⟨B,0,none⟩=some (.int .i64 pr.1.t)∧w'.cell? ⟨B,1,none⟩=some (.int .i64 pr.1.b)):=κ33 fun w' hb=>by
        have h1:=(HS5.out _ (bel2 HB.out.2.1 hb)).2
        have h2:=HB.out.1.below hb
        exact ⟨hb,h1.1,h1.2.1,h2.c0,h2.c1⟩
       obtain ⟨_,g0,g1,g2,g3⟩:=HS6.out _ (Below.refl _ _).drew
       obtain ⟨k0,k1,k2,k3⟩:=(HS6.out _ (Below.refl _ wc)).2
       clear HOw d0 d1 d2 d3 d4 d5 d6 d7 q0 q1 q2 q3 q4 q5 q6 q7
       obtain ⟨ib,hib⟩:∃ ib,pr.2=ib:=⟨_,rfl⟩
       rw [hib]
       have HIb:=κ33 hib
       clear hib
       cases ib with
       | false=>
        go_upto_region 23 with (fail)
        go_region_held_law (fun w'=>Below wc.heap.size wc w'∧w'.cell? ⟨bb,off+j*8,none⟩=some (.int .i64 x.t)∧w'.cell? ⟨bb,off+j*8+1,none⟩=some (.int .i64 x.b)∧w'.cell? ⟨B,0,none⟩=some (.int .i64 pr.1.t)∧w'.cell? ⟨B,1,none⟩=some (.int .i64 pr.1.b)) (exact HS6.out _ (by go_grown))
         (first
          | (go_at_call 89;refine (HLe2.out _ (by go_grown)).mono ?_;rintro e wA ⟨rfl,hbA⟩;have hA:=bel2 (w0:=wc) (by go_grown) hbA;have sA:=hA.size))
        all_goals
         rename_i hH
         clear hH
         have HAx:=κ33 hA
         clear hA hbA
         go_wp2_with fail
         go_roundw
         case rel=>exact ⟨j+1,by omega,by go_num,by rw [HTk.out,HGb.out.1,HE.out.1,HIb.out,Bool.or_comm];rfl,by rw [HTk.out,HGb.out.2,HE.out.2,HIb.out,Bool.false_and,Bool.or_false],κ33 ((HJ.out.below HB.out.2.1).below (HAx.out))⟩
         case measure=>simp [RowKit.intOf];omega
       | true=>
        cases fl with
        | false=>
         go_upto_region 23 with (fail)
         go_region_held_law (fun w'=>Below wc.heap.size wc w'∧w'.cell? ⟨bb,off+j*8,none⟩=some (.int .i64 x.t)∧w'.cell? ⟨bb,off+j*8+1,none⟩=some (.int .i64 x.b)∧w'.cell? ⟨B,0,none⟩=some (.int .i64 pr.1.t)∧w'.cell? ⟨B,1,none⟩=some (.int .i64 pr.1.b)) (exact HS6.out _ (by go_grown))
          (first
           | (go_at_call 89;refine (HLe2.out _ (by go_grown)).mono ?_;rintro e wA ⟨rfl,hbA⟩;have hA:=bel2 (w0:=wc) (by go_grown) hbA;have sA:=hA.size))
         all_goals
          rename_i hH
          clear hH
          have HAx:=κ33 hA
          clear hA hbA
          go_wp2_with fail
          go_roundw
          case rel=>exact ⟨j+1,by omega,by go_num,by rw [HTk.out,HGb.out.1,HE.out.1,HIb.out,Bool.not_true,Bool.or_false],by rw [HTk.out,HGb.out.2,HE.out.2,HIb.out,HFL.out,Bool.or_comm];rfl,κ33 ((HJ.out.below HB.out.2.1).below (HAx.out))⟩
          case measure=>simp [RowKit.intOf];omega
        | true=>
         go_upto_region 23 with (fail)
         go_region_held_law (fun w'=>Below wc.heap.size wc w'∧w'.cell? ⟨bb,off+j*8,none⟩=some (.int .i64 x.t)∧w'.cell? ⟨bb,off+j*8+1,none⟩=some (.int .i64 x.b)∧w'.cell? ⟨B,0,none⟩=some (.int .i64 pr.1.t)∧w'.cell? ⟨B,1,none⟩=some (.int .i64 pr.1.b)) (exact HS6.out _ (by go_grown))
          (first
           | (go_at_call 89;refine (HLe2.out _ (by go_grown)).mono ?_;rintro e wA ⟨rfl,hbA⟩;have hA:=bel2 (w0:=wc) (by go_grown) hbA;have sA:=hA.size))
         all_goals
          rename_i hH
          clear hH
          have HAx:=κ33 hA
          clear hA hbA
          go_wp2_with fail
          go_roundw
          case rel=>exact ⟨j+1,by omega,by go_num,by rw [HTk.out,HGb.out.1,HE.out.1,HIb.out,Bool.not_true,Bool.or_false],by rw [HTk.out,HGb.out.2,HE.out.2,HIb.out,HFL.out,Bool.not_true,Bool.and_false,Bool.or_false],κ33 ((HJ.out.below HB.out.2.1).below (HAx.out))⟩
          case measure=>simp [RowKit.intOf];omega
    ·obtain rfl:j=n6:=by omega
     have j2:¬ (j:Int) < (j:Int):=by omega
     have htk:L.take j=L:=by rw [HN6.out];exact List.take_length
     rw [htk]
     clear htk
     have HEnd9:Hid (L.any (gapE L)=true→∀ w',Below w.heap.size w w'→JmEnds MB b K l w (.returned (.tuple #[.int .i64 0,mFault 9 (-1)])) w'):=κ33 fun hg w' hb=>by
      unfold JmEnds joinM
      rw [HR.out,HRF.out]
      simp only
      rw [HLe.out,if_pos hg]
      exact ⟨rfl,hb⟩
     have HEnd3:Hid (L.any (gapE L)=false→L.any (fallE L)=true→∀ w',Below w.heap.size w w'→JmEnds MB b K l w (.returned (.tuple #[.int .i64 0,mFault 3 (-1)])) w'):=κ33 fun hg hf w' hb=>by
      unfold JmEnds joinM
      rw [HR.out,HRF.out]
      simp only
      rw [HLe.out,if_neg (by rw [hg];simp),if_pos hf]
      exact ⟨rfl,hb⟩
     have HEnd6:Hid (L.any (gapE L)=false→L.any (fallE L)=false→(∃ o∈sortOps L,¬ RefM (sortOps L) o)→∀ w',Below w.heap.size w w'→JmEnds MB b K l w (.returned (.tuple #[.int .i64 0,mFault 6 (-1)])) w'):=κ33 fun hg hf hr w' hb=>by
      unfold JmEnds joinM
      rw [HR.out,HRF.out]
      simp only
      rw [HLe.out,if_neg (by rw [hg];simp),if_neg (by rw [hf];simp),if_neg (fun h=>by obtain ⟨o,ho,hn⟩:=hr;exact hn (h o ho))]
      exact ⟨rfl,hb⟩
     have HEnd8:Hid (L.any (gapE L)=false→L.any (fallE L)=false→(∀ o∈sortOps L,RefM (sortOps L) o)→400 < L.length→∀ w',Below w.heap.size w w'→JmEnds MB b K l w (.returned (.tuple #[.int .i64 0,mFault 8 (-1)])) w'):=κ33 fun hg hf hr h4 w' hb=>by
      unfold JmEnds joinM
      rw [HR.out,HRF.out]
      simp only
      rw [HLe.out,if_neg (by rw [hg];simp),if_neg (by rw [hf];simp),if_pos hr,if_pos (by rw [←HLe.out,List.length_append] at h4;exact h4)]
      exact ⟨rfl,hb⟩
     have HEnd0:Hid (L.any (gapE L)=false→L.any (fallE L)=false→(∀ o∈sortOps L,RefM (sortOps L) o)→¬ 400 < L.length→∀ w',(∃ A n c,MRep MB b A n c (sortOps L) w'∧∀ a,A=some a→w.heap.size≤a.block)→Fr (·=MB) w w'→JmEnds MB b K l w (.returned (.tuple #[.int .i64 ((L.length:Int) - K.length),mFault 0 (-1)])) w'):=κ33 fun hg hf hr h4 w' hm hfr=>by
      unfold JmEnds joinM
      rw [HR.out,HRF.out]
      simp only
      rw [HLe.out,if_neg (by rw [hg];simp),if_neg (by rw [hf];simp),if_pos hr,if_neg (by rw [←HLe.out,List.length_append] at h4;exact h4)]
      have hF:((L.length:Int) - K.length)=F.length:=by rw [←HLe.out,List.length_append];push_cast;omega
      rw [hF]
      rw [←HLe.out] at hm
      exact ⟨rfl,hm,hfr⟩
     clear HR HRF HFl
     obtain ⟨gb,hgb⟩:∃ gb,L.any (gapE L)=gb:=⟨_,rfl⟩
     obtain ⟨fb,hfb⟩:∃ fb,L.any (fallE L)=fb:=⟨_,rfl⟩
     rw [hgb,hfb]
     rw [hgb] at HEnd9
     rw [hgb,hfb] at HEnd3 HEnd6 HEnd8 HEnd0
     clear hgb hfb
     go_upto_region 26 with (fail)
     as_aux_lemma=>
      cases gb with
      | true=>
       replace HEnd9:=κ33 (HEnd9.out rfl)
       go_wp2_with fail
       refine (bare_any 9 _).mono ?_
       rintro e wz ⟨rfl,hbz⟩
       have HJz:=κ33 (HJ.out.below hbz)
       have z0:=HJz.out.r0
       have z1:=HJz.out.r1
       have f0:=HJz.out.fz 0
       have f1:=HJz.out.fz 1
       clear hbz
       go_wp2_with fail
       refine bodyPost_ret (v:=.tuple #[.int .i64 0,mFault 9 (-1)]) (by simp [results,Tryz.results38,go_sem,z0,z1]) rfl ?_
       exact HEnd9.out _ (below_set (below_set HJz.out.bel (Nat.le_refl _) _) (Nat.le_refl _) _)
      | false=>
       cases fb with
       | true=>
        replace HEnd3:=κ33 (HEnd3.out rfl rfl)
        go_wp2_with fail
        refine (bare_any 3 _).mono ?_
        rintro e wz ⟨rfl,hbz⟩
        have HJz:=κ33 (HJ.out.below hbz)
        have z0:=HJz.out.r0
        have z1:=HJz.out.r1
        have f0:=HJz.out.fz 0
        have f1:=HJz.out.fz 1
        clear hbz
        go_wp2_with fail
        refine bodyPost_ret (v:=.tuple #[.int .i64 0,mFault 3 (-1)]) (by simp [results,Tryz.results38,go_sem,z0,z1]) rfl ?_
        exact HEnd3.out _ (below_set (below_set HJz.out.bel (Nat.le_refl _) _) (Nat.le_refl _) _)
       | false=>
        replace HEnd6:=κ33 (HEnd6.out rfl rfl)
        replace HEnd8:=κ33 (HEnd8.out rfl rfl)
        replace HEnd0:=κ33 (HEnd0.out rfl rfl)
        clear HEnd9 HEnd3
        have HSo:Hid (∀ w',Below wr.heap.size wr w'→Calls Tryz.prog 81 #[.slice A6 j c6] w' fun e w''=>∃ v',e=.returned v'∧Rw opE 31 w'.heap.size v' (sortOps L) w''∧Below w'.heap.size w' w''):=κ33 fun w' hb=>sortedOf_any A6 j c6 L w' (HJ.out.row.below hb).sl (by have:=HLl.out;omega)
        have HS7:Hid (∀ w',Below wr.heap.size wr w'→Below wr.heap.size wr w'∧w'.cell? ⟨MB,0,none⟩=some (.int .i64 b)):=κ33 fun w' hb=>⟨hb,(HJ.out.rep.below hb).c0⟩
        have c0:=(HS7.out _ (Below.refl _ wr)).2
        have c0d:=(HS7.out _ (Below.refl _ _).drew).2
        go_upto_region 30 with (fail)
        go_cut [17] (fun v17 wd=>∃ (X:Nat) (A7:Option Addr) (n7 c7:Nat),v17=.pointer (some ⟨X,0,none⟩)∧Hid (MRep X b A7 n7 c7 (sortOps L) wd∧Below wr.heap.size wr wd∧wr.heap.size≤X∧Rw opE 31 wr.heap.size (.slice A7 n7 c7) (sortOps L) wd))
        case first=>
         go_region_held_law (fun w'=>Below wr.heap.size wr w'∧w'.cell? ⟨MB,0,none⟩=some (.int .i64 b)) (exact HS7.out _ (by go_grown))
          (first
           | (go_at_call 81;refine (HSo.out _ (by go_grown)).mono ?_;rintro e wA ⟨v',rfl,hrA,hbA⟩;obtain ⟨A7,n7,c7,rfl⟩:=hrA.slice;have hA:=bel2 (w0:=wr) (by go_grown) hbA;have sA:=hA.size;have HRA:=κ33 (Rw.lower hrA (show wr.heap.size≤_ by simp))))
         all_goals
          rename_i hH
          clear hH
          go_wp2_with fail
          go_meet
          case rel=>
           refine ⟨wA.heap.size,A7,n7,c7,rfl,κ33 ⟨⟨by simp [go_sem],by simp [go_sem],(HRA.out.below ((Below.refl _ _).alloc (Nat.le_refl _) _)).sl,fun j=>by simp [go_sem]⟩,hA.alloc sA _,sA,HRA.out.below ((Below.refl _ _).alloc (Nat.le_refl _) _)⟩⟩
        case rest=>
         obtain ⟨X,A7,n7,c7,rfl,HX7⟩:=hcut
         have HJc:=κ33 (HJ.out.below HX7.out.2.1)
         have HJ0:Hid (MB < wr.heap.size∧w.heap.size < wr.heap.size):=κ33 ⟨by have:=HJ.out.lt;omega,HJ.out.lt⟩
         have hMf:∀ o∈sortOps L,OpFine o:=fun o ho=>fine_of (HLf.out o (sortOps_mem.1 ho))
         have hMl:(sortOps L).length=L.length:=(sortOps_perm L).length_eq
         obtain ⟨M,hMe⟩:∃ M,sortOps L=M:=⟨_,rfl⟩
         rw [hMe] at HX7 HEnd6 HEnd8 HEnd0 hMf hMl
         have HMf:=κ33 hMf
         have HMl:=κ33 hMl
         have HN7:=κ33 HX7.out.1.sl.len
         have hn7:n7≤2000:=by have:=HN7.out;have:=HLl.out;omega
         clear hMf hMl hMe HSo HS7 c0 c0d HJ
         go_wp2_with fail
         go_loopw [18] (fun v18 wq=>∃ q:Nat,q≤n7∧v18=.int .i64 q∧Hid (∀ i y,i < q→M[i]?=some y→RefM M y)∧Hid (Below wc.heap.size wc wq)) (fun v18 _=>n7 - (RowKit.intOf v18).toNat)
         case atStart=>exact ⟨0,by omega,rfl,κ33 (fun i y h=>by omega),κ33 (Below.refl _ _)⟩
         case round=>
          obtain ⟨q,hq,rfl,HA,HBq⟩:=hrel
          have HXq:=κ33 (HX7.out.1.below HBq.out)
          have x1:=HXq.out.c1
          by_cases hlt3:q < n7
          ·obtain ⟨x,hx⟩:∃ x,M[q]?=some x:=⟨_,List.getElem?_eq_getElem (by have:=HN7.out;omega)⟩
           obtain ⟨bb,off,rfl,hbl,q0,q1,q2,q3,q4,q5,q6,q7⟩:=ops_at HXq.out.sl hx
           have j1:(0:Int)≤(q:Int):=by omega
           have j3:(q:Int) < (n7:Int):=by omega
           have HX:=κ33 hx
           have HFi:=κ33 (HMf.out x (List.mem_of_getElem? hx))
           clear hx hbl
           have HIo:Hid (∀ w',Calls Tryz.prog 91 #[stampV x.t x.b] w' fun e w''=>e=.returned (.int .i64 (x.t*4+x.b))∧Below w'.heap.size w' w''):=κ33 fun w'=>idOf_ok x.t x.b w' ⟨by have:=HFi.out.t1;omega,HFi.out.t2,HFi.out.b1,HFi.out.b2⟩
           unfold stampV at HIo
           obtain ⟨nb,hnb⟩:∃ nb,(x.t*4+x.b == x.nd)=nb:=⟨_,rfl⟩
           obtain ⟨kb,hkb⟩:∃ kb,(x.k == 109)=kb:=⟨_,rfl⟩
           obtain ⟨ib,hib⟩:∃ ib,(x.k == 105)=ib:=⟨_,rfl⟩
           obtain ⟨db,hdb⟩:∃ db,(x.k == 100)=db:=⟨_,rfl⟩
           obtain ⟨ob,hob⟩:∃ ob,decide (0 < x.ot)=ob:=⟨_,rfl⟩
           have HTs:Hid ((nb=true↔x.id=x.nd)∧(kb=true↔x.k=109)∧(ib=true↔x.k=105)∧(db=true↔x.k=100)∧(ob=true↔0 < x.ot)):=κ33 ⟨by rw [←hnb,beq_iff_eq];rfl,by rw [←hkb,beq_iff_eq],by rw [←hib,beq_iff_eq],by rw [←hdb,beq_iff_eq],by rw [←hob,decide_eq_true_eq]⟩
           obtain ⟨W,hW⟩:∃ W,W=wr.alloc (.cells x.cells 31):=⟨_,rfl⟩
           have HWb:Hid (Below wr.heap.size wr W∧OpAt W wr.heap.size x):=κ33 (by rw [hW];exact ⟨(Below.refl _ _).alloc (Nat.le_refl _) _,OpAt.start wr x _⟩)
           go_upto_region 35 with (fail)
           rw [show wr.alloc (.cells #[.int .i64 x.t,.int .i64 x.b,.int .i64 x.n,.int .u8 x.k,.int .i64 x.nd,.int .i64 x.ot,.string x.nm,.string x.vl] 31)=W from hW.symm]
           clear hW q0 q1 q2 q3 q4 q5 q6 q7
           have HS8:Hid (∀ w',Below W.heap.size W w'→Below W.heap.size W w'∧w'.cell? ⟨wr.heap.size,0,none⟩=some (.int .i64 x.t)∧w'.cell? ⟨wr.heap.size,1,none⟩=some (.int .i64 x.b)∧w'.cell? ⟨wr.heap.size,4,none⟩=some (.int .i64 x.nd)):=κ33 fun w' hb=>by
            have h:=HWb.out.2.below hb
            exact ⟨hb,h.c0,h.c1,h.c4⟩
           obtain ⟨g0,g1,g4⟩:=(HS8.out _ (Below.refl _ _).drew).2
           obtain ⟨k0,k1,k4⟩:=(HS8.out _ (Below.refl _ W)).2
           go_cut [20] (fun v20 wd=>v20=.bool nb∧Hid (Below W.heap.size W wd))
           case first=>
            go_region_held_law (fun w'=>Below W.heap.size W w'∧w'.cell? ⟨wr.heap.size,0,none⟩=some (.int .i64 x.t)∧w'.cell? ⟨wr.heap.size,1,none⟩=some (.int .i64 x.b)∧w'.cell? ⟨wr.heap.size,4,none⟩=some (.int .i64 x.nd)) (exact HS8.out _ (by go_grown))
             (first
              | (go_at_call 91;refine (HIo.out _).mono ?_;rintro e wA ⟨rfl,hbA⟩;have hA:=bel2 (w0:=W) (by go_grown) hbA;have sA:=hA.size))
            all_goals
             rename_i hH
             clear hH
             go_wp2_with fail
             go_meet
             case rel=>exact ⟨rfl,κ33 hA⟩
           case rest=>
            obtain ⟨rfl,HB35⟩:=hcut
            have HOc:=κ33 (fun w' (hb:Below wc.heap.size wc w')=>HWb.out.2.below (bel2 HB35.out hb))
            have HMc:=κ33 (fun w' (hb:Below wc.heap.size wc w')=>HXq.out.below (bel2 HWb.out.1 (bel2 HB35.out hb)))
            have HBc:=κ33 (fun w' (hb:Below wc.heap.size wc w')=>bel2 HBq.out (bel2 HWb.out.1 (bel2 HB35.out hb)))
            clear k0 k1 k4
            obtain ⟨k0,k1,k2,k3,k4,k5,k6,k7⟩:=HOc.out _ (Below.refl _ wc)
            clear g0 g1 g4 HS8 HIo
            have HKn:Hid (∀ w',Below wc.heap.size wc w'→Calls Tryz.prog 92 #[ptrV X,.int .i64 x.nd] w' (KnEnds M x.nd w')):=κ33 fun w' hb=>mKnown_any X b (some ⟨bb,off,none⟩) n7 c7 M x.nd w' (HMc.out w' hb) HMf.out (by have:=HMl.out;have:=HLl.out;omega)
            have HPl:Hid (∀ w',Below wc.heap.size wc w'→Calls Tryz.prog 93 #[ptrV X,.int .i64 x.ot] w' fun e w''=>∃ p,e=.returned (.bool p)∧(p=true↔x.ot=0∨x.ot=1∨Known M x.ot)∧Below w'.heap.size w' w''):=κ33 fun w' hb=>mPlace_any X b (some ⟨bb,off,none⟩) n7 c7 M x.ot w' (HMc.out w' hb) HMf.out (by have:=HMl.out;have:=HLl.out;omega)
            have HLt:Hid (∀ w',Below wc.heap.size wc w'→Calls Tryz.prog 94 #[ptrV X,.int .i64 x.nd,.int .i64 x.ot] w' (LtEnds M x.nd x.ot w')):=κ33 fun w' hb=>mLetter_any X b (some ⟨bb,off,none⟩) n7 c7 M x.nd x.ot w' (HMc.out w' hb) HMf.out (by have:=HMl.out;have:=HLl.out;omega)
            unfold ptrV KnEnds at HKn
            unfold ptrV at HPl
            unfold ptrV LtEnds at HLt
            go_upto_region 36 with (fail)
            go_cut [21] (fun v21 wd=>∃ b1:Bool,v21=.bool b1∧Hid ((b1=true↔(nb=true∧kb=true)∨Known M x.nd)∧Below wc.heap.size wc wd))
            case first=>
             cases nb with
             | false=>
              go_wp2_with fail
              refine (HKn.out _ (Below.refl _ _)).mono ?_
              rintro e wA ⟨p,rfl,hp,hbA⟩
              go_wp2_with fail
              go_meet
              case rel=>exact ⟨p,rfl,κ33 ⟨by rw [hp];simp,hbA⟩⟩
             | true=>
              cases kb with
              | false=>
               go_wp2_with fail
               refine (HKn.out _ (Below.refl _ _)).mono ?_
               rintro e wA ⟨p,rfl,hp,hbA⟩
               go_wp2_with fail
               go_meet
               case rel=>exact ⟨p,rfl,κ33 ⟨by rw [hp];simp,hbA⟩⟩
              | true=>
               go_wp2_with fail
               go_meet
               case rel=>exact ⟨true,rfl,κ33 ⟨by simp,Below.refl _ _⟩⟩
            case rest=>
             obtain ⟨b1,rfl,HB36⟩:=hcut
             have HOd:=κ33 (fun w' (hb:Below wc.heap.size wc w')=>HOc.out w' (bel2 HB36.out.2 hb))
             have HPl2:=κ33 (fun w' (hb:Below wc.heap.size wc w')=>HPl.out w' (bel2 HB36.out.2 hb))
             have HLt2:=κ33 (fun w' (hb:Below wc.heap.size wc w')=>HLt.out w' (bel2 HB36.out.2 hb))
             have HBd:=κ33 (fun w' (hb:Below wc.heap.size wc w')=>HBc.out w' (bel2 HB36.out.2 hb))
             obtain ⟨m0,m1,m2,m3,m4,m5,m6,m7⟩:=HOd.out _ (Below.refl _ wc)
             clear k0 k1 k2 k3 k4 k5 k6 k7 HKn HPl HLt
             go_upto_region 37 with (fail)
             go_cut [181] (fun v181 wd=>∃ tb:Bool,v181=.bool tb∧Hid ((tb=true↔kb=true∧¬ (x.ot=0∨x.ot=1∨Known M x.ot))∧Below wc.heap.size wc wd))
             case first=>
              cases kb with
              | false=>
               go_wp2_with fail
               go_meet
               case rel=>exact ⟨false,rfl,κ33 ⟨by simp,Below.refl _ _⟩⟩
              | true=>
               go_wp2_with fail
               refine (HPl2.out _ (Below.refl _ _)).mono ?_
               rintro e wA ⟨p,rfl,hp,hbA⟩
               have HPp:=κ33 hp
               clear hp
               go_wp2_with fail
               go_meet
               case rel=>exact ⟨!p,rfl,κ33 ⟨by rw [←HPp.out];cases p <;> simp,hbA⟩⟩
             case rest=>
              obtain ⟨tb,rfl,HBt⟩:=hcut
              go_upto_if 181 with (fail)
              go_cut [21] (fun v21 wd=>∃ b2:Bool,v21=.bool b2∧Hid ((b2=true↔b1=true∧(kb=true→x.ot=0∨x.ot=1∨Known M x.ot))∧Below wc.heap.size wc wd))
              case first=>
               cases tb with
               | false=>
                go_wp2_with fail
                go_meet
                case rel=>exact ⟨b1,rfl,κ33 ⟨⟨fun h=>⟨h,fun hk=>Classical.byContradiction fun hn=>by have:=HBt.out.1.2 ⟨hk,hn⟩;cases this⟩,fun h=>h.1⟩,Below.refl _ _⟩⟩
               | true=>
                go_wp2_with fail
                go_meet
                case rel=>exact ⟨false,rfl,κ33 ⟨⟨fun h=>(by cases h),fun h=>absurd (h.2 (HBt.out.1.1 (by trivial)).1) (HBt.out.1.1 (by trivial)).2⟩,Below.refl _ _⟩⟩
              case rest=>
               obtain ⟨b2,rfl,HB37⟩:=hcut
               have HOe:=κ33 (fun w' (hb:Below wc.heap.size wc w')=>HOd.out w' (bel2 HBt.out.2 (bel2 HB37.out.2 hb)))
               have HLt3:=κ33 (fun w' (hb:Below wc.heap.size wc w')=>HLt2.out w' (bel2 HBt.out.2 (bel2 HB37.out.2 hb)))
               have HBe:=κ33 (fun w' (hb:Below wc.heap.size wc w')=>HBd.out w' (bel2 HBt.out.2 (bel2 HB37.out.2 hb)))
               clear m0 m1 m2 m3 m4 m5 m6 m7
               obtain ⟨m0,m1,m2,m3,m4,m5,m6,m7⟩:=HOe.out _ (Below.refl _ wc)
               clear HPl2 HLt2
               go_upto_region 39 with (fail)
               go_cut [194] (fun v194 wd=>∃ tc:Bool,v194=.bool tc∧Hid ((tc=true↔(ib=true∧ob=true)∨db=true)∧Below wc.heap.size wc wd))
               case first=>
                cases ib with
                | false=>
                 go_wp2_with fail
                 go_meet
                 case rel=>exact ⟨db,rfl,κ33 ⟨by simp,Below.refl _ _⟩⟩
                | true=>
                 cases ob with
                 | false=>
                  go_wp2_with fail
                  go_meet
                  case rel=>exact ⟨db,rfl,κ33 ⟨by simp,Below.refl _ _⟩⟩
                 | true=>
                  go_wp2_with fail
                  go_meet
                  case rel=>exact ⟨true,rfl,κ33 ⟨by simp,Below.refl _ _⟩⟩
               case rest=>
                obtain ⟨tc,rfl,HBu⟩:=hcut
                clear m0 m1 m2 m3 m4 m5 m6 m7
                obtain ⟨m0,m1,m2,m3,m4,m5,m6,m7⟩:=HOe.out _ HBu.out.2
                go_upto_if 194 with (fail)
                go_cut [21] (fun v21 wd=>∃ b3:Bool,v21=.bool b3∧Hid ((b3=true↔b2=true∧((ib=true∧ob=true)∨db=true→HasLet M x.nd x.ot))∧Below wc.heap.size wc wd))
                case first=>
                 cases tc with
                 | false=>
                  go_wp2_with fail
                  go_meet
                  case rel=>exact ⟨b2,rfl,κ33 ⟨⟨fun h=>⟨h,fun hk=>by have:=HBu.out.1.2 hk;cases this⟩,fun h=>h.1⟩,Below.refl _ _⟩⟩
                 | true=>
                  go_wp2_with fail
                  refine (HLt3.out _ HBu.out.2).mono ?_
                  rintro e wA ⟨p,rfl,hp,hbA⟩
                  have HPp:=κ33 hp
                  clear hp
                  cases b2 with
                  | false=>
                   go_wp2_with fail
                   go_meet
                   case rel=>exact ⟨false,rfl,κ33 ⟨by simp,hbA⟩⟩
                  | true=>
                   go_wp2_with fail
                   go_meet
                   case rel=>exact ⟨p,rfl,κ33 ⟨by rw [HPp.out];exact ⟨fun h=>⟨by trivial,fun _=>h⟩,fun h=>h.2 (HBu.out.1.1 (by trivial))⟩,hbA⟩⟩
                case rest=>
                 obtain ⟨b3,rfl,HB39⟩:=hcut
                 have HBf:=κ33 (HBe.out _ (bel2 HBu.out.2 HB39.out.2))
                 have HRf:Hid (b3=true↔RefM M x):=κ33 (by
                  have ht:=HTs.out
                  have h36:=HB36.out.1
                  have h37:=HB37.out.1
                  have h39:=HB39.out.1
                  clear HB36 HB37 HB39 HTs
                  constructor
                  ·intro h
                   obtain ⟨h2,h3⟩:=h39.1 h
                   obtain ⟨h1,hp⟩:=h37.1 h2
                   exact ⟨(h36.1 h1).imp (fun q=>⟨ht.1.1 q.1,ht.2.1.1 q.2⟩) id,fun hk=>hp (ht.2.1.2 hk),fun hh=>h3 (hh.imp (fun q=>⟨ht.2.2.1.2 q.1,ht.2.2.2.2.2 q.2⟩) ht.2.2.2.1.2)⟩
                  ·rintro ⟨h1,h2,h3⟩
                   exact h39.2 ⟨h37.2 ⟨h36.2 (h1.imp (fun q=>⟨ht.1.2 q.1,ht.2.1.2 q.2⟩) id),fun hk=>h2 (ht.2.1.1 hk)⟩,fun hh=>h3 (hh.imp (fun q=>⟨ht.2.2.1.1 q.1,ht.2.2.2.2.1 q.2⟩) ht.2.2.2.1.1)⟩)
                 clear m0 m1 m2 m3 m4 m5 m6 m7 HOe HLt3 HBe
                 cases b3 with
                 | true=>
                  go_wp2_with fail
                  go_roundw
                  case rel=>exact ⟨q+1,by omega,by go_num,κ33 (fun i y h1 h2=>by
                   by_cases he:i=q
                   ·subst he;rw [HX.out] at h2;cases h2;exact HRf.out.1 rfl
                   ·exact HA.out i y (by omega) h2),HBf⟩
                  case measure=>simp [RowKit.intOf];omega
                 | false=>
                  have HB6:Hid (∃ o∈M,¬ RefM M o):=κ33 ⟨x,List.mem_of_getElem? HX.out,fun h=>by have:=HRf.out.2 h;cases this⟩
                  go_wp2_with fail
                  refine (bare_any 6 _).mono ?_
                  rintro e wz ⟨rfl,hbz⟩
                  have HJz:=κ33 ((HJc.out.below HBf.out).below hbz)
                  have z0:=HJz.out.r0
                  have z1:=HJz.out.r1
                  have f0:=HJz.out.fz 0
                  have f1:=HJz.out.fz 1
                  clear hbz
                  rename_i K1 a1 K0 a0
                  show K0 _ _
                  refine a0 _ _ ?_
                  generalize hQQ:Exit.then K1 _=QQ
                  go_wp2_with fail
                  rw [←hQQ]
                  show K1 _ _
                  refine a1 _ _ ?_
                  refine wp_ret ?_
                  show bodyPost Tryz.prog Tryz.f38 (JmEnds MB b K l w) Exit.ret _ _
                  refine bodyPost_ret (v:=.tuple #[.int .i64 0,mFault 6 (-1)]) (by simp [results,Tryz.results38,go_sem,z0,z1]) rfl ?_
                  exact HEnd6.out HB6.out _ (below_set (below_set HJz.out.bel (Nat.le_refl _) _) (Nat.le_refl _) _)
          ·obtain rfl:q=n7:=by omega
           have j4:¬ (q:Int) < (q:Int):=by omega
           have HAll:Hid (∀ o∈M,RefM M o):=κ33 fun o ho=>by
            obtain ⟨k,hk,rfl⟩:=List.getElem_of_mem ho
            exact HA.out k _ (by have:=HN7.out;omega) (List.getElem?_eq_getElem hk)
           have HJq:=κ33 (HJc.out.below HBq.out)
           have m1:=HJq.out.rep.c1
           have HjL:Hid ((j:Int)=L.length∧(n:Int)=K.length):=κ33 ⟨by rw [HN6.out],by rw [HNK.out]⟩
           replace HEnd8:=κ33 (HEnd8.out HAll.out)
           replace HEnd0:=κ33 (HEnd0.out HAll.out)
           clear HEnd6
           go_upto_region 44 with (fail)
           by_cases h400:400 < (j:Int)
           ·have HB6:Hid (400 < L.length):=κ33 (by have:=HN6.out;omega)
            go_wp2_with fail
            refine (bare_any 8 _).mono ?_
            rintro e wz ⟨rfl,hbz⟩
            have HJz:=κ33 (HJq.out.below hbz)
            have z0:=HJz.out.r0
            have z1:=HJz.out.r1
            have f0:=HJz.out.fz 0
            have f1:=HJz.out.fz 1
            clear hbz
            go_wp2_with fail
            refine bodyPost_ret (v:=.tuple #[.int .i64 0,mFault 8 (-1)]) (by simp [results,Tryz.results38,go_sem,z0,z1]) rfl ?_
            exact HEnd8.out HB6.out _ (below_set (below_set HJz.out.bel (Nat.le_refl _) _) (Nat.le_refl _) _)
           ·have H4:Hid (¬ 400 < L.length):=κ33 (by have:=HN6.out;omega)
            have s1:IntKind.i64.wrap ((j:Int) - (n:Int))=(j:Int) - (n:Int):=by rw [IntKind.wrap_i64];omega
            have fm:=HJq.out.rep.fz 1
            have HRow:=κ33 (Rw.below HX7.out.2.2.2 HBq.out)
            have HM1':Hid (MRep MB b A7 q c7 M (wr.setCell ⟨MB,1,none⟩ (.slice A7 q c7))):=κ33 (HJq.out.rep.set HRow.out (by have:=HJ0.out;omega))
            have HFr1:Hid (Fr (·=MB) w (wr.setCell ⟨MB,1,none⟩ (.slice A7 q c7))):=κ33 ((Fr.of_below HJq.out.bel).trans (fr_set _ _ _ _))
            have HZ:Hid (∀ i,i < 2→(wr.setCell ⟨MB,1,none⟩ (.slice A7 q c7)).cell? ⟨w.heap.size,i,none⟩=some (.int .i64 0)∧(wr.setCell ⟨MB,1,none⟩ (.slice A7 q c7)).frozen? ⟨w.heap.size,i,none⟩=false):=κ33 fun i hi=>by
             rw [World.frozen?_setCell,World.cell?_setCell_other _ _ _ _ (by intro e;have:=congrArg Addr.block e;simp at this;omega)]
             refine ⟨?_,HJq.out.fz i⟩
             rcases (show i=0∨i=1 by omega) with rfl | rfl
             ·exact HJq.out.r0
             ·exact HJq.out.r1
            have HlZ:Hid (w.heap.size < (wr.setCell ⟨MB,1,none⟩ (.slice A7 q c7)).heap.size):=κ33 (by simp;exact HJq.out.lt)
            have HBl:Hid (∀ a,A7=some a→w.heap.size≤a.block):=κ33 fun a ha=>by
             have h1:=HX7.out.2.2.2.lt a.block (by rw [ha];rfl)
             have:=HJ0.out
             omega
            generalize hW1:wr.setCell ⟨MB,1,none⟩ (.slice A7 q c7)=W1 at HM1' HFr1 HZ HlZ
            go_wp2_with fail
            refine (fineF_any _).mono ?_
            rintro e wz ⟨rfl,hbz⟩
            have z0:=(hbz.cell (p:=⟨w.heap.size,0,none⟩) HlZ.out).trans (HZ.out 0 (by omega)).1
            have z1:=(hbz.cell (p:=⟨w.heap.size,1,none⟩) HlZ.out).trans (HZ.out 1 (by omega)).1
            have f0:=(hbz.frozen (p:=⟨w.heap.size,0,none⟩) HlZ.out).trans (HZ.out 0 (by omega)).2
            have f1:=(hbz.frozen (p:=⟨w.heap.size,1,none⟩) HlZ.out).trans (HZ.out 1 (by omega)).2
            have HMz:=κ33 (HM1'.out.below hbz)
            have HFz:=κ33 (HFr1.out.trans (Fr.of_below hbz))
            have HWz:Hid (w.heap.size < wz.heap.size):=κ33 (Nat.lt_of_lt_of_le HlZ.out hbz.size)
            clear hbz
            go_wp2_with fail
            refine bodyPost_ret (v:=.tuple #[.int .i64 ((j:Int) - (n:Int)),mFault 0 (-1)]) (by simp [results,Tryz.results38,go_sem,z0,z1]) rfl ?_
            rw [HjL.out.1,HjL.out.2]
            have hb2:Below w.heap.size wz ((wz.setCell ⟨w.heap.size,0,none⟩ (.int .i64 0)).setCell ⟨w.heap.size,1,none⟩ (.int .i64 (-1))):=by
             refine below_set (p:=⟨w.heap.size,1,none⟩) ?_ (Nat.le_refl _) _
             exact below_set (p:=⟨w.heap.size,0,none⟩) (Below.refl w.heap.size wz) (Nat.le_refl _) _
            refine HEnd0.out H4.out _ ⟨A7,q,c7,?_,HBl.out⟩ (fr_then HFz.out hb2)
            have hne:MB≠w.heap.size:=by omega
            have hne2:∀ k,(Value.slice A7 q c7).ownBlock=some k→k≠w.heap.size:=fun k hk e=>by have h1:=(HX7.out.2.2.2.lt k hk).1;have:=HJ0.out;omega
            exact (HMz.out.other hne hne2).other hne hne2
end Go.Proofs.YtjekalilfhnpmaaGreatDoor
