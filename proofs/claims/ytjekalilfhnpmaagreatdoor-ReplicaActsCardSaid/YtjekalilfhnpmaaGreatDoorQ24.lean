/- A replica's fresh operations of a list: the walk of fresh. -/
import Derived.Handy
import Derived.Test.YtjekalilfhnpmaaGreatDoorQ02
import Derived.Test.YtjekalilfhnpmaaGreatDoorQ07
import Derived.Test.YtjekalilfhnpmaaGreatDoorQ12
import Derived.Test.YtjekalilfhnpmaaGreatDoorQ13
theorem Go.Proofs.YtjekalilfhnpmaaGreatDoor.κ24 {p:Prop} (h:p):Go.RowKit.Hid p:=Go.Lib.hid h
namespace Go.Proofs.YtjekalilfhnpmaaGreatDoor
open Go Go.RowKit Go.Maps Go.Shelf
set_option linter.unusedVariables false
set_option linter.unusedSimpArgs false
set_option maxHeartbeats 2000000
set_option maxRecDepth 100000
def FrEnds (ea:Nat→Addr) (v:Int→Nat) (K:List OpT) (R:(Nat×Int) ⊕ List OpT) (w:World) (e:Ending) (w':World):Prop:=
 Below w.heap.size w w'∧
 match R with
 | .inl p=>∃ ev,e=.returned (.tuple #[.slice none 0 0,ev])∧ErrVal ea w' ev p.1 p.2∧p.1≠0
 | .inr F=>(F.any (gapB v F)=true∧e=.returned (.tuple #[.slice none 0 0,errV (ea 9)]))∨(F.any (gapB v F)=false∧F.any (fallB (K++F))=true∧e=.returned (.tuple #[.slice none 0 0,errV (ea 3)]))∨
   (F.any (gapB v F)=false∧F.any (fallB (K++F))=false∧∃ sv,e=.returned (.tuple #[sv,.nilIface])∧Rw opE 31 w.heap.size sv (sortOps F) w')
theorem rw_low {T:Type} {E:Enc T} {ty:TypeId} {base b:Nat} {v:Value} {L:List T} {w:World} (h:Rw E ty base v L w) (hb:b≤base):Rw E ty b v L w:=⟨h.1,by
 rcases h.2 with hn | ⟨g,cap,cur,e1,e2,e3⟩
 ·exact .inl hn
 ·exact .inr ⟨g,cap,cur,e1,by omega,e3⟩⟩
theorem opErr_le (o:OpT):opErr o≤12:=by
 unfold opErr
 repeat' split
 all_goals omega
theorem cntB_perm {L M:List OpT} (h:L.Perm M) (b:Int):cntB L b=cntB M b:=h.countP_eq _
theorem gapB_sort (v:Int→Nat) (F:List OpT):(sortOps F).any (gapB v (sortOps F))=F.any (gapB v F):=by
 have hp:=sortL_perm swo_opLt F
 have e:gapB v (sortOps F)=gapB v F:=by
  funext o
  unfold gapB manyF
  rw [List.take_length,List.take_length,cntB_perm hp]
 rw [e,Bool.eq_iff_iff,List.any_eq_true,List.any_eq_true]
 exact ⟨fun ⟨o,ho,r⟩=>⟨o,hp.mem_iff.1 ho,r⟩,fun ⟨o,ho,r⟩=>⟨o,hp.mem_iff.2 ho,r⟩⟩
theorem fallB_sort (K F:List OpT):(sortOps F).any (fallB (K++F))=F.any (fallB (K++F)):=by
 have hp:=sortL_perm swo_opLt F
 rw [Bool.eq_iff_iff,List.any_eq_true,List.any_eq_true]
 exact ⟨fun ⟨o,ho,r⟩=>⟨o,hp.mem_iff.1 ho,r⟩,fun ⟨o,ho,r⟩=>⟨o,hp.mem_iff.2 ho,r⟩⟩
structure FrL (w0:World) (mb:Nat) (v7:Value) (K F:List OpT) (wr:World):Prop where
 m:MO mb (K.length+F.length) (K++F) wr
 row:Rw opE 31 w0.heap.size v7 F wr
 bl:Below w0.heap.size w0 wr
 ge:w0.heap.size≤mb
 ne:∀ k,v7.ownBlock=some k→k≠mb
theorem FrL.below {w0:World} {mb:Nat} {v7:Value} {K F:List OpT} {w w':World} (h:FrL w0 mb v7 K F w) (hb:Below w.heap.size w w'):FrL w0 mb v7 K F w':=
 ⟨h.m.below hb,h.row.below hb,h.bl.trans (hb.mono h.bl.size),h.ge,h.ne⟩
theorem FrL.put {w0:World} {mb:Nat} {v7:Value} {K F:List OpT} {x:OpT} {w w':World} (h:FrL w0 mb v7 K F w) (hm:MT Tryz.prog 195 pairV opV mb (K.length+F.length+1) (updT (ownM (K++F)) (x.b,x.n) (some x)) w') (hg:w.grownBy w' (some mb)) :
  MO mb (K.length+(F++[x]).length) (K++(F++[x])) w'∧Rw opE 31 w0.heap.size v7 F w'∧Below w0.heap.size w0 w':=by
 have hF:=fr_of_grown (X:=(·=mb)) hg rfl
 refine ⟨?_,h.row.fr (X:=(·=mb)) (fun k h1 h2=>hF.block k h1 h2) (fun k hk e=>h.ne k hk e),h.bl.grown hg h.bl.size (fun k hk=>by have:=Option.some.inj hk;have:=h.ge;omega)⟩
 show MT _ _ _ _ _ _ (ownM (K++(F++[x]))) _
 rw [←List.append_assoc,ownM_snoc,List.length_append,List.length_singleton,←Nat.add_assoc]
 exact hm
theorem opAt_fr {X:Nat→Prop} {w w':World} {B:Nat} {o:OpT} (h:OpAt w B o) (hF:Fr X w w') (hx:¬ X B):OpAt w' B o:=by
 have hl:=h.lt
 have g:∀ {j:Nat} {u:Value},w.cell? ⟨B,j,none⟩=some u→w'.cell? ⟨B,j,none⟩=some u:=fun {j u} hc=>(hF.cell (p:=⟨B,j,none⟩) hl hx).trans hc
 exact ⟨g h.c0,g h.c1,g h.c2,g h.c3,g h.c4,g h.c5,g h.c6,g h.c7⟩
theorem freshG_err {L F l:List OpT} {i:Nat} {o:OpT} (h:opErr o≠0):freshG L F i (o :: l)=.inl (opErr o,i):=by
 conv=>lhs;unfold freshG
 rw [if_pos h]
theorem freshG_same {L F l:List OpT} {i:Nat} {o:OpT} (h:opErr o=0) (hf:findOwn (L++F) o.b o.n=some o):freshG L F i (o :: l)=freshG L F (i+1) l:=by
 conv=>lhs;unfold freshG
 rw [if_neg (by omega),hf]
 simp
theorem freshG_other {L F l:List OpT} {i:Nat} {o p:OpT} (h:opErr o=0) (hf:findOwn (L++F) o.b o.n=some p) (hne:p≠o):freshG L F i (o :: l)=.inl (7,i):=by
 conv=>lhs;unfold freshG
 rw [if_neg (by omega),hf]
 simp [hne]
theorem freshG_new {L F l:List OpT} {i:Nat} {o:OpT} (h:opErr o=0) (hf:findOwn (L++F) o.b o.n=none):freshG L F i (o :: l)=freshG L (F++[o]) (i+1) l:=by
 conv=>lhs;unfold freshG
 rw [if_neg (by omega),hf]
theorem fresh_any {F0:Nat→Bool} (ea:Nat→Addr) (RB:Nat) (vK:Value) (K l:List OpT) (v:Int→Nat) (A:Option Addr) (n c:Nat) (w:World) (hG:Gd F0 ea w) (f2:F0 2=true) (f3:F0 3=true) (f4:F0 4=true) (f5:F0 5=true) (f7:F0 7=true) (f9:F0 9=true)
  (q2:w.cell? ⟨RB,2,none⟩=some (.int .i64 (v 0))) (q3:w.cell? ⟨RB,3,none⟩=some (.int .i64 (v 1))) (q4:w.cell? ⟨RB,4,none⟩=some (.int .i64 (v 2))) (q5:w.cell? ⟨RB,5,none⟩=some (.int .i64 (v 3))) (q6:w.cell? ⟨RB,6,none⟩=some vK)
  (hK:SlV opE w vK K) (hs:SlV opE w (.slice A n c) l) (hv:∀ x,v x≤100000) (hn:K.length+l.length≤100000) (hw:∀ o∈l,o.Wf) (hwK:∀ o∈K,o.Wf) :
  Calls Tryz.prog 55 #[.pointer (some ⟨RB,0,none⟩),.slice A n c] w (FrEnds ea v K (freshG K [] 0 l) w):=by
 have hl:=hs.len
 have HS:=κ24 hs
 have HN:=κ24 hl
 have HW:=κ24 hw
 have HV:=κ24 hv
 have HG:=κ24 hG
 have Hn:=κ24 hn
 obtain ⟨R,hR⟩:∃ R,freshG K [] 0 l=R:=⟨_,rfl⟩
 rw [hR]
 have HR:=κ24 hR
 have hRB:=World.block_lt_of_cell? w _ q2
 obtain ⟨AK,kc,rfl,_⟩:=hK.form
 have HBy:=κ24 (byOwn_any RB AK K.length kc K w q6 hK (by omega) hwK)
 have HQ:Hid (w.cell? ⟨RB,2,none⟩=some (.int .i64 (v 0))∧w.cell? ⟨RB,3,none⟩=some (.int .i64 (v 1))∧w.cell? ⟨RB,4,none⟩=some (.int .i64 (v 2))∧w.cell? ⟨RB,5,none⟩=some (.int .i64 (v 3))):=κ24 ⟨q2,q3,q4,q5⟩
 have hn5:n≤100000:=by omega
 clear hs hl hw hv hG hR hK hwK q2 q3 q4 q5 q6 hn
 go_enter Tryz.func55,Tryz.ntmps55
 go_wp2_with fail
 refine HBy.out.mono ?_
 rintro e w1 ⟨mb,rfl,hmb,hM1,hb1⟩
 have HL1:Hid (FrL w mb (.slice none 0 0) K [] w1):=κ24 ⟨by rw [List.append_nil];exact hM1,Rw.nil _ _ _ _,hb1,hmb,fun k hk=>by simp [Value.ownBlock] at hk⟩
 clear hM1 hb1 hmb HBy
 go_wp2_with fail
 go_loopw [7,18] (fun v7 v18 wr=>∃ (i:Nat) (F:List OpT),i≤n∧v18=.int .i64 i∧Hid (freshG K F i (l.drop i)=R)∧Hid (F.length≤i∧∀ o∈F,opErr o=0)∧Hid (FrL w mb v7 K F wr)) (fun _ v18 _=>n - (intOf v18).toNat)
 case atStart=>exact ⟨0,[],by omega,rfl,κ24 (by simpa using HR.out),κ24 ⟨by simp,by simp⟩,HL1⟩
 case round=>
  obtain ⟨i,F,hi,rfl,HRr,HFl,HL⟩:=hrel
  by_cases hlt:i < n
  ·obtain ⟨x,hx⟩:∃ x,l[i]?=some x:=⟨_,List.getElem?_eq_getElem (by have:=HN.out;omega)⟩
   have hxw:=HW.out x (List.mem_of_getElem? hx)
   obtain ⟨bb,off,rfl,hbl,c0,c1,c2,c3,c4,c5,c6,c7⟩:=ops_at (HS.out.below HL.out.bl) hx
   have i1:(0:Int)≤(i:Int):=by omega
   have i2:(i:Int) < (n:Int):=by omega
   have HD:Hid (l.drop i=x :: l.drop (i+1)):=κ24 (by
    obtain ⟨h1,h2⟩:=List.getElem?_eq_some_iff.1 hx
    rw [List.drop_eq_getElem_cons h1,h2])
   have HXw:=κ24 hxw
   have HCk:Hid (∀ w',Gd F0 ea w'→Calls Tryz.prog 107 #[opV x] w' fun e w''=>e=.returned (errW ea (opErr x))∧Below w'.heap.size w' w''):=κ24 fun w' hg=>check_any ea x w' hxw hg f2 f3 f4 f5
   have HO4:Hid (OpAt (wr.alloc (.cells x.cells 31)) wr.heap.size x):=κ24 (OpAt.start wr x _)
   have HL4:=κ24 (HL.out.below ((Below.refl wr.heap.size wr).alloc (Nat.le_refl _) (.cells x.cells 31)))
   have HG4:=κ24 (HG.out.below HL4.out.bl)
   have HX:=κ24 hx
   obtain ⟨B5,hB5⟩:∃ B5,wr.heap.size=B5:=⟨_,rfl⟩
   rw [hB5] at HO4
   have HBm:Hid (B5≠mb):=κ24 (by have:=HL.out.m.lt;omega)
   clear hx hlt hbl hxw
   by_cases he:opErr x=0
   ·rw [he] at HCk
    have HE0:=κ24 he
    have hev:errW ea 0=.nilIface:=rfl
    rw [hev] at HCk
    clear he hev
    go_wp2_with fail
    refine (HCk.out _ HG4.out).mono ?_
    rintro e w5 ⟨rfl,hb5⟩
    have HL5:=κ24 (HL4.out.below hb5)
    have HO5:=κ24 (HO4.out.below hb5)
    clear hb5 c0 c1 c2 c3 c4 c5 c6 c7 HCk HL4 HO4 HG4 HL
    obtain ⟨q0,q1,q2,q3,q4,q5,q6,q7⟩:=HO5.out
    obtain ⟨r,hr⟩:∃ r,findOwn (K++F) x.b x.n=r:=⟨_,rfl⟩
    have HRf:=κ24 hr
    have hlk:ownM (K++F) (x.b,x.n)=r:=hr
    have HK:=κ24 (wf_own HXw.out)
    have HMa:=κ24 (fun o1=>HL5.out.m.below ((Below.refl w5.heap.size w5).alloc (Nat.le_refl _) o1))
    have HLb:=κ24 (fun o1 o2=>HL5.out.below (((Below.refl w5.heap.size w5).alloc (Nat.le_refl _) o1).alloc (by simp) o2))
    have HOb:=κ24 (fun o1 o2=>HO5.out.below (((Below.refl w5.heap.size w5).alloc (Nat.le_refl _) o1).alloc (by simp) o2))
    have hb5:B5 < w5.heap.size:=HO5.out.lt
    clear hB5 hr
    cases r with
    | none=>
     have hnm:K.length+F.length < maxLen:=by have:=HFl.out.1;have:=Hn.out;unfold maxLen;omega
     go_wp2_with (first
      | (at_lookup;refine wpList_lookT_ok _ rfl _ _ _ rfl 195 31 ownK Tryz.underlying189 _ (zeroOp _) pairV opV mb (K.length+F.length) (ownM (K++F)) rfl (HMa.out _) (x.b,x.n) rfl HK.out none hlk ?_)
      | (at_mapUpdate;refine wpList_putT _ rfl _ _ _ 189 rfl 195 31 ownK Tryz.underlying189 pairV opV pairV_inj mb (K.length+F.length) (ownM (K++F)) rfl (HLb.out _ _).m hnm (x.b,x.n) x rfl rfl HK.out ?_;intro w6 hm6 hg6;have hO6:=opAt_fr (HOb.out _ _) (fr_of_grown (X:=(·=mb)) hg6 rfl) HBm.out;have hP6:=(HLb.out _ _).put hm6 hg6;have HO6:=κ24 hO6;have HP6:=κ24 hP6;obtain ⟨p0,p1,p2,p3,p4,p5,p6,p7⟩:=hO6;clear hm6 hg6 hP6 q0 q1 q2 q3 q4 q5 q6 q7)
      | (at_builtin;refine wpList_append_rows_at rfl _ _ 36 rfl opE w.heap.size 31 (opV ⟨0,0,0,0,0,0,⟨#[]⟩,⟨#[]⟩⟩) 80 Tryz.underlying36 infoOp rfl (by decide) _ _ F [x] rfl rfl (HP6.out.2.1.below ((Below.refl _ _).alloc (Nat.le_refl _) _)) (SlV.one w6 x _ _ rfl) ?za1 ?za2 ?za3 ?_))
     case za1=>have:=HFl.out.1;unfold maxLen;simp;omega
     case za2=>have:=HFl.out.1;simp;omega
     case za3=>have:=HP6.out.2.2.size;simp;omega
     intro v8 w8 hr8 hg8 hat8
     have HRd:Hid (freshG K (F++[x]) (i+1) (l.drop (i+1))=R):=κ24 (by rw [←HRr.out,HD.out,freshG_new HE0.out HRf.out])
     have HFd:Hid ((F++[x]).length≤i+1∧∀ o∈F++[x],opErr o=0):=κ24 ⟨by have:=HFl.out.1;simp;omega,fun o ho=>by
      rcases List.mem_append.1 ho with ho | ho
      ·exact HFl.out.2 o ho
      ·rw [List.mem_singleton.1 ho];exact HE0.out⟩
     have HL8:Hid (FrL w mb v8 K (F++[x]) w8):=κ24 (by
      have hmb:=HP6.out.1.lt
      have hvn:=HL5.out.ne
      refine ⟨MT.block (MT.below HP6.out.1 ((Below.refl w6.heap.size w6).alloc (Nat.le_refl _) (.cells x.cells 31))) (hg8.block mb (by simp;omega) (fun e=>?_)),hr8,(HP6.out.2.2.alloc HP6.out.2.2.size _).grown hg8 (by have:=HP6.out.2.2.size;simp;omega) (fun k hk=>(HP6.out.2.1.lt k hk).1),HL5.out.ge,fun k hk e=>?_⟩
      ·exact hvn mb e.symm rfl
      ·rcases hat8 with h8 | h8
       ·exact hvn k (by rw [←h8];exact hk) e
       ·rw [h8] at hk
        have:=Option.some.inj hk
        (first | simp at this | skip)
        omega)
     clear hr8 hg8 hat8 p0 p1 p2 p3 p4 p5 p6 p7 hlk hb5
     go_wp2_with fail
     go_roundw
     case rel=>exact ⟨i+1,F++[x],by omega,by go_num,HRd,HFd,HL8⟩
     case measure=>simp [intOf] <;> omega
    | some p=>
     obtain ⟨te,hte⟩:∃ te,opEqB p x=te:=⟨_,rfl⟩
     have heo:∀ w,(Op.equalIn 10000 31 (opV p) (opV x)).run Tryz.prog w=.ok te w:=fun w=>by rw [eqOp_run,hte]
     have HTe:=κ24 hte
     clear hte
     cases te with
     | true=>
      have HRd:Hid (freshG K F (i+1) (l.drop (i+1))=R):=κ24 (by rw [←HRr.out,HD.out,freshG_same HE0.out (by rw [HRf.out,(opEqB_iff p x).1 HTe.out])])
      have HFd:Hid (F.length≤i+1∧∀ o∈F,opErr o=0):=κ24 ⟨by have:=HFl.out.1;omega,HFl.out.2⟩
      go_wp2_with (at_lookup;refine wpList_lookT_ok _ rfl _ _ _ rfl 195 31 ownK Tryz.underlying189 _ (zeroOp _) pairV opV mb (K.length+F.length) (ownM (K++F)) rfl (HMa.out _) (x.b,x.n) rfl HK.out (some p) hlk ?_)
      go_wp2_with fail
      go_roundw
      case rel=>exact ⟨i+1,F,by omega,by go_num,HRd,HFd,κ24 (HLb.out _ _)⟩
      case measure=>simp [intOf] <;> omega
     | false=>
      have HEr:Hid (R=.inl (7,(i:Int))):=κ24 (by rw [←HRr.out,HD.out,freshG_other HE0.out HRf.out (fun e=>by have:=(opEqB_iff p x).2 e;rw [HTe.out] at this;cases this)])
      go_wp2_with (at_lookup;refine wpList_lookT_ok _ rfl _ _ _ rfl 195 31 ownK Tryz.underlying189 _ (zeroOp _) pairV opV mb (K.length+F.length) (ownM (K++F)) rfl (HMa.out _) (x.b,x.n) rfl HK.out (some p) hlk ?_)
      go_wp2_with fail
      obtain ⟨WX,hWX⟩:∃ WX,WX=(w5.alloc (.cells #[.int .i64 x.b,.int .i64 x.n] 195)).alloc (.cells p.cells 31):=⟨_,rfl⟩
      have HLX:Hid (FrL w mb _ K F WX):=κ24 (by rw [hWX];exact HLb.out _ _)
      simp only [OpT.cells] at hWX
      rw [←hWX]
      have g7:=((HG.out.below HLX.out.bl).errs 7 (by omega) (by omega) f7).var
      simp only [errG] at g7
      have hg7:=World.block_lt_of_cell? _ _ g7
      simp only at hg7
      clear hWX q0 q1 q2 q3 q4 q5 q6 q7 hlk hb5 heo
      go_region
      all_goals
       go_wp2_with fail
       go_ret2
       rw [HEr.out]
       refine ⟨?_,_,rfl,.inr (.inr ⟨by simp,by simp,WX.heap.size,0,rfl,by simp [go_sem],by simp [go_sem]⟩),by simp⟩
       have hsz:=HLX.out.bl.size
       exact HLX.out.bl.trans (by go_grown)
   ·have hE:errW ea (opErr x)=errV (ea (opErr x)):=by rw [errW,if_neg he]
    rw [hE] at HCk
    have HEk:=κ24 he
    have HEr:Hid (R=.inl (opErr x,(i:Int))):=κ24 (by rw [←HRr.out,HD.out,freshG_err he])
    have HEl:Hid (1≤opErr x∧opErr x≤12):=κ24 ⟨by omega,opErr_le x⟩
    clear he hE
    generalize opErr x=k at HCk HEk HEr HEl
    go_wp2_with fail
    refine (HCk.out _ HG4.out).mono ?_
    rintro e w5 ⟨rfl,hb5⟩
    have HL5:=κ24 (HL4.out.below hb5)
    clear hb5 c0 c1 c2 c3 c4 c5 c6 c7
    go_wp2_with fail
    go_ret2
    rw [HEr.out]
    refine ⟨HL5.out.bl.alloc (by have:=HL5.out.bl.size;exact this) _,_,rfl,.inr (.inr ⟨HEl.out.1,HEl.out.2,w5.heap.size,0,rfl,by simp [go_sem],by simp [go_sem]⟩),HEk.out⟩
  ·have i2:¬ (i:Int) < (n:Int):=by omega
   have HRi:Hid (R=.inr F):=κ24 (by rw [←HRr.out,List.drop_eq_nil_of_le (by have:=HN.out;omega)];rfl)
   have HSo:=κ24 (opSort_any _ F wr HL.out.row.sl (by have:=HFl.out.1;omega))
   clear hlt
   go_wp2_with fail
   refine HSo.out.mono ?_
   rintro e w2 ⟨v2,rfl,hr2,hb2⟩
   have HR2:=κ24 hr2
   obtain ⟨A2,n2,c2,rfl⟩:=hr2.slice
   have HL2:=κ24 (HL.out.below hb2)
   have hq:=HQ.out
   have HRi2:=κ24 (rising_any ea RB mb (K.length+F.length) v (K++F) (sortOps F) A2 n2 c2 w2 (HG.out.below HL2.out.bl) f3 f9 ((HL2.out.bl.cell hRB).trans hq.1) ((HL2.out.bl.cell hRB).trans hq.2.1) ((HL2.out.bl.cell hRB).trans hq.2.2.1) ((HL2.out.bl.cell hRB).trans hq.2.2.2) HL2.out.m hr2.sl HV.out (by rw [(sortL_perm swo_opLt F).length_eq];have:=HFl.out.1;omega) (fun o ho=>fine_of (HFl.out.2 o ((sortL_perm swo_opLt F).mem_iff.1 ho))))
   have HB0:=κ24 HL.out.bl.size
   clear hr2 hb2 hq HSo
   go_wp2_with fail
   refine HRi2.out.mono ?_
   rintro e w3 ⟨he,hb3⟩
   rw [gapB_sort,fallB_sort] at he
   have HB3:Hid (Below w.heap.size w w3):=κ24 (HL2.out.bl.trans (hb3.mono HL2.out.bl.size))
   have HR3:Hid (Rw opE 31 w.heap.size (.slice A2 n2 c2) (sortOps F) w3):=κ24 (rw_low (Rw.below HR2.out hb3) HB0.out)
   clear hb3 HRi2
   obtain ⟨gp,hgp⟩:∃ gp,F.any (gapB v F)=gp:=⟨_,rfl⟩
   obtain ⟨fl,hfl⟩:∃ fl,F.any (fallB (K++F))=fl:=⟨_,rfl⟩
   have HGp:=κ24 hgp
   have HFl2:=κ24 hfl
   rw [hgp,hfl] at he
   clear hgp hfl
   cases gp with
   | true=>
    rw [if_pos rfl] at he
    subst he
    go_wp2_with fail
    go_ret2
    rw [HRi.out]
    exact ⟨HB3.out,.inl ⟨HGp.out,rfl⟩⟩
   | false=>
    rw [if_neg (by simp)] at he
    cases fl with
    | true=>
     rw [if_pos rfl] at he
     subst he
     go_wp2_with fail
     go_ret2
     rw [HRi.out]
     exact ⟨HB3.out,.inr (.inl ⟨HGp.out,HFl2.out,rfl⟩)⟩
    | false=>
     rw [if_neg (by simp)] at he
     subst he
     go_wp2_with fail
     go_ret2
     rw [HRi.out]
     exact ⟨HB3.out,.inr (.inr ⟨HGp.out,HFl2.out,_,rfl,HR3.out⟩)⟩
end Go.Proofs.YtjekalilfhnpmaaGreatDoor
