/- A replica: one operation applied: the walk of apply. A replica and its operations: what it holds is what they make. Plain, over how it lies. A replica joins operations: the walk of Join. -/
import Derived.Deep.CutBlock
import Derived.StillTailTactics
import Derived.Handy
import Derived.Test.YtjekalilfhnpmaaGreatDoorQ13
import Derived.Test.YtjekalilfhnpmaaGreatDoorQ14
import Derived.Test.YtjekalilfhnpmaaGreatDoorQ23
import Derived.Test.YtjekalilfhnpmaaGreatDoorQ24
theorem Go.Proofs.YtjekalilfhnpmaaGreatDoor.κ25 {p:Prop} (h:p):Go.RowKit.Hid p:=Go.Lib.hid h
namespace Go.Proofs.YtjekalilfhnpmaaGreatDoor
open Go Go.RowKit Go.Maps Go.Shelf LineOrd
set_option linter.unusedVariables false
set_option linter.unusedSimpArgs false
set_option maxHeartbeats 1000000
set_option maxRecDepth 100000
theorem MT.store {P:Program} {T V:Type} {k e:TypeId} {ek:T→Value} {ev:V→Value} {b n:Nat} {m:T→Option V} {w:World} (h:MT P k ek ev b n m w) (hk:Keyed P k) {t:TypeId} (ht:P.underlying t=some (.map k e)) (hinj:∀ x y,ek x=ek y→x=y) (hn:n < maxLen) (x:T) (v:V) (hkey:∃ kl,keyOf P k (ek x)=some kl) :
  ∃ w',(Instr.mapUpdate t (.map (some b)) (ek x) (ev v)).run P w=.ok () w'∧MT P k ek ev b (n+1) (updT m x (some v)) w'∧w.grownBy w' (some b):=by
 obtain ⟨f,hf,e⟩:=h
 obtain ⟨kl,hkl⟩:=hkey
 obtain ⟨w',hrun,r1,r2⟩:=hf.store hk ht hn (val:=ev v) hkl
 exact ⟨w',hrun,MT.upd hk hinj e hkl r1,r2⟩
theorem OpAt.fr {X:Nat→Prop} {w w':World} {B:Nat} {o:OpT} (h:OpAt w B o) (hF:Fr X w w') (hx:¬ X B):OpAt w' B o:=by
 have hl:=h.lt
 have g:∀ {j:Nat} {u:Value},w.cell? ⟨B,j,none⟩=some u→w'.cell? ⟨B,j,none⟩=some u:=fun {j u} hc=>(hF.cell (p:=⟨B,j,none⟩) hl hx).trans hc
 exact ⟨g h.c0,g h.c1,g h.c2,g h.c3,g h.c4,g h.c5,g h.c6,g h.c7⟩
theorem nine_keep9 {OP RB j9:Nat} {o:OpT} {u:Value} {w w':World} (hb:Below w.heap.size w w') (h:w.cell? ⟨OP,0,none⟩=some (.int .i64 o.t)∧w.cell? ⟨OP,1,none⟩=some (.int .i64 o.b)∧w.cell? ⟨OP,2,none⟩=some (.int .i64 o.n)∧w.cell? ⟨OP,3,none⟩=some (.int .u8 o.k)∧w.cell? ⟨OP,4,none⟩=some (.int .i64 o.nd)∧w.cell? ⟨OP,5,none⟩=some (.int .i64 o.ot)∧w.cell? ⟨OP,6,none⟩=some (.string o.nm)∧w.cell? ⟨OP,7,none⟩=some (.string o.vl)∧w.cell? ⟨RB,j9,none⟩=some u) :
  w'.cell? ⟨OP,0,none⟩=some (.int .i64 o.t)∧w'.cell? ⟨OP,1,none⟩=some (.int .i64 o.b)∧w'.cell? ⟨OP,2,none⟩=some (.int .i64 o.n)∧w'.cell? ⟨OP,3,none⟩=some (.int .u8 o.k)∧w'.cell? ⟨OP,4,none⟩=some (.int .i64 o.nd)∧w'.cell? ⟨OP,5,none⟩=some (.int .i64 o.ot)∧w'.cell? ⟨OP,6,none⟩=some (.string o.nm)∧w'.cell? ⟨OP,7,none⟩=some (.string o.vl)∧w'.cell? ⟨RB,j9,none⟩=some u:=by
 obtain ⟨h0,h1,h2,h3,h4,h5,h6,h7,h8⟩:=h
 exact ⟨cell_keep' hb h0,cell_keep' hb h1,cell_keep' hb h2,cell_keep' hb h3,cell_keep' hb h4,cell_keep' hb h5,cell_keep' hb h6,cell_keep' hb h7,cell_keep' hb h8⟩
theorem nine_fr9 {X:Nat→Prop} {OP RB j9:Nat} {o:OpT} {u:Value} {w w':World} (hF:Fr X w w') (h1:¬ X OP) (h2:¬ X RB) (h:w.cell? ⟨OP,0,none⟩=some (.int .i64 o.t)∧w.cell? ⟨OP,1,none⟩=some (.int .i64 o.b)∧w.cell? ⟨OP,2,none⟩=some (.int .i64 o.n)∧w.cell? ⟨OP,3,none⟩=some (.int .u8 o.k)∧w.cell? ⟨OP,4,none⟩=some (.int .i64 o.nd)∧w.cell? ⟨OP,5,none⟩=some (.int .i64 o.ot)∧w.cell? ⟨OP,6,none⟩=some (.string o.nm)∧w.cell? ⟨OP,7,none⟩=some (.string o.vl)∧w.cell? ⟨RB,j9,none⟩=some u) :
  w'.cell? ⟨OP,0,none⟩=some (.int .i64 o.t)∧w'.cell? ⟨OP,1,none⟩=some (.int .i64 o.b)∧w'.cell? ⟨OP,2,none⟩=some (.int .i64 o.n)∧w'.cell? ⟨OP,3,none⟩=some (.int .u8 o.k)∧w'.cell? ⟨OP,4,none⟩=some (.int .i64 o.nd)∧w'.cell? ⟨OP,5,none⟩=some (.int .i64 o.ot)∧w'.cell? ⟨OP,6,none⟩=some (.string o.nm)∧w'.cell? ⟨OP,7,none⟩=some (.string o.vl)∧w'.cell? ⟨RB,j9,none⟩=some u:=by
 have g:∀ {j:Nat} {u:Value},w.cell? ⟨OP,j,none⟩=some u→w'.cell? ⟨OP,j,none⟩=some u:=fun {j u} hc=>(hF.cell (p:=⟨OP,j,none⟩) (World.block_lt_of_cell? w _ hc) h1).trans hc
 obtain ⟨h0,h1',h2',h3,h4,h5,h6,h7,h8⟩:=h
 exact ⟨g h0,g h1',g h2',g h3,g h4,g h5,g h6,g h7,(hF.cell (p:=⟨RB,j9,none⟩) (World.block_lt_of_cell? w _ h8) h2).trans h8⟩
theorem str_head {s:ByteArray} (hs:s.size=1) (h:0 < s.size):s[0]=s.data.toList.headD 0:=by
 have e:s.data.toList.length=1:=hs
 obtain ⟨a,ha⟩:=List.length_eq_one_iff.1 e
 have h2:s[0]=s.data.toList[0]'(by omega):=rfl
 rw [h2]
 simp [ha]
theorem own_col {y:RLay} {col:Nat→Int} {RB:Nat} {b:Int} {s:RpSt} {w:World} (h:RepL y col RB b s w) {nd:Int} (hk:s.kn nd) {k:Nat} {c:Int} (hc:col k=c) (hne:c≠7+nd):¬ Own (y.LB nd) (y.LV nd) k:=by
 rintro (rfl | h3)
 ·rw [h.co.o7 nd hk] at hc;exact hne hc.symm
 ·rw [h.co.o7v nd hk k h3] at hc;exact hne hc.symm
theorem RepA.vec {y:RLay} {RB:Nat} {b:Int} {s:RpSt} {w:World} (h:RepA y RB b s w) (a:Nat) (ha:a < 4):w.cell? ⟨RB,2+a,none⟩=some (.int .i64 (s.v a)):=by
 rcases (show a=0∨a=1∨a=2∨a=3 by omega) with rfl | rfl | rfl | rfl
 ·exact h.c2
 ·exact h.c3
 ·exact h.c4
 ·exact h.c5
structure ApOk (s:RpSt) (o:OpT):Prop where
 wf:o.Wf
 er:opErr o=0
 mv:o.k=109→applyErr s.g o=0∧LogOk s.g∧s.g.length≤1000
 made:o.k=109→o.nd=o.id→¬ s.kn o.nd
 ins:o.k=105→s.kn o.nd
 del:o.k=100→s.kn o.nd
 len:∀ nd,s.kn nd→(s.ll nd).length≤1000
 ct:s.ct≤10000
 num:o.n=s.v o.b+1
open Classical in
noncomputable def swS (s:RpSt) (o:OpT):RpSt:=
 {
  s with
  g:=if o.k=109 then applyL s.g o else s.g
  m:=if o.k=115 then (setC s.m o).1 else s.m
  kn:=fun x=>(o.k=109∧o.nd=o.id∧x=o.nd)∨s.kn x
  ll:=fun x=>if o.k=109∧o.nd=o.id∧x=o.nd then [] else if o.k=105∧x=o.nd then insAfter o.id o.ot (o.vl.data.toList.headD 0) (s.ll x) else if o.k=100∧x=o.nd then delL o.ot (s.ll x) else s.ll x
  ct:=s.ct+1 }
theorem swS_move {s:RpSt} {o:OpT} (h9:o.k=109) (hn:o.nd≠o.id):swS s o={ s with g:=applyL s.g o,ct:=s.ct+1 }:=by
 unfold swS;simp [h9,hn]
theorem swS_made {s:RpSt} {o:OpT} (h9:o.k=109) (hn:o.nd=o.id):swS s o={ s with g:=applyL s.g o,kn:=fun x=>x=o.nd∨s.kn x,ll:=fun x=>if x=o.nd then [] else s.ll x,ct:=s.ct+1 }:=by
 unfold swS;simp [h9,hn]
theorem swS_ins {s:RpSt} {o:OpT} (h9:o.k=105):swS s o={ s with ll:=fun x=>if x=o.nd then insAfter o.id o.ot (o.vl.data.toList.headD 0) (s.ll o.nd) else s.ll x,ct:=s.ct+1 }:=by
 unfold swS;simp [h9]
 funext x
 by_cases e:x=o.nd <;> simp [e]
theorem swS_del {s:RpSt} {o:OpT} (h9:o.k=100):swS s o={ s with ll:=fun x=>if x=o.nd then delL o.ot (s.ll o.nd) else s.ll x,ct:=s.ct+1 }:=by
 unfold swS;simp [h9]
 funext x
 by_cases e:x=o.nd <;> simp [e]
theorem swS_set {s:RpSt} {o:OpT} (h9:o.k=115):swS s o={ s with m:=(setC s.m o).1,ct:=s.ct+1 }:=by
 unfold swS;simp [h9]
noncomputable def apS (s:RpSt) (o:OpT):RpSt:={ swS s o with v:=fun x=>if x=o.b then s.v o.b+1 else s.v x,t:=max s.t o.t }
def RepTo (col:Nat→Int) (RB:Nat) (b:Int) (s':RpSt) (w w':World):Prop:=∃ y' col',RepL y' col' RB b s' w'∧Grew col col' w∧Fr (InC col) w w'
section
variable {y:RLay} {col:Nat→Int} {RB:Nat} {b:Int} {s:RpSt} {w:World}
theorem apply1_any {F:Nat→Bool} (ea:Nat→Addr) (w0:World) (h:RepL y col RB b s w) (o:OpT) (hG:Gd F ea w0) (hb0:Below w0.heap.size w0 w) (hge:∀ k,col k≠0→w0.heap.size≤k) (f2:F 2=true) (f3:F 3=true) (f4:F 4=true) (f5:F 5=true) (f6:F 6=true) (f7:F 7=true) (hA:ApOk s o) :
  Calls Tryz.prog 57 #[ptrV RB,opV o] w fun e w'=>e=.returned (.tuple #[])∧RepTo col RB b (apS s o) w w':=by
 have hfo:=fine_of hA.er
 obtain ⟨W,hW⟩:∃ W,W=w.alloc (.cells o.cells 31):=⟨_,rfl⟩
 have hbW:Below w.heap.size w W:=by rw [hW];exact (Below.refl _ w).alloc (Nat.le_refl _) _
 have HO:Hid (OpAt W w.heap.size o):=κ25 (by rw [hW];exact OpAt.start w o _)
 have HR:Hid (RepL y col RB b { s with ct:=s.ct+1 } W):=κ25 (h.tick.below hbW)
 have HBW:=κ25 hbW
 have HB0:=κ25 hb0
 have HG:=κ25 hG
 have HGe:=κ25 hge
 have HA:=κ25 hA
 have HFo:=κ25 hfo
 have HLt:=κ25 h.lt
 have HBel:Hid (∀ wx,Fr (InC col) W wx→Gd F ea wx):=κ25 fun wx hF=>hG.below ((hb0.trans (hbW.mono hb0.size)).trans (hF.below (Nat.le_trans hb0.size hbW.size) hge))
 have HOB:Hid (¬ InC col w.heap.size):=κ25 fun hc=>by have:=h.lt _ hc;omega
 have HID:Hid (∀ w',Gd F ea w'→Calls Tryz.prog 106 #[opV o] w' fun e w''=>e=.returned (.int .i64 o.id)∧Below w'.heap.size w' w''):=κ25 fun w' hg=>by
  have:=opID_any ea o w' hg f2
  rw [if_pos (show StampOk o.t o.b from ⟨hfo.t1,hfo.t2,hfo.b1,hfo.b2⟩)] at this
  exact this
 have Hxn:Hid (y.xn+1≤s.ct+1∧y.cn+1≤s.ct+1):=κ25 ⟨by have:=h.xnb;omega,by have:=h.cnb;omega⟩
 unfold ptrV
 clear h hbW hb0 hG hge hA hfo
 go_enter Tryz.func57,Tryz.ntmps57
 simp only [OpT.cells] at hW
 go_upto_block 0 with (fail)
 rw [←hW]
 obtain ⟨k0,k1,k2,k3,k4,k5,k6,k7⟩:=HO.out
 clear hW
 go_cut [] (fun wc=>Hid (∃ y1 col1,RepL y1 col1 RB b (swS s o) wc∧Grew col col1 W∧Fr (InC col) W wc∧OpAt wc w.heap.size o))
 case first=>
  by_cases h9:o.k=109
  ·have k9:(o.k == 109)=true:=by simpa using h9
   have c7:=HR.out.a.c7
   unfold ptrV at c7
   have HAp:Hid (Calls Tryz.prog 111 #[.pointer (some ⟨y.TB,0,none⟩),opV o] W.drew fun e w'=>e=.returned .nilIface∧∃ lv' n',TrS 0 y.TB y.tb n' lv' (applyL s.g o) w'∧n'≤(applyL s.g o).length*(applyL s.g o).length∧Fr (fun k=>k=y.TB∨k=y.tb) W.drew w'∧∀ k',lv'.ownBlock=some k'→y.tv.ownBlock=some k'∨W.drew.heap.size≤k'):=κ25 (by
    obtain ⟨e1,e2,e3⟩:=HA.out.mv h9
    have hsq:(s.g.length+1)*(s.g.length+1)=s.g.length*s.g.length+2*s.g.length+1:=by rw [Nat.add_mul,Nat.mul_add];omega
    have htn:=HR.out.tnb
    simp only at htn
    have hmul:s.g.length*s.g.length≤1000*1000:=Nat.mul_le_mul e3 e3
    have:=apply_any2 ea 0 y.TB y.tb y.tn y.tv s.g o W.drew HA.out.wf (HBel.out _ (Fr.of_below (Below.refl _ _).drew)) f2 f3 f4 f5 f7 (HR.out.tr.below (Below.refl _ _).drew) e2 e3 (by unfold maxLen;omega)
    rw [e1] at this
    refine this.mono ?_
    rintro e w' ⟨h1,lv',n',h2,h3,h4,h5⟩
    refine ⟨h1,lv',n',h2,?_,h4,h5⟩
    have hl:(applyL s.g o).length=s.g.length+1:=by
     unfold applyL
     rw [if_pos e1,(laidIn_perm (lt:=opLt) s.g o).length_eq,List.length_cons]
    rw [hl,hsq]
    omega)
   have HK9:=κ25 h9
   clear h9
   go_wp2_with fail
   go_still_tail 5,(by kernel_rfl)
   change wpList _ _ _ _ _ W.drew
   go_wp2_with fail
   refine HAp.out.mono ?_
   rintro e w1 ⟨rfl,lv',n',hT,hn',hF,hv⟩
   have HR1:=κ25 ((HR.out.below (Below.refl _ _).drew).tree hT hF hv hn')
   have HF1:Hid (Fr (InC col) W w1):=κ25 ((Fr.of_below (Below.refl _ _).drew).trans HR1.out.2)
   have HO1:=κ25 (HO.out.fr HF1.out HOB.out)
   have HG1:=κ25 (HBel.out _ HF1.out)
   clear hT hn' hF hv HAp k0 k1 k2 k3 k4 k5 k6 k7 c7
   obtain ⟨k0,k1,k2,k3,k4,k5,k6,k7⟩:=HO1.out
   go_wp2_with fail
   refine (HID.out _ HG1.out).mono ?_
   rintro e w2 ⟨rfl,hb2⟩
   have HR2:=κ25 (HR1.out.1.below hb2)
   have HF2:Hid (Fr (InC col) W w2):=κ25 (HF1.out.trans (Fr.of_below hb2))
   have HO2:=κ25 (HO1.out.below hb2)
   have HGr:Hid (Grew col (col1 col W.drew.heap.size lv' 4) W):=κ25 ⟨(Grew.col1 col W.drew lv' 4).old⟩
   clear hb2 k0 k1 k2 k3 k4 k5 k6 k7
   obtain ⟨k0,k1,k2,k3,k4,k5,k6,k7⟩:=HO2.out
   obtain ⟨nw,hnw⟩:∃ nw,(o.nd == o.id)=nw:=⟨_,rfl⟩
   have HNw:=κ25 hnw
   cases nw with
   | false=>
    go_wp2_with fail
    go_meet
    case rel=>
     rw [swS_move HK9.out (by simpa using HNw.out)]
     exact κ25 ⟨_,_,HR2.out,HGr.out,HF2.out,HO2.out⟩
   | true=>
    have hnd:o.nd=o.id:=by simpa using HNw.out
    have c9:=HR2.out.a.c9
    have c9d:w2.drew.cell? ⟨RB,9,none⟩=some (.map (some y.XB)):=c9
    have c9a:(w2.alloc (.cells #[.slice none 0 0] 215)).drew.cell? ⟨RB,9,none⟩=some (.map (some y.XB)):=cell_keep' ((Below.refl w2.heap.size w2).alloc (Nat.le_refl _) _).drew c9
    have htx:MT Tryz.prog 3 ekI ptrV y.XB y.xn (txM s.kn y.LB) (w2.alloc (.cells #[.slice none 0 0] 215)).drew:=HR2.out.tx.below ((Below.refl _ _).alloc (Nat.le_refl _) _).drew
    have hxm:y.xn < maxLen:=by have:=Hxn.out.1;have:=HA.out.ct;unfold maxLen;omega
    have hkr:∃ kl,keyOf Tryz.prog 3 (ekI o.id)=some kl:=ekI_reads ⟨by have:=HFo.out.idr;omega,by have:=HFo.out.idr;omega⟩
    have HND:=κ25 hnd
    obtain ⟨w6,hrun,hm6,hg6⟩:=htx.store treeK Tryz.underlying101 ekI_inj hxm o.id w2.heap.size hkr
    simp only [ekI,ptrV] at hrun
    have c9s:w6.cell? ⟨RB,9,none⟩=some (.map (some y.XB)):=((fr_of_grown (X:=(·=y.XB)) hg6 rfl).cell (World.block_lt_of_cell? _ _ c9a) (fun e=>by
     have h1:=HR2.out.co.o1
     have h2:=HR2.out.co.o6
     have e:RB=y.XB:=e
     simp only at h2
     rw [←e,h1] at h2
     omega)).trans c9a
    have HM6:=κ25 hm6
    have HG6:=κ25 hg6
    clear hnd htx hkr hm6 hg6 hxm
    go_wp2_with fail
    go_region_held3 (fun w'=>w'.cell? ⟨RB,9,none⟩=some (.map (some y.XB)))
     (first | (with_reducible exact c9s) | (with_reducible exact c9a) | (with_reducible exact c9d))
     ((go_at_call 112;refine (line_new _).mono ?_;rintro e wA ⟨rfl,rfl⟩))
    all_goals
     rename_i hH
     clear hH c9s c9a c9d c9 hrun k0 k1 k2 k3 k4 k5 k6 k7
     go_wp2_with fail
     go_meet
     case rel=>
      have hnd:=HND.out
      have hm6:=HM6.out
      rw [←hnd] at hm6
      have hkn:=HA.out.made HK9.out hnd
      have hid:=HFo.out.idr
      have hlo:=HR2.out.co.o6
      have hbl:Below w2.heap.size w2 (w2.alloc (.cells #[.slice none 0 0] 215)).drew:=((Below.refl _ _).alloc (Nat.le_refl _) _).drew
      have hmk:=HR2.out.make (nd:=o.nd) hkn (by omega) (B:=w2.heap.size) (n':=y.xn+1) (Nat.le_refl _) hbl (by simp) ((LineSt.new 0 w2 (Nat.zero_le _)).below (Below.refl _ _).drew) (fr_of_grown (X:=(·=y.XB)) HG6.out rfl) hm6 Hxn.out.1
      rw [swS_made HK9.out hnd]
      have hob:¬ InC (col1 col W.drew.heap.size lv' 4) w.heap.size:=by
       show ¬ (col1 col W.drew.heap.size lv' 4 w.heap.size≠0)
       rw [col1_old (show w.heap.size < W.drew.heap.size from HO.out.lt)]
       exact HOB.out
      exact κ25 ⟨_,_,hmk.1,HGr.out.trans hmk.2.2 HF2.out.size,HGr.out.fr HF2.out hmk.2.1,HO2.out.fr hmk.2.1 hob⟩
  ·have k9:(o.k == 109)=false:=by simpa using h9
   have HN9:=κ25 h9
   clear h9
   by_cases h5:o.k=105
   ·have k5':(o.k == 105)=true:=by simpa using h5
    have HK5:=κ25 h5
    have hkn:=HA.out.ins h5
    have hlk:txM s.kn y.LB o.nd=some (y.LB o.nd):=by unfold txM;rw [if_pos hkn]
    have hkr:∃ kl,keyOf Tryz.prog 3 (ekI o.nd)=some kl:=ekI_reads ⟨by have:=HFo.out.nd0;omega,by have:=HFo.out.ndi;have:=HFo.out.idr;omega⟩
    have HL:Hid (∀ w',Below W.heap.size W w'→(Instr.lookup 101 (.map (some y.XB)) (.int .i64 o.nd) false).run Tryz.prog w'=.ok (.pointer (some ⟨y.LB o.nd,0,none⟩)) w'):=κ25 fun w' hb=>(HR.out.tx.below hb).look_run treeK Tryz.underlying101 (zeroLn _) o.nd hkr hlk
    have hvl:o.vl.size=1:=HFo.out.val h5
    have HIn:Hid (∀ (ch:UInt8) w',Below W.heap.size W w'→Calls Tryz.prog 113 #[.pointer (some ⟨y.LB o.nd,0,none⟩),.int .i64 o.id,.int .i64 o.ot,.int .u8 ch.toNat] w' (InsEnd ea 0 (y.LB o.nd) (y.LV o.nd) o.id o.ot ch (s.ll o.nd) w')):=κ25 fun ch w' hb=>lineInsert_any ea 0 _ _ _ _ _ _ w' (HBel.out _ (Fr.of_below hb)) f3 f6 f7 ((HR.out.ln o.nd hkn).below hb) (HA.out.len _ hkn) (Nat.zero_le _)
    have c9:=HR.out.a.c9
    have hlW:=HL.out W.drew (Below.refl _ _).drew
    have hv0:(0:Int) < (o.vl.size:Int):=by omega
    have hv1:0 < o.vl.size:=by omega
    have HKn:=κ25 hkn
    have HVl:=κ25 hvl
    have c9d:W.drew.cell? ⟨RB,9,none⟩=some (.map (some y.XB)):=c9
    have HGd:=κ25 (HBel.out W.drew (Fr.of_below (Below.refl _ _).drew))
    have hxO:¬ Own (y.LB o.nd) (y.LV o.nd) w.heap.size:=own_col HR.out hkn (c:=0) (by have:=HOB.out;simpa [InC] using this) (by have:=HFo.out.nd0;omega)
    have hxR:¬ Own (y.LB o.nd) (y.LV o.nd) RB:=own_col HR.out hkn HR.out.co.o1 (by have:=HFo.out.nd0;omega)
    have hN:W.drew.cell? ⟨w.heap.size,0,none⟩=some (.int .i64 o.t)∧W.drew.cell? ⟨w.heap.size,1,none⟩=some (.int .i64 o.b)∧W.drew.cell? ⟨w.heap.size,2,none⟩=some (.int .i64 o.n)∧W.drew.cell? ⟨w.heap.size,3,none⟩=some (.int .u8 o.k)∧W.drew.cell? ⟨w.heap.size,4,none⟩=some (.int .i64 o.nd)∧W.drew.cell? ⟨w.heap.size,5,none⟩=some (.int .i64 o.ot)∧W.drew.cell? ⟨w.heap.size,6,none⟩=some (.string o.nm)∧W.drew.cell? ⟨w.heap.size,7,none⟩=some (.string o.vl)∧W.drew.cell? ⟨RB,9,none⟩=some (.map (some y.XB)):=⟨k0,k1,k2,k3,k4,k5,k6,k7,c9⟩
    clear h5 hkn hlk hkr hvl
    go_wp2_with fail
    go_region_held3 (fun w'=>w'.cell? ⟨w.heap.size,0,none⟩=some (.int .i64 o.t)∧w'.cell? ⟨w.heap.size,1,none⟩=some (.int .i64 o.b)∧w'.cell? ⟨w.heap.size,2,none⟩=some (.int .i64 o.n)∧w'.cell? ⟨w.heap.size,3,none⟩=some (.int .u8 o.k)∧w'.cell? ⟨w.heap.size,4,none⟩=some (.int .i64 o.nd)∧w'.cell? ⟨w.heap.size,5,none⟩=some (.int .i64 o.ot)∧w'.cell? ⟨w.heap.size,6,none⟩=some (.string o.nm)∧w'.cell? ⟨w.heap.size,7,none⟩=some (.string o.vl)∧w'.cell? ⟨RB,9,none⟩=some (.map (some y.XB)))
     (first | (with_reducible exact hNB) | (with_reducible exact hNA) | (with_reducible exact hN))
     (first
      | (go_at_call 106;refine (HID.out _ HGd.out).mono ?_;rintro e wA ⟨rfl,hbA⟩;have hNA:=nine_keep9 hbA hN;have hlA:=HL.out wA ((Below.refl W.heap.size W).drew.trans hbA))
      | (go_at_call 113;refine (HIn.out _ wA ((Below.refl W.heap.size W).drew.trans hbA)).mono ?_;rintro e wB ⟨he,v',hL,hF,hv⟩;obtain ⟨ev,rfl⟩:∃ ev,e=.returned ev:=⟨_,he⟩;clear he;have hNB:=nine_fr9 hF hxO hxR hNA))
    all_goals
     have HRB:=κ25 ((HR.out.below ((Below.refl W.heap.size W).drew.trans hbA)).line HKn.out hL hF hv)
     have HFB:Hid (Fr (InC col) W wB):=κ25 ((Fr.of_below ((Below.refl W.heap.size W).drew.trans hbA)).trans HRB.out.2)
     have HWA:Hid (W.heap.size≤wA.heap.size):=κ25 ((Below.refl W.heap.size W).drew.trans hbA).size
     rename_i hH
     clear hH hL hF hv hNB hNA hN hlA hlW hbA c9 c9d k0 k1 k2 k3 k4 k5 k6 k7 hxO hxR
     go_wp2_with fail
     go_meet
     case rel=>
      rw [swS_ins HK5.out,←str_head HVl.out (by have:=HVl.out;omega)]
      exact κ25 ⟨_,_,HRB.out.1,⟨fun k hk hc=>(Grew.col1 col wA v' (7+o.nd)).old k (Nat.lt_of_lt_of_le hk HWA.out) hc⟩,HFB.out,HO.out.fr HFB.out HOB.out⟩
   ·have k5':(o.k == 105)=false:=by simpa using h5
    have HN5:=κ25 h5
    clear h5
    by_cases h0:o.k=100
    ·have k0':(o.k == 100)=true:=by simpa using h0
     have HK0:=κ25 h0
     have hkn:=HA.out.del h0
     have hlk:txM s.kn y.LB o.nd=some (y.LB o.nd):=by unfold txM;rw [if_pos hkn]
     have hkr:∃ kl,keyOf Tryz.prog 3 (ekI o.nd)=some kl:=ekI_reads ⟨by have:=HFo.out.nd0;omega,by have:=HFo.out.ndi;have:=HFo.out.idr;omega⟩
     have hlW:(Instr.lookup 101 (.map (some y.XB)) (.int .i64 o.nd) false).run Tryz.prog W.drew=.ok (.pointer (some ⟨y.LB o.nd,0,none⟩)) W.drew:=(HR.out.tx.below (Below.refl _ _).drew).look_run treeK Tryz.underlying101 (zeroLn _) o.nd hkr hlk
     have HDe:Hid (Calls Tryz.prog 114 #[.pointer (some ⟨y.LB o.nd,0,none⟩),.int .i64 o.ot] W.drew (DelEnd ea 0 (y.LB o.nd) (y.LV o.nd) o.ot (s.ll o.nd) W.drew)):=κ25 (line_delete ea 0 _ _ _ _ W.drew (HBel.out _ (Fr.of_below (Below.refl _ _).drew)) f6 ((HR.out.ln o.nd hkn).below (Below.refl _ _).drew) (HA.out.len _ hkn))
     have c9:=HR.out.a.c9
     have HKn:=κ25 hkn
     clear h0 hkn hlk hkr
     go_wp2_with fail
     go_still_tail 9,(by kernel_rfl)
     change wpList _ _ _ _ _ W.drew
     go_wp2_with fail
     refine HDe.out.mono ?_
     rintro e wB ⟨he,hL,hF⟩
     obtain ⟨ev,rfl⟩:∃ ev,e=.returned ev:=⟨_,he⟩
     have HRB:=κ25 ((HR.out.below (Below.refl W.heap.size W).drew).line HKn.out hL hF (fun k hk=>.inl hk))
     have HFB:Hid (Fr (InC col) W wB):=κ25 ((Fr.of_below (Below.refl W.heap.size W).drew).trans HRB.out.2)
     clear he hL hF hlW c9 k0 k1 k2 k3 k4 k5 k6 k7
     go_wp2_with fail
     go_meet
     case rel=>
      rw [swS_del HK0.out]
      exact κ25 ⟨_,_,HRB.out.1,⟨fun k hk hc=>(Grew.col1 col W.drew (y.LV o.nd) (7+o.nd)).old k hk hc⟩,HFB.out,HO.out.fr HFB.out HOB.out⟩
    ·have k0':(o.k == 100)=false:=by simpa using h0
     have h15:o.k=115:=by
      have:=HFo.out.k
      have:=HN9.out
      have:=HN5.out
      omega
     have k15:(o.k == 115)=true:=by simpa using h15
     have HK15:=κ25 h15
     have c8:=HR.out.a.c8
     unfold ptrV at c8
     have HSe:Hid (Calls Tryz.prog 115 #[.pointer (some ⟨y.CC,0,none⟩),opV o] W.drew fun e w'=>(∃ x1 x2,e=.returned (.tuple #[x1,x2]))∧CSt 0 y.CC y.cb (y.cn+1) (setC s.m o).1 w'∧Fr (·=y.cb) W.drew w'):=κ25 ((cset_any ea 0 y.CC y.cb y.cn s.m o W.drew HA.out.wf (HBel.out _ (Fr.of_below (Below.refl _ _).drew)) f2 f3 f4 f5 (HR.out.ce.below (Below.refl _ _).drew) (by have:=Hxn.out.2;have:=HA.out.ct;unfold maxLen;omega)).mono fun e w' ⟨h1,h2,h3⟩=>⟨⟨_,_,h1⟩,h2,h3⟩)
     have hxO:¬ w.heap.size=y.cb:=fun e=>by
      have h1:=HR.out.co.o5b
      have h2:=HOB.out
      rw [←e] at h1
      exact h2 (by show col w.heap.size≠0;omega)
     have hxR:¬ RB=y.cb:=fun e=>by
      have h1:=HR.out.co.o5b
      have h2:=HR.out.co.o1
      rw [←e] at h1
      omega
     have hN:W.drew.cell? ⟨w.heap.size,0,none⟩=some (.int .i64 o.t)∧W.drew.cell? ⟨w.heap.size,1,none⟩=some (.int .i64 o.b)∧W.drew.cell? ⟨w.heap.size,2,none⟩=some (.int .i64 o.n)∧W.drew.cell? ⟨w.heap.size,3,none⟩=some (.int .u8 o.k)∧W.drew.cell? ⟨w.heap.size,4,none⟩=some (.int .i64 o.nd)∧W.drew.cell? ⟨w.heap.size,5,none⟩=some (.int .i64 o.ot)∧W.drew.cell? ⟨w.heap.size,6,none⟩=some (.string o.nm)∧W.drew.cell? ⟨w.heap.size,7,none⟩=some (.string o.vl)∧W.drew.cell? ⟨RB,8,none⟩=some (.pointer (some ⟨y.CC,0,none⟩)):=⟨k0,k1,k2,k3,k4,k5,k6,k7,c8⟩
     clear h0 h15
     go_wp2_with fail
     go_region_held3 (fun w'=>w'.cell? ⟨w.heap.size,0,none⟩=some (.int .i64 o.t)∧w'.cell? ⟨w.heap.size,1,none⟩=some (.int .i64 o.b)∧w'.cell? ⟨w.heap.size,2,none⟩=some (.int .i64 o.n)∧w'.cell? ⟨w.heap.size,3,none⟩=some (.int .u8 o.k)∧w'.cell? ⟨w.heap.size,4,none⟩=some (.int .i64 o.nd)∧w'.cell? ⟨w.heap.size,5,none⟩=some (.int .i64 o.ot)∧w'.cell? ⟨w.heap.size,6,none⟩=some (.string o.nm)∧w'.cell? ⟨w.heap.size,7,none⟩=some (.string o.vl)∧w'.cell? ⟨RB,8,none⟩=some (.pointer (some ⟨y.CC,0,none⟩)))
      (first | (with_reducible exact hNB) | (with_reducible exact hN))
      ((go_at_call 115;refine HSe.out.mono ?_;rintro e wB ⟨⟨x1,x2,rfl⟩,hC,hF⟩;have hNB:=nine_fr9 hF hxO hxR hN))
     all_goals
      have HRB:=κ25 ((HR.out.below (Below.refl W.heap.size W).drew).cell hC hF Hxn.out.2)
      have HFB:Hid (Fr (InC col) W wB):=κ25 ((Fr.of_below (Below.refl W.heap.size W).drew).trans HRB.out.2)
      rename_i hH
      clear hH hC hF c8 k0 k1 k2 k3 k4 k5 k6 k7 hN hNB hxO hxR
      go_wp2_with fail
      go_meet
      case rel=>
       rw [swS_set HK15.out]
       exact κ25 ⟨_,_,HRB.out.1,Grew.refl _ _,HFB.out,HO.out.fr HFB.out HOB.out⟩
 case rest=>
  obtain ⟨y1,col1',hR1,hG1,hF1,hO1⟩:=hcut.out
  have HR1:=κ25 hR1
  have HG1:=κ25 hG1
  have HF1:=κ25 hF1
  have HO1:=κ25 hO1
  obtain ⟨j0,j1,j2,j3,j4,j5,j6,j7⟩:=HO1.out
  have c0:=HR1.out.a.c0
  unfold ptrV at c0
  have HHe:Hid (Calls Tryz.prog 116 #[.pointer (some ⟨y1.CB,0,none⟩),stampV o.t o.b] wc.drew fun e w'=>e=.returned .nilIface∧Below wc.heap.size (wc.drew.setCell ⟨y1.CB,0,none⟩ (.int .i64 (max s.t o.t))) w'):=κ25 (clockHear_ok y1.CB s.t o.t o.b wc.drew HR1.out.b'.k0 (HR1.out.b'.kf 0) ⟨HFo.out.t1,HFo.out.t2,HFo.out.b1,HFo.out.b2⟩)
  clear hcut hR1 hG1 hF1 hO1 k0 k1 k2 k3 k4 k5 k6 k7
  go_wp2_with fail
  go_still_tail 6,(by kernel_rfl)
  change wpList _ _ _ _ _ wc.drew
  go_wp2_with fail
  refine HHe.out.mono ?_
  rintro e w2 ⟨rfl,hb2⟩
  have hhe:=(HR1.out.below (Below.refl wc.heap.size wc).drew).hear (max s.t o.t)
  have hfs:(wc.drew.setCell ⟨y1.CB,0,none⟩ (.int .i64 (max s.t o.t))).heap.size=wc.heap.size:=by simp [World.setCell]
  have HR2:=κ25 (hhe.1.below (by rw [hfs];exact hb2))
  have HF2:Hid (Fr (InC col1') wc w2):=κ25 ((((Fr.of_below (Below.refl wc.heap.size wc).drew).trans hhe.2)).trans (Fr.of_below (by rw [hfs];exact hb2)))
  have HFW:Hid (Fr (InC col) W w2):=κ25 (HG1.out.fr HF1.out HF2.out)
  have HO2:=κ25 (HO.out.fr HFW.out HOB.out)
  clear hb2 hhe hfs j0 j1 j2 j3 j4 j5 j6 j7 c0 HHe
  obtain ⟨j0,j1,j2,j3,j4,j5,j6,j7⟩:=HO2.out
  obtain ⟨a,ha⟩:∃ a:Nat,o.b=a:=⟨o.b.toNat,by have:=HFo.out.b1;omega⟩
  have ha4:a < 4:=by have:=HFo.out.b2;omega
  have hv:w2.cell? ⟨RB,2+a,none⟩=some (.int .i64 (s.v a)):=HR2.out.a.vec a ha4
  have hfz:w2.frozen? ⟨RB,2+a,none⟩=false:=HR2.out.a.fz _
  have hRB:RB < w2.heap.size:=World.block_lt_of_cell? w2 _ hv
  obtain ⟨m,hm⟩:∃ m,s.v a=m:=⟨_,rfl⟩
  have HNm:Hid (o.n=m+1):=κ25 (by have:=HA.out.num;rw [ha,hm] at this;exact this)
  have z1:(m:Int)≤o.n:=by have:=HNm.out;omega
  have z2:¬ o.n≤(m:Int):=by have:=HNm.out;omega
  have z3:(m:Int) < o.n:=by omega
  have z4:max (m:Int) o.n=o.n:=by omega
  rw [hm] at hv
  rw [ha] at j1
  have a0:(0:Int)≤(a:Int):=by omega
  have a4:(a:Int) < 4:=by omega
  have HAa:=κ25 ha
  have HMm:=κ25 hm
  clear ha hm
  go_wp2_with fail
  go_still_tail 18,(by kernel_rfl)
  change wpList _ _ _ _ _ w2.drew
  go_wp2_with fail
  go_end0
  refine ⟨rfl,?_⟩
  have hve:=(HR2.out.below (Below.refl w2.heap.size w2).drew).vec o.b (s.v o.b+1) HFo.out.b1 HFo.out.b2
  have e1:(Value.int .i64 ((s.v o.b+1:Nat):Int))=.int .i64 o.n:=by rw [HAa.out,HMm.out,HNm.out];simp
  have e2:2+o.b.toNat=2+a:=by rw [HAa.out];simp
  rw [e1,e2] at hve
  exact ⟨_,_,hve.1,⟨fun k hk hc=>HG1.out.old k (Nat.lt_of_lt_of_le hk HBW.out.size) hc⟩,(Fr.of_below HBW.out).trans (HG1.out.fr HF1.out (HF2.out.trans ((Fr.of_below (Below.refl w2.heap.size w2).drew).trans hve.2)))⟩
end
end Go.Proofs.YtjekalilfhnpmaaGreatDoor
namespace Go.Proofs.YtjekalilfhnpmaaGreatDoor
open Go Go.RowKit Go.Maps Go.Shelf LineOrd
set_option linter.unusedVariables false
set_option linter.unusedSimpArgs false
set_option maxHeartbeats 1000000
structure Of (D K:List OpT) (s:RpSt):Prop where
 v:∀ x,s.v x=cntB D x
 t:s.t=timeOf D
 g:s.g=logOf D
 m:BestAll (InL D) s.m
 kn:∀ x,s.kn x↔Known D x
 ll:∀ x,Known D x→LineOf D x (s.ll x)∧(s.ll x).length≤D.length
 K:s.K=K
 ct:s.ct=D.length
theorem Of.apok {D K:List OpT} {s:RpSt} {o:OpT} (h:Of D K s) (hD:DOk D) (hD':DOk (D++[o])) (hl:D.length≤1000):ApOk s o:=by
 have hr:=hD'.refs o (by simp)
 refine ⟨hD'.wf o (by simp),hD'.er o (by simp),fun hk=>?_,fun hk hn=>?_,fun hk=>?_,fun hk=>?_,fun nd hn=>?_,?_,?_⟩
 ·rw [h.g]
  exact ⟨(apply_log hD hD' hk).1,logOk_of hD,Nat.le_trans (logOf_len D) hl⟩
 ·rw [h.kn]
  exact (made_new hD hD' hn).1
 ·rw [h.kn]
  rcases known_snoc.1 (hr.ins hk).1 with h1 | h1
  ·exact h1
  ·omega
 ·rw [h.kn]
  rcases known_snoc.1 (hr.del hk).1 with h1 | h1
  ·exact h1
  ·omega
 ·rw [h.kn] at hn
  exact Nat.le_trans (h.ll nd hn).2 hl
 ·rw [h.ct];omega
 ·rw [h.v];exact num_next hD hD'
theorem Of.apply {D K:List OpT} {s:RpSt} {o:OpT} (h:Of D K s) (hD:DOk D) (hD':DOk (D++[o])):Of (D++[o]) K (apS s o):=by
 have hm:=oneMore hD hD'
 have hf:=fine_of (hD'.er o (by simp))
 have hr:=hD'.refs o (by simp)
 refine ⟨fun x=>?_,?_,?_,?_,fun x=>?_,fun x hx=>?_,h.K,?_⟩
 ·show (if x=o.b then s.v o.b+1 else s.v x)=_
  rw [cnt_snoc]
  by_cases e:x=o.b
  ·rw [if_pos e,if_pos e.symm,h.v,e]
  ·rw [if_neg e,if_neg (fun h=>e h.symm),h.v];omega
 ·show max s.t o.t=_
  rw [timeOf_snoc,h.t]
  split <;> omega
 ·show (if o.k=109 then applyL s.g o else s.g)=_
  by_cases e:o.k=109
  ·rw [if_pos e,h.g];exact (apply_log hD hD' e).2
  ·rw [if_neg e,h.g,logOf_no D e]
 ·show BestAll _ (if o.k=115 then (setC s.m o).1 else s.m)
  by_cases e:o.k=115
  ·rw [if_pos e];exact best_set h.m
  ·rw [if_neg e];exact best_no h.m e
 ·show ((o.k=109∧o.nd=o.id∧x=o.nd)∨s.kn x)↔_
  rw [known_snoc,h.kn]
  constructor
  ·rintro (⟨h1,h2,h3⟩ | h1)
   ·exact .inr ⟨h1,h3.symm,by omega⟩
   ·exact .inl h1
  ·rintro (h1 | ⟨h1,h2,h3⟩)
   ·exact .inr h1
   ·exact .inl ⟨h1,by omega,h2.symm⟩
 ·obtain ⟨L',hL'⟩:∃ L',(apS s o).ll x=L':=⟨_,rfl⟩
  rw [hL',List.length_append,List.length_singleton]
  have hL2:(if o.k=109∧o.nd=o.id∧x=o.nd then [] else if o.k=105∧x=o.nd then insAfter o.id o.ot (o.vl.data.toList.headD 0) (s.ll x) else if o.k=100∧x=o.nd then delL o.ot (s.ll x) else s.ll x)=L':=hL'
  clear hL'
  by_cases h1:o.k=109∧o.nd=o.id∧x=o.nd
  ·rw [if_pos h1] at hL2
   subst hL2
   rw [h1.2.2]
   exact ⟨LineOf.nil _ (made_new hD hD' h1.2.1).2,Nat.zero_le _⟩
  ·rw [if_neg h1] at hL2
   have hxD:Known D x:=by
    rcases known_snoc.1 hx with h2 | ⟨h2,h3,h4⟩
    ·exact h2
    ·exact absurd ⟨h2,by omega,h3.symm⟩ h1
   obtain ⟨hL,hlen⟩:=h.ll x hxD
   by_cases h2:o.k=105∧x=o.nd
   ·rw [if_pos h2] at hL2
    subst hL2
    obtain ⟨h3,h4⟩:=hL.ins hm h2.1 h2.2.symm
    unfold insAfter
    rw [if_pos h3]
    exact ⟨h4,by rw [insL_len];omega⟩
   ·rw [if_neg h2] at hL2
    by_cases h3:o.k=100∧x=o.nd
    ·rw [if_pos h3] at hL2
     subst hL2
     exact ⟨(hL.del hm h3.1 h3.2.symm).2,by rw [delL_len];omega⟩
    ·rw [if_neg h3] at hL2
     subst hL2
     exact ⟨hL.other hm (fun hh=>h2 ⟨hh.1,hh.2.symm⟩) (fun hh=>h3 ⟨hh.1,hh.2.symm⟩),by omega⟩
 ·show s.ct+1=_
  rw [h.ct,List.length_append];rfl
theorem Of.sorted {D K:List OpT} {s:RpSt} (h:Of D K s) (hD:DOk D):Of (sortOps D) (sortOps D) { s with K:=sortOps D }:=by
 have hp:=sortOps_perm D
 have hmem:∀ o,o∈D↔o∈sortOps D:=fun o=>hp.mem_iff.symm
 have hkn:∀ x,Known D x↔Known (sortOps D) x:=fun x=>⟨fun ⟨o,ho,r⟩=>⟨o,(hmem o).1 ho,r⟩,fun ⟨o,ho,r⟩=>⟨o,(hmem o).2 ho,r⟩⟩
 refine ⟨fun x=>(h.v x).trans (cntB_perm hp.symm x),h.t.trans (timeOf_eq (fun o ho=>(hD.fine ho).t1) hmem),h.g.trans (logOf_eq hD hD.sorted hmem),h.m.congr fun k c=>⟨fun ⟨o,ho,r⟩=>⟨o,(hmem o).2 ho,r⟩,fun ⟨o,ho,r⟩=>⟨o,(hmem o).1 ho,r⟩⟩,fun x=>(h.kn x).trans (hkn x),fun x hx=>?_,rfl,h.ct.trans hp.length_eq.symm⟩
 obtain ⟨h1,h2⟩:=h.ll x ((hkn x).2 hx)
 refine ⟨?_,by rw [hp.length_eq];exact h2⟩
 obtain ⟨l,hl,hg,hm⟩:=h1.l
 have hlD:=hD.lines
 have hlS:=hD.sorted.lines
 have hHas:∀ x',HasLet D x x'↔HasLet (sortOps D) x x':=fun x'=>⟨fun ⟨o,ho,r⟩=>⟨o,(hmem o).1 ho,r⟩,fun ⟨o,ho,r⟩=>⟨o,(hmem o).2 ho,r⟩⟩
 have hfd:∀ z:Nat,D.find? (insB x z)=(sortOps D).find? (insB x z):=fun z=>by
  by_cases hz:HasLet D x z
  ·obtain ⟨o,ho,r1,r2,r3⟩:=hz
   rw [find_ins hlD ho r1 r2 r3,find_ins hlS ((hmem o).1 ho) r1 r2 r3]
  ·rw [find_no hz,find_no (fun hh=>hz ((hHas z).2 hh))]
 have hpar:parD D x=parD (sortOps D) x:=funext fun z=>by unfold parD;rw [hfd z]
 have hgn:∀ z:Nat,goneD D x z=goneD (sortOps D) x z:=fun z=>by
  unfold goneD
  rw [Bool.eq_iff_iff,List.any_eq_true,List.any_eq_true]
  exact ⟨fun ⟨o,ho,r⟩=>⟨o,(hmem o).1 ho,r⟩,fun ⟨o,ho,r⟩=>⟨o,(hmem o).2 ho,r⟩⟩
 refine ⟨l,?_,by rw [←hpar];exact hg,fun z=>(hm z).trans (hHas z)⟩
 rw [hl]
 show l.map (letD D x)=l.map (letD (sortOps D) x)
 exact List.map_congr_left fun z _=>by unfold letD chD;rw [hfd z,hgn z]
theorem Of.start:Of [] [] ⟨fun _=>0,0,[],fun _=>none,fun _=>False,fun _=>[],[],0⟩:=
 ⟨fun x=>rfl,rfl,rfl,BestAll.start,fun x=>⟨fun h=>h.elim,fun ⟨o,ho,_⟩=>by simp at ho⟩,fun x ⟨o,ho,_⟩=>by simp at ho,rfl,rfl⟩
theorem gapP_eq {K F:List OpT} {v:Int→Nat} (hv:∀ x,v x=cntB K x):gapP K F=F.any (gapB v F):=by
 unfold gapP
 congr 1
 funext o
 unfold gapB manyF
 rw [List.take_length,hv]
 simp
set_option maxHeartbeats 2000000
set_option maxRecDepth 100000
def RepD (col:Nat→Int) (RB:Nat) (b:Int) (K:List OpT) (w:World):Prop:=∃ y s,RepL y col RB b s w∧Of K K s
def RepDTo (col:Nat→Int) (RB:Nat) (b:Int) (K:List OpT) (w w':World):Prop:=∃ col',RepD col' RB b K w'∧Grew col col' w∧Fr (InC col) w w'
def JoEnds (ea:Nat→Addr) (col:Nat→Int) (RB:Nat) (b:Int) (K:List OpT) (R:(Nat×Int) ⊕ List OpT) (w:World) (e:Ending) (w':World):Prop:=
 match R with
 | .inl p=>∃ ev,e=.returned (.tuple #[.int .i64 0,ev])∧ErrVal ea w' ev p.1 p.2∧p.1≠0∧Below w.heap.size w w'
 | .inr G=>e=.returned (.tuple #[.int .i64 G.length,.nilIface])∧RepDTo col RB b (sortOps (K++G)) w w'
theorem freshG_len (L:List OpT):∀ (l F:List OpT) (i:Nat) (R:List OpT),freshG L F i l=.inr R→R.length≤F.length+l.length
 | [],F,i,R,h=>by
  have h:=Sum.inr.inj h
  subst h
  simp
 | o :: l,F,i,R,h=>by
  by_cases he:opErr o≠0
  ·rw [freshG_err he] at h;cases h
  ·have he0:opErr o=0:=by omega
   cases hf:findOwn (L++F) o.b o.n with
   | some p=>
    by_cases hp:p=o
    ·subst hp
     rw [freshG_same he0 hf] at h
     have:=freshG_len L l F (i+1) R h
     simp only [List.length_cons];omega
    ·rw [freshG_other he0 hf hp] at h;cases h
   | none=>
    rw [freshG_new he0 hf] at h
    have:=freshG_len L l (F++[o]) (i+1) R h
    simp only [List.length_cons,List.length_append,List.length_nil] at this ⊢
    omega
theorem errVal_ne {ea:Nat→Addr} {w:World} {v:Value} {k:Nat} {pl:Int} (h:ErrVal ea w v k pl) (h0:k≠0):∃ t u,v=.iface t u:=by
 rcases h with ⟨_,h,_⟩ | ⟨_,_,rfl,_⟩ | ⟨_,_,pb,po,rfl,_⟩
 ·exact absurd h h0
 ·exact ⟨_,_,rfl⟩
 ·exact ⟨_,_,rfl⟩
theorem join_any {F0:Nat→Bool} (ea:Nat→Addr) (w0:World) (col:Nat→Int) (RB:Nat) (b:Int) (K l:List OpT) (A:Option Addr) (n c:Nat) (w:World) (h:RepD col RB b K w) (hG:Gd F0 ea w0) (hb0:Below w0.heap.size w0 w) (hge:∀ k,col k≠0→w0.heap.size≤k)
  (f2:F0 2=true) (f3:F0 3=true) (f4:F0 4=true) (f5:F0 5=true) (f6:F0 6=true) (f7:F0 7=true) (f8:F0 8=true) (f9:F0 9=true)
  (hK:DOk K) (hup:Rising K) (hKl:K.length≤400) (hs:SlV opE w (.slice A n c) l) (hln:l.length≤90000) (hw:∀ o∈l,o.Wf) :
  Calls Tryz.prog 12 #[ptrV RB,.slice A n c] w (JoEnds ea col RB b K (joinP K l) w):=by
 obtain ⟨y,s,hR,hO⟩:=h
 have hsK:s.K=K:=hO.K
 have hv4:∀ x,s.v x≤100000:=fun x=>by rw [hO.v];have:=cnt_le K x;omega
 have HFr:=κ25 (fresh_any ea RB y.OV K l s.v A n c w (hG.below hb0) f2 f3 f4 f5 f7 f9 hR.a.c2 hR.a.c3 hR.a.c4 hR.a.c5 hR.a.c6 (by have:=hR.ops.sl;rwa [hsK] at this) hs hv4 (by omega) hw hK.wf)
 obtain ⟨R,hRd⟩:∃ R,joinP K l=R:=⟨_,rfl⟩
 obtain ⟨R1,hR1⟩:∃ R1,freshG K [] 0 l=R1:=⟨_,rfl⟩
 rw [hR1] at HFr
 rw [hRd]
 have HRd:=κ25 hRd
 have HR1:=κ25 hR1
 have HR:=κ25 hR
 have HO:=κ25 hO
 have HK:=κ25 hK
 have HUp:=κ25 hup
 have HG:=κ25 hG
 have HB0:=κ25 hb0
 have HGe:=κ25 hge
 have HW:=κ25 hw
 have HKl:=κ25 hKl
 have HRBl:Hid (RB < w.heap.size):=κ25 (hR.own_lt hR.co.o1 (by decide))
 have HLt:Hid (∀ k,col k≠0→k < w.heap.size):=κ25 hR.lt
 have HLn:=κ25 hln
 unfold ptrV
 clear hRd hR1 hR hO hK hup hG hb0 hge hw hKl hs hsK hv4 hln
 go_enter Tryz.func12,Tryz.ntmps12
 go_wp2_with fail
 refine HFr.out.mono ?_
 rintro e w1 ⟨hb1,he⟩
 have HB1:=κ25 hb1
 clear hb1 HFr
 cases R1 with
 | inl p=>
  obtain ⟨ev,rfl,hev,hp0⟩:=he
  have HEv:=κ25 hev
  have HP0:=κ25 hp0
  have HRi:Hid (R=.inl p):=κ25 (by rw [←HRd.out];unfold joinP;rw [HR1.out])
  obtain ⟨t,u,rfl⟩:=errVal_ne hev hp0
  clear hev hp0
  go_wp2_with fail
  go_ret2
  rw [HRi.out]
  exact ⟨_,rfl,HEv.out,HP0.out,HB1.out⟩
 | inr F=>
  have HFresh:=κ25 (fresh_of HR1.out)
  rcases he with ⟨hg,rfl⟩ | ⟨hg,hf,rfl⟩ | ⟨hg,hf,sv,rfl,hsv⟩
  ·have HRi:Hid (R=.inl (9,-1)):=κ25 (by rw [←HRd.out];unfold joinP;rw [HR1.out];simp only;rw [if_pos (by rw [gapP_eq HO.out.v];exact hg)])
   clear hg
   go_wp2_with fail
   go_ret2
   rw [HRi.out]
   exact ⟨_,rfl,.bare 9 (by decide) (by decide),by decide,HB1.out⟩
  ·have HRi:Hid (R=.inl (3,-1)):=κ25 (by rw [←HRd.out];unfold joinP;rw [HR1.out];simp only;rw [if_neg (by rw [gapP_eq HO.out.v,hg];simp),if_pos (by unfold fallsP;exact hf)])
   clear hg hf
   go_wp2_with fail
   go_ret2
   rw [HRi.out]
   exact ⟨_,rfl,.bare 3 (by decide) (by decide),by decide,HB1.out⟩
  ·have HRj:Hid (joinP K l=if refersP [] (sortOps (K++sortOps F))=false then .inl (6,-1) else if 400 < K.length+F.length then .inl (8,-1) else .inr (sortOps F)):=κ25 (by
    unfold joinP;rw [HR1.out];simp only;rw [if_neg (by rw [gapP_eq HO.out.v,hg];simp),if_neg (by unfold fallsP;rw [hf];simp)])
   have HSv:=κ25 hsv
   obtain ⟨A2,n2,c2,rfl⟩:=hsv.slice
   have hn2:n2=F.length:=by rw [hsv.sl.len,(sortOps_perm F).length_eq]
   have hFl:F.length≤l.length:=by
    have:=freshG_len K l [] 0 F HR1.out
    simpa using this
   have HFf:Hid (∀ o∈K++sortOps F,OpFine o):=κ25 fun o ho=>by
    rcases List.mem_append.1 ho with ho | ho
    ·exact HK.out.fine ho
    ·exact fine_of (HFresh.out.er o (sortOps_mem.1 ho))
   have HRe:=κ25 (refers_any ea RB y.OV (.slice A2 n2 c2) K (sortOps F) w1 (HG.out.below (HB0.out.trans (HB1.out.mono HB0.out.size))) f2 f6 ((HB1.out.cell HRBl.out).trans HR.out.a.c6) (by have:=(HR.out.below HB1.out).ops.sl;rwa [HO.out.K] at this) hsv.sl (by rw [(sortOps_perm F).length_eq];have:=HLn.out;have:=HKl.out;omega) HFf.out)
   have hn5:n2≤90000:=by have:=HLn.out;omega
   have HN2:=κ25 hn2
   clear hg hf hsv hn2 hFl
   obtain ⟨rf,hrf⟩:∃ rf,refersP [] (sortOps (K++sortOps F))=rf:=⟨_,rfl⟩
   rw [hrf] at HRe HRj
   have HRf:=κ25 hrf
   clear hrf
   go_wp2_with fail
   refine HRe.out.mono ?_
   rintro e w2 ⟨rfl,hb2⟩
   have HB2:=κ25 (HB1.out.trans (hb2.mono HB1.out.size))
   have HSv2:=κ25 (HSv.out.below hb2)
   clear hb2 HRe
   cases rf with
   | false=>
    have HRi:Hid (R=.inl (6,-1)):=κ25 (by rw [←HRd.out,HRj.out,if_pos rfl])
    simp only [Bool.false_eq_true,if_false]
    go_wp2_with fail
    go_ret2
    rw [HRi.out]
    exact ⟨_,rfl,.bare 6 (by decide) (by decide),by decide,HB2.out⟩
   | true=>
    simp only [if_true]
    obtain ⟨A0,nk,kc,hOV⟩:=HR.out.ops.slice
    have hnk:nk=K.length:=by have:=HR.out.ops.sl;rw [hOV,HO.out.K] at this;exact this.len
    have c6:w2.cell? ⟨RB,6,none⟩=some (.slice A0 nk kc):=by rw [←hOV];exact (HB2.out.cell HRBl.out).trans HR.out.a.c6
    have HOV:=κ25 hOV
    have HNk:=κ25 hnk
    have hk4:nk≤400:=by have:=HKl.out;omega
    clear hOV hnk
    by_cases hfull:400 < nk+n2
    ·have HRi:Hid (R=.inl (8,-1)):=κ25 (by rw [←HRd.out,HRj.out,if_neg (by simp),if_pos (by have:=HNk.out;have:=HN2.out;omega)])
     have g8:=((HG.out.below (HB0.out.trans (HB2.out.mono HB0.out.size))).errs 8 (by omega) (by omega) f8).var
     simp only [errG] at g8
     have z1:(400:Int) < (nk:Int)+(n2:Int):=by omega
     clear hfull
     go_wp2_with fail
     go_quiet (fail)
     go_wp2_with fail
     go_ret2
     rw [HRi.out]
     exact ⟨_,rfl,.bare 8 (by decide) (by decide),by decide,below_drawn HB2.out _⟩
    ·have hRi:R=.inr (sortOps F):=by rw [←HRd.out,HRj.out,if_neg (by simp),if_neg (by have:=HNk.out;have:=HN2.out;omega)]
     have HRi:=κ25 hRi
     have HJ:=κ25 (join_ok HK.out HUp.out HW.out (HRd.out.trans hRi))
     obtain ⟨G,hG⟩:∃ G,sortOps F=G:=⟨_,rfl⟩
     have HNG:Hid (n2=G.length):=κ25 (by rw [←hG,(sortOps_perm F).length_eq];exact HN2.out)
     rw [hG] at HJ HSv2 HRi
     have z1:¬ (400:Int) < (nk:Int)+(n2:Int):=by omega
     clear hfull hRi hG HSv HRj HFf HFresh
     go_wp2_with fail
     go_loopw [38] (fun v38 wr=>∃ i:Nat,i≤n2∧v38=.int .i64 i∧Hid (∃ s' y' col',RepL y' col' RB b s' wr∧Of (K++G.take i) K s'∧Grew col col' w2∧Fr (InC col) w2 wr)) (fun v38 _=>n2 - (intOf v38).toNat)
     case atStart=>exact ⟨0,by omega,rfl,κ25 ⟨s,y,col,HR.out.below HB2.out,by rw [List.take_zero,List.append_nil];exact HO.out,Grew.refl _ _,Fr.of_below (Below.refl _ _)⟩⟩
     case round=>
      obtain ⟨i,hi,rfl,HI⟩:=hrel
      have HSr:Hid (Rw opE 31 w.heap.size (.slice A2 n2 c2) G wr):=κ25 (by
       obtain ⟨s',y',col',_,_,_,h4⟩:=HI.out
       exact HSv2.out.fr (X:=InC col) (fun k h1 h2=>h4.block k h1 h2) (fun k hk hc=>by have:=(HSv2.out.lt k hk).1;have:=HLt.out k hc;omega))
      by_cases hlt:i < n2
      ·obtain ⟨x,hx⟩:∃ x,G[i]?=some x:=⟨_,List.getElem?_eq_getElem (by have:=HNG.out;omega)⟩
       obtain ⟨bb,off,rfl,hbl,c0,c1,c2',c3,c4,c5,c6',c7⟩:=ops_at HSr.out.sl hx
       have i1:(0:Int)≤(i:Int):=by omega
       have i2:(i:Int) < (n2:Int):=by omega
       obtain ⟨s',y',col',h1,h2,h3,h4⟩:=HI.out
       have hTk:K++G.take (i+1)=K++G.take i++[x]:=by
        obtain ⟨e1,e2⟩:=List.getElem?_eq_some_iff.1 hx
        rw [←List.take_append_getElem e1,e2,List.append_assoc]
       have hD:=HK.out.cut HJ.out.1 HJ.out.2.1 i
       have hD':=HK.out.cut HJ.out.1 HJ.out.2.1 (i+1)
       rw [hTk] at hD'
       have hDl:(K++G.take i).length≤1000:=by rw [List.length_append,List.length_take];have:=HKl.out;have:=HJ.out.2.2.1;omega
       have hba:=(Below.refl wr.heap.size wr).alloc (Nat.le_refl _) (.cells x.cells 31)
       have hB0w:Below w0.heap.size w0 wr:=(HB0.out.trans (HB2.out.mono HB0.out.size)).trans (h4.below (Nat.le_trans HB0.out.size HB2.out.size) HGe.out)
       have HAp:=κ25 (apply1_any ea w0 (h1.below hba) x HG.out (hB0w.trans (hba.mono hB0w.size)) (fun k hk=>by
        rcases Nat.lt_or_ge k w2.heap.size with hk2 | hk2
        ·exact HGe.out k (h3.old k hk2 hk)
        ·have:=HB0.out.size;have:=HB2.out.size;omega) f2 f3 f4 f5 f6 f7 (h2.apok hD hD' hDl))
       have HNx:Hid (∀ w'',RepTo col' RB b (apS s' x) (wr.alloc (.cells x.cells 31)) w''→∃ s' y' col',RepL y' col' RB b s' w''∧Of (K++G.take (i+1)) K s'∧Grew col col' w2∧Fr (InC col) w2 w''):=κ25 fun w'' ⟨y2,col2,k1,k2,k3⟩=>by
        refine ⟨_,y2,col2,k1,?_,⟨fun k hk hc=>h3.old k hk (k2.old k (by have:=h4.size;simp;omega) hc)⟩,?_⟩
        ·rw [hTk];exact h2.apply hD hD'
        ·exact h3.fr h4 ((Fr.of_below hba).trans k3)
       unfold ptrV at HAp
       clear hx hlt hbl h1 h2 h3 h4 hTk hD hD' hDl hba hB0w HI
       go_wp2_with fail
       refine HAp.out.mono ?_
       rintro e w5 ⟨rfl,hto⟩
       have HI5:=κ25 (HNx.out w5 hto)
       clear hto HNx HAp c0 c1 c2' c3 c4 c5 c6' c7
       go_wp2_with fail
       go_roundw
       case rel=>exact ⟨i+1,by omega,by go_num,HI5⟩
       case measure=>simp [intOf] <;> omega
      ·have i2:¬ (i:Int) < (n2:Int):=by omega
       obtain rfl:n2=i:=by omega
       obtain ⟨s',y',col',h1,h2,h3,h4⟩:=HI.out
       have hTk:G.take n2=G:=List.take_of_length_le (by have:=HNG.out;omega)
       rw [hTk] at h2
       have H1:=κ25 h1
       have H2:=κ25 h2
       have H3:=κ25 h3
       have H4:=κ25 h4
       have d6:=h1.a.c6
       obtain ⟨A9,n9,c9,hOV9⟩:=h1.ops.slice
       rw [hOV9] at d6
       have hsK9:SlV opE wr (.slice A9 n9 c9) K:=by have:=h1.ops.sl;rwa [hOV9,h2.K] at this
       have HCat:Hid (∀ w' g,Below wr.heap.size wr w'→w'.cell? ⟨g,0,none⟩=some (.slice A9 n9 c9)→w'.cell? ⟨g,1,none⟩=some (.slice A2 n2 c2)→Calls Tryz.prog 59 #[.slice (some ⟨g,0,none⟩) 2 2] w' fun e w''=>∃ v',e=.returned v'∧Rw opE 31 w'.heap.size v' (K++G) w''∧Below w'.heap.size w' w''):=
        κ25 fun w' g hb e1 e2=>opsConcat_any g _ _ K G w' (hsK9.below hb) (HSr.out.sl.below hb) e1 e2 (by have:=HJ.out.2.2.1;omega)
       have HSo:Hid (∀ w' v,SlV opE w' v (K++G)→Calls Tryz.prog 58 #[v] w' fun e w''=>∃ v',e=.returned v'∧Rw opE 31 w'.heap.size v' (sortOps (K++G)) w''∧Below w'.heap.size w' w''):=κ25 fun w' v h=>opSort_any v (K++G) w' h (by rw [List.length_append];have:=HJ.out.2.2.1;omega)
       have hRBr:RB < wr.heap.size:=World.block_lt_of_cell? wr _ d6
       clear h1 h2 h3 h4 hTk hOV9 hsK9 HI c6
       go_wp2_with fail
       refine (HCat.out _ _ ((Below.refl wr.heap.size wr).alloc (Nat.le_refl _) _) (by simp [go_sem]) (by simp [go_sem])).mono ?_
       rintro e w6 ⟨v6,rfl,hr6,hb6⟩
       have HR6:=κ25 hr6
       have HB6:Hid (Below wr.heap.size wr w6):=κ25 (((Below.refl wr.heap.size wr).alloc (Nat.le_refl _) _).trans (hb6.mono (by simp)))
       clear hr6 hb6 HCat
       go_wp2_with fail
       refine (HSo.out _ _ HR6.out.sl).mono ?_
       rintro e w7 ⟨v7,rfl,hr7,hb7⟩
       obtain ⟨A7,n7,c7,rfl⟩:=hr7.slice
       have HR7:=κ25 hr7
       have HB7:Hid (Below wr.heap.size wr w7):=κ25 (HB6.out.trans (hb7.mono HB6.out.size))
       have hset:=(H1.out.below HB7.out).setOps (K':=sortOps (K++G)) (rw_low HR7.out (Nat.zero_le _)) wr.heap.size HB7.out.size (fun k hk=>Nat.le_trans HB6.out.size (HR7.out.lt k hk).1) (fun k hk=>Classical.byContradiction fun hc=>by have:=H1.out.lt k hc;omega)
       have HSet:=κ25 hset
       have d67:=(HB7.out.cell hRBr).trans d6
       have f67:w7.frozen? ⟨RB,6,none⟩=false:=(H1.out.below HB7.out).a.fz 6
       clear hr7 hb7 HSo hset d6
       go_wp2_with fail
       go_ret2
       rw [HRi.out]
       refine ⟨by rw [←HNG.out];rfl,_,⟨_,_,HSet.out.1,H2.out.sorted HJ.out.1⟩,⟨fun k hk hc=>?_⟩,?_⟩
       ·rw [HSet.out.2.2 k (by have:=HB2.out.size;have:=H4.out.size;omega)] at hc
        exact H3.out.old k (Nat.lt_of_lt_of_le hk HB2.out.size) hc
       ·exact (Fr.of_below HB2.out).trans (H3.out.fr H4.out ((Fr.of_below HB7.out).trans HSet.out.2.1))
end Go.Proofs.YtjekalilfhnpmaaGreatDoor
