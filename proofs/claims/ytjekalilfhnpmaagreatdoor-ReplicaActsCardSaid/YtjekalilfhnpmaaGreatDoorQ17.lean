/- A tree: a move applied. -/
import Derived.Deep.CutRange
import Derived.Handy
import Derived.Lib.SliceRun
import Derived.Test.YtjekalilfhnpmaaGreatDoorQ06
import Derived.Test.YtjekalilfhnpmaaGreatDoorQ07
import Derived.Test.YtjekalilfhnpmaaGreatDoorQ16
theorem Go.Proofs.YtjekalilfhnpmaaGreatDoor.κ17 {p:Prop} (h:p):Go.RowKit.Hid p:=Go.Lib.hid h
namespace Go.Proofs.YtjekalilfhnpmaaGreatDoor
open Go Go.RowKit Go.Maps Go.Shelf Tree
set_option linter.unusedVariables false
set_option linter.unusedSimpArgs false
set_option maxHeartbeats 4000000
set_option maxRecDepth 100000
theorem eqStamp_run (t b t' b':Int) (w:World):(Op.equalIn 10000 29 (.agg #[.int .i64 t,.int .i64 b]) (.agg #[.int .i64 t',.int .i64 b'])).run Tryz.prog w=.ok (t == t' && b == b') w:=by
 have u3:=Tryz.underlying3
 have a3:=Tryz.isAgg3
 have z3:=Tryz.sizeOf3
 rw [show (10000:Nat)=9999+1 from rfl,Op.equalIn]
 simp only [Sem.run_bind,run_underlying Tryz.underlying29,Result.andThen_ok]
 go_simp
 (repeat' split) <;> simp_all
theorem postM_ret0 {n:Nat} {P:Program} {fn:Func} {R:Ending→World→Prop} {a:Act} {w:World} {v:Value} (hd:a.defers=[]) (hv:(results fn a.tmps).run P w=.ok v w) (hR:R (.returned v) w):bodyPostM Fence.wide n P fn R .ret a w:=by
 show LeavesInM Fence.wide n P fn a.tmps R a.defers .returning w
 rw [hd]
 exact ⟨v,hv,hR⟩
theorem postM_ret1 {n D:Nat} {P:Program} {fn:Func} {R:Ending→World→Prop} {a:Act} {w:World} {v:Value} (hd:a.defers=[{ target:=.collected D,args:=#[] }]) (hK:w.heap[D]?=some (.deferred (some []))) (hv:∀ w',(results fn a.tmps).run P w'=.ok v w') (hR:R (.returned v) (w.putObj D (.deferred none))):bodyPostM Fence.wide n P fn R .ret a w:=by
 show LeavesInM Fence.wide n P fn a.tmps R a.defers .returning w
 rw [hd]
 exact ⟨by simp,.inl ⟨_,_,rfl,run_takeDeferred hK,⟨v,hv _,hR⟩⟩⟩
theorem apply_bad {F:Nat→Bool} (ea:Nat→Addr) (TB:Nat) (o:OpT) (w:World) (hw:o.Wf) (hG:Gd F ea w) (f2:F 2=true) (f3:F 3=true) (f4:F 4=true) (f5:F 5=true) (he:opErr o≠0) :
  Calls Tryz.prog 111 #[.pointer (some ⟨TB,0,none⟩),opV o] w fun e w'=>e=.returned (errW ea (opErr o))∧Below w.heap.size w w':=by
 have HC:Hid (∀ w',Gd F ea w'→Calls Tryz.prog 107 #[opV o] w' fun e w''=>e=.returned (errW ea (opErr o))∧Below w'.heap.size w' w''):=κ17 fun w' hg=>check_any ea o w' hw hg f2 f3 f4 f5
 have hE:errW ea (opErr o)=errV (ea (opErr o)):=by rw [errW,if_neg he]
 rw [hE] at HC ⊢
 have HG:=κ17 ((hG.alloc (.cells #[.pointer (some ⟨TB,0,none⟩)] 78)).alloc (.cells o.cells 31))
 clear hG hw he hE
 generalize opErr o=k at HC ⊢
 refine (callsIn_wide (n:=8)).1 ?_
 refine callsIn_of_wp_marks Tryz.func111 rfl trivial ?_ rfl
 simp only [Tryz.ntmps111,List.size_toArray,List.length_cons,List.length_nil,Nat.reduceAdd,Nat.reduceSub,Array.replicate_succ,Array.replicate_zero,List.push_toArray,List.append_toArray,List.nil_append,List.cons_append]
 refine wpIn_wide.2 ?_
 go_wp2_with fail
 refine (HC.out _ HG.out).mono ?_
 rintro e w1 ⟨rfl,hb⟩
 have HB:=κ17 ((((Below.refl w.heap.size w).alloc (Nat.le_refl _) (.cells #[.pointer (some ⟨TB,0,none⟩)] 78)).alloc (by simp) (.cells o.cells 31)).trans (hb.mono (by simp;omega)))
 clear hb
 go_wp2_with fail
 exact postM_ret0 rfl (by simp [results,Tryz.results111,go_sem]) ⟨rfl,HB.out⟩
abbrev p00:PlB:=fun _=>none
def doneE:Enc DoneT:=⟨fun d=>d.cells.toList,13,fun _=>rfl,fun x v hv=>by
 simp at hv
 rcases hv with rfl | rfl | rfl | rfl | rfl | rfl | rfl | rfl | rfl | rfl | rfl | rfl | rfl <;> rfl⟩
abbrev zeroDone:DoneT:=⟨⟨0,0,0,0,0,0,⟨#[]⟩,⟨#[]⟩⟩,⟨0,0,⟨#[]⟩⟩,false,false⟩
theorem infoDone:(Tryz.prog.info? 251).map (fun i=>(i.zero,i.size,i.bytes))=some (some (.agg zeroDone.cells),13,120):=by kernel_rfl
theorem done_at {base:Nat} {lv:Value} {g n c:Nat} {N:List DoneT} {w:World} (h:Rw doneE 251 base lv N w) (hv:lv=.slice (some ⟨g,0,none⟩) n c) {i:Nat} {d:DoneT} (hx:N[i]?=some d):DnC g (i*13) d w:=fun j u hu=>by
 have:=h.at' hv hx (j:=j) (u:=u) (by simpa [doneE] using hu)
 exact this
structure TrS (base TB b n:Nat) (lv:Value) (L:List OpT) (w:World):Prop where
 p0:w.cell? ⟨TB,0,none⟩=some (.map (some b))
 p1:w.cell? ⟨TB,1,none⟩=some lv
 f1:w.frozen? ⟨TB,1,none⟩=false
 mp:MP b n (runO p00 L) w
 row:Rw doneE 251 base lv (notesO p00 L) w
 geT:base≤TB
 geb:base≤b
 ne:TB≠b
 ner:∀ k,lv.ownBlock=some k→k≠TB∧k≠b
theorem TrS.lt {base TB b n:Nat} {lv:Value} {L:List OpT} {w:World} (h:TrS base TB b n lv L w):TB < w.heap.size:=World.block_lt_of_cell? w _ h.p0
theorem TrS.fr {X:Nat→Prop} {base TB b n:Nat} {lv:Value} {L:List OpT} {w w':World} (h:TrS base TB b n lv L w) (hF:Fr X w w') (h1:¬ X TB) (h2:¬ X b) (h3:∀ k,lv.ownBlock=some k→¬ X k):TrS base TB b n lv L w':=
 ⟨(hF.cell h.lt h1).trans h.p0,(hF.cell h.lt h1).trans h.p1,(hF.frozen h.lt h1).trans h.f1,h.mp.fr hF h2,h.row.fr (X:=X) (fun k hk hx=>hF.block k hk hx) h3,h.geT,h.geb,h.ne,h.ner⟩
theorem TrS.below {base TB b n:Nat} {lv:Value} {L:List OpT} {w w':World} (h:TrS base TB b n lv L w) (hb:Below w.heap.size w w'):TrS base TB b n lv L w':=h.fr (X:=fun _=>False) (Fr.of_below hb) (fun h=>h) (fun h=>h) (fun _ _ h=>h)
structure LogOk (L:List OpT):Prop where
 up:Rising L
 nd:∀ o∈L,I64 o.nd∧I64 o.ot
theorem plOk_run {L:List OpT} (h:∀ o∈L,I64 o.nd∧I64 o.ot):PlOk (runO p00 L):=by
 refine ⟨Acyc.replay Acyc.empty _,?_⟩
 have:∀ (p:PlB),(∀ x v,p x=some v→I64 v.1)→(∀ o∈L,I64 o.nd∧I64 o.ot)→∀ x v,runO p L x=some v→I64 v.1:=by
  clear h
  induction L with
  | nil=>exact fun p hp _=>hp
  | cons o L ih=>
   intro p hp hL
   refine ih (Tree.move p (mvO o)) (fun x v hv=>?_) (fun o' ho'=>hL o' (List.mem_cons_of_mem _ ho'))
   unfold Tree.move at hv
   split at hv
   ·unfold put at hv
    split at hv
    ·cases hv;exact (hL o (List.mem_cons_self ..)).2
    ·exact hp x v hv
   ·exact hp x v hv
 exact this _ (fun x v hv=>by cases hv) h
structure ApS (w:World) (base TB b n:Nat) (lv:Value) (L:List OpT) (o:OpT) (wr:World):Prop where
 tp:wr.cell? ⟨w.heap.size,0,none⟩=some (.pointer (some ⟨TB,0,none⟩))
 op:OpAt wr (w.heap.size+1) o
 tr:TrS base TB b n lv L wr
 bl:Below w.heap.size w wr
theorem ApS.below {w:World} {base TB b n:Nat} {lv:Value} {L:List OpT} {o:OpT} {wr wr':World} (h:ApS w base TB b n lv L o wr) (hb:Below wr.heap.size wr wr'):ApS w base TB b n lv L o wr':=
 ⟨cell_keep' hb h.tp,h.op.below hb,h.tr.below hb,h.bl.trans (hb.mono h.bl.size)⟩
theorem six_keep {TP OP TB g r:Nat} {lv:Value} {o y:OpT} {wr wr':World} (hb:Below wr.heap.size wr wr') (h:wr.cell? ⟨TP,0,none⟩=some (.pointer (some ⟨TB,0,none⟩))∧wr.cell? ⟨OP,0,none⟩=some (.int .i64 o.t)∧wr.cell? ⟨OP,1,none⟩=some (.int .i64 o.b)∧wr.cell? ⟨TB,1,none⟩=some lv∧wr.cell? ⟨g,r,none⟩=some (.int .i64 y.t)∧wr.cell? ⟨g,r+1,none⟩=some (.int .i64 y.b)) :
  wr'.cell? ⟨TP,0,none⟩=some (.pointer (some ⟨TB,0,none⟩))∧wr'.cell? ⟨OP,0,none⟩=some (.int .i64 o.t)∧wr'.cell? ⟨OP,1,none⟩=some (.int .i64 o.b)∧wr'.cell? ⟨TB,1,none⟩=some lv∧wr'.cell? ⟨g,r,none⟩=some (.int .i64 y.t)∧wr'.cell? ⟨g,r+1,none⟩=some (.int .i64 y.b):=⟨cell_keep' hb h.1,cell_keep' hb h.2.1,cell_keep' hb h.2.2.1,cell_keep' hb h.2.2.2.1,cell_keep' hb h.2.2.2.2.1,cell_keep' hb h.2.2.2.2.2⟩
@[go_sem] def lateOp (o:Oper):Oper:=o
noncomputable def applyErr (L:List OpT) (o:OpT):Nat:=open Classical in if opErr o≠0 then opErr o else if o.k≠109 then 5 else if ∃ y,y∈L∧SameS y o then 7 else 0
noncomputable def applyL (L:List OpT) (o:OpT):List OpT:=if applyErr L o=0 then laidIn opLt L o else L
theorem cloneDone_any (v:Value) (N:List DoneT) (w:World) (hs:SlV doneE w v N) (hn:N.length≤100000) :
  Calls Tryz.prog 156 #[v] w fun e w'=>∃ v',e=.returned v'∧Rw doneE 251 w.heap.size v' N w'∧Below w.heap.size w w':=by
 have q22:∀ (w:World) (a:Option Addr) (n c n' c':Nat),(binOp .eql 152 (.slice a n c) (.slice none n' c')).run Tryz.prog w=.ok (.bool a.isNone) w:=fun w a n c n' c'=>Lib.run_eql_slice_nil w _ _ a n c n' c' Tryz.underlying152
 rcases hs with ⟨rfl,rfl⟩ | ⟨p,c,rfl,h1,h3⟩
 ·go_enter Tryz.func156,Tryz.ntmps156
  go_wp2_with fail
  go_ret
  exact ⟨_,rfl,Rw.nil _ _ _ _,by go_grown⟩
 ·obtain ⟨n,hn1⟩:∃ n,n=N.length:=⟨_,rfl⟩
  have HN:=κ17 hn1
  have hs:SlV doneE w (.slice (some p) n c) N:=.inr ⟨p,c,by rw [hn1],h1,h3⟩
  have HS:=κ17 hs
  rw [←hn1] at hn h1 ⊢
  clear h3 hs hn1
  go_enter Tryz.func156,Tryz.ntmps156
  go_wp2_with (at_builtin;refine wpList_append_rows rfl _ _ 152 rfl doneE w.heap.size 251 (.agg zeroDone.cells) 120 Tryz.underlying152 infoDone rfl (by decide) _ _ [] N rfl rfl (World.ownsRow_made w #[] 0 (Nat.le_refl _) (Nat.zero_le _) (by simp)) (HS.out.below ((Below.refl _ _).alloc (Nat.le_refl _) _)) ?e1 ?e2 ?e3 ?_)
  case e1=>have:=HN.out;simp [maxLen];omega
  case e2=>have:=HN.out;simp;omega
  case e3=>simp
  intro v1 w1 hr1 hg1
  have HR1:=κ17 hr1
  have HB1:Hid (Below w.heap.size w w1):=κ17 (((Below.refl _ _).alloc (Nat.le_refl _) _).grown hg1 (by simp) (fun k hk=>by simp [Value.ownBlock] at hk;omega))
  clear hr1 hg1 q22
  go_wp2_with fail
  go_ret
  exact ⟨_,rfl,by have:=HR1.out;simpa using this,HB1.out⟩
theorem rangeFunc_box {F:Fence} {n:Nat} {P:Program} {α:Type} {g:Operand} {ps:Array Tmp} {assign body:Code} {Q:Exit→Act→World→Prop} {a:Act} {w:World}
  (hro:F.round=none) (h1:1≤n) {gf:Nat} {lb:Array Value} (hg:a.eval g=.func (.func gf) #[] lb) (hFg:F.fn gf) (eg:∀ args w,(callFunc gf args).run P w=.ok (.enter gf args) w)
  {encs:α→Array Value} {Kp:World→World→Prop} {S Sp:List α→Prop} {N:Nat} {w0:World} (hseq:SeqStopsK F (n - 1) P gf lb encs Kp S Sp N w0)
  (hKt:∀ {A B C:World},Kp A B→Kp B C→Kp A C) (hKb:∀ (W:World) (l:Nat) (o o':Obj),w.heap.size≤l→W.heap[l]?=some o→o.isCells=false→o.isWalk=false→Kp W (W.putObj l o')) (hb0:Below w0.heap.size w0 w) (hps:∀ x,(encs x).size=ps.size)
  (I:List α→World→Prop) (hI:OwnFrom w.heap.size I) (h0:I [] w) (s:Tmp) (PB:α→Nat→World→Prop) (hPB:∀ x B,OwnFrom w.heap.size (fun (_:Unit) W=>PB x B W))
  (hassign:∀ (l:Nat) (pre:List α) (x:α) (W:World) (K:Act→World→Prop),I pre W→(∀ Bx W',KeepsFrom w.heap.size W W'→Kp W W'→I pre W'→PB x Bx W'→∀ a',a'={ tmps:=((ps.zip (encs x)).foldl (fun t (p,v)=>t.setIfInBounds p v) a.tmps).setIfInBounds s (.pointer (some ⟨Bx,0,none⟩)),defers:=[] }→K a' W')→
   assign.wpIn (F.inRound l) (n - 1 - 1) P (Exit.then K (fun _ _ _=>False)) { tmps:=(ps.zip (encs x)).foldl (fun t (p,v)=>t.setIfInBounds p v) a.tmps,defers:=[] } W)
  (hbody:∀ (l:Nat) (pre:List α) (x:α) (Bx:Nat) (W:World),I pre W→PB x Bx W→pre.length < N→body.wpIn (F.inRound l) (n - 1 - 1) P (ownPostG w.heap.size Kp I (fun _ _ _=>False) (pre++[x]) W) { tmps:=((ps.zip (encs x)).foldl (fun t (p,v)=>t.setIfInBounds p v) a.tmps).setIfInBounds s (.pointer (some ⟨Bx,0,none⟩)),defers:=[] } W)
  (hdone:∀ (D:Nat) (xs:List α) (W:World),w.heap.size≤D→S xs→I xs W→W.heap[D]?=some (.deferred (some []))→Q .normal { a with defers:={ target:=.collected D,args:=#[] } :: a.defers } W) :
  (Code.rangeFunc g ps assign body).wpIn F n P Q a w:=by
 refine wpIn_rangeFunc_ownH hro h1 hg hFg eg hseq hKt hKb hb0 hps I (fun _ _ _=>False) hI (fun _ _ _ _ _ h _ _=>h) h0
  (fun x a' W=>∃ Bx,PB x Bx W∧a'={ tmps:=((ps.zip (encs x)).foldl (fun t (p,v)=>t.setIfInBounds p v) a.tmps).setIfInBounds s (.pointer (some ⟨Bx,0,none⟩)),defers:=[] })
  (fun x a' u W W' row h hgr hr=>by obtain ⟨Bx,h1,h2⟩:=h;exact ⟨Bx,hPB x Bx u W W' row h1 hgr hr,h2⟩) ?_ ?_ hdone (fun _ _ _ _ _ _ h _=>h.elim)
 ·intro l pre x W K hi hK
  exact hassign l pre x W K hi (fun Bx W' k1 k2 k3 k4 a' e=>hK a' W' k1 k2 k3 ⟨Bx,k4,e⟩)
 ·rintro l pre x a' W _ _ hi ⟨Bx,hb,rfl⟩ hlen
  exact hbody l pre x Bx W hi hb hlen
noncomputable def undoB (m:Int→Option PlT) (pre:List (Int×DoneS)):Int→Option PlT:=pre.foldl (fun m x=>undoM m x.2.1.o x.2.1.y x.2.1.is x.2.1.by') m
theorem undoB_snoc (m:Int→Option PlT) (pre:List (Int×DoneS)) (x:Int×DoneS):undoB m (pre++[x])=undoM (undoB m pre) x.2.1.o x.2.1.y x.2.1.is x.2.1.by':=by simp [undoB]
theorem undoB_all {L:List OpT} {k:Nat} (hk:k≤L.length) {LS:List DoneS} (hLS:LS.map (·.1)=(notesO p00 L).drop k):∀ j,j≤LS.length→undoB (plM (runO p00 L)) (cameB LS j)=plM (runO p00 (L.take (L.length - j)))
 | 0,_=>by
  rw [Nat.sub_zero,List.take_length]
  rfl
 | j+1,hj=>by
  have hl:LS.length=L.length - k:=by rw [←List.length_map (f:=fun d:DoneS=>d.1),hLS,List.length_drop,notesO_len]
  rw [cameB_succ,undoB_snoc,undoB_all hk hLS j (by omega)]
  obtain ⟨o,ho⟩:∃ o,L[L.length - 1 - j]?=some o:=⟨_,List.getElem?_eq_getElem (by omega)⟩
  have hd:((backF LS j).2.1)=noteO (runO p00 (L.take (L.length - 1 - j))) o:=by
   have hi:LS.length - 1 - j < LS.length:=by omega
   have e:LS[LS.length - 1 - j]?=some LS[LS.length - 1 - j]:=List.getElem?_eq_getElem hi
   have e2:(LS.map (·.1))[LS.length - 1 - j]?=some (LS[LS.length - 1 - j]).1:=by rw [List.getElem?_map,e];rfl
   rw [hLS,List.getElem?_drop,show k+(LS.length - 1 - j)=L.length - 1 - j by omega,notesO_at p00 L _ o ho] at e2
   unfold backF
   simp only [e,Option.getD_some]
   exact (Option.some.inj e2).symm
  rw [hd,show L.length - j=(L.length - 1 - j)+1 by omega,runO_take_succ p00 ho]
  have:=undo_note (runO p00 (L.take (L.length - 1 - j))) o
  simp only [noteO] at this ⊢
  rw [show L.length - (j+1)=L.length - 1 - j by omega]
  exact this
theorem nine_keep {X:Nat→Prop} {TP OP TB:Nat} {o:OpT} {wr wr':World} (hF:Fr X wr wr') (h1:¬ X TP) (h2:¬ X OP) (h:wr.cell? ⟨TP,0,none⟩=some (.pointer (some ⟨TB,0,none⟩))∧wr.cell? ⟨OP,0,none⟩=some (.int .i64 o.t)∧wr.cell? ⟨OP,1,none⟩=some (.int .i64 o.b)∧wr.cell? ⟨OP,2,none⟩=some (.int .i64 o.n)∧wr.cell? ⟨OP,3,none⟩=some (.int .u8 o.k)∧wr.cell? ⟨OP,4,none⟩=some (.int .i64 o.nd)∧wr.cell? ⟨OP,5,none⟩=some (.int .i64 o.ot)∧wr.cell? ⟨OP,6,none⟩=some (.string o.nm)∧wr.cell? ⟨OP,7,none⟩=some (.string o.vl)) :
  wr'.cell? ⟨TP,0,none⟩=some (.pointer (some ⟨TB,0,none⟩))∧wr'.cell? ⟨OP,0,none⟩=some (.int .i64 o.t)∧wr'.cell? ⟨OP,1,none⟩=some (.int .i64 o.b)∧wr'.cell? ⟨OP,2,none⟩=some (.int .i64 o.n)∧wr'.cell? ⟨OP,3,none⟩=some (.int .u8 o.k)∧wr'.cell? ⟨OP,4,none⟩=some (.int .i64 o.nd)∧wr'.cell? ⟨OP,5,none⟩=some (.int .i64 o.ot)∧wr'.cell? ⟨OP,6,none⟩=some (.string o.nm)∧wr'.cell? ⟨OP,7,none⟩=some (.string o.vl):=
 have g:∀ {p:Addr} {u:Value},¬ X p.block→wr.cell? p=some u→wr'.cell? p=some u:=fun hx hc=>(hF.cell (World.block_lt_of_cell? wr _ hc) hx).trans hc
 ⟨g h1 h.1,g h2 h.2.1,g h2 h.2.2.1,g h2 h.2.2.2.1,g h2 h.2.2.2.2.1,g h2 h.2.2.2.2.2.1,g h2 h.2.2.2.2.2.2.1,g h2 h.2.2.2.2.2.2.2.1,g h2 h.2.2.2.2.2.2.2.2⟩
theorem fr_set (w:World) (TB i:Nat) (v:Value):Fr (·=TB) w (w.setCell ⟨TB,i,none⟩ v):=
 ⟨rfl,rfl,rfl,by simp [World.setCell],fun k hk hx=>Below.heap_setCell _ _ _ _ (fun e=>hx e)⟩
structure ApT (w:World) (base TB b n D H:Nat) (lv v7:Value) (M:List OpT) (N R:List DoneT) (o:OpT) (wr:World):Prop where
 tp:wr.cell? ⟨w.heap.size,0,none⟩=some (.pointer (some ⟨TB,0,none⟩))
 op:OpAt wr (w.heap.size+1) o
 p0:wr.cell? ⟨TB,0,none⟩=some (.map (some b))
 p1:wr.cell? ⟨TB,1,none⟩=some lv
 f1:wr.frozen? ⟨TB,1,none⟩=false
 mp:MP b n (runO p00 M) wr
 row:Rw doneE 251 base lv N wr
 lat:Rw doneE 251 w.heap.size v7 R wr
 dk:wr.heap[D]?=some (.deferred (some []))
 fr:Fr (fun j=>j=TB∨j=b) w wr
 hsz:H≤wr.heap.size
theorem rw_some {T:Type} {E:Enc T} {ty:TypeId} {base:Nat} {v:Value} {L:List T} {y:T} {w:World} (h:Rw E ty base v (L++[y]) w):∃ g n c,v=.slice (some ⟨g,0,none⟩) n c:=by
 rcases h.form with ⟨_,e⟩ | ⟨g,c,e,_⟩
 ·simp at e
 ·exact ⟨g,_,c,e⟩
theorem grown_block {wA w5:World} {ob:Obj} {row:Option Nat} (hg:(wA.alloc ob).grownBy w5 row) {j:Nat} (hj:j < wA.heap.size) (hr:∀ q,row=some q→q≠j):w5.heap[j]?=wA.heap[j]?:=by
 rw [hg.block j (by simp;omega) (fun e=>hr j e.symm rfl)]
 exact Below.heap_alloc _ _ j hj
theorem fr_grown0 {X:Nat→Prop} {w0 w w':World} (h:Fr X w0 w) (hg:w.grownBy w' none):Fr X w0 w':=
 ⟨hg.os.trans h.os,hg.tape.trans h.tape,hg.output.trans h.output,Nat.le_trans h.size hg.size,fun k hk hx=>(hg.block k (Nat.lt_of_lt_of_le hk h.size) (by simp)).trans (h.block k hk hx)⟩
theorem ApT.step {w:World} {base TB b n n' D H:Nat} {lv v5 v7:Value} {M M':List OpT} {N N' R:List DoneT} {o:OpT} {wr wA w5:World} {ob:Obj} {row:Option Nat} (h:ApT w base TB b n D H lv v7 M N R o wr)
  (hT:TB < w.heap.size) (hb:b < w.heap.size) (hne:TB≠b) (hD:w.heap.size≤D) (hDH:D < H) (hl7:∀ q,v7.ownBlock=some q→q < H) (hop:w.heap.size+1 < H)
  (hF:Fr (·=b) wr wA) (hmA:MP b n' (runO p00 M') wA) (hg:(wA.alloc ob).grownBy w5 row) (hrow:∀ q,row=some q→H≤q) (hr:Rw doneE 251 base v5 N' w5) (h5:∀ q,v5.ownBlock=some q→H≤q) :
  ApT w base TB b n' D H v5 v7 M' N' R o (w5.setCell ⟨TB,1,none⟩ v5):=by
 have hbH:b < H:=by omega
 have hTH:TB < H:=by omega
 have hA5:∀ j,j < wA.heap.size→j < H→w5.heap[j]?=wA.heap[j]?:=fun j hj hjH=>by
  rw [hg.block j (by simp;omega) (fun e=>by have:=hrow j e.symm;omega)]
  exact Below.heap_alloc _ _ j hj
 have s5:wA.heap.size≤w5.heap.size:=by have:=hg.size;simp at this;omega
 have g5:∀ j,j < wr.heap.size→j < H→j≠b→w5.heap[j]?=wr.heap[j]?:=fun j hj hjH hjb=>(hA5 j (by have:=hF.size;omega) hjH).trans (hF.block j hj hjb)
 have g6:∀ j,j < wr.heap.size→j < H→j≠b→j≠TB→(w5.setCell ⟨TB,1,none⟩ v5).heap[j]?=wr.heap[j]?:=fun j hj hjH hjb hjT=>(Below.heap_setCell _ _ _ _ hjT).trans (g5 j hj hjH hjb)
 have gc:∀ {p:Addr} {u:Value},p.block < H→p.block≠b→p.block≠TB→wr.cell? p=some u→(w5.setCell ⟨TB,1,none⟩ v5).cell? p=some u:=fun {p u} h1 h2 h3 hc=>(World.cell?_of_block (g6 _ (World.block_lt_of_cell? wr _ hc) h1 h2 h3)).trans hc
 have gT:∀ {i:Nat} {u:Value},wr.cell? ⟨TB,i,none⟩=some u→w5.cell? ⟨TB,i,none⟩=some u:=fun {i u} hc=>(World.cell?_of_block (g5 TB (World.block_lt_of_cell? wr _ hc) hTH hne)).trans hc
 have szw:=h.fr.size
 have szA:=hF.size
 have szs:(w5.setCell ⟨TB,1,none⟩ v5).heap.size=w5.heap.size:=by simp [World.setCell]
 have h1:w.heap.size < H:=by omega
 exact
  {
   tp:=gc h1 (by show w.heap.size≠b;omega) (by show w.heap.size≠TB;omega) h.tp
   op:=by
    have q:=h.op
    have e1:w.heap.size+1≠b:=by omega
    have e2:w.heap.size+1≠TB:=by omega
    exact ⟨gc hop e1 e2 q.c0,gc hop e1 e2 q.c1,gc hop e1 e2 q.c2,gc hop e1 e2 q.c3,gc hop e1 e2 q.c4,gc hop e1 e2 q.c5,gc hop e1 e2 q.c6,gc hop e1 e2 q.c7⟩
   p0:=by simpa [go_sem] using gT h.p0
   p1:=World.cell?_setCell_same' _ _ _ (by rw [gT h.p1];rfl)
   f1:=by
    rw [World.frozen?_setCell]
    exact (World.frozen?_of_block (g5 TB (World.block_lt_of_cell? wr _ h.p1) hTH hne)).trans h.f1
   mp:=(MT.block hmA (hA5 b hmA.lt hbH)).block (Below.heap_setCell _ _ _ _ (Ne.symm hne))
   row:=hr.kept (fun q hq=>Below.heap_setCell _ _ _ _ (by have:=h5 q hq;show q≠TB;omega))
   lat:=h.lat.kept (fun q hq=>by
    have h7:=h.lat.lt q hq
    exact g6 q h7.2 (hl7 q hq) (by omega) (by omega))
   dk:=by rw [g6 D (Array.getElem?_eq_some_iff.1 h.dk).1 hDH (by omega) (by omega)];exact h.dk
   fr:=by
    refine ⟨?_,?_,?_,by omega,fun j hj hx=>?_⟩
    ·exact hg.os.trans (hF.os.trans h.fr.os)
    ·exact hg.tape.trans (hF.tape.trans h.fr.tape)
    ·exact hg.output.trans (hF.output.trans h.fr.output)
    ·simp at hx
     rw [g6 j (by omega) (by omega) hx.2 hx.1]
     exact h.fr.block j hj (by simp;exact hx)
   hsz:=by have:=h.hsz;omega }
theorem ApT.below {w:World} {base TB b n D H:Nat} {lv v7:Value} {M:List OpT} {N R:List DoneT} {o:OpT} {wr wr':World} (h:ApT w base TB b n D H lv v7 M N R o wr) (hb:Below wr.heap.size wr wr'):ApT w base TB b n D H lv v7 M N R o wr':=
 ⟨cell_keep' hb h.tp,h.op.below hb,cell_keep' hb h.p0,cell_keep' hb h.p1,(World.frozen?_of_block (hb.block _ (World.block_lt_of_cell? wr _ h.p1))).trans h.f1,h.mp.below hb,h.row.below hb,h.lat.below hb,(hb.block _ (Array.getElem?_eq_some_iff.1 h.dk).1).trans h.dk,h.fr.trans (Fr.of_below hb),Nat.le_trans h.hsz hb.size⟩
theorem take_drop_succ {L:List OpT} {k i:Nat} {x:OpT} (h:L[k+i]?=some x):(L.drop k).take (i+1)=(L.drop k).take i++[x]:=by
 have h2:(L.drop k)[i]?=some x:=by rw [List.getElem?_drop];exact h
 obtain ⟨hi,he⟩:=List.getElem?_eq_some_iff.1 h2
 rw [←he,List.take_append_getElem]
theorem ApT.ends {w:World} {base TB b n n0 D H k q mm cc:Nat} {v7:Value} {L M:List OpT} {R:List DoneT} {o:OpT} {wr:World} (h:ApT w base TB b n D H (.slice (some ⟨q,0,none⟩) mm cc) v7 M (notesO p00 M) R o wr)
  (hM:M=L.take k++[o]++L.drop k) (hk:kOf opLt o L L.length=k) (he:applyErr L o=0) (hn:n≤n0) (hTB:TB < w.heap.size) (hbb:b < w.heap.size) (hg1:base≤TB) (hg2:base≤b) (hne:TB≠b) (hD:w.heap.size≤D) (hDH:D < H) (hq:H≤q) :
  ∃ lv' n',TrS base TB b n' lv' (applyL L o) (wr.putObj D (.deferred none))∧n'≤n0∧Fr (fun j=>j=TB∨j=b) w (wr.putObj D (.deferred none))∧∀ k',lv'.ownBlock=some k'→w.heap.size≤k':=by
 have hF:Fr (·=D) wr (wr.putObj D (.deferred none)):=⟨rfl,rfl,rfl,by simp [World.putObj],fun j hj hx=>World.putObj_heap_other hx⟩
 have hL:applyL L o=M:=by
  unfold applyL
  rw [if_pos he,hM]
  unfold laidIn
  rw [hk]
  simp
 rw [hL]
 refine ⟨.slice (some ⟨q,0,none⟩) mm cc,n,?_,hn,?_,fun k' hk'=>by have e:q=k':=Option.some.inj hk';omega⟩
 ·refine TrS.fr (X:=(·=D)) (w:=wr) ⟨h.p0,h.p1,h.f1,h.mp,h.row,hg1,hg2,hne,fun j hj=>?_⟩ hF (by omega) (by omega) (fun j hj=>?_)
  ·have e:q=j:=Option.some.inj hj
   constructor <;> omega
  ·have e:q=j:=Option.some.inj hj
   omega
 ·exact ⟨h.fr.os,h.fr.tape,h.fr.output,Nat.le_trans h.fr.size hF.size,fun j hj hx=>(World.putObj_heap_other (by omega)).trans (h.fr.block j hj hx)⟩
theorem apply_kind {F:Nat→Bool} (ea:Nat→Addr) (TB:Nat) (o:OpT) (w:World) (hw:o.Wf) (hG:Gd F ea w) (f2:F 2=true) (f3:F 3=true) (f4:F 4=true) (f5:F 5=true) (he:opErr o=0) (hk:o.k≠109) :
  Calls Tryz.prog 111 #[.pointer (some ⟨TB,0,none⟩),opV o] w fun e w'=>e=.returned (errV (ea 5))∧Below w.heap.size w w':=by
 have HC:Hid (∀ w',Gd F ea w'→Calls Tryz.prog 107 #[opV o] w' fun e w''=>e=.returned .nilIface∧Below w'.heap.size w' w''):=κ17 fun w' hg=>by
  have:=check_any ea o w' hw hg f2 f3 f4 f5
  rw [he] at this
  exact this
 have HG:=κ17 ((hG.alloc (.cells #[.pointer (some ⟨TB,0,none⟩)] 78)).alloc (.cells o.cells 31))
 have HGB:=κ17 hG
 have hk1:=hw.k1
 have hk2:=hw.k2
 clear hG hw he
 refine (callsIn_wide (n:=8)).1 ?_
 refine callsIn_of_wp_marks Tryz.func111 rfl trivial ?_ rfl
 simp only [Tryz.ntmps111,List.size_toArray,List.length_cons,List.length_nil,Nat.reduceAdd,Nat.reduceSub,Array.replicate_succ,Array.replicate_zero,List.push_toArray,List.append_toArray,List.nil_append,List.cons_append]
 refine wpIn_wide.2 ?_
 go_wp2_with fail
 refine (HC.out _ HG.out).mono ?_
 rintro e w1 ⟨rfl,hb⟩
 have HB:=κ17 ((((Below.refl w.heap.size w).alloc (Nat.le_refl _) (.cells #[.pointer (some ⟨TB,0,none⟩)] 78)).alloc (by simp) (.cells o.cells 31)).trans (hb.mono (by simp;omega)))
 have hO:=OpAt.start (w.alloc (.cells #[.pointer (some ⟨TB,0,none⟩)] 78)) o 31
 rw [World.size_alloc] at hO
 have q3:=(hO.below hb).c3
 have g5:=((HGB.out.below HB.out).errs 5 (by omega) (by omega) f5).var
 simp only [errG] at g5
 have hkb:(o.k != 109)=true:=by simpa using hk
 clear hb hk hO
 go_wp2_with fail
 exact postM_ret0 (v:=errV (ea 5)) rfl (by simp [results,Tryz.results111,go_sem]) ⟨rfl,HB.out⟩
attribute [local go_sem] Oper.semAt_some
theorem apply_ok {F:Nat→Bool} (ea:Nat→Addr) (base TB b n:Nat) (A:Option Addr) (m cap:Nat) (L:List OpT) (o:OpT) (w:World) (hw:o.Wf) (hG:Gd F ea w) (f2:F 2=true) (f3:F 3=true) (f4:F 4=true) (f5:F 5=true) (f7:F 7=true)
  (hst:TrS base TB b n (.slice A m cap) L w) (hL:LogOk L) (hl:L.length≤1000) (hn:n+2*L.length+1 < maxLen) (he:opErr o=0) (hk:o.k=109) :
  Calls Tryz.prog 111 #[.pointer (some ⟨TB,0,none⟩),opV o] w fun e w'=>∃ lv' n',e=.returned (errW ea (applyErr L o))∧TrS base TB b n' lv' (applyL L o) w'∧n'≤n+2*L.length+1∧Fr (fun k=>k=TB∨k=b) w w'∧∀ k',lv'.ownBlock=some k'→(Value.slice A m cap).ownBlock=some k'∨w.heap.size≤k':=by
 have HC:Hid (∀ w',Gd F ea w'→Calls Tryz.prog 107 #[opV o] w' fun e w''=>e=.returned .nilIface∧Below w'.heap.size w' w''):=κ17 fun w' hg=>by
  have:=check_any ea o w' hw hg f2 f3 f4 f5
  rw [he] at this
  exact this
 have HG:=κ17 ((hG.alloc (.cells #[.pointer (some ⟨TB,0,none⟩)] 78)).alloc (.cells o.cells 31))
 have HGw:=κ17 hG
 have hm:m=L.length:=by have:=hst.row.sl.len;rw [notesO_len] at this;exact this
 have HM:=κ17 hm
 have HA:Hid ((A=none∧m=0∧cap=0∧L=[])∨∃ g,A=some ⟨g,0,none⟩):=κ17 (by
  rcases hst.row.form with ⟨e1,e2⟩ | ⟨g,c,e1,_⟩
  ·cases e1
   refine .inl ⟨rfl,rfl,rfl,?_⟩
   have:=notesO_len p00 L
   rw [e2] at this
   exact List.eq_nil_of_length_eq_zero this.symm
  ·cases e1
   exact .inr ⟨g,rfl⟩)
 have HS0:=κ17 hst
 have HL:=κ17 hL
 have HE:Hid (applyErr L o=open Classical in if ∃ y,y∈L∧SameS y o then 7 else 0):=κ17 (by unfold applyErr;rw [if_neg (by omega),if_neg (by omega)])
 have HK:=κ17 hk
 rw [←hm] at hl
 have hm5:m≤100000:=by omega
 obtain ⟨R,hR⟩:∃ R,R=applyErr L o:=⟨_,rfl⟩
 rw [←hR] at HE ⊢
 have HR:=κ17 hR
 have HN2:=κ17 hn
 have HI64:Hid (I64 o.nd∧I64 o.ot):=κ17 ⟨⟨hw.nd1,hw.nd2⟩,⟨hw.ot1,hw.ot2⟩⟩
 clear hR hG hw he hk hst hL hm hn
 refine (callsIn_wide (n:=8)).1 ?_
 refine callsIn_of_wp_marks Tryz.func111 rfl trivial ?_ rfl
 simp only [Tryz.ntmps111,List.size_toArray,List.length_cons,List.length_nil,Nat.reduceAdd,Nat.reduceSub,Array.replicate_succ,Array.replicate_zero,List.push_toArray,List.append_toArray,List.nil_append,List.cons_append]
 refine wpIn_wide.2 ?_
 go_wp2_with fail
 refine (HC.out _ HG.out).mono ?_
 rintro e w1 ⟨rfl,hb⟩
 have HA1:Hid (ApS w base TB b n (.slice A m cap) L o w1):=κ17 (ApS.below (wr:=(w.alloc (.cells #[.pointer (some ⟨TB,0,none⟩)] 78)).alloc (.cells o.cells 31)) ⟨by simp [go_sem],by
  have:=OpAt.start (w.alloc (.cells #[.pointer (some ⟨TB,0,none⟩)] 78)) o 31
  rw [World.size_alloc] at this
  exact this,HS0.out.below (((Below.refl _ w).alloc (Nat.le_refl _) _).alloc (by simp) _),((Below.refl _ w).alloc (Nat.le_refl _) _).alloc (by simp) _⟩ hb)
 have q3:=HA1.out.op.c3
 have HQ3:Hid (w1.cell? ⟨w.heap.size+1,3,none⟩=some (.int .u8 109)):=κ17 (by rw [q3,HK.out])
 clear hb q3 HC HG
 have q3:=HQ3.out
 have t0:=HA1.out.tp
 have l1:=HA1.out.tr.p1
 clear HQ3
 go_upto_block 0 with (fail)
 clear q3 t0 l1
 go_cut [6] from 26 to 44 (fun v6 wc=>∃ k:Nat,v6=.int .i64 k∧Hid (kOf opLt o L L.length=k)∧k≤m∧Hid (ApS w base TB b n (.slice A m cap) L o wc))
 case first=>
  go_wp2_with fail
  go_loopw [6] (fun v6 wc=>∃ k:Nat,v6=.int .i64 k∧Hid (kOf opLt o L L.length=kOf opLt o L k)∧k≤m∧Hid (ApS w base TB b n (.slice A m cap) L o wc)) (fun v6 _=>(intOf v6).toNat)
  case atStart=>exact ⟨m,rfl,κ17 (by rw [HM.out]),Nat.le_refl _,HA1⟩
  case round=>
   obtain ⟨k,rfl,HKf,hk,HAr⟩:=hrel
   by_cases hk0:k=0
   ·subst hk0
    have HAq:∀ nq,Hid (ApS w base TB b n (.slice A m cap) L o (wr.drewN nq)):=fun nq=>κ17 (HAr.out.below (below_drawn (Below.refl _ _) nq))
    go_wp2_with fail
    go_quiet (fail)
    rename_i nq
    have HA2:=HAq nq
    clear HAq
    generalize wr.drewN nq=wq at HA2 ⊢
    go_wp2_with fail
    go_meet
    case rel=>exact ⟨0,rfl,HKf,by omega,HA2⟩
   ·obtain ⟨kp,rfl⟩:∃ kp,k=kp+1:=⟨k - 1,by omega⟩
    obtain ⟨y,hy⟩:∃ y,L[kp]?=some y:=⟨_,List.getElem?_eq_getElem (by have:=HM.out;omega)⟩
    obtain ⟨g,rfl⟩:∃ g,A=some ⟨g,0,none⟩:=HA.out.resolve_left (fun h=>by have:=h.2.1;omega)
    have HF:Hid (wr.drew.cell? ⟨w.heap.size,0,none⟩=some (.pointer (some ⟨TB,0,none⟩))∧wr.drew.cell? ⟨w.heap.size+1,0,none⟩=some (.int .i64 o.t)∧wr.drew.cell? ⟨w.heap.size+1,1,none⟩=some (.int .i64 o.b)∧wr.drew.cell? ⟨TB,1,none⟩=some (.slice (some ⟨g,0,none⟩) m cap)∧wr.drew.cell? ⟨g,kp*13,none⟩=some (.int .i64 y.t)∧wr.drew.cell? ⟨g,kp*13+1,none⟩=some (.int .i64 y.b)):=κ17 (by
     have r:=HAr.out.below (Below.refl wr.heap.size wr).drew
     have d:=done_at r.tr.row rfl (notesO_at p00 L kp y hy)
     exact ⟨r.tp,r.op.c0,r.op.c1,r.tr.p1,d 0 _ rfl,d 1 _ rfl⟩)
    have HKs:=κ17 (kOf_succ (x:=o) hy)
    obtain ⟨lt,hlt2⟩:∃ lt,lt=opLt o y:=⟨_,rfl⟩
    have HLs:Hid (∀ w,Calls Tryz.prog 119 #[stampV o.t o.b,stampV y.t y.b] w fun e w'=>e=.returned (.bool lt)∧Below w.heap.size w w'):=κ17 fun w=>by rw [hlt2];exact less_any _ _ _ _ w
    have HLT:=κ17 hlt2
    have k1:(0:Int) < (kp:Int)+1:=by omega
    have j0:(0:Int)≤(kp:Int):=by omega
    have j1:(kp:Int) < (m:Int):=by omega
    have hwp:IntKind.i64.wrap (kp:Int)=(kp:Int):=by rw [IntKind.wrap_i64];omega
    clear hy hlt2 hk0
    cases lt with
    | true=>
      go_wp2_with fail
      go_region_held3 (fun w'=>w'.cell? ⟨w.heap.size,0,none⟩=some (.pointer (some ⟨TB,0,none⟩))∧w'.cell? ⟨w.heap.size+1,0,none⟩=some (.int .i64 o.t)∧w'.cell? ⟨w.heap.size+1,1,none⟩=some (.int .i64 o.b)∧w'.cell? ⟨TB,1,none⟩=some (.slice (some ⟨g,0,none⟩) m cap)∧w'.cell? ⟨g,kp*13,none⟩=some (.int .i64 y.t)∧w'.cell? ⟨g,kp*13+1,none⟩=some (.int .i64 y.b))
       ((first | (with_reducible exact HF.out) | (with_reducible exact six_keep (by assumption) (by assumption))))
       ((go_at_call 119;refine (HLs.out _).mono ?_;rintro e wA ⟨rfl,hbA⟩))
      have HA2:=κ17 ((HAr.out.below (Below.refl _ _).drew).below hbA)
      rename_i hH
      clear hH hbA HF HLs
      go_wp2_with fail
      go_roundw
      case rel=>exact ⟨kp,by first | done | rfl | go_num,κ17 (by rw [HKf.out,HKs.out,←HLT.out];first | done | rfl),by omega,HA2⟩
      case measure=>simp [intOf] <;> omega
    | false=>
      go_wp2_with fail
      go_region_held3 (fun w'=>w'.cell? ⟨w.heap.size,0,none⟩=some (.pointer (some ⟨TB,0,none⟩))∧w'.cell? ⟨w.heap.size+1,0,none⟩=some (.int .i64 o.t)∧w'.cell? ⟨w.heap.size+1,1,none⟩=some (.int .i64 o.b)∧w'.cell? ⟨TB,1,none⟩=some (.slice (some ⟨g,0,none⟩) m cap)∧w'.cell? ⟨g,kp*13,none⟩=some (.int .i64 y.t)∧w'.cell? ⟨g,kp*13+1,none⟩=some (.int .i64 y.b))
       ((first | (with_reducible exact HF.out) | (with_reducible exact six_keep (by assumption) (by assumption))))
       ((go_at_call 119;refine (HLs.out _).mono ?_;rintro e wA ⟨rfl,hbA⟩))
      have HA2:=κ17 ((HAr.out.below (Below.refl _ _).drew).below hbA)
      rename_i hH
      clear hH hbA HF HLs
      go_wp2_with fail
      go_meet
      case rel=>exact ⟨kp+1,by go_num,κ17 (by rw [HKf.out,HKs.out,←HLT.out];first | done | rfl),by omega,HA2⟩
 case rest=>
  obtain ⟨k,rfl,HKf,hk,HA2⟩:=hcut
  clear HA1
  obtain ⟨tb,htb⟩:∃ tb:Bool,(tb=true↔∃ y,y∈L∧SameS y o):=by classical exact ⟨decide (∃ y,y∈L∧SameS y o),by simp⟩
  have HTb:=κ17 htb
  have HSm:=κ17 (at_same HL.out.up o HKf.out.symm)
  clear htb
  go_upto_region 9 with fail
  go_cut [61] from 45 to 61 (fun v61 wc2=>v61=.bool tb∧Hid (ApS w base TB b n (.slice A m cap) L o wc2))
  case first=>
   have HAq:∀ nq,Hid (ApS w base TB b n (.slice A m cap) L o (wc.drewN nq)):=fun nq=>κ17 (HA2.out.below (below_drawn (Below.refl _ _) nq))
   by_cases hk0:k=0
   ·subst hk0
    obtain rfl:tb=false:=by
     cases tb with
     | false=>rfl
     | true=>
      obtain ⟨y,h,_⟩:=HSm.out.1 (HTb.out.1 rfl)
      omega
    go_wp2_with fail
    go_quiet (fail)
    rename_i nq
    have HA3:=HAq nq
    clear HAq
    generalize wc.drewN nq=wq at HA3 ⊢
    go_wp2_with fail
    go_meet
    case rel=>exact ⟨rfl,HA3⟩
   ·obtain ⟨kp,rfl⟩:∃ kp,k=kp+1:=⟨k - 1,by omega⟩
    obtain ⟨y,hy⟩:∃ y,L[kp]?=some y:=⟨_,List.getElem?_eq_getElem (by have:=HM.out;omega)⟩
    obtain ⟨g,rfl⟩:∃ g,A=some ⟨g,0,none⟩:=HA.out.resolve_left (fun h=>by have:=h.2.1;omega)
    have d:=done_at HA2.out.tr.row rfl (notesO_at p00 L kp y hy)
    have d0:=d 0 _ rfl
    have d1:=d 1 _ rfl
    simp only [noteO,Nat.add_zero] at d0 d1
    have r0:=HA2.out.tp
    have r1:=HA2.out.op.c0
    have r2:=HA2.out.op.c1
    have r3:=HA2.out.tr.p1
    have hes:∀ w,(Op.equalIn 10000 29 (.agg #[.int .i64 y.t,.int .i64 y.b]) (.agg #[.int .i64 o.t,.int .i64 o.b])).run Tryz.prog w=.ok tb w:=fun w=>by
     rw [eqStamp_run]
     congr 1
     rw [Bool.eq_iff_iff,HTb.out,HSm.out]
     simp only [Bool.and_eq_true,beq_iff_eq]
     constructor
     ·rintro ⟨e1,e2⟩;exact ⟨y,by omega,by simpa using hy,e1,e2⟩
     ·rintro ⟨z,_,hz,e1,e2⟩
      have:z=y:=by simpa [hy] using hz.symm
      subst this
      exact ⟨e1,e2⟩
    have k1:(0:Int) < (kp:Int)+1:=by omega
    have j0:(0:Int)≤(kp:Int):=by omega
    have j1:(kp:Int) < (m:Int):=by omega
    have hwp:IntKind.i64.wrap (kp:Int)=(kp:Int):=by rw [IntKind.wrap_i64];omega
    clear hy hk0 d
    go_wp2_with fail
    go_quiet (fail)
    rename_i nq
    have HA3:=HAq nq
    clear HAq d0 d1 r0 r1 r2 r3 hes
    generalize wc.drewN nq=wq at HA3 ⊢
    go_wp2_with fail
    go_meet
    case rel=>exact ⟨rfl,HA3⟩
  case rest=>
   obtain ⟨rfl,HA3⟩:=hcut
   clear HA2 HSm
   cases tb with
   | true=>
    obtain rfl:R=7:=HE.out.trans (if_pos (HTb.out.1 rfl))
    have g7:=((HGw.out.below HA3.out.bl).errs 7 (by omega) (by omega) f7).var
    simp only [errG] at g7
    go_wp2_with fail
    refine postM_ret0 (v:=errV (ea 7)) rfl (by simp [results,Tryz.results111,go_sem]) ?_
    refine ⟨rfl,.slice A m cap,n,?_,by omega,Fr.of_below HA3.out.bl,fun k' hk'=>.inl hk'⟩
    unfold applyL
    rw [←HR.out,if_neg (by omega)]
    exact HA3.out.tr
   | false=>
    have hno:¬ ∃ y,y∈L∧SameS y o:=fun h=>by cases HTb.out.2 h
    obtain rfl:R=0:=HE.out.trans (if_neg hno)
    have HNo:=κ17 hno
    clear hno HTb HE
    go_upto_region 11 with fail
    go_cut [7] from 63 to 69 (fun v7 wc3=>Hid (ApS w base TB b n (.slice A m cap) L o wc3)∧Hid (Rw doneE 251 w.heap.size v7 ((notesO p00 L).drop k) wc3))
    case first=>
     have r0:=HA3.out.tp
     have r3:=HA3.out.tr.p1
     have hNl:(notesO p00 L).length=m:=by rw [notesO_len];exact HM.out.symm
     have hcap:m≤cap:=by have:=HA3.out.tr.row.sl.cap;exact this
     have hk2:(k:Int)≤(m:Int):=by omega
     have k0:(0:Int)≤(k:Int):=by omega
     have hkm:(k:Int)≤(cap:Int):=by omega
     have hln:((notesO p00 L).drop k).length≤100000:=by rw [List.length_drop];omega
     rcases HA.out with ⟨rfl,rfl,rfl,rfl⟩ | ⟨g,rfl⟩
     ·obtain rfl:k=0:=by omega
      have HCl:=κ17 (cloneDone_any (.slice none 0 0) [] wc SlV.nil (by simp))
      clear hNl hcap hln
      go_wp2_with fail
      refine HCl.out.mono ?_
      rintro e w4 ⟨v4,rfl,hr4,hb4⟩
      have HA4:=κ17 (HA3.out.below hb4)
      have HR4:=κ17 (hr4.lower HA3.out.bl.size)
      clear hr4 hb4 r0 r3 HCl
      go_wp2_with fail
      go_meet
      case rel=>exact ⟨HA4,HR4⟩
     ·by_cases hkc:k=cap
      ·obtain rfl:k=m:=by omega
       obtain rfl:k=cap:=by omega
       have HS2:Hid (SlV doneE wc (.slice (some ⟨g,0,none⟩) 0 0) ((notesO p00 L).drop k)):=κ17 (by rw [List.drop_eq_nil_of_le (by omega)];exact SlV.empty _ _)
       have HCl:=κ17 (cloneDone_any _ _ wc HS2.out hln)
       clear hNl hcap hln
       go_wp2_with fail
       refine HCl.out.mono ?_
       rintro e w4 ⟨v4,rfl,hr4,hb4⟩
       have HA4:=κ17 (HA3.out.below hb4)
       have HR4:=κ17 (hr4.lower HA3.out.bl.size)
       clear hr4 hb4 r0 r3 HCl
       go_wp2_with fail
       go_meet
       case rel=>exact ⟨HA4,HR4⟩
      ·have hkc2:¬ (k:Int)=(cap:Int):=by omega
       have HS2:Hid (SlV doneE wc (.slice (some ⟨g,k*13,none⟩) (m - k) (cap - k)) ((notesO p00 L).drop k)):=κ17 (by
        have:=(HA3.out.tr.row.sl).drop hk (cap - k) (by omega)
        simpa [doneE] using this)
       have HCl:=κ17 (cloneDone_any _ _ wc HS2.out hln)
       clear hNl hcap hln
       go_wp2_with fail
       refine HCl.out.mono ?_
       rintro e w4 ⟨v4,rfl,hr4,hb4⟩
       have HA4:=κ17 (HA3.out.below hb4)
       have HR4:=κ17 (hr4.lower HA3.out.bl.size)
       clear hr4 hb4 r0 r3 HCl
       go_wp2_with fail
       go_meet
       case rel=>exact ⟨HA4,HR4⟩
    case rest=>
     obtain ⟨HA4,HR4⟩:=hcut
     clear HA3
     obtain ⟨la,lm,lc,rfl⟩:=HR4.out.slice
     go_wp2_with fail
     refine (back_in _ _ rfl).mono ?_
     rintro e w5 ⟨rfl,rfl⟩
     go_wp2_with fail
     have hgd:∀ d∈(notesO p00 L).drop k,I64 d.o.nd:=fun d hd=>by
      have h1:d∈notesO p00 L:=List.mem_of_mem_drop hd
      have h2:d.o∈(notesO p00 L).map (·.o):=List.mem_map_of_mem h1
      rw [notesO_ops] at h2
      exact (HL.out.nd _ h2).1
     obtain ⟨LS,hLS⟩:∃ LS:List DoneS,LS.map (·.1)=(notesO p00 L).drop k:=⟨((notesO p00 L).drop k).pmap (fun d h=>⟨d,h⟩) hgd,by simp [List.map_pmap]⟩
     have hLl:LS.length=m - k:=by rw [←List.length_map (f:=fun d:DoneS=>d.1),hLS,List.length_drop,notesO_len,HM.out]
     obtain ⟨WB,hWB⟩:∃ WB,WB=wc.alloc (.cells #[.slice la lm lc] 152):=⟨_,rfl⟩
     have hbB:Below wc.heap.size wc WB:=by rw [hWB];exact (Below.refl _ _).alloc (Nat.le_refl _) _
     have hbs:WB.cell? ⟨wc.heap.size,0,none⟩=some (.slice la lm lc):=by rw [hWB];simp [go_sem]
     have hbz:WB.heap.size=wc.heap.size+1:=by rw [hWB];simp
     rw [←hWB]
     have HA5:=κ17 (HA4.out.below hbB)
     have HR5:=κ17 (HR4.out.below hbB)
     have hlb:b < w.heap.size:=HS0.out.mp.lt
     have hlT:TB < w.heap.size:=HS0.out.lt
     have hsz:=HA4.out.bl.size
     have hLC:LaterC WB.heap.size b (.slice la lm lc) LS WB:=⟨by
      rcases HR5.out.form with ⟨e1,e2⟩ | ⟨g',c',e1,_,_,e4,e5⟩
      ·refine .inl ⟨e1,?_⟩
       have:LS.map (·.1)=[]:=by rw [hLS];exact e2
       exact List.map_eq_nil_iff.1 this
      ·refine .inr ⟨g',0,c',?_,e5,by omega,fun i d hi=>?_⟩
       ·rw [e1,←hLS,List.length_map]
       ·rw [Nat.zero_add]
        exact done_at HR5.out e1 (by rw [←hLS,List.getElem?_map,hi];rfl)⟩
     have HLS:=κ17 hLS
     have HLl:=κ17 hLl
     clear hgd hLS hLl hWB hbB HA4 HR4
     refine (wpIn_wide (n:=8)).1 ?_
     refine rangeFunc_box rfl (by omega) (gf:=196) (lb:=#[.pointer (some ⟨wc.heap.size,0,none⟩)]) rfl trivial (enters_of Tryz.func196 (by kernel_rfl) rfl)
      (back_stops Fence.wide 7 trivial rfl (by omega) wc.heap.size WB.heap.size b (.slice la lm lc) LS (by rw [HLl.out];omega) WB (by omega) (by omega) (Nat.le_refl _) hbs hLC) kpB_t (kpB_b (Nat.le_refl _)) (Below.refl _ _) (fun _=>rfl)
      (fun pre W=>MT Tryz.prog 3 ekI evP b (n+pre.length) (undoB (plM (runO p00 L)) pre) W∧Fr (fun k=>k=b∨WB.heap.size≤k) WB W) ?hI ⟨HA5.out.tr.mp,Fr.of_below (Below.refl _ _)⟩ 9 (fun x Bx W=>DnC Bx 0 x.2.1 W) ?hPB ?assign ?body ?done
     case hI=>
      intro s A B row ⟨h1,h2⟩ hg hr
      exact ⟨h1.block (hg.block b h1.lt (fun e=>by have:=(hr _ e.symm).1;omega)),h2.trans ⟨hg.os,hg.tape,hg.output,hg.size,fun k hk hx=>hg.block k hk (fun e=>hx (.inr (hr k e.symm).1))⟩⟩
     case hPB=>
      intro x Bx u A B row h hg hr j v hv
      exact cell_kept (h j v hv) hg (fun r e=>(hr r e).2)
     case assign=>
      intro l pre x W K ⟨h1,h2⟩ hK
      have hmade:=DnC.made W x.2.1 251
      have hbl:=(Below.refl W.heap.size W).alloc (Nat.le_refl _) (.cells x.2.1.cells 251)
      have hK2:=hK W.heap.size (W.alloc (.cells x.2.1.cells 251)) ((KeepsOthers.alloc _ _).from _) (Fr.of_below hbl) ⟨h1.below hbl,h2.trans (Fr.of_below hbl)⟩ hmade
      simp only [DoneT.cells,doneCells] at hK2 ⊢
      have HK2:=κ17 hK2
      clear hK hmade hbl h1 h2 hK2
      gi_wp2
      exact HK2.out _ (by simp)
     case body=>
      intro l pre x Bx W ⟨h1,h2⟩ hD hlen
      have tp:W.cell? ⟨w.heap.size,0,none⟩=some (.pointer (some ⟨TB,0,none⟩)):=(h2.cell (by show w.heap.size < _;omega) (by simp;omega)).trans HA5.out.tp
      have p0:W.cell? ⟨TB,0,none⟩=some (.map (some b)):=(h2.cell (by show TB < _;omega) (by have:=HS0.out.ne;simp;omega)).trans HA5.out.tr.p0
      have hpl:n+pre.length < maxLen:=by have:=HLl.out;have:=HN2.out;have:=HM.out;omega
      have HU:=κ17 (undo_any TB b (n+pre.length) _ x.2.1.o x.2.1.y x.2.1.is x.2.1.by' W p0 h1 x.2.2 hpl)
      have H2:=κ17 h2
      have HUs:=κ17 (undoB_snoc (plM (runO p00 L)) pre x)
      obtain ⟨c0,c1,c2,c3,c4,c5,c6,c7,c8,c9,c10,c11,c12⟩:=hD.all
      simp only [Nat.zero_add] at c0 c1 c2 c3 c4 c5 c6 c7 c8 c9 c10 c11 c12
      clear h1 h2 hD p0 hpl
      gi_wp2_with (refine ⟨trivial,?_⟩;gi_at_call 158;refine (CallsIn.inRound l (callsIn_wide.2 HU.out)).mono ?_;rintro e w' ⟨rfl,hm',hf'⟩)
      refine ⟨⟨hf'.size,fun j o' hj ho' _=>(hf'.block j (Array.getElem?_eq_some_iff.1 ho').1 (by omega)).trans ho'⟩,hf'.mono (fun _ h=>.inl h),?_,H2.out.trans (hf'.mono (fun _ h=>.inl h))⟩
      rw [HUs.out]
      exact hm'.mono (by simp;omega)
     case done=>
      intro D xs W hD hxs ⟨h1,h2⟩ hK
      subst hxs
      have hU:=undoB_all (by have:=HM.out;omega) HLS.out LS.length (Nat.le_refl _)
      rw [hU,show L.length - LS.length=k by have:=HLl.out;have:=HM.out;omega,cameB_len] at h1
      have hFw:Fr (fun j=>j=TB∨j=b) w W:=⟨h2.os.trans HA5.out.bl.os,h2.tape.trans HA5.out.bl.tape,h2.output.trans HA5.out.bl.output,Nat.le_trans HA5.out.bl.size h2.size,fun j hj hx=>(h2.block j (by omega) (by simp at hx ⊢;omega)).trans (HA5.out.bl.block j hj)⟩
      have gc:∀ {p:Addr} {u:Value},p.block≠b→WB.cell? p=some u→W.cell? p=some u:=fun {p u} hx hc=>by
       have hlt:=World.block_lt_of_cell? WB _ hc
       exact (h2.cell hlt (by simp;omega)).trans hc
      have hgr:∀ {base':Nat} {v:Value} {N':List DoneT},(∀ q,v.ownBlock=some q→q≠b)→Rw doneE 251 base' v N' WB→Rw doneE 251 base' v N' W:=fun hne hr=>hr.kept (fun q hq=>by
       have:=(hr.lt q hq).2
       exact h2.block q this (by have:=hne q hq;simp;omega))
      have HT:Hid (ApT w base TB b (n+LS.length) D W.heap.size (.slice A m cap) (.slice la lm lc) (L.take k) (notesO p00 L) ((notesO p00 L).drop k) o W):=Lib.hid
       {
        tp:=gc (by show w.heap.size≠b;omega) HA5.out.tp
        op:=by
         have q:=HA5.out.op
         have hb2:w.heap.size+1≠b:=by omega
         exact ⟨gc hb2 q.c0,gc hb2 q.c1,gc hb2 q.c2,gc hb2 q.c3,gc hb2 q.c4,gc hb2 q.c5,gc hb2 q.c6,gc hb2 q.c7⟩
        p0:=gc HS0.out.ne HA5.out.tr.p0
        p1:=gc HS0.out.ne HA5.out.tr.p1
        f1:=(h2.frozen (by show TB < _;omega) (by have:=HS0.out.ne;simp;omega)).trans HA5.out.tr.f1
        mp:=h1
        row:=hgr (fun q hq=>(HS0.out.ner q hq).2) HA5.out.tr.row
        lat:=hgr (fun q hq=>by have:=(HR5.out.lt q hq).1;omega) HR5.out
        dk:=hK
        fr:=hFw
        hsz:=Nat.le_refl _ }
      have hop:=HA5.out.op.lt
      have HD:Hid (w.heap.size+2≤D∧D < W.heap.size):=κ17 ⟨by omega,(Array.getElem?_eq_some_iff.1 hK).1⟩
      have HW:Hid (w.heap.size+2≤W.heap.size):=κ17 (by have:=h2.size;omega)
      clear h1 h2 hK hU hFw gc hgr hLC hbs hD HA5 HR5 hsz hbz hop
      have hmW:=HT.out.mp
      have hok:PlOk (runO p00 (L.take k)):=plOk_run (fun o' ho'=>HL.out.nd o' (List.mem_of_mem_take ho'))
      obtain ⟨d,hd⟩:∃ d,d=noteO (runO p00 (L.take k)) o:=⟨_,rfl⟩
      have HDo:Hid (Calls Tryz.prog 159 #[.pointer (some ⟨TB,0,none⟩),opV o] W.drew fun e w''=>e=.returned (.agg (doneCells d.o d.y d.is d.by'))∧MP b (n+LS.length+1) (runO p00 (L.take k++[o])) w''∧Fr (·=b) W.drew w''):=κ17 (by
       have:=do_any TB b (n+LS.length) (runO p00 (L.take k)) o W.drew HT.out.p0 (hmW.below (Below.refl _ _).drew) hok HI64.out.1 HI64.out.2 (by have:=HLl.out;have:=HN2.out;have:=HM.out;omega)
       rw [hd,runO_snoc]
       exact this)
      have HSl:Hid (∀ g,A=some ⟨g,0,none⟩→∀ wA o',Fr (·=b) W.drew wA→SlV doneE (wA.alloc o') (.slice (some ⟨g,0,none⟩) k k) ((notesO p00 L).take k)):=κ17 fun g hAg wA o' hF=>by
       subst hAg
       have hr:=(HT.out.row.below (Below.refl _ _).drew).fr (X:=(·=b)) (fun j h1 h2=>hF.block j h1 h2) (fun q hq=>(HS0.out.ner q hq).2)
       exact (hr.below ((Below.refl _ _).alloc (Nat.le_refl _) o')).sl.take hk k (Nat.le_refl _)
      have HNt:Hid ((notesO p00 L).take k++[d]=notesO p00 (L.take k++[o])):=κ17 (by rw [notesO_append,←notesO_take,hd];rfl)
      have HN0:Hid (W.drew.cell? ⟨w.heap.size,0,none⟩=some (.pointer (some ⟨TB,0,none⟩))∧W.drew.cell? ⟨w.heap.size+1,0,none⟩=some (.int .i64 o.t)∧W.drew.cell? ⟨w.heap.size+1,1,none⟩=some (.int .i64 o.b)∧W.drew.cell? ⟨w.heap.size+1,2,none⟩=some (.int .i64 o.n)∧W.drew.cell? ⟨w.heap.size+1,3,none⟩=some (.int .u8 o.k)∧W.drew.cell? ⟨w.heap.size+1,4,none⟩=some (.int .i64 o.nd)∧W.drew.cell? ⟨w.heap.size+1,5,none⟩=some (.int .i64 o.ot)∧W.drew.cell? ⟨w.heap.size+1,6,none⟩=some (.string o.nm)∧W.drew.cell? ⟨w.heap.size+1,7,none⟩=some (.string o.vl)):=κ17 (by
       have q:=HT.out.op
       exact ⟨HT.out.tp,q.c0,q.c1,q.c2,q.c3,q.c4,q.c5,q.c6,q.c7⟩)
      have HTd:=κ17 hlT
      have HBd:=κ17 hlb
      clear hmW hok hd
      go_upto_region 15 with fail
      go_cut [] from 77 to 91 (fun wcx=>∃ (q:Nat) (m5 c5:Nat),Hid (W.heap.size≤q)∧Hid (ApT w base TB b (n+LS.length+1) D W.heap.size (.slice (some ⟨q,0,none⟩) m5 c5) (.slice la lm lc) (L.take k++[o]) (notesO p00 (L.take k++[o])) ((notesO p00 L).drop k) o wcx))
      case first=>
       have r1:=HT.out.p1
       have k0:(0:Int)≤(k:Int):=by omega
       have hkm:(k:Int)≤(cap:Int):=by have:=HS0.out.row.sl.cap;omega
       have hk64:(k+1)*120≤140737488355328:=by omega
       have hkx:k+1≤maxLen:=by unfold maxLen;omega
       have hxt:w.heap.size≠TB:=by omega
       have hxb:w.heap.size≠b:=by omega
       have hyt:w.heap.size+1≠TB:=by omega
       have hyb:w.heap.size+1≠b:=by omega
       rcases HA.out with ⟨rfl,rfl,rfl,hL0⟩ | ⟨g,rfl⟩
       ·obtain rfl:k=0:=by omega
        have hl01:([]:List DoneT).length+1≤maxLen:=by unfold maxLen;simp
        have hl02:(([]:List DoneT).length+1)*120≤140737488355328:=by simp
        go_wp2_with fail
        change Code.wp _ (Code.region _ #[_,_,_,_,lateOp _,_,_,_,_,_,_,_,_,_,_,_] _) _ _ _
        go_region_held3 (fun w'=>w'.cell? ⟨w.heap.size,0,none⟩=some (.pointer (some ⟨TB,0,none⟩))∧w'.cell? ⟨w.heap.size+1,0,none⟩=some (.int .i64 o.t)∧w'.cell? ⟨w.heap.size+1,1,none⟩=some (.int .i64 o.b)∧w'.cell? ⟨w.heap.size+1,2,none⟩=some (.int .i64 o.n)∧w'.cell? ⟨w.heap.size+1,3,none⟩=some (.int .u8 o.k)∧w'.cell? ⟨w.heap.size+1,4,none⟩=some (.int .i64 o.nd)∧w'.cell? ⟨w.heap.size+1,5,none⟩=some (.int .i64 o.ot)∧w'.cell? ⟨w.heap.size+1,6,none⟩=some (.string o.nm)∧w'.cell? ⟨w.heap.size+1,7,none⟩=some (.string o.vl))
         (first | (with_reducible exact nine_keep (fr_set w5 TB 1 _) hxt hyt hSC) | (with_reducible exact hSC) | (with_reducible exact hSB) | (with_reducible exact hSA) | (with_reducible exact HN0.out))
         (first
          | (go_at_call 159;refine HDo.out.mono ?_;rintro e wA ⟨rfl,hmA,hfA⟩;have hSA:=nine_keep (TP:=w.heap.size) (OP:=w.heap.size+1) (TB:=TB) (o:=o) hfA hxb hyb HN0.out;have p1A:=(hfA.cell (World.block_lt_of_cell? W.drew _ (show W.drew.cell? ⟨TB,1,none⟩=_ from HT.out.p1)) HS0.out.ne).trans (show W.drew.cell? ⟨TB,1,none⟩=_ from HT.out.p1);have p1A2:=cell_keep' ((Below.refl wA.heap.size wA).alloc (Nat.le_refl _) (.cells d.cells 251)) p1A;simp only [DoneT.cells,doneCells] at p1A2;have f1A:=(hfA.frozen (World.block_lt_of_cell? W.drew _ (show W.drew.cell? ⟨TB,1,none⟩=_ from HT.out.p1)) HS0.out.ne).trans (show W.drew.frozen? ⟨TB,1,none⟩=_ from HT.out.f1);have hSB:=nine_keep (TP:=w.heap.size) (OP:=w.heap.size+1) (TB:=TB) (o:=o) ((Fr.of_below (X:=fun _=>False) ((Below.refl _ wA).alloc (Nat.le_refl _) (.cells d.cells 251)))) (fun h=>h) (fun h=>h) hSA)
          | (refine step_append_rw rfl _ _ 152 rfl doneE W.heap.size 251 (.agg zeroDone.cells) 120 Tryz.underlying152 infoDone rfl (by decide) (.slice none 0 0) [] (by rfl) (Rw.nil _ _ _ _) _ _ d (by rfl) (SlV.one _ d _ _ rfl) hl01 hl02 (by have h9:=hfA.size;simp at h9;rw [World.size_alloc];omega) ?_;intro v5 w5 hr5 hg5 hat5 hsl5;obtain ⟨q5,m5,c5,rfl⟩:=rw_some hr5;have e5:=grown_block hg5 (World.block_lt_of_cell? wA _ p1A) (fun q hq=>by cases hq);have p1B:=(World.cell?_of_block (a:=⟨TB,1,none⟩) e5).trans p1A;have f1B:=(World.frozen?_of_block (a:=⟨TB,1,none⟩) e5).trans f1A;have hSC:=nine_keep (TP:=w.heap.size) (OP:=w.heap.size+1) (TB:=TB) (o:=o) (fr_grown0 (Fr.of_below (X:=fun _=>False) (Below.refl _ _)) hg5) (fun h=>h) (fun h=>h) hSB))
        all_goals
         have hq5:W.heap.size≤q5:=(hr5.lt q5 rfl).1
         have HStep:=κ17 (HT.out.step (N':=notesO p00 (L.take 0++[o])) HTd.out HBd.out HS0.out.ne (by have:=HD.out;omega) HD.out.2 (fun q hq=>by have:=(HT.out.lat.lt q hq).2;omega) HW.out ((Fr.of_below (Below.refl W.heap.size W).drew).trans hfA) hmA hg5 (fun q hq=>by cases hq) (by
          rw [←HNt.out]
          have hlo:=hr5.lower (b:=base) (by have:=HS0.out.geT;have:=HTd.out;have:=HW.out;omega)
          simpa using hlo) (fun q hq=>by cases hq;exact hq5))
         have HQ5:=κ17 hq5
         rename_i hH
         clear hH hr5 hg5 hmA hfA hSA hSB hSC p1A p1A2 p1B f1A f1B e5 r1 hq5
         go_wp2_with fail
         go_meet
         case rel=>exact ⟨q5,m5,c5,HQ5,HStep⟩
       ·go_wp2_with fail
        change Code.wp _ (Code.region _ #[_,_,_,_,lateOp _,_,_,_,_,_,_,_,_,_,_,_] _) _ _ _
        go_region_held3 (fun w'=>w'.cell? ⟨w.heap.size,0,none⟩=some (.pointer (some ⟨TB,0,none⟩))∧w'.cell? ⟨w.heap.size+1,0,none⟩=some (.int .i64 o.t)∧w'.cell? ⟨w.heap.size+1,1,none⟩=some (.int .i64 o.b)∧w'.cell? ⟨w.heap.size+1,2,none⟩=some (.int .i64 o.n)∧w'.cell? ⟨w.heap.size+1,3,none⟩=some (.int .u8 o.k)∧w'.cell? ⟨w.heap.size+1,4,none⟩=some (.int .i64 o.nd)∧w'.cell? ⟨w.heap.size+1,5,none⟩=some (.int .i64 o.ot)∧w'.cell? ⟨w.heap.size+1,6,none⟩=some (.string o.nm)∧w'.cell? ⟨w.heap.size+1,7,none⟩=some (.string o.vl))
         (first | (with_reducible exact nine_keep (fr_set w5 TB 1 _) hxt hyt hSC) | (with_reducible exact hSC) | (with_reducible exact hSB) | (with_reducible exact hSA) | (with_reducible exact HN0.out))
         (first
          | (go_at_call 159;refine HDo.out.mono ?_;rintro e wA ⟨rfl,hmA,hfA⟩;have hSA:=nine_keep (TP:=w.heap.size) (OP:=w.heap.size+1) (TB:=TB) (o:=o) hfA hxb hyb HN0.out;have p1A:=(hfA.cell (World.block_lt_of_cell? W.drew _ (show W.drew.cell? ⟨TB,1,none⟩=_ from HT.out.p1)) HS0.out.ne).trans (show W.drew.cell? ⟨TB,1,none⟩=_ from HT.out.p1);have p1A2:=cell_keep' ((Below.refl wA.heap.size wA).alloc (Nat.le_refl _) (.cells d.cells 251)) p1A;simp only [DoneT.cells,doneCells] at p1A2;have f1A:=(hfA.frozen (World.block_lt_of_cell? W.drew _ (show W.drew.cell? ⟨TB,1,none⟩=_ from HT.out.p1)) HS0.out.ne).trans (show W.drew.frozen? ⟨TB,1,none⟩=_ from HT.out.f1);have hSB:=nine_keep (TP:=w.heap.size) (OP:=w.heap.size+1) (TB:=TB) (o:=o) ((Fr.of_below (X:=fun _=>False) ((Below.refl _ wA).alloc (Nat.le_refl _) (.cells d.cells 251)))) (fun h=>h) (fun h=>h) hSA)
          | (refine step_append_full rfl _ _ 152 rfl doneE 251 (.agg zeroDone.cells) 120 Tryz.underlying152 infoDone rfl (by decide) ⟨g,0,none⟩ k ((notesO p00 L).take k) (by rfl) (HSl.out _ rfl _ _ (by assumption)) _ _ d (by rfl) (SlV.one _ d _ _ rfl) hkx hk64 ?_;intro v5 w5 hr5 hg5;obtain ⟨q5,m5,c5,rfl⟩:=rw_some hr5;have e5:=grown_block hg5 (World.block_lt_of_cell? wA _ p1A) (fun q hq=>by cases hq);have p1B:=(World.cell?_of_block (a:=⟨TB,1,none⟩) e5).trans p1A;have f1B:=(World.frozen?_of_block (a:=⟨TB,1,none⟩) e5).trans f1A;have hSC:=nine_keep (TP:=w.heap.size) (OP:=w.heap.size+1) (TB:=TB) (o:=o) (fr_grown0 (Fr.of_below (X:=fun _=>False) (Below.refl _ _)) hg5) (fun h=>h) (fun h=>h) hSB))
        all_goals
         have hq5:W.heap.size≤q5:=by
          have h1:=(hr5.lt q5 rfl).1
          have h2:=hfA.size
          simp at h1 h2
          omega
         have HStep:=κ17 (HT.out.step (N':=notesO p00 (L.take k++[o])) HTd.out HBd.out HS0.out.ne (by have:=HD.out;omega) HD.out.2 (fun q hq=>by have:=(HT.out.lat.lt q hq).2;omega) HW.out ((Fr.of_below (Below.refl W.heap.size W).drew).trans hfA) hmA hg5 (fun q hq=>by cases hq) (by
          rw [←HNt.out]
          exact hr5.lower (by have:=HS0.out.geT;have:=HTd.out;have:=HW.out;have:=hfA.size;simp at this;simp;omega)) (fun q hq=>by cases hq;exact hq5))
         have HQ5:=κ17 hq5
         rename_i hH
         clear hH hr5 hg5 hmA hfA hSA hSB hSC p1A p1A2 p1B f1A f1B e5 r1 hq5
         go_wp2_with fail
         go_meet
         case rel=>exact ⟨q5,m5,c5,HQ5,HStep⟩
      case rest=>
       obtain ⟨q5,m5,c5,HQ5,HT5⟩:=hcut
       have HLm:Hid (lm=m - k):=κ17 (by have:=HT5.out.lat.sl.len;rw [List.length_drop,notesO_len,←HM.out] at this;exact this)
       have hlm5:lm≤1000:=by have:=HLm.out;omega
       have Hform:=κ17 HT5.out.lat.form
       have HL7:Hid (∀ q',(Value.slice la lm lc).ownBlock=some q'→q' < W.heap.size):=κ17 (fun q' hq'=>(HT.out.lat.lt q' hq').2)
       clear HT HDo HSl HNt HN0
       go_wp2_with fail
       go_loopw [94] (fun v94 wr=>∃ (i q mm cc:Nat),i≤lm∧v94=.int .i64 i∧Hid (W.heap.size≤q)∧Hid (ApT w base TB b (n+LS.length+1+i) D W.heap.size (.slice (some ⟨q,0,none⟩) mm cc) (.slice la lm lc) (L.take k++[o]++(L.drop k).take i) (notesO p00 (L.take k++[o]++(L.drop k).take i)) ((notesO p00 L).drop k) o wr)) (fun v94 _=>lm - (intOf v94).toNat)
       case atStart=>exact ⟨0,q5,m5,c5,by omega,rfl,HQ5,by simpa using HT5⟩
       case round=>
        obtain ⟨i,q,mm,cc,hi,rfl,HQ,HTr⟩:=hrel
        clear HT5 HQ5
        by_cases hlt:i < lm
        ·obtain ⟨g7,rfl⟩:∃ g7,la=some ⟨g7,0,none⟩:=by
          rcases Hform.out with ⟨e,_⟩ | ⟨g7,c7,e,_⟩
          ·have:lm=0:=by cases e;rfl
           omega
          ·cases e;exact ⟨g7,rfl⟩
         obtain ⟨x,hx⟩:∃ x,L[k+i]?=some x:=⟨_,List.getElem?_eq_getElem (by have:=HLm.out;have:=HM.out;omega)⟩
         obtain ⟨dx,hdx⟩:∃ dx,dx=noteO (runO p00 (L.take (k+i))) x:=⟨_,rfl⟩
         have hdo:dx.o=x:=by rw [hdx];rfl
         have hR:((notesO p00 L).drop k)[i]?=some dx:=by rw [List.getElem?_drop,notesO_at p00 L (k+i) x hx,hdx]
         have hdc:=done_at HTr.out.lat rfl hR
         obtain ⟨c0,c1,c2,c3,c4,c5,c6,c7,c8,c9,c10,c11,c12⟩:=hdc.all
         have i1:(0:Int)≤(i:Int):=by omega
         have i2:(i:Int) < (lm:Int):=by omega
         have HX:=κ17 hx
         have Hdo:=κ17 hdo
         clear hx hdx hdo hR hdc hi hlt
         go_upto_region 19 with fail
         obtain ⟨W1,hW1⟩:∃ W1,W1=wr.alloc (.cells dx.cells 251):=⟨_,rfl⟩
         have hb1:Below wr.heap.size wr W1:=by rw [hW1];exact (Below.refl _ _).alloc (Nat.le_refl _) _
         have hmd:DnC wr.heap.size 0 dx W1:=by rw [hW1];exact DnC.made wr dx _
         have hs1:wr.heap.size < W1.heap.size:=by rw [hW1];simp
         rw [←hW1]
         have HT1:=κ17 (HTr.out.below hb1)
         obtain ⟨DB,hDB⟩:∃ DB,DB=wr.heap.size:=⟨_,rfl⟩
         rw [←hDB] at hmd hs1 ⊢
         have hqD:q < DB:=by have:=(HTr.out.row.lt q rfl).2;omega
         have HMeas:Hid (DB=wr.heap.size):=κ17 hDB
         obtain ⟨M,hM⟩:∃ M,M=L.take k++[o]++(L.drop k).take i:=⟨_,rfl⟩
         have HMx:Hid (M++[dx.o]=L.take k++[o]++(L.drop k).take (i+1)):=κ17 (by rw [hM,Hdo.out,take_drop_succ HX.out];simp [List.append_assoc])
         have hMm:∀ y∈M,I64 y.nd∧I64 y.ot:=fun y hy=>by
          rw [hM] at hy
          rcases List.mem_append.1 hy with hy | hy
          ·rcases List.mem_append.1 hy with hy | hy
           ·exact HL.out.nd y (List.mem_of_mem_take hy)
           ·rw [List.mem_singleton.1 hy];exact HI64.out
          ·exact HL.out.nd y (List.mem_of_mem_drop (List.mem_of_mem_take hy))
         have hMl:M.length≤2001:=by
          rw [hM]
          simp only [List.length_append,List.length_take,List.length_drop,List.length_singleton]
          have:=HM.out
          omega
         rw [←hM] at HT1
         have HMl:=κ17 hMl
         obtain ⟨nn,hnn⟩:∃ nn,nn=n+LS.length+1+i:=⟨_,rfl⟩
         have hnn5:nn < maxLen:=by have:=HN2.out;have:=HM.out;have:=HLl.out;have:=HLm.out;omega
         rw [←hnn] at HT1
         have Hnn:=κ17 hnn
         obtain ⟨d,hd⟩:∃ d,d=noteO (runO p00 M) dx.o:=⟨_,rfl⟩
         have HDo:Hid (Calls Tryz.prog 159 #[.pointer (some ⟨TB,0,none⟩),opV dx.o] W1.drew fun e w''=>e=.returned (.agg (doneCells d.o d.y d.is d.by'))∧MP b (nn+1) (runO p00 (M++[dx.o])) w''∧Fr (·=b) W1.drew w''):=κ17 (by
          have hix:I64 dx.o.nd∧I64 dx.o.ot:=by rw [Hdo.out];exact HL.out.nd x (List.mem_of_getElem? HX.out)
          have:=do_any TB b nn (runO p00 M) dx.o W1.drew HT1.out.p0 (HT1.out.mp.below (Below.refl _ _).drew) (plOk_run hMm) hix.1 hix.2 hnn5
          rw [hd,runO_snoc]
          exact this)
         have HRw:Hid (∀ wA o',Fr (·=b) W1.drew wA→Rw doneE 251 base (.slice (some ⟨q,0,none⟩) mm cc) (notesO p00 M) (wA.alloc o')):=κ17 fun wA o' hF=>by
          have hr:=(HT1.out.row.below (Below.refl _ _).drew).fr (X:=(·=b)) (fun j h1 h2=>hF.block j h1 h2) (fun q' hq'=>by have e:q=q':=Option.some.inj hq';have:=HQ.out;have:=HBd.out;have:=HW.out;omega)
          exact hr.below ((Below.refl _ _).alloc (Nat.le_refl _) o')
         have HNt:Hid (notesO p00 M++[d]=notesO p00 (M++[dx.o])):=κ17 (by rw [notesO_append,hd];rfl)
         have HN1:Hid (W1.drew.cell? ⟨w.heap.size,0,none⟩=some (.pointer (some ⟨TB,0,none⟩))∧W1.drew.cell? ⟨DB,0,none⟩=some (.int .i64 dx.o.t)∧W1.drew.cell? ⟨DB,1,none⟩=some (.int .i64 dx.o.b)∧W1.drew.cell? ⟨DB,2,none⟩=some (.int .i64 dx.o.n)∧W1.drew.cell? ⟨DB,3,none⟩=some (.int .u8 dx.o.k)∧W1.drew.cell? ⟨DB,4,none⟩=some (.int .i64 dx.o.nd)∧W1.drew.cell? ⟨DB,5,none⟩=some (.int .i64 dx.o.ot)∧W1.drew.cell? ⟨DB,6,none⟩=some (.string dx.o.nm)∧W1.drew.cell? ⟨DB,7,none⟩=some (.string dx.o.vl)):=κ17 ⟨HT1.out.tp,hmd 0 _ rfl,hmd 1 _ rfl,hmd 2 _ rfl,hmd 3 _ rfl,hmd 4 _ rfl,hmd 5 _ rfl,hmd 6 _ rfl,hmd 7 _ rfl⟩
         have r1:=HT1.out.p1
         have hxt:w.heap.size≠TB:=by have:=HTd.out;omega
         have hxb:w.heap.size≠b:=by have:=HBd.out;omega
         have hyt:DB≠TB:=by have:=HTd.out;have:=HW.out;have:=HQ.out;omega
         have hyb:DB≠b:=by have:=HBd.out;have:=HW.out;have:=HQ.out;omega
         have hxq:¬ w.heap.size=q:=by have:=HW.out;have:=HQ.out;omega
         have hyq:¬ DB=q:=by omega
         have hTq:q≠TB:=by have:=HTd.out;have:=HW.out;have:=HQ.out;omega
         have hl1:(notesO p00 M).length+1≤maxLen:=by rw [notesO_len];unfold maxLen;omega
         have hl2:((notesO p00 M).length+1)*120≤140737488355328:=by rw [notesO_len];omega
         have hbq:base≤W1.heap.size:=by have:=HS0.out.geT;have:=HT1.out.fr.size;have:=HTd.out;omega
         clear c0 c1 c2 c3 c4 c5 c6 c7 c8 c9 c10 c11 c12 hb1 hmd hW1 hDB hM hMm hMl hnn hnn5 hd
         change Code.wp _ (Code.region _ #[_,_,_,_,lateOp _,_,_,_,_,_,_,_,_,_] _) _ _ _
         go_region_held3 (fun w'=>w'.cell? ⟨w.heap.size,0,none⟩=some (.pointer (some ⟨TB,0,none⟩))∧w'.cell? ⟨DB,0,none⟩=some (.int .i64 dx.o.t)∧w'.cell? ⟨DB,1,none⟩=some (.int .i64 dx.o.b)∧w'.cell? ⟨DB,2,none⟩=some (.int .i64 dx.o.n)∧w'.cell? ⟨DB,3,none⟩=some (.int .u8 dx.o.k)∧w'.cell? ⟨DB,4,none⟩=some (.int .i64 dx.o.nd)∧w'.cell? ⟨DB,5,none⟩=some (.int .i64 dx.o.ot)∧w'.cell? ⟨DB,6,none⟩=some (.string dx.o.nm)∧w'.cell? ⟨DB,7,none⟩=some (.string dx.o.vl))
          (first | (with_reducible exact nine_keep (fr_set w5 TB 1 _) hxt hyt hSC) | (with_reducible exact hSC) | (with_reducible exact hSB) | (with_reducible exact hSA) | (with_reducible exact HN1.out))
          (first
           | (go_at_call 159;refine HDo.out.mono ?_;rintro e wA ⟨rfl,hmA,hfA⟩;have hSA:=nine_keep (TP:=w.heap.size) (OP:=DB) (TB:=TB) (o:=dx.o) hfA hxb hyb HN1.out;have p1A:=(hfA.cell (World.block_lt_of_cell? W1.drew _ (show W1.drew.cell? ⟨TB,1,none⟩=_ from HT1.out.p1)) HS0.out.ne).trans (show W1.drew.cell? ⟨TB,1,none⟩=_ from HT1.out.p1);have p1A2:=cell_keep' ((Below.refl wA.heap.size wA).alloc (Nat.le_refl _) (.cells d.cells 251)) p1A;simp only [DoneT.cells,doneCells] at p1A2;have f1A:=(hfA.frozen (World.block_lt_of_cell? W1.drew _ (show W1.drew.cell? ⟨TB,1,none⟩=_ from HT1.out.p1)) HS0.out.ne).trans (show W1.drew.frozen? ⟨TB,1,none⟩=_ from HT1.out.f1);have hSB:=nine_keep (TP:=w.heap.size) (OP:=DB) (TB:=TB) (o:=dx.o) ((Fr.of_below (X:=fun _=>False) ((Below.refl _ wA).alloc (Nat.le_refl _) (.cells d.cells 251)))) (fun h=>h) (fun h=>h) hSA;have hbq2:base≤(wA.alloc (.cells d.cells 251)).heap.size:=(by have h9:=hfA.size;simp at h9;rw [World.size_alloc];omega);have HRA:=κ17 (HRw.out wA (.cells d.cells 251) hfA))
           | (refine step_append_rw rfl _ _ 152 rfl doneE base 251 (.agg zeroDone.cells) 120 Tryz.underlying152 infoDone rfl (by decide) (.slice (some ⟨q,0,none⟩) mm cc) (notesO p00 M) (by rfl) HRA.out _ _ d (by rfl) (SlV.one _ d _ _ rfl) hl1 hl2 hbq2 ?_;intro v5 w5 hr5 hg5 hat5 hsl5;obtain ⟨q5,m5,c5,rfl⟩:=hsl5;have e5:=grown_block hg5 (World.block_lt_of_cell? wA _ p1A) (fun q' hq'=>by (have e:q=q':=Option.some.inj hq';show q'≠TB;omega));have p1B:=(World.cell?_of_block (a:=⟨TB,1,none⟩) e5).trans p1A;have f1B:=(World.frozen?_of_block (a:=⟨TB,1,none⟩) e5).trans f1A;have hSC:=nine_keep (TP:=w.heap.size) (OP:=DB) (TB:=TB) (o:=dx.o) (fr_of_grown (X:=(·=q)) hg5 rfl) hxq hyq hSB))
         all_goals
          have hq5:W.heap.size≤q5:=by
           rcases hat5 with e | e
           ·have e:q5=q:=Option.some.inj e
            have:=HQ.out
            omega
           ·have e:q5=_:=Option.some.inj e
            have h2:=hfA.size
            have:=HT1.out.hsz
            simp at e h2
            omega
          have HStep:=κ17 (HT1.out.step (N':=notesO p00 (M++[dx.o])) HTd.out HBd.out HS0.out.ne (by have:=HD.out;omega) HD.out.2 (fun q' hq'=>by exact HL7.out q' hq') HW.out ((Fr.of_below (Below.refl W1.heap.size W1).drew).trans hfA) hmA hg5 (fun q' hq'=>by have e:q=q':=Option.some.inj hq';have:=HQ.out;omega) (by rw [←HNt.out];exact hr5) (fun q' hq'=>by have e:q5=q':=Option.some.inj hq';omega))
          have HQ5:=κ17 hq5
          rename_i hH
          clear hH hr5 hg5 hmA hfA hSA hSB hSC p1A p1A2 p1B f1A f1B e5 r1 hq5 hat5 HRA hbq2
          have HS2:Hid (ApT w base TB b (n+LS.length+1+(i+1)) D W.heap.size (.slice (some ⟨q5,0,none⟩) m5 c5) (.slice (some ⟨g7,0,none⟩) lm lc) (L.take k++[o]++(L.drop k).take (i+1)) (notesO p00 (L.take k++[o]++(L.drop k).take (i+1))) ((notesO p00 L).drop k) o _):=κ17 (by
           have:=HStep.out
           rw [HMx.out,Hnn.out] at this
           exact this)
          clear HStep
          go_wp2_with fail
          go_roundw
          case rel=>exact ⟨i+1,q5,m5,c5,by omega,by go_num,HQ5,HS2⟩
          case measure=>simp [intOf] <;> omega
        ·have i2:¬ (i:Int) < (lm:Int):=by omega
         obtain rfl:i=lm:=by omega
         go_wp2_with fail
         refine postM_ret1 (v:=.nilIface) (D:=D) rfl HTr.out.dk (fun w'=>by simp [results,Tryz.results111,go_sem]) ?_
         have eM:(L.drop k).take i=L.drop k:=List.take_of_length_le (by rw [List.length_drop];have:=HM.out;have:=HLm.out;omega)
         have:=HTr.out.ends (L:=L) (n0:=n+2*L.length+1) (by rw [eM]) HKf.out HR.out.symm (by have:=HLl.out;have:=HM.out;have:=HLm.out;omega) HTd.out HBd.out HS0.out.geT HS0.out.geb HS0.out.ne (by have:=HD.out;omega) HD.out.2 HQ.out
         obtain ⟨lv',n',e1,e2,e3,e4⟩:=this
         exact ⟨rfl,lv',n',e1,e2,e3,fun k' hk'=>.inr (e4 k' hk')⟩
theorem apply_any2 {F:Nat→Bool} (ea:Nat→Addr) (base TB b n:Nat) (lv:Value) (L:List OpT) (o:OpT) (w:World) (hw:o.Wf) (hG:Gd F ea w) (f2:F 2=true) (f3:F 3=true) (f4:F 4=true) (f5:F 5=true) (f7:F 7=true)
  (hst:TrS base TB b n lv L w) (hL:LogOk L) (hl:L.length≤1000) (hn:n+2*L.length+1 < maxLen) :
  Calls Tryz.prog 111 #[.pointer (some ⟨TB,0,none⟩),opV o] w fun e w'=>e=.returned (errW ea (applyErr L o))∧∃ lv' n',TrS base TB b n' lv' (applyL L o) w'∧n'≤n+2*L.length+1∧Fr (fun k=>k=TB∨k=b) w w'∧∀ k',lv'.ownBlock=some k'→lv.ownBlock=some k'∨w.heap.size≤k':=by
 by_cases he:opErr o=0
 ·by_cases hk:o.k=109
  ·obtain ⟨A,m,c,rfl⟩:=hst.row.slice
   exact (apply_ok ea base TB b n A m c L o w hw hG f2 f3 f4 f5 f7 hst hL hl hn he hk).mono fun e w' ⟨lv',n',h1,h2,h3,h4,h5⟩=>⟨h1,lv',n',h2,h3,h4,h5⟩
  ·have h0:applyErr L o=5:=by unfold applyErr;rw [if_neg (by omega),if_pos hk]
   refine (apply_kind ea TB o w hw hG f2 f3 f4 f5 he hk).mono fun e w' ⟨h1,h2⟩=>⟨by rw [h0];exact h1,lv,n,?_,by omega,Fr.of_below h2,fun k' hk'=>.inl hk'⟩
   unfold applyL
   rw [h0,if_neg (by omega)]
   exact hst.below h2
 ·have h0:applyErr L o=opErr o:=by unfold applyErr;rw [if_pos he]
  refine (apply_bad ea TB o w hw hG f2 f3 f4 f5 he).mono fun e w' ⟨h1,h2⟩=>⟨by rw [h0];exact h1,lv,n,?_,by omega,Fr.of_below h2,fun k' hk'=>.inl hk'⟩
  unfold applyL
  rw [h0,if_neg he]
  exact hst.below h2
end Go.Proofs.YtjekalilfhnpmaaGreatDoor
