/- Acts on a replica beside the document's: what holds between two acts. What a statement says of an error and a fault. A slice of acts that comes in, opened: each act holds a slice of operations. -/
import Derived.ChangeArms
import Derived.Test.YtjekalilfhnpmaaGreatDoorQ07
import Derived.Test.YtjekalilfhnpmaaGreatDoorQ25
import Derived.Test.YtjekalilfhnpmaaGreatDoorQ31
import Derived.Test.YtjekalilfhnpmaaGreatDoorQ33
import Derived.Test.YtjekalilfhnpmaaGreatDoorQ34
namespace Go.Proofs.YtjekalilfhnpmaaGreatDoor
open Go Go.RowKit Go.Maps Go.Shelf LineOrd Tree
set_option linter.unusedVariables false
set_option linter.unusedSimpArgs false
set_option maxHeartbeats 2000000
set_option maxRecDepth 100000
structure ActT where
 jn:Bool
 o:OpT
 la:Option Addr
 ln:Nat
 lc:Nat
def ActT.cells (x:ActT):Array Value:=#[.bool x.jn,.int .i64 x.o.t,.int .i64 x.o.b,.int .i64 x.o.n,.int .u8 x.o.k,.int .i64 x.o.nd,.int .i64 x.o.ot,.string x.o.nm,.string x.o.vl,.slice x.la x.ln x.lc]
def actE:Enc ActT:=⟨fun x=>x.cells.toList,10,fun _=>rfl,fun x v hv=>by
 simp [ActT.cells] at hv
 rcases hv with rfl | rfl | rfl | rfl | rfl | rfl | rfl | rfl | rfl | rfl <;> rfl⟩
theorem act_at {w:World} {A:Option Addr} {n c:Nat} {L:List ActT} (h:SlV actE w (.slice A n c) L) {i:Nat} {y:ActT} (hy:L[i]?=some y) :
  ∃ b off,A=some ⟨b,off,none⟩∧b < w.heap.size∧w.cell? ⟨b,off+i*10,none⟩=some (.bool y.jn)∧w.cell? ⟨b,off+i*10+1,none⟩=some (.int .i64 y.o.t)∧w.cell? ⟨b,off+i*10+2,none⟩=some (.int .i64 y.o.b)∧w.cell? ⟨b,off+i*10+3,none⟩=some (.int .i64 y.o.n)∧w.cell? ⟨b,off+i*10+4,none⟩=some (.int .u8 y.o.k)∧w.cell? ⟨b,off+i*10+5,none⟩=some (.int .i64 y.o.nd)∧w.cell? ⟨b,off+i*10+6,none⟩=some (.int .i64 y.o.ot)∧w.cell? ⟨b,off+i*10+7,none⟩=some (.string y.o.nm)∧w.cell? ⟨b,off+i*10+8,none⟩=some (.string y.o.vl)∧w.cell? ⟨b,off+i*10+9,none⟩=some (.slice y.la y.ln y.lc):=by
 obtain ⟨b,off,e,hb,hc⟩:=h.at' (by decide) hy
 refine ⟨b,off,e,hb,?_⟩
 have g:∀ j u,(actE.cells y)[j]?=some u→w.cell? ⟨b,off+i*10+j,none⟩=some u:=fun j u hu=>by rw [Nat.add_assoc];exact hc j u hu
 exact ⟨g 0 _ rfl,g 1 _ rfl,g 2 _ rfl,g 3 _ rfl,g 4 _ rfl,g 5 _ rfl,g 6 _ rfl,g 7 _ rfl,g 8 _ rfl,g 9 _ rfl⟩
structure ActIn (w:World) (x:ActT) (l:List OpT):Prop where
 sl:SlV opE w (.slice x.la x.ln x.lc) l
 n:x.ln≤maxLen
 wo:x.o.nm.size≤100000→x.o.vl.size≤100000→x.o.Wf
 wl:∀ y∈l,y.nm.size≤100000→y.vl.size≤100000→y.Wf
theorem MRep.fr {X:Nat→Prop} {MB:Nat} {b:Int} {A:Option Addr} {n c:Nat} {K:List OpT} {w w':World} (h:MRep MB b A n c K w) (hF:Fr X w w') (h1:¬ X MB) (h2:K=[]∨∀ a,A=some a→¬ X a.block):MRep MB b A n c K w':=by
 have hl:=World.block_lt_of_cell? w _ h.c0
 refine ⟨(hF.cell (p:=⟨MB,0,none⟩) hl h1).trans h.c0,(hF.cell (p:=⟨MB,1,none⟩) hl h1).trans h.c1,?_,fun j=>(hF.frozen (p:=⟨MB,j,none⟩) hl h1).trans (h.fz j)⟩
 rcases h2 with rfl | h2
 ·have hn:=h.sl.len
  simp only [List.length_nil] at hn
  subst hn
  cases A with
  | none=>
   have hc:=h.sl
   rcases hc with ⟨e,_⟩ | ⟨p,c',e,_⟩
   ·rw [e];exact SlV.nil
   ·cases e
  | some p=>exact SlV.empty p c
 ·refine h.sl.kept fun k hk hlt=>hF.block k hlt ?_
  cases A with
  | none=>simp [Value.ownBlock] at hk
  | some a=>
   have:a.block=k:=by
    simp [Value.ownBlock] at hk
    first | exact hk | exact hk.2 | exact hk.1
   rw [←this]
   exact h2 a rfl
structure AcS (b:Int) (col:Nat→Int) (RB MB:Nat) (A:Option Addr) (n c:Nat) (Kr Km:List OpT) (w0 w:World):Prop where
 rep:RepD col RB b Kr w
 mod:MRep MB b A n c Km w
 zm:col MB=0
 za:Km=[]∨∀ a,A=some a→a.block < w.heap.size∧col a.block=0
 ge:∀ k,col k≠0→w0.heap.size≤k
 mge:w0.heap.size≤MB
 bel:Below w0.heap.size w0 w
theorem AcS.below {b:Int} {col:Nat→Int} {RB MB:Nat} {A:Option Addr} {n c:Nat} {Kr Km:List OpT} {w0 w w':World} (h:AcS b col RB MB A n c Kr Km w0 w) (hb:Below w.heap.size w w'):AcS b col RB MB A n c Kr Km w0 w':=
 ⟨h.rep.below hb,h.mod.below hb,h.zm,h.za.imp_right fun h1 a ha=>⟨Nat.lt_of_lt_of_le (h1 a ha).1 hb.size,(h1 a ha).2⟩,h.ge,h.mge,bel2 h.bel hb⟩
theorem AcS.join1 {b:Int} {col:Nat→Int} {RB MB:Nat} {A:Option Addr} {n c:Nat} {Kr Km K':List OpT} {w0 w w':World} (h:AcS b col RB MB A n c Kr Km w0 w) (hR:RepDTo col RB b K' w w'):∃ col',AcS b col' RB MB A n c K' Km w0 w':=by
 obtain ⟨c',h1,h2,h3⟩:=hR
 have hMl:MB < w.heap.size:=World.block_lt_of_cell? w _ h.mod.c0
 have hold:∀ k,k < w.heap.size→col k=0→c' k=0:=fun k hk hz=>Classical.byContradiction fun hn=>h2.old k hk hn hz
 refine ⟨c',h1,h.mod.fr h3 (fun hx=>hx h.zm) (h.za.imp_right fun hz a ha hx=>hx (hz a ha).2),hold MB hMl h.zm,h.za.imp_right fun hz a ha=>⟨Nat.lt_of_lt_of_le (hz a ha).1 h3.size,hold _ (hz a ha).1 (hz a ha).2⟩,fun k hk=>?_,h.mge,h.bel.trans (h3.below h.bel.size fun k hk=>h.ge k hk)⟩
 rcases Nat.lt_or_ge k w.heap.size with hl | hl
 ·exact h.ge k (h2.old k hl hk)
 ·exact Nat.le_trans h.bel.size hl
theorem AcS.join2 {b:Int} {col:Nat→Int} {RB MB:Nat} {A A':Option Addr} {n c n' c':Nat} {Kr Km K':List OpT} {w0 w w':World} (h:AcS b col RB MB A n c Kr Km w0 w) (hm:MRep MB b A' n' c' K' w') (hA:∀ a,A'=some a→w.heap.size≤a.block) (hF:Fr (·=MB) w w'):AcS b col RB MB A' n' c' Kr K' w0 w':=by
 refine ⟨h.rep.fr hF (fun k hk=>by rw [hk];exact h.zm),hm,h.zm,?_,h.ge,h.mge,h.bel.trans (hF.below h.bel.size fun k hk=>by rw [hk];exact h.mge)⟩
 cases K' with
 | nil=>exact .inl rfl
 | cons x r=>
  refine .inr fun a ha=>?_
  subst ha
  obtain ⟨b',off,e,hb,_⟩:=hm.sl.at' (by decide) (show (x :: r)[0]?=some x from rfl)
  cases e
  refine ⟨hb,Classical.byContradiction fun hn=>?_⟩
  have h1:=h.rep.lt _ hn
  have h2:=hA _ rfl
  simp only at h1 h2
  omega
theorem join_both {K l:List OpT} (hK:DOk K) (hup:Rising K) (hw:∀ o∈l,o.Wf):(∃ q,joinM K l=.inl q∧joinP K l=.inl q)∨
  ∃ F,joinM K l=.inr F∧joinP K l=.inr (sortOps F)∧(sortOps F).length=F.length∧sortOps (K++sortOps F)=sortOps (K++F)∧DOk (sortOps (K++F))∧Rising (sortOps (K++F))∧(sortOps (K++F)).length=K.length+F.length:=by
 have e:=joinM_is (l:=l) hK hup
 cases hj:joinM K l with
 | inl q=>rw [hj] at e;exact .inl ⟨q,rfl,e⟩
 | inr F=>
  rw [hj] at e
  obtain ⟨h1,_,_,_,_⟩:=join_ok hK hup hw e
  have hp:(K++F).Perm (K++sortOps F):=((sortOps_perm F).symm).append_left K
  have hD:DOk (K++F):=h1.perm hp
  exact .inr ⟨F,rfl,e,(sortOps_perm F).length_eq,sort_eq h1 hD (fun o=>hp.symm.mem_iff),hD.sorted,hD.rising,by rw [(sortOps_perm _).length_eq,List.length_append]⟩
theorem join_made {b:Int} {K:List OpT} {x:OpT} (h:MadeOk b K x) (hK:DOk K) (hup:Rising K) (hl:K.length < 400):joinP K [x]=.inr [x]∧joinM K [x]=.inr [x]∧sortOps (K++[x])=K++[x]∧DOk (K++[x])∧Rising (K++[x]):=by
 have hr:Rising (K++[x]):=rising_snoc hup h.time
 obtain ⟨h1,h2⟩:=join_one hK h.ok hr hl
 refine ⟨h1,?_,h2,h.ok,hr⟩
 rcases join_both (l:=[x]) hK hup (fun o ho=>by rw [List.mem_singleton.1 ho];exact h.ok.wf x (by simp)) with ⟨q,_,e⟩ | ⟨F,e1,e2,_⟩
 ·rw [h1] at e;cases e
 ·rw [h1] at e2
  have e3:=Sum.inr.inj e2
  have hp:=sortOps_perm F
  rw [←e3] at hp
  rw [e1,List.singleton_perm.1 hp]
theorem bcellF {w w1:World} {c p:Int} (hb:Below (w.alloc (.cells #[.int .i64 c,.int .i64 p] 90)).heap.size (w.alloc (.cells #[.int .i64 c,.int .i64 p] 90)) w1) :
  w1.cell? ⟨w.heap.size,0,none⟩=some (.int .i64 c)∧w1.cell? ⟨w.heap.size,1,none⟩=some (.int .i64 p):=by
 have hl:w.heap.size < (w.alloc (.cells #[.int .i64 c,.int .i64 p] 90)).heap.size:=by simp
 exact ⟨(hb.cell (p:=⟨w.heap.size,0,none⟩) hl).trans (by simp [go_sem]),(hb.cell (p:=⟨w.heap.size,1,none⟩) hl).trans (by simp [go_sem])⟩
theorem ret_boolF {a b:Bool} (h:a=b):Ending.returned (.bool a)=.returned (.bool b):=by rw [h]
theorem faulted2_any (a:Nat→Addr) (v:Value) (k:Nat) (pl c p:Int) (w:World) (hv:ErrVal a w v k pl) (hE:Errs a allErrs w) (hT:TypeVar w) :
  Calls Tryz.prog 39 #[v,mFault c p] w fun e w'=>e=.returned (.bool (decide ((k:Int)=c∧(k=0∨pl=p))))∧Below w.heap.size w w':=by
 have HV:=Lib.hid hv
 have HE:=Lib.hid hE
 have HT:=Lib.hid hT
 clear hv hE hT
 go_enter Tryz.func39,Tryz.ntmps39
 go_wp2_with fail
 refine (code_any a v k pl _ (HV.out.below ((Below.refl _ _).alloc (Nat.le_refl _) _)) (HE.out.alloc _) (HT.out.alloc _)).mono ?_
 rintro e w1 ⟨rfl,hb1⟩
 obtain ⟨hc,hf⟩:=bcellF hb1
 have hbel:=((Below.refl _ w).alloc (Nat.le_refl _) _).trans (hb1.mono (by simp))
 clear hb1
 go_wp2_with fail
 all_goals
  go_ret
  refine ⟨ret_boolF ?_,hbel⟩
  rw [Bool.eq_iff_iff]
  (try simp)
  (try omega)
theorem faulted2_ok (a:Nat→Addr) (v:Value) (k:Nat) (pl c:Int) (w:World) (hv:ErrVal a w v k pl) (hE:Errs a allErrs w) (hT:TypeVar w) (hk:(k:Int)=c) :
  Calls Tryz.prog 39 #[v,mFault c pl] w fun e w'=>e=.returned (.bool true)∧Below w.heap.size w w':=
 (faulted2_any a v k pl c pl w hv hE hT).mono fun _ _ ⟨he,hb⟩=>⟨by rw [he];simp [hk],hb⟩
end Go.Proofs.YtjekalilfhnpmaaGreatDoor
namespace Go.Proofs.YtjekalilfhnpmaaGreatDoor
open Go Go.RowKit Go.Joins Go.ChangeShapes Go.WideShapes Go.Deep
set_option linter.unusedVariables false
set_option linter.unusedSimpArgs false
set_option maxHeartbeats 1000000
set_option maxRecDepth 100000
theorem open_cellsP {T H:Type} {enc:TypeId×Value→H} {P:Program} {W:World} {base:Nat} {t e:TypeId} (E:Enc T) (Pp:T→Prop)
  (ht:P.underlying t=some (.slice e)) (hk:P.cellsOf e=E.k)
  (hone:∀ fuel cs y,cs.length=E.k→DataW.trod enc P W base (fun _=>true) true fuel e cs=some y→∃ x:T,E.cells x=cs∧Pp x)
  {fuel:Nat} {cs:List Value} {y:DataW H×List MemPlace} (hf:DataW.trod enc P W base (fun _=>true) true fuel t cs=some y) :
  ∃ A n c L,cs=[.slice A n c]∧L.length=n∧SlV E W (.slice A n c) L∧c≤maxLen∧∀ x∈L,Pp x:=by
 rcases Deep.open_slice ht hf with ⟨e,_⟩ | ⟨a,n,c,m,k,D,Pl,e,_,hl,hc,hm,_,hx⟩
 ·exact ⟨none,0,0,[],e,rfl,SlV.nil,by unfold maxLen;omega,by simp⟩
 ·simp only [if_true] at hm
  subst hm
  obtain ⟨L,h1,h2⟩:=SlV.of_each (E:=subE E Pp) (w:=W) (p:=a) (n:=n) hl (fun i hi=>by
   obtain ⟨cs',hcs,htr⟩:=hx i (by omega)
   obtain ⟨_,hlen,hcell⟩:=World.cells?_some hcs
   rw [hk] at hlen hcell
   obtain ⟨x,hxx,hp⟩:=hone _ cs' _ hlen htr
   refine ⟨⟨x,hp⟩,fun j u hu=>?_⟩
   have hu':(E.cells x)[j]?=some u:=hu
   rw [hxx] at hu'
   have hj:j < E.k:=by rw [←hlen];exact (List.getElem?_eq_some_iff.1 hu').1
   have:=hcell j hj
   rw [hu',add_add] at this
   exact this)
  refine ⟨some a,n,_,L.map Subtype.val,e,by rw [List.length_map,h1],h2.of_sub,hc,fun x hx=>?_⟩
  obtain ⟨y,_,rfl⟩:=List.mem_map.1 hx
  exact y.2
theorem open_racts {H:Type} {enc:TypeId×Value→H} {W:World} {r:Reach} {b0 base:Nat} {v:Value} {d:DataW H} {p:List MemPlace}
  (o:Value.okWide Tryz.prog W r b0 85 v) (h:DataW.Trod enc Tryz.prog W base (fun _=>true) true 85 v d p) :
  ∃ A n c L,v=.slice A n c∧L.length=n∧SlV actE W (.slice A n c) L∧c≤maxLen∧∀ x∈L,∃ l,ActIn W x l:=
 open_rowsP actE _ Tryz.underlying85 (by kernel_rfl) (fun fuel cs y hl ht=>by
  match cs,hl with
  | [c0,c1,c2,c3,c4,c5,c6,c7,c8,c9],_=>
   have k4:Tryz.prog.cellsOf 4=1:=by kernel_rfl
   have k8:Tryz.prog.cellsOf 31=8:=by kernel_rfl
   have k9:Tryz.prog.cellsOf 36=1:=by kernel_rfl
   obtain ⟨xs,n,_,hx,_,hlen,hg⟩:=DataW.trod_struct Tryz.underlying87 ht
   have g0:DataW.trod enc Tryz.prog W base (fun _=>true) true n 4 (([c0,c1,c2,c3,c4,c5,c6,c7,c8,c9].drop 0).take (Tryz.prog.cellsOf 4))=xs[0]?:=hg 0 _ rfl
   have g1:DataW.trod enc Tryz.prog W base (fun _=>true) true n 31 (([c0,c1,c2,c3,c4,c5,c6,c7,c8,c9].drop 1).take (Tryz.prog.cellsOf 31))=xs[1]?:=hg 1 _ rfl
   have g2:DataW.trod enc Tryz.prog W base (fun _=>true) true n 36 (([c0,c1,c2,c3,c4,c5,c6,c7,c8,c9].drop 9).take (Tryz.prog.cellsOf 36))=xs[2]?:=hg 2 _ rfl
   rw [k4] at g0
   rw [k8] at g1
   rw [k9] at g2
   match xs,hlen with
   | [y0,y1,y2],_=>
    obtain ⟨z0,q0,_⟩:=DataW.trod_bool Tryz.underlying4 g0
    obtain ⟨x1,q1,w1⟩:=open_op_cells (c0:=c1) (c1:=c2) (c2:=c3) (c3:=c4) (c4:=c5) (c5:=c6) (c6:=c7) (c7:=c8) g1
    obtain ⟨A,n',c,L,q2,hLn,hLs,hLc,hLw⟩:=open_cellsP opE (fun x:OpT=>x.nm.size≤100000→x.vl.size≤100000→x.Wf) Tryz.underlying36 (by kernel_rfl) (fun fuel cs y hl ht=>by
     match cs,hl with
     | [c0,c1,c2,c3,c4,c5,c6,c7],_=>
      obtain ⟨o,ho,hw⟩:=open_op_cells ht
      exact ⟨o,ho.symm,hw⟩) g2
    simp at q0 q2
    simp only [OpT.cells,List.cons.injEq,and_true] at q1
    obtain ⟨rfl,rfl,rfl,rfl,rfl,rfl,rfl,rfl⟩:=q1
    subst q0 q2
    exact ⟨⟨z0,x1,A,n',c⟩,rfl,L,hLs,Nat.le_trans hLs.cap hLc,w1,hLw⟩) o h
end Go.Proofs.YtjekalilfhnpmaaGreatDoor
