/- The library's Insert at letters. -/
import Derived.Laws.CopyRow
import Derived.Laws.AppendOwn
import Derived.Laws.OwnMore
import Derived.Lib.AppendZerosOnto
import Derived.Lib.Overlaps
import Derived.Lib.JoinLaws
import Derived.Laws.Externs
import Derived.Laws.IdiomCopy
import Derived.Shelf.RegionOpenPlain
import Derived.Deep.RegionLaw
import Derived.Deep.AppendLies
import Derived.Test.YtjekalilfhnpmaaGreatDoorQ04
theorem Go.Proofs.YtjekalilfhnpmaaGreatDoor.κ21 {p:Prop} (h:p):Go.RowKit.Hid p:=Go.Lib.hid h
namespace Go.Proofs.YtjekalilfhnpmaaGreatDoor
open Go Go.RowKit Go.Shelf
set_option linter.unusedVariables false
set_option linter.unusedSimpArgs false
set_option maxHeartbeats 4000000
set_option maxRecDepth 100000
section
variable {P:Program}
theorem run_copy_rowK (w:World) (dT sT ty elem:TypeId) (g o dLen dCap:Nat) (a:Addr) (sLen sCap:Nat) (cur:Array Value) (t:TypeId) (cs:List Value) (k:Nat)
  (hu:P.underlying dT=some (.slice elem)) (hs:(P.info? elem).map (·.size)=some k)
  (hg:w.heap[g]?=some (.cells cur t (0,0))) (hn:cs.length=Nat.min sLen dLen*k)
  (hsrc:∀ j v,cs[j]?=some v→w.cell? (a.add j)=some v) (hfit:o+cs.length≤cur.size) (h1:∀ v∈cs,v.oneCell'=true) :
  (Builtin.copy_ #[dT,sT] ty #[.slice (some ⟨g,o,none⟩) dLen dCap,.slice (some a) sLen sCap]).run P w =
   .ok (goInt (Nat.min sLen dLen)) (w.setRow g (cur.toList.take o++cs++cur.toList.drop (o+cs.length)).toArray):=by
 have hl:=run_loadCells_list (P:=P) w a cs hsrc
 have hst:=run_storeCells_at P g o t cs 0 cur w hg (by simpa using hfit) h1
 cases hq:P.info? elem with
 | none=>simp [hq] at hs
 | some i=>
  have hi:i.size=k:=by simpa [hq] using hs
  simp [Builtin.copy_,run_underlying hu,Builtin.lenOf,Builtin.firstCells,sizeOf,typeInfo,hq,hi,←hn,hl,hst]
theorem wpList_copy_runL (w:World) {ops:Array Oper} {rest:List Oper} {o:Oper} {a:Act} {Q:Exit→Act→World→Prop} (hgd:o.guard=none) (d s:Operand) (t t':TypeId)
  (ho:o.op=.call { callee:=.builtin .copy,args:=#[d,s],argTypes:=#[t,t'] }) (v u:Value) (hd:a.eval d=v) (hs:a.eval s=u) {v':Value} {w':World}
  (hr:(Builtin.copy_ #[t,t'] o.type #[v,u]).run P w=.ok v' w') (h:wpList P ops Q rest (a.put o.dst v') w'):wpList P ops Q (o :: rest) a w:=by
 refine wpList_plain hgd fun K hK=>?_
 unfold Oper.wp execOp
 simp only [ho,resolve,invoke,builtin,Sem.run_bind,Sem.run_pure,Result.andThen_ok,List.map_toArray,List.map_cons,List.map_nil,hd,hs,hr]
 exact hK _ _ h
theorem step_copy_runL {ops:Array Oper} {o:Oper} {a:Act} {w:World} {K:Act→World→Prop} {Q:Exit→Act→World→Prop} {E:Prop}
  (hg:o.guard=none) (d x:Operand) (dT sT:TypeId) (hop:o.op=Op.call { callee:=Callee.builtin Builtin.copy,args:=#[d,x],argTypes:=#[dT,sT] })
  (v u:Value) (hd:a.eval d=v) (hx:a.eval x=u) {v':Value} {w':World} (hr:(Builtin.copy_ #[dT,sT] o.type #[v,u]).run P w=.ok v' w') (hK:K (a.put o.dst v') w') :
  if Region.wanted o (yielded ops a.tmps)=true then Oper.wp P o a w K Q else E:=by
 have hw:Region.wanted o (yielded ops a.tmps)=true:=by simp [Region.wanted,hg]
 rw [if_pos hw]
 unfold Oper.wp
 simp [execOp,hop,resolve,invoke,builtin,hd,hx,hr,Result.andThen]
 exact hK
end
theorem infoLet:(Tryz.prog.info? 217).map (fun i=>(i.size,i.bytes))=some (3,16):=by kernel_rfl
theorem lets_one (L:List Lt):∀ v∈lts L,v.oneCell'=true:=by
 intro v hv
 unfold lts at hv
 obtain ⟨x,_,hx⟩:=List.mem_flatMap.1 hv
 simp only [Lt.cells,List.mem_cons,List.not_mem_nil,or_false] at hx
 rcases hx with rfl | rfl | rfl <;> rfl
theorem lts_drop (L:List Lt) (i:Nat):lts (L.drop i)=(lts L).drop (i*3):=by
 have h1:lts L=lts (L.take i)++lts (L.drop i):=by rw [←lts_app,List.take_append_drop]
 by_cases h:i≤L.length
 ·rw [h1]
  exact (List.drop_left' (by rw [lts_len,List.length_take];omega)).symm
 ·rw [List.drop_eq_nil_of_le (by omega),List.drop_eq_nil_of_le (by rw [lts_len];omega)]
  rfl
theorem lts_take (L:List Lt) (i:Nat):lts (L.take i)=(lts L).take (i*3):=by
 have h1:lts L=lts (L.take i)++lts (L.drop i):=by rw [←lts_app,List.take_append_drop]
 by_cases h:i≤L.length
 ·rw [h1]
  exact (List.take_left' (by rw [lts_len,List.length_take];omega)).symm
 ·rw [List.take_of_length_le (by omega),List.take_of_length_le (by rw [lts_len];omega)]
theorem shift_row (cur:List Value) (L:List Lt) (x:Lt) (i n:Nat) (hn:L.length=n) (hi:i≤n) (hc:(n+1)*3≤cur.length) (ht:cur.take (n*3)=lts L) :
  ((cur.take ((i+1)*3)++lts (L.drop i)++cur.drop ((i+1)*3+(lts (L.drop i)).length)).take (i*3)++x.cells++
   (cur.take ((i+1)*3)++lts (L.drop i)++cur.drop ((i+1)*3+(lts (L.drop i)).length)).drop (i*3+3)).take ((n+1)*3)=lts (L.take i++x :: L.drop i):=by
 have hl:(lts (L.drop i)).length=(n - i)*3:=by rw [lts_len,List.length_drop,hn]
 have e1:(cur.take ((i+1)*3)++lts (L.drop i)++cur.drop ((i+1)*3+(lts (L.drop i)).length)).take (i*3)=lts (L.take i):=by
  rw [List.append_assoc,List.take_append_of_le_length (by rw [List.length_take];omega),List.take_take,Nat.min_eq_left (by omega),lts_take,←ht,List.take_take,Nat.min_eq_left (by omega)]
 have e2:(cur.take ((i+1)*3)++lts (L.drop i)++cur.drop ((i+1)*3+(lts (L.drop i)).length)).drop (i*3+3)=lts (L.drop i)++cur.drop ((i+1)*3+(lts (L.drop i)).length):=by
  rw [List.append_assoc,List.drop_append,List.length_take,Nat.min_eq_left (by omega),show i*3+3 - (i+1)*3=0 by omega,List.drop_zero,List.drop_eq_nil_of_le (by rw [List.length_take];omega)]
  rfl
 rw [e1,e2]
 have e3:lts (L.take i++x :: L.drop i)=lts (L.take i)++x.cells++lts (L.drop i):=by
  rw [lts_app,List.append_assoc];rfl
 rw [e3,←List.append_assoc]
 rw [List.take_append_of_le_length (by simp only [List.length_append,lts_len,List.length_take,List.length_drop,List.length_cons,List.length_nil];omega)]
 exact List.take_of_length_le (by simp only [List.length_append,lts_len,List.length_take,List.length_drop,List.length_cons,List.length_nil];omega)
theorem insert_shift (base g cap i n vb:Nat) (cur:Array Value) (L:List Lt) (x:Lt) (w:World) (hn:L.length=n) (hi:i < n) (hn2:n≤1000) (hcap:n+1≤cap) (hcm:cap≤maxLen)
  (hg:w.heap[g]?=some (.cells cur 217 (0,0))) (hsz:cur.size=cap*3) (ht:cur.toList.take (n*3)=lts L)
  (hvb:w.heap[vb]?=some (.cells x.cells.toArray 217 (0,0))) (hne:vb≠g) :
  Calls Tryz.prog 161 #[.slice (some ⟨g,0,none⟩) n cap,.int .i64 i,.slice (some ⟨vb,0,none⟩) 1 1] w fun e w'=>
   e=.returned (.slice (some ⟨g,0,none⟩) (n+1) cap)∧∃ row:List Value,w'=w.drew.setRow g row.toArray∧row.length=cur.size∧row.take ((n+1)*3)=lts (L.take i++x :: L.drop i):=by
 have hcm':cap≤9223372036854775807:=by simp only [maxLen] at hcm;omega
 have hdl:(lts (L.drop i)).length=(n - i)*3:=by rw [lts_len,List.length_drop,hn]
 have hcl:cur.toList.length=cap*3:=by simpa using hsz
 have hinfo:(Tryz.prog.info? 217).map (·.size)=some 3:=by
  have:=infoLet
  cases h:Tryz.prog.info? 217 with
  | none=>rw [h] at this;cases this
  | some i=>rw [h] at this;simp at this;simp [this.1]
 obtain ⟨row1,hrow1⟩:∃ row1:List Value,row1=cur.toList.take ((i+1)*3)++lts (L.drop i)++cur.toList.drop ((i+1)*3+(lts (L.drop i)).length):=⟨_,rfl⟩
 have hr1l:row1.length=cap*3:=by rw [hrow1];simp only [List.length_append,List.length_take,List.length_drop,hdl,hcl];omega
 have hov:∀ lb cb,(callFunc 199 #[.slice (some ⟨vb,0,none⟩) 1 1,.slice (some ⟨g,(i+1)*3,none⟩) lb cb]).run Tryz.prog w=.ok (.value (.bool false)) w:=fun lb cb=>by
  rw [run_callFunc_extern Tryz.func199 (by kernel_rfl) (by kernel_rfl) (by kernel_rfl) (e:=Extern.SlicesOverlaps.overlaps #[213,213] #[4]) (by kernel_rfl)]
  rw [Lib.run_overlaps_apart w 213 4 217 Tryz.underlying213 3 Tryz.sizeOf217 ⟨vb,0,none⟩ ⟨g,(i+1)*3,none⟩ 1 1 lb cb hne 217 217 3 cur.size (by simp [World.shape?,hvb]) (by simp [World.shape?,hg]) (by omega) (by simp [World.frozen?,hvb]) (by simp [World.frozen?,hvb])]
  rfl
 have hcp1:∀ ty dc sc,(Builtin.copy_ #[213,213] ty #[.slice (some ⟨g,(i+1)*3,none⟩) (n - i) dc,.slice (some ⟨g,i*3,none⟩) (n+1 - i) sc]).run Tryz.prog w.drew=.ok (goInt (Nat.min (n+1 - i) (n - i))) (w.drew.setRow g row1.toArray):=fun ty dc sc=>by
  rw [hrow1]
  exact run_copy_rowK w.drew _ _ ty 217 g ((i+1)*3) (n - i) dc ⟨g,i*3,none⟩ (n+1 - i) sc cur 217 (lts (L.drop i)) 3 Tryz.underlying213 hinfo hg (by rw [hdl,show Nat.min (n+1 - i) (n - i)=n - i by simp only [Nat.min_def];split <;> omega])
   (fun j v hj=>by
    rw [Addr.add_lit,lts_drop,List.getElem?_drop,←ht,List.getElem?_take] at *
    split at hj
    ·rw [cell_of_row w.drew g (i*3+j) cur _ (0,0) hg]
     simpa using hj
    ·cases hj)
   (by rw [hdl,hsz];omega) (lets_one _)
 obtain ⟨row2,hrow2⟩:∃ row2:List Value,row2=row1.take (i*3)++x.cells++row1.drop (i*3+x.cells.length):=⟨_,rfl⟩
 have hr2l:row2.length=cap*3:=by
  rw [hrow2]
  simp only [List.length_append,List.length_take,List.length_drop,hr1l,List.length_cons,List.length_nil]
  omega
 have hfin:row2.take ((n+1)*3)=lts (L.take i++x :: L.drop i):=by
  rw [hrow2,hrow1]
  exact shift_row cur.toList L x i n hn (by omega) (by rw [hcl];omega) ht
 have hcp2:∀ ty dc,(Builtin.copy_ #[213,213] ty #[.slice (some ⟨g,i*3,none⟩) (n+1 - i) dc,.slice (some ⟨vb,0,none⟩) 1 1]).run Tryz.prog (w.drew.setRow g row1.toArray)=.ok (goInt (Nat.min 1 (n+1 - i))) (w.drew.setRow g row2.toArray):=fun ty dc=>by
  have:=run_copy_rowK (P:=Tryz.prog) (w.drew.setRow g row1.toArray) 213 213 ty 217 g (i*3) (n+1 - i) dc ⟨vb,0,none⟩ 1 1 row1.toArray 217 x.cells 3 Tryz.underlying213 hinfo (setRow_heap w.drew g cur _ _ _ hg) (by rw [show Nat.min 1 (n+1 - i)=1 by simp only [Nat.min_def];split <;> omega];rfl)
   (fun j v hj=>by
    rw [Addr.add_lit]
    have hvb2:(w.drew.setRow g row1.toArray).heap[vb]?=some (.cells x.cells.toArray 217 (0,0)):=(setRow_other w.drew g vb _ (by omega)).trans hvb
    rw [cell_of_row _ vb (0+j) x.cells.toArray _ (0,0) hvb2]
    simpa using hj)
   (by simp only [List.size_toArray,hr1l,List.length_cons,List.length_nil];omega) (by intro v hv;simp only [Lt.cells,List.mem_cons,List.not_mem_nil,or_false] at hv;rcases hv with rfl | rfl | rfl <;> rfl)
  rw [setRow_setRow] at this
  rw [hrow2]
  exact this
 clear hrow1 hrow2
 have hb1:(0:Int)≤(i:Int)+1:=by omega
 have htn:((i:Int)+1).toNat=i+1:=by omega
 have hin:(i:Int)≤(n:Int):=by omega
 have hnc:(n:Int)+1≤(cap:Int):=by omega
 have hnc2:¬ (cap:Int) < (n:Int)+1:=by omega
 have hw1:IntKind.i64.wrap ((i:Int)+1)=(i:Int)+1:=by rw [IntKind.wrap_i64];omega
 have hb2:¬ (cap=i+1):=by omega
 have hb3:(i:Int)≤(n:Int)+1:=by omega
 have hb4:¬ (cap=i):=by omega
 have hb5:(i:Int)+1≤(n:Int)+1:=by omega
 have mixed:Tryz.prog.follows Departure.mixedOrders=true:=by kernel_rfl
 have hz2:((i:Int) == (n:Int))=false:=by rw [beq_eq_false_iff_ne];omega
 go_enter Tryz.func161,Tryz.ntmps161
 go_wp2_with (simp only [hov])
 go_region_law_o (refine step_copy_runL rfl _ _ 213 213 rfl _ _ (by simp [Act.eval,Act.put]) (by simp [Act.eval,Act.put]) (hcp1 _ _ _) ?_)
 go_wp2_with (at_builtin;refine wpList_copy_runL _ rfl _ _ 213 213 rfl _ _ rfl rfl (hcp2 _ _) ?_)
 go_ret
 exact ⟨rfl,row2,rfl,by rw [hr2l,hsz],hfin⟩
theorem infoLetZ:(Tryz.prog.info? 217).map (fun i=>(i.zero,i.size,i.bytes))=some (some (.agg #[.int .i64 0,.int .u8 0,.bool false]),3,16):=by kernel_rfl
theorem zero_size (k:Nat):(Builtin.zeroCells (Value.agg #[.int .i64 0,.int .u8 0,.bool false]).cells k).toList.length=k*3:=by
 have:=size_zeroCells (Value.agg #[.int .i64 0,.int .u8 0,.bool false]).cells k
 simpa [Value.cells] using this
theorem grow_row (ROW:List Value) (L:List Lt) (x:Lt) (i n:Nat) (hn:L.length=n) (hi:i≤n) (hc:(n+1)*3≤ROW.length) (ht:ROW.take (i*3)=lts (L.take i)) :
  ((ROW.take (i*3)++x.cells++ROW.drop (i*3+x.cells.length)).take ((i+1)*3)++lts (L.drop i)++
   (ROW.take (i*3)++x.cells++ROW.drop (i*3+x.cells.length)).drop ((i+1)*3+(lts (L.drop i)).length)).take ((n+1)*3)=lts (L.take i++x :: L.drop i):=by
 have hl:(lts (L.drop i)).length=(n - i)*3:=by rw [lts_len,List.length_drop,hn]
 have ht1:(lts (L.take i)).length=i*3:=by rw [lts_len,List.length_take];omega
 rw [ht]
 have e1:(lts (L.take i)++x.cells++ROW.drop (i*3+x.cells.length)).take ((i+1)*3)=lts (L.take i)++x.cells:=
  List.take_left' (by rw [List.length_append,ht1];simp only [List.length_cons,List.length_nil];omega)
 rw [e1]
 have e3:lts (L.take i++x :: L.drop i)=lts (L.take i)++x.cells++lts (L.drop i):=by
  rw [lts_app,List.append_assoc];rfl
 rw [e3]
 exact List.take_left' (by rw [List.length_append,List.length_append,ht1,hl];simp only [List.length_cons,List.length_nil];omega)
theorem insert_grow (g cap i n vb:Nat) (cur:Array Value) (L:List Lt) (x:Lt) (w:World) (hn:L.length=n) (hi:i < n) (hn2:n≤1000) (hcap:cap=n)
  (hg:w.heap[g]?=some (.cells cur 217 (0,0))) (hsz:cur.size=cap*3) (ht:cur.toList.take (n*3)=lts L)
  (hvb:w.heap[vb]?=some (.cells x.cells.toArray 217 (0,0))) :
  Calls Tryz.prog 161 #[.slice (some ⟨g,0,none⟩) n cap,.int .i64 i,.slice (some ⟨vb,0,none⟩) 1 1] w fun e w'=>
   ∃ (row:List Value) (G:Nat),e=.returned (.slice (some ⟨w.heap.size,0,none⟩) (n+1) G)∧n+1≤G∧G≤maxLen∧w'.heap[w.heap.size]?=some (.cells row.toArray 217 (0,0))∧row.length=G*3∧row.take ((n+1)*3)=lts (L.take i++x :: L.drop i)∧Below w.heap.size w w':=by
 obtain ⟨i0,hi0,hz0,hzs,hzb⟩:=info_parts infoLetZ
 have hinfo:(Tryz.prog.info? 217).map (·.size)=some 3:=by rw [hi0];simp [hzs]
 have hdl:(lts (L.drop i)).length=(n - i)*3:=by rw [lts_len,List.length_drop,hn]
 have hcl:cur.toList.length=cap*3:=by simpa using hsz
 have hgl:g < w.heap.size:=(Array.getElem?_eq_some_iff.1 hg).1
 have hvl:vb < w.heap.size:=(Array.getElem?_eq_some_iff.1 hvb).1
 have hkk:(n:Int)+1 - (i:Int)=((n+1 - i:Nat):Int):=by omega
 have hik:i+(n+1 - i)=n+1:=by omega
 have hold:(Builtin.firstCells i0.size i (.slice (some ⟨g,0,none⟩) i cap)).run Tryz.prog w.drew=.ok (lts (L.take i)).toArray w.drew:=by
  rw [hzs]
  refine run_firstCells_some w.drew 3 i ⟨g,0,none⟩ i cap (lts (L.take i)) (by rw [lts_len,List.length_take];congr 1;omega) (fun j v hj=>?_)
  rw [Addr.add_lit]
  rw [lts_take,←ht,List.take_take,List.getElem?_take] at hj
  split at hj
  ·rw [cell_of_row w.drew g (0+j) cur _ (0,0) hg]
   simpa using hj
  ·cases hj
 obtain ⟨G,hG⟩:∃ G,G=grownCap w (n+1) cap 217:=⟨_,rfl⟩
 have hGn:n+1≤G:=by rw [hG];exact grownCap_ge w _ _ _
 have hGm:G≤maxLen:=by rw [hG];exact grownCap_le_maxLen w (n+1) cap 217 (by unfold maxLen;omega)
 have hG63:G≤9223372036854775807:=by simp only [maxLen] at hGm;omega
 obtain ⟨ROW,hROW⟩:∃ ROW:Array Value,ROW=(lts (L.take i)).toArray++Builtin.zeroCells (Value.agg #[.int .i64 0,.int .u8 0,.bool false]).cells (n+1 - i)++Builtin.zeroCells (Value.agg #[.int .i64 0,.int .u8 0,.bool false]).cells (G - (n+1)):=⟨_,rfl⟩
 have hRl:ROW.toList.length=G*3:=by
  rw [hROW]
  simp only [Array.toList_append,List.length_append,zero_size,lts_len,List.length_take]
  omega
 have hRt:ROW.toList.take (i*3)=lts (L.take i):=by
  rw [hROW]
  simp only [Array.toList_append,List.append_assoc]
  exact List.take_left' (by simp only [lts_len,List.length_take];omega)
 have hrz:∀ ty,(Builtin.append_ #[213,3] ty #[.slice (some ⟨g,0,none⟩) i cap,.int .i64 ((n:Int)+1 - (i:Int))]).run Tryz.prog w =
   .ok (.slice (some ⟨w.heap.size,0,none⟩) (n+1) G) (w.drew.alloc (.cells ROW 217)):=fun ty=>by
  have h:=Lib.run_append_grow_zeros w 213 3 ty 217 i0 _ .i64 .i64 Tryz.underlying213 Tryz.underlying3 hi0 hz0 (some ⟨g,0,none⟩) i cap (lts (L.take i)) hold (n+1 - i) (by omega) (by omega) (by omega) (by omega) (by rw [hzb];omega) (by rw [hzb,hik];exact growslice_fits (by omega) (by omega))
  rw [hik,←hG] at h
  rw [hkk,hROW]
  exact h
 obtain ⟨NB,hNB⟩:∃ NB,NB=w.heap.size:=⟨_,rfl⟩
 obtain ⟨W1,hW1⟩:∃ W1,W1=w.drew.alloc (.cells ROW 217):=⟨_,rfl⟩
 have h1N:W1.heap[NB]?=some (.cells ROW 217 (0,0)):=by rw [hW1,hNB];exact heap_alloc_new w.drew _
 have h1g:W1.heap[g]?=some (.cells cur 217 (0,0)):=by rw [hW1];exact (heap_alloc_old w.drew _ hgl).trans hg
 have h1v:W1.heap[vb]?=some (.cells x.cells.toArray 217 (0,0)):=by rw [hW1];exact (heap_alloc_old w.drew _ hvl).trans hvb
 obtain ⟨rowA,hrowA⟩:∃ rowA:List Value,rowA=ROW.toList.take (i*3)++x.cells++ROW.toList.drop (i*3+x.cells.length):=⟨_,rfl⟩
 have hAl:rowA.length=G*3:=by
  rw [hrowA]
  simp only [List.length_append,List.length_take,List.length_drop,hRl,List.length_cons,List.length_nil]
  omega
 obtain ⟨rowB,hrowB⟩:∃ rowB:List Value,rowB=rowA.take ((i+1)*3)++lts (L.drop i)++rowA.drop ((i+1)*3+(lts (L.drop i)).length):=⟨_,rfl⟩
 have hBl:rowB.length=G*3:=by
  rw [hrowB]
  simp only [List.length_append,List.length_take,List.length_drop,hAl,hdl]
  omega
 have hfin:rowB.take ((n+1)*3)=lts (L.take i++x :: L.drop i):=by
  rw [hrowB,hrowA]
  exact grow_row ROW.toList L x i n hn (by omega) (by rw [hRl];omega) hRt
 have hcpA:∀ (W:World),W.heap=W1.heap→∀ ty dc,(Builtin.copy_ #[213,213] ty #[.slice (some ⟨NB,i*3,none⟩) (n+1 - i) dc,.slice (some ⟨vb,0,none⟩) 1 1]).run Tryz.prog W=.ok (goInt (Nat.min 1 (n+1 - i))) (W.setRow NB rowA.toArray):=fun W hW ty dc=>by
  rw [hrowA]
  exact run_copy_rowK (P:=Tryz.prog) W 213 213 ty 217 NB (i*3) (n+1 - i) dc ⟨vb,0,none⟩ 1 1 ROW 217 x.cells 3 Tryz.underlying213 hinfo (by rw [hW];exact h1N) (by rw [show Nat.min 1 (n+1 - i)=1 by simp only [Nat.min_def];split <;> omega];rfl)
   (fun j v hj=>by
    rw [Addr.add_lit]
    rw [cell_of_row W vb (0+j) x.cells.toArray _ (0,0) (by rw [hW];exact h1v)]
    simpa using hj)
   (by
     have:ROW.size=G*3:=by simpa using hRl
     rw [this];simp only [List.length_cons,List.length_nil];omega) (by intro v hv;simp only [Lt.cells,List.mem_cons,List.not_mem_nil,or_false] at hv;rcases hv with rfl | rfl | rfl <;> rfl)
 have hcpB:∀ (W:World),W.heap=(W1.setRow NB rowA.toArray).heap→∀ ty dc sc,(Builtin.copy_ #[213,213] ty #[.slice (some ⟨NB,(i+1)*3,none⟩) (n - i) dc,.slice (some ⟨g,i*3,none⟩) (n - i) sc]).run Tryz.prog W=.ok (goInt (Nat.min (n - i) (n - i))) (W.setRow NB rowB.toArray):=fun W hW ty dc sc=>by
  have hgN:g≠NB:=by omega
  have h:=run_copy_rowK (P:=Tryz.prog) W 213 213 ty 217 NB ((i+1)*3) (n - i) dc ⟨g,i*3,none⟩ (n - i) sc rowA.toArray 217 (lts (L.drop i)) 3 Tryz.underlying213 hinfo (by rw [hW];exact setRow_heap W1 NB ROW _ _ _ h1N) (by rw [hdl,show Nat.min (n - i) (n - i)=n - i by simp only [Nat.min_def];split <;> omega])
   (fun j v hj=>by
    rw [Addr.add_lit]
    rw [lts_drop,List.getElem?_drop,←ht,List.getElem?_take] at hj
    split at hj
    ·rw [cell_of_row W g (i*3+j) cur _ (0,0) (by rw [hW];exact (setRow_other W1 NB g _ hgN).trans h1g)]
     simpa using hj
    ·cases hj)
   (by simp only [List.size_toArray,hAl,hdl];omega) (lets_one _)
  rw [hrowB]
  exact h
 rw [←hNB] at hrz ⊢
 rw [←hW1] at hrz
 have hW1s:W1.heap.size=NB+1:=by rw [hW1,hNB];simp
 have hW1b:Below NB w W1:=by rw [hW1,hNB];exact ((Below.refl _ w).drew).alloc (Nat.le_refl _) _
 have hendb:∀ (W:World),W.heap=(W1.setRow NB rowA.toArray).heap→W.os=W1.os→W.tape=W1.tape→W.output=W1.output→(W.setRow NB rowB.toArray).heap[NB]?=some (.cells rowB.toArray 217 (0,0))∧Below NB w (W.setRow NB rowB.toArray):=fun W hW h1 h2 h3=>by
  refine ⟨setRow_heap W NB rowA.toArray rowB.toArray _ _ (by rw [hW];exact setRow_heap W1 NB ROW _ _ _ h1N),?_⟩
  refine hW1b.trans ⟨h1,h2,h3,?_,fun k hk=>?_⟩
  ·show _≤(W.setRow NB rowB.toArray).heap.size
   simp [World.setRow,hW]
  ·rw [setRow_other W NB k _ (by omega),hW,setRow_other W1 NB k _ (by omega)]
 have hGi:¬ (G=i):=by omega
 have hGim:¬ (G=i+1):=by omega
 have hci:¬ (cap=i):=by omega
 have hw1:IntKind.i64.wrap ((i:Int)+1)=(i:Int)+1:=by rw [IntKind.wrap_i64];omega
 have hb1:(0:Int)≤(i:Int)+1:=by omega
 have htn:((i:Int)+1).toNat=i+1:=by omega
 have hin:(i:Int)≤(n:Int):=by omega
 have hic:(i:Int)≤(cap:Int):=by omega
 have hb3:(i:Int)≤(n:Int)+1:=by omega
 have hb5:(i:Int)+1≤(n:Int)+1:=by omega
 have hz3:(cap:Int) < (n:Int)+1:=by omega
 have mixed:Tryz.prog.follows Departure.mixedOrders=true:=by kernel_rfl
 have hz2:((i:Int) == (n:Int))=false:=by rw [beq_eq_false_iff_ne];omega
 have HF:=κ21 hfin
 have HBl:=κ21 hBl
 have HE:=κ21 hendb
 have HG:=κ21 hGm
 clear hkk hik hold hROW hG hRl hRt hfin hBl hAl hrowA hrowB hendb hGm hcap hn hdl hcl ht hsz hinfo hi0 hz0 hzs hzb hW1s hW1b hg hvb h1N h1g h1v
 clear hW1 hNB hgl hvl
 go_enter Tryz.func161,Tryz.ntmps161
 go_wp2_with (first
  | (at_builtin;refine Lib.wpList_append_run _ rfl _ _ _ _ rfl _ _ rfl rfl _ _ (hrz _) ?_)
  | (refine wpList_copy_runL _ rfl _ _ 213 213 rfl _ _ rfl rfl (hcpA _ rfl _ _) ?_))
 go_region_law_o (refine step_copy_runL rfl _ _ 213 213 rfl (.slice (some ⟨NB,(i+1)*3,none⟩) (n - i) (G - (i+1))) (.slice (some ⟨g,i*3,none⟩) (n - i) (cap - i)) (by simp [Act.eval,Act.put]) (by simp [Act.eval,Act.put]) (hcpB (W1.setRow NB rowA.toArray).drew rfl 3 (G - (i+1)) (cap - i)) ?_)
 go_wp2_with fail
 go_ret
 have he:=HE.out (W1.setRow NB rowA.toArray).drew rfl rfl rfl rfl
 exact ⟨rowB,G,rfl,hGn,HG.out,he.1,HBl.out,HF.out,he.2⟩
def InsEnds (base:Nat) (v:Value) (L:List Lt) (w:World) (e:Ending) (w':World):Prop:=
 ∃ v',e=.returned v'∧w'.ownsRow base 217 3 v' L.length (lts L)∧w.grownBy w' v.ownBlock∧∀ k,v'.ownBlock=some k→v.ownBlock=some k∨w.heap.size≤k
theorem insert_end (base:Nat) (v:Value) (A:Option Addr) (cap n vb:Nat) (L:List Lt) (x:Lt) (w:World) (hv:v=.slice A n cap) (hnc:n≤cap) (hcm:cap≤maxLen) (hn:L.length=n) (hn2:n≤1000) (hown:w.ownsRow base 217 3 v n (lts L)) (hbase:base≤w.heap.size)
  (hvb:w.heap[vb]?=some (.cells x.cells.toArray 217 (0,0))) :
  Calls Tryz.prog 161 #[v,.int .i64 n,.slice (some ⟨vb,0,none⟩) 1 1] w (InsEnds base v (L++[x]) w):=by
 obtain ⟨i0,hi0,hz0,hzs,hzb⟩:=info_parts infoLetZ
 subst hv
 have HO:=κ21 hown
 have HV:=κ21 hvb
 have HN:=κ21 hn
 have hz2:((n:Int) == (n:Int))=true:=by simp
 have i0':(0:Int)≤(n:Int):=by omega
 have i1:(n:Int)≤(cap:Int):=by omega
 have hcm':cap≤9223372036854775807:=by simp only [maxLen] at hcm;omega
 clear hown hvb hn hcm
 by_cases hcn:cap=n
 ·subst hcn
  go_enter Tryz.func161,Tryz.ntmps161
  go_wp2_with (at_builtin;refine wpList_append_lies _ rfl _ _ 213 rfl base 217 i0 _ 3 16 Tryz.underlying213 hi0 hz0 hzs hzb rfl (by decide) _ _ _ rfl HO.out ⟨vb,0,none⟩ 1 1 x.cells rfl rfl ?p1 ?p2 (by decide) ?p3 ?p4 ?p5 w.heap.size rfl ?_)
  case p1=>
   intro j u hj
   rw [Addr.add_lit,cell_of_row _ vb (0+j) x.cells.toArray _ (0,0) HV.out]
   simpa using hj
  case p2=>intro u hu;simp only [Lt.cells,List.mem_cons,List.not_mem_nil,or_false] at hu;rcases hu with rfl | rfl | rfl <;> rfl
  case p3=>unfold maxLen;omega
  case p4=>omega
  case p5=>exact hbase
  intro g2 cap2 wF hown' hgrow hat _
  have HO2:=κ21 hown'
  have HG:=κ21 hgrow
  have HA:=κ21 hat
  clear hown' hgrow hat hi0 hz0 hzs hzb
  go_wp2_with fail
  go_ret
  exact ⟨_,rfl,by rw [lts_app,List.length_append,HN.out];exact HO2.out,HG.out,fun k hk=>by
   have e:g2=k:=by simpa [Value.ownBlock] using hk
   rcases HA.out with h | h
   ·exact .inl (by rw [←e];exact h)
   ·exact .inr (by omega)⟩
 ·go_enter Tryz.func161,Tryz.ntmps161
  go_wp2_with (at_builtin;refine wpList_append_lies _ rfl _ _ 213 rfl base 217 i0 _ 3 16 Tryz.underlying213 hi0 hz0 hzs hzb rfl (by decide) _ _ _ rfl HO.out ⟨vb,0,none⟩ 1 1 x.cells rfl rfl ?q1 ?q2 (by decide) ?q3 ?q4 ?q5 w.heap.size rfl ?_)
  case q1=>
   intro j u hj
   rw [Addr.add_lit,cell_of_row _ vb (0+j) x.cells.toArray _ (0,0) HV.out]
   simpa using hj
  case q2=>intro u hu;simp only [Lt.cells,List.mem_cons,List.not_mem_nil,or_false] at hu;rcases hu with rfl | rfl | rfl <;> rfl
  case q3=>unfold maxLen;omega
  case q4=>omega
  case q5=>exact hbase
  intro g2 cap2 wF hown' hgrow hat _
  have HO2:=κ21 hown'
  have HG:=κ21 hgrow
  have HA:=κ21 hat
  clear hown' hgrow hat hi0 hz0 hzs hzb
  go_wp2_with fail
  go_ret
  exact ⟨_,rfl,by rw [lts_app,List.length_append,HN.out];exact HO2.out,HG.out,fun k hk=>by
   have e:g2=k:=by simpa [Value.ownBlock] using hk
   rcases HA.out with h | h
   ·exact .inl (by rw [←e];exact h)
   ·exact .inr (by omega)⟩
theorem insert_any (base:Nat) (v:Value) (i vb:Nat) (L:List Lt) (x:Lt) (w:World) (hi:i≤L.length) (hn2:L.length≤1000) (hown:w.ownsRow base 217 3 v L.length (lts L)) (hbase:base≤w.heap.size)
  (hvb:w.heap[vb]?=some (.cells x.cells.toArray 217 (0,0))) (hne:v.ownBlock≠some vb) :
  Calls Tryz.prog 161 #[v,.int .i64 i,.slice (some ⟨vb,0,none⟩) 1 1] w (InsEnds base v (L.take i++x :: L.drop i) w):=by
 rcases hown.2 with ⟨hv,h0⟩ | ⟨g,cap,cur,hv,hg,hh,hcap,hm,hsz,hcs⟩
 ·have hL:L=[]:=List.eq_nil_of_length_eq_zero h0
  subst hL
  have hi0:i=0:=by simpa using hi
  subst hi0
  exact insert_end base v none 0 0 vb [] x w hv (by omega) (by unfold maxLen;omega) rfl (by omega) hown hbase hvb
 ·by_cases he:i=L.length
  ·subst he
   have:=insert_end base v (some ⟨g,0,none⟩) cap L.length vb L x w hv hcap hm rfl hn2 hown hbase hvb
   rw [List.take_length,List.drop_length]
   exact this
  ·have hgl:g < w.heap.size:=(Array.getElem?_eq_some_iff.1 hh).1
   have hlen:(L.take i++x :: L.drop i).length=L.length+1:=by simp;omega
   subst hv
   by_cases hroom:L.length+1≤cap
   ·refine (insert_shift base g cap i L.length vb cur L x w rfl (by omega) hn2 hroom hm hh hsz hcs hvb (fun e=>hne (by rw [e];rfl))).mono ?_
    rintro e w' ⟨rfl,row,rfl,hr1,hr2⟩
    refine ⟨_,rfl,?_,⟨rfl,rfl,rfl,?_,fun k hk hk2=>?_⟩,fun k hk=>.inl hk⟩
    ·refine ⟨lts_len _,.inr ⟨g,cap,row.toArray,by rw [hlen],hg,setRow_heap w.drew g cur _ _ _ hh,by omega,hm,by simp [hr1,hsz],?_⟩⟩
     rw [hlen]
     exact hr2
    ·simp [World.setRow]
    ·exact setRow_other w.drew g k _ (fun e=>hk2 (by rw [e];rfl))
   ·refine (insert_grow g cap i L.length vb cur L x w rfl (by omega) hn2 (by omega) hh hsz hcs hvb).mono ?_
    rintro e w' ⟨row,G,rfl,hG1,hG2,hr0,hr1,hr2,hb⟩
    refine ⟨_,rfl,?_,⟨hb.os,hb.tape,hb.output,hb.size,fun k hk _=>hb.block k hk⟩,fun k hk=>.inr (Nat.le_of_eq (by simpa [Value.ownBlock] using hk))⟩
    refine ⟨lts_len _,.inr ⟨w.heap.size,G,row.toArray,by rw [hlen],hbase,hr0,by omega,hG2,by simp [hr1],?_⟩⟩
    rw [hlen]
    exact hr2
end Go.Proofs.YtjekalilfhnpmaaGreatDoor
