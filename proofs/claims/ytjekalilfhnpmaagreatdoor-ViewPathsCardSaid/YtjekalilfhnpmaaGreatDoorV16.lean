/- Cells of marks: made, laid, set, read. Cells of marks: set, and read. Cells of marks: copied, joined. Cells of marks: joined. -/
import Derived.StillTailTactics
import Derived.BigQuiet
import Derived.Test.YtjekalilfhnpmaaGreatDoorV03
import Derived.Test.YtjekalilfhnpmaaGreatDoorV04
import Derived.Test.YtjekalilfhnpmaaGreatDoorV06
namespace Go.Proofs.YtjekalilfhnpmaaGreatDoor
open Go Go.RowKit Go.Maps
set_option linter.unusedVariables false
set_option linter.unusedSimpArgs false
set_option maxHeartbeats 4000000
set_option maxRecDepth 100000
structure CellT where
 v:ByteArray
 t:Int
 b:Int
def cellV (c:CellT):Value:=.agg #[.string c.v,.int .i64 c.t,.int .i64 c.b]
abbrev MapC:=KeyT→Option CellT
def cLt (a b:CellT):Bool:=decide (a.t < b.t∨a.t=b.t∧a.b < b.b)
noncomputable def layC (m:MapC) (k:KeyT) (x:CellT):MapC×Bool:=
 match m k with
 | some was=>if cLt was x=true then (updT m k (some x),true) else (m,false)
 | none=>(updT m k (some x),true)
structure CSt (base CB b n:Nat) (m:MapC) (w:World):Prop where
 ptr:w.cell? ⟨CB,0,none⟩=some (.map (some b))
 mt:MT Tryz.prog 220 keyV cellV b n m w
 ge:base≤CB
 geb:base≤b
 ne:CB≠b
theorem CSt.lt {base CB b n:Nat} {m:MapC} {w:World} (h:CSt base CB b n m w):CB < w.heap.size:=World.block_lt_of_cell? w _ h.ptr
theorem CSt.fr {X:Nat→Prop} {base CB b n:Nat} {m:MapC} {w w':World} (h:CSt base CB b n m w) (hF:Fr X w w') (h1:¬ X CB) (h2:¬ X b):CSt base CB b n m w':=⟨(hF.cell h.lt h1).trans h.ptr,h.mt.fr hF h2,h.ge,h.geb,h.ne⟩
theorem CSt.below {base CB b n:Nat} {m:MapC} {w w':World} (h:CSt base CB b n m w) (hb:Below w.heap.size w w'):CSt base CB b n m w':=h.fr (X:=fun _=>False) (Fr.of_below hb) (fun h=>h) (fun h=>h)
theorem CSt.mono {base CB b n n':Nat} {m:MapC} {w:World} (h:CSt base CB b n m w) (hn:n≤n'):CSt base CB b n' m w:=⟨h.ptr,h.mt.mono hn,h.ge,h.geb,h.ne⟩
theorem CSt.put {base CB b n n':Nat} {m m':MapC} {w w':World} (h:CSt base CB b n m w) (hm:MT Tryz.prog 220 keyV cellV b n' m' w') (hF:Fr (·=b) w w'):CSt base CB b n' m' w':=⟨(hF.cell h.lt (fun e=>h.ne e)).trans h.ptr,hm,h.ge,h.geb,h.ne⟩
theorem cell_keep {p:Addr} {u:Value} {w w':World} (hb:Below w.heap.size w w') (h:w.cell? p=some u):w'.cell? p=some u:=(hb.cell (World.block_lt_of_cell? w _ h)).trans h
theorem zeroCell (w:World):(zeroValue 222).run Tryz.prog w=.ok (.agg #[.string ⟨#[]⟩,.int .i64 0,.int .i64 0]) w:=by kernel_rfl
theorem CSt.look {base CB b n:Nat} {m:MapC} {w:World} (h:CSt base CB b n m w) {k:KeyT} (hk:KeyOk k) {r:Option CellT} (hr:m k=r) (w':World) (hw:w'.heap[b]?=w.heap[b]?) :
  (Instr.lookup 185 (.map (some b)) (.agg #[.int .i64 k.1,.string k.2]) true).run Tryz.prog w'=.ok (.tuple #[(r.map cellV).getD (.agg #[.string ⟨#[]⟩,.int .i64 0,.int .i64 0]),.bool r.isSome]) w':=by
 obtain ⟨f,hf,e⟩:=h.mt
 obtain ⟨kl,hkl⟩:=key_reads hk
 have:=((hf.block (w':=w') hw).look cellK Tryz.underlying185 (zeroCell w') hkl).1
 rw [e k kl hkl,hr] at this
 rw [show (Value.agg #[.int .i64 k.1,.string k.2])=keyV k from rfl,this]
 cases r <;> rfl
theorem cellsNew_any (w:World) :
  Calls Tryz.prog 52 #[] w fun e w'=>∃ CB b,e=.returned (.pointer (some ⟨CB,0,none⟩))∧CSt w.heap.size CB b 0 (fun _=>none) w'∧Below w.heap.size w w':=by
 have hmm:=@run_makeMap Tryz.prog
 go_enter Tryz.func52,Tryz.ntmps52
 go_wp2_with fail
 go_ret
 refine ⟨_,w.heap.size,rfl,⟨by simp [go_sem],?_,by simp,Nat.le_refl _,by simp⟩,((Below.refl _ w).alloc (Nat.le_refl _) _).alloc (by simp) _⟩
 exact (MT.made w Tryz.prog 220 keyV cellV).below ((Below.refl _ _).alloc (Nat.le_refl _) _)
theorem lay_any (base CB b n:Nat) (m:MapC) (k:KeyT) (x:CellT) (w:World) (hst:CSt base CB b n m w) (hk:KeyOk k) (hn:n < maxLen) :
  Calls Tryz.prog 162 #[.pointer (some ⟨CB,0,none⟩),.agg #[.int .i64 k.1,.string k.2],.agg #[.string x.v,.int .i64 x.t,.int .i64 x.b]] w fun e w'=>
   e=.returned (.bool (layC m k x).2)∧CSt base CB b (n+1) (layC m k x).1 w'∧Fr (·=b) w w':=by
 obtain ⟨W,hW⟩:∃ W,W=(w.alloc (.cells #[.int .i64 k.1,.string k.2] 220)).alloc (.cells #[.string x.v,.int .i64 x.t,.int .i64 x.b] 222):=⟨_,rfl⟩
 have hbw:Below w.heap.size w W:=by rw [hW];exact ((Below.refl _ w).alloc (Nat.le_refl _) _).alloc (by simp) _
 have hSW:CSt base CB b n m W:=hst.below hbw
 have hc:W.cell? ⟨w.heap.size,0,none⟩=some (.int .i64 k.1)∧W.cell? ⟨w.heap.size,1,none⟩=some (.string k.2):=by rw [hW];exact ⟨by simp [go_sem],by simp [go_sem]⟩
 have hx:W.cell? ⟨w.heap.size+1,0,none⟩=some (.string x.v)∧W.cell? ⟨w.heap.size+1,1,none⟩=some (.int .i64 x.t)∧W.cell? ⟨w.heap.size+1,2,none⟩=some (.int .i64 x.b):=by rw [hW];exact ⟨by simp [go_sem],by simp [go_sem],by simp [go_sem]⟩
 have HL:Hid (∀ r,m k=r→∀ w',w'.heap[b]?=W.heap[b]?→(Instr.lookup 185 (.map (some b)) (.agg #[.int .i64 k.1,.string k.2]) true).run Tryz.prog w'=.ok (.tuple #[(r.map cellV).getD (.agg #[.string ⟨#[]⟩,.int .i64 0,.int .i64 0]),.bool r.isSome]) w'):=Lib.hid fun r hr w' hw=>hSW.look hk hr w' hw
 have HS:=Lib.hid hSW
 have HB:=Lib.hid hbw
 have HK:=Lib.hid (key_reads hk)
 have p0:=hSW.ptr
 clear hst hSW hbw hk
 cases hm:m k with
 | none=>
  have HLy:Hid (layC m k x=(updT m k (some x),true)):=Lib.hid (by rw [layC,hm])
  have HLk:=Lib.hid (HL.out none hm)
  rw [HLy.out]
  have hbl:b < W.heap.size:=HS.out.mt.lt
  have hb2:Below W.heap.size W (W.alloc (.cells #[.string ⟨#[]⟩,.int .i64 0,.int .i64 0] 222)):=(Below.refl _ _).alloc (Nat.le_refl _) _
  have p1:=cell_keep hb2 p0
  have c1:=cell_keep hb2 hc.1
  have c2:=cell_keep hb2 hc.2
  obtain ⟨c3,c4⟩:=hc
  have l1:=HLk.out W.drew rfl
  have l2:=HLk.out (W.alloc (.cells #[.string ⟨#[]⟩,.int .i64 0,.int .i64 0] 222)).drew (Below.heap_alloc _ _ b hbl)
  clear hbl hb2
  go_enter Tryz.func162,Tryz.ntmps162
  go_wp2_with fail
  rw [←hW]
  clear hW
  go_region
  all_goals
   have hb2:Below W.heap.size W (W.alloc (.cells #[.string ⟨#[]⟩,.int .i64 0,.int .i64 0] 222)).drew:=(((Below.refl _ _).alloc (Nat.le_refl _) _)).drew
   have HS2:=Lib.hid (HS.out.below hb2)
   have HB2:=Lib.hid (HB.out.trans (hb2.mono HB.out.size))
   have x1:=cell_keep hb2 hx.1
   have x2:=cell_keep hb2 hx.2.1
   have x3:=cell_keep hb2 hx.2.2
   have d1:=cell_keep hb2 c3
   have d2:=cell_keep hb2 c4
   have q0:=cell_keep hb2 p0
   clear hb2 c1 c2 c3 c4 p0 p1 hx l1 l2 HLk HL HS
   generalize (W.alloc (.cells #[.string ⟨#[]⟩,.int .i64 0,.int .i64 0] 222)).drew=W2 at *
   go_wp2_with fail
   go_still_tail 6,(by kernel_rfl)
   change wpList _ _ _ _ _ W2.drew
   have HS3:=Lib.hid (HS2.out.below (Below.refl _ W2).drew)
   have HB3:=Lib.hid (HB2.out.trans ((Below.refl _ W2).drew.mono HB2.out.size))
   clear x1 x2 x3 d1 d2 q0 HS2 HB2
   generalize W2.drew=W3 at *
   go_wp2_with (at_mapUpdate;refine wpList_putT _ rfl _ _ _ 185 rfl 220 222 cellK Tryz.underlying185 keyV cellV keyV_inj b n m rfl HS3.out.mt hn k x rfl rfl HK.out ?_;intro w4 hm4 hg4)
   have HF4:=Lib.hid ((Fr.of_below (X:=(·=b)) HB3.out).trans (fr_of_grown (X:=(·=b)) hg4 rfl))
   have HS4:=Lib.hid (HS3.out.put hm4 (fr_of_grown (X:=(·=b)) hg4 rfl))
   clear hm4 hg4
   go_wp2_with fail
   go_ret
   exact ⟨rfl,HS4.out,HF4.out⟩
 | some was=>
  have HLk:=Lib.hid (HL.out (some was) hm)
  have hbl:b < W.heap.size:=HS.out.mt.lt
  have hb2:Below W.heap.size W (W.alloc (.cells #[.string ⟨#[]⟩,.int .i64 0,.int .i64 0] 222)):=(Below.refl _ _).alloc (Nat.le_refl _) _
  have p1:=cell_keep hb2 p0
  have c1:=cell_keep hb2 hc.1
  have c2:=cell_keep hb2 hc.2
  obtain ⟨c3,c4⟩:=hc
  have l1:(Instr.lookup 185 (.map (some b)) (.agg #[.int .i64 k.1,.string k.2]) true).run Tryz.prog W.drew=.ok (.tuple #[.agg #[.string was.v,.int .i64 was.t,.int .i64 was.b],.bool true]) W.drew:=HLk.out W.drew rfl
  have l2:(Instr.lookup 185 (.map (some b)) (.agg #[.int .i64 k.1,.string k.2]) true).run Tryz.prog (W.alloc (.cells #[.string ⟨#[]⟩,.int .i64 0,.int .i64 0] 222)).drew=.ok (.tuple #[.agg #[.string was.v,.int .i64 was.t,.int .i64 was.b],.bool true]) (W.alloc (.cells #[.string ⟨#[]⟩,.int .i64 0,.int .i64 0] 222)).drew:=HLk.out (W.alloc (.cells #[.string ⟨#[]⟩,.int .i64 0,.int .i64 0] 222)).drew (Below.heap_alloc _ _ b hbl)
  have HLy:Hid (layC m k x=if cLt was x=true then (updT m k (some x),true) else (m,false)):=Lib.hid (by rw [layC,hm])
  have HLs:=Lib.hid (fun w=>less_any was.t was.b x.t x.b w)
  clear hbl hb2
  generalize layC m k x=R at HLy ⊢
  go_enter Tryz.func162,Tryz.ntmps162
  go_wp2_with fail
  rw [←hW]
  clear hW
  go_region
  all_goals
   have hb2:Below W.heap.size W (W.alloc (.cells #[.string was.v,.int .i64 was.t,.int .i64 was.b] 222)).drew:=(((Below.refl _ _).alloc (Nat.le_refl _) _)).drew
   have HS2:=Lib.hid (HS.out.below hb2)
   have HB2:=Lib.hid (HB.out.trans (hb2.mono HB.out.size))
   have x1:=cell_keep hb2 hx.1
   have x2:=cell_keep hb2 hx.2.1
   have x3:=cell_keep hb2 hx.2.2
   have d1:=cell_keep hb2 c3
   have d2:=cell_keep hb2 c4
   have q0:=cell_keep hb2 p0
   have y1:(W.alloc (.cells #[.string was.v,.int .i64 was.t,.int .i64 was.b] 222)).drew.cell? ⟨W.heap.size,1,none⟩=some (.int .i64 was.t):=by simp [go_sem]
   have y2:(W.alloc (.cells #[.string was.v,.int .i64 was.t,.int .i64 was.b] 222)).drew.cell? ⟨W.heap.size,2,none⟩=some (.int .i64 was.b):=by simp [go_sem]
   clear hb2 c1 c2 c3 c4 p0 p1 hx l1 l2 HLk HL HS
   generalize (W.alloc (.cells #[.string was.v,.int .i64 was.t,.int .i64 was.b] 222)).drew=W2 at *
   obtain ⟨lt,hlt⟩:∃ lt,cLt was x=lt:=⟨_,rfl⟩
   have hlt2:decide (was.t < x.t∨was.t=x.t∧was.b < x.b)=lt:=hlt
   rw [hlt] at HLy
   rw [hlt2] at HLs
   clear hlt hlt2
   have K2:Hid (W2.cell? ⟨w.heap.size+1,0,none⟩=some (.string x.v)∧W2.cell? ⟨w.heap.size+1,1,none⟩=some (.int .i64 x.t)∧W2.cell? ⟨w.heap.size+1,2,none⟩=some (.int .i64 x.b)∧W2.cell? ⟨w.heap.size,0,none⟩=some (.int .i64 k.1)∧W2.cell? ⟨w.heap.size,1,none⟩=some (.string k.2)∧W2.cell? ⟨CB,0,none⟩=some (.map (some b))):=Lib.hid ⟨x1,x2,x3,d1,d2,q0⟩
   go_wp2_with fail
   refine (HLs.out _).mono ?_
   rintro e w5 ⟨rfl,hb5⟩
   have HS5:=Lib.hid (HS2.out.below hb5)
   have HB5:=Lib.hid (HB2.out.trans (hb5.mono HB2.out.size))
   clear x1 x2 x3 d1 d2 q0 y1 y2
   obtain ⟨x1,x2,x3,d1,d2,q0⟩:=K2.out
   replace x1:=cell_keep hb5 x1
   replace x2:=cell_keep hb5 x2
   replace x3:=cell_keep hb5 x3
   replace d1:=cell_keep hb5 d1
   replace d2:=cell_keep hb5 d2
   replace q0:=cell_keep hb5 q0
   clear hb5 HS2 HB2 HLs K2
   cases lt with
   | true=>
    have hr:=HLy.out
    rw [if_pos rfl] at hr
    subst hr
    go_wp2_with fail
    go_still_tail 6,(by kernel_rfl)
    change wpList _ _ _ _ _ w5.drew
    have HS3:=Lib.hid (HS5.out.below (Below.refl _ w5).drew)
    have HB3:=Lib.hid (HB5.out.trans ((Below.refl _ w5).drew.mono HB5.out.size))
    clear x1 x2 x3 d1 d2 q0 HS5 HB5
    generalize w5.drew=W3 at *
    go_wp2_with (at_mapUpdate;refine wpList_putT _ rfl _ _ _ 185 rfl 220 222 cellK Tryz.underlying185 keyV cellV keyV_inj b n m rfl HS3.out.mt hn k x rfl rfl HK.out ?_;intro w4 hm4 hg4)
    have HF4:=Lib.hid ((Fr.of_below (X:=(·=b)) HB3.out).trans (fr_of_grown (X:=(·=b)) hg4 rfl))
    have HS4:=Lib.hid (HS3.out.put hm4 (fr_of_grown (X:=(·=b)) hg4 rfl))
    clear hm4 hg4
    go_wp2_with fail
    go_ret
    exact ⟨rfl,HS4.out,HF4.out⟩
   | false=>
    have hr:=HLy.out
    rw [if_neg (by simp)] at hr
    subst hr
    go_wp2_with fail
    go_ret
    exact ⟨rfl,HS5.out.mono (by omega),Fr.of_below HB5.out⟩
noncomputable def setC (m:MapC) (o:OpT):MapC×Bool×Nat:=
 if opErr o≠0 then (m,false,opErr o) else if o.k≠115 then (m,false,5) else ((layC m (o.nd,o.nm) ⟨o.vl,o.t,o.b⟩).1,(layC m (o.nd,o.nm) ⟨o.vl,o.t,o.b⟩).2,0)
theorem keyOk_op {o:OpT} (h:o.Wf):KeyOk (o.nd,o.nm):=⟨h.nd1,h.nd2,Nat.le_trans h.nm1 (by unfold maxLen;omega)⟩
theorem cset_any {F:Nat→Bool} (ea:Nat→Addr) (base CB b n:Nat) (m:MapC) (o:OpT) (w:World) (hw:o.Wf) (hG:Gd F ea w) (f2:F 2=true) (f3:F 3=true) (f4:F 4=true) (f5:F 5=true) (hst:CSt base CB b n m w) (hn:n < maxLen) :
  Calls Tryz.prog 115 #[.pointer (some ⟨CB,0,none⟩),opV o] w fun e w'=>
   e=.returned (.tuple #[.bool (setC m o).2.1,errW ea (setC m o).2.2])∧CSt base CB b (n+1) (setC m o).1 w'∧Fr (·=b) w w':=by
 have HC:Hid (∀ w',Gd F ea w'→Calls Tryz.prog 107 #[opV o] w' fun e w''=>e=.returned (errW ea (opErr o))∧Below w'.heap.size w' w''):=Lib.hid fun w' hg=>check_any ea o w' hw hg f2 f3 f4 f5
 have HG:=Lib.hid (hG.alloc (.cells o.cells 31))
 have HS:=Lib.hid hst
 have HSt:Hid (setC m o=if opErr o≠0 then (m,false,opErr o) else if o.k≠115 then (m,false,5) else ((layC m (o.nd,o.nm) ⟨o.vl,o.t,o.b⟩).1,(layC m (o.nd,o.nm) ⟨o.vl,o.t,o.b⟩).2,0)):=Lib.hid rfl
 have HK:=Lib.hid (keyOk_op hw)
 generalize setC m o=R at HSt ⊢
 by_cases he:opErr o≠0
 ·have hr:=HSt.out
  rw [if_pos he] at hr
  subst hr
  have hE:errW ea (opErr o)=errV (ea (opErr o)):=by rw [errW,if_neg he]
  rw [hE] at HC
  have HE:=Lib.hid hE
  clear hst hG hw he hE HSt
  generalize opErr o=k at HC HE
  go_enter Tryz.func115,Tryz.ntmps115
  go_wp2_with fail
  refine (HC.out _ HG.out).mono ?_
  rintro e w1 ⟨rfl,hb⟩
  have HB:=Lib.hid (((Below.refl w.heap.size w).alloc (Nat.le_refl _) (.cells o.cells 31)).trans (hb.mono (by simp)))
  clear hb
  go_wp2_with fail
  go_ret2
  exact ⟨by rw [HE.out];rfl,(HS.out.below HB.out).mono (by omega),Fr.of_below HB.out⟩
 ·have he0:opErr o=0:=by omega
  have hr:=HSt.out
  rw [if_neg he] at hr
  rw [he0] at HC
  have hk1:=hw.k1
  have hk2:=hw.k2
  have HGB:=Lib.hid hG
  clear hst hG hw he he0 HSt
  go_enter Tryz.func115,Tryz.ntmps115
  go_wp2_with fail
  refine (HC.out _ HG.out).mono ?_
  rintro e w1 ⟨rfl,hb⟩
  have hO:=(OpAt.start w o 31).below hb
  have HB:=Lib.hid (((Below.refl w.heap.size w).alloc (Nat.le_refl _) (.cells o.cells 31)).trans (hb.mono (by simp)))
  obtain ⟨q0,q1,q2,q3,q4,q5,q6,q7⟩:=hO
  have hev:errW ea 0=.nilIface:=rfl
  rw [hev]
  clear hb hev HC HG
  by_cases hk:o.k≠115
  ·rw [if_pos hk] at hr
   subst hr
   have hkb:(o.k != 115)=true:=by simpa using hk
   have g5:=((HGB.out.below HB.out).errs 5 (by omega) (by omega) f5).var
   simp only [errG] at g5
   have HS1:=Lib.hid (HS.out.below HB.out)
   clear hk
   go_wp2_with fail
   go_quiet (fail)
   rename_i nq
   have HB2:=Lib.hid (HB.out.trans (below_drewN w.heap.size w1 nq))
   have HS2:=Lib.hid (HS1.out.below (below_drewN w1.heap.size w1 nq))
   go_wp2_with fail
   go_ret2
   exact ⟨rfl,HS2.out.mono (by omega),Fr.of_below HB2.out⟩
  ·have hk':o.k=115:=by omega
   rw [if_neg hk] at hr
   have HR:=Lib.hid hr
   clear hr
   have hkb:(o.k != 115)=false:=by simp [hk']
   have HL:=Lib.hid (lay_any base CB b n m (o.nd,o.nm) ⟨o.vl,o.t,o.b⟩ w1 (HS.out.below HB.out) HK.out hn)
   generalize layC m (o.nd,o.nm) ⟨o.vl,o.t,o.b⟩=R2 at HL HR
   clear hk
   go_wp2_with fail
   refine HL.out.mono ?_
   rintro e w2 ⟨rfl,hS2,hF2⟩
   have HS2:=Lib.hid hS2
   have HF2:=Lib.hid ((Fr.of_below (X:=(·=b)) HB.out).trans hF2)
   clear hS2 hF2 q0 q1 q2 q3 q4 q5 q6 q7 HL
   go_wp2_with fail
   go_ret2
   rw [HR.out]
   exact ⟨rfl,HS2.out,HF2.out⟩
theorem Fr.grown {X:Nat→Prop} {w0 w w':World} {r:Nat} (h:Fr X w0 w) (hg:w.grownBy w' (some r)) (hr:w0.heap.size≤r∨X r):Fr X w0 w':=
 ⟨hg.os.trans h.os,hg.tape.trans h.tape,hg.output.trans h.output,Nat.le_trans h.size hg.size,fun k hk hx=>(hg.block k (Nat.lt_of_lt_of_le hk h.size) (fun e=>by cases e;rcases hr with h1 | h1;omega;exact hx h1)).trans (h.block k hk hx)⟩
theorem Fr.grown0 {X:Nat→Prop} {w0 w w':World} (h:Fr X w0 w) (hg:w.grownBy w' none):Fr X w0 w':=
 ⟨hg.os.trans h.os,hg.tape.trans h.tape,hg.output.trans h.output,Nat.le_trans h.size hg.size,fun k hk hx=>(hg.block k (Nat.lt_of_lt_of_le hk h.size) (by simp)).trans (h.block k hk hx)⟩
theorem Fr.alloc {X:Nat→Prop} {w0 w:World} (h:Fr X w0 w) (o:Obj):Fr X w0 (w.alloc o):=h.grown0 (World.grownBy_alloc w o none)
theorem MT.grown {K V:Type} {P:Program} {kt:TypeId} {ek:K→Value} {ev:V→Value} {b n r:Nat} {m:K→Option V} {w w':World} (h:MT P kt ek ev b n m w) (hg:w.grownBy w' (some r)) (hr:r≠b):MT P kt ek ev b n m w':=h.block (hg.block b h.lt (fun e=>hr (by cases e;rfl)))
theorem keyOk_of {x:KeyT} (h:∃ kl,keyOf Tryz.prog 220 (keyV x)=some kl):KeyOk x:=by
 obtain ⟨kl,h⟩:=h
 obtain ⟨y,e,h⟩:=key_shape _ kl h
 rw [keyV_inj _ _ e];exact h
noncomputable def joinC (m1 m2:MapC):MapC:=fun k=>match m1 k,m2 k with | some a,some b=>some (if cLt a b=true then b else a) | some a,none=>some a | none,r=>r
theorem layC_other {m:MapC} {k k':KeyT} {x:CellT} (h:k'≠k):(layC m k x).1 k'=m k':=by
 unfold layC
 cases hm:m k with
 | none=>exact updT_other m _ h
 | some was=>
  show (if cLt was x=true then (updT m k (some x),true) else (m,false)).1 k'=_
  split
  ·exact updT_other m _ h
  ·rfl
theorem layC_same (m:MapC) (k:KeyT) (x:CellT):(layC m k x).1 k=some (match m k with | some was=>if cLt was x=true then x else was | none=>x):=by
 unfold layC
 cases hm:m k with
 | none=>exact updT_same m _ _
 | some was=>
  show (if cLt was x=true then (updT m k (some x),true) else (m,false)).1 k=some (if cLt was x=true then x else was)
  split
  ·exact updT_same m _ _
  ·exact hm
theorem CSt.eq {base CB b n:Nat} {m m':MapC} {w:World} (h:CSt base CB b n m w) (e:∀ k,KeyOk k→m' k=m k):CSt base CB b n m' w:=⟨h.ptr,h.mt.of_eq (fun k kl hk=>e k (keyOk_of ⟨kl,hk⟩)),h.ge,h.geb,h.ne⟩
end Go.Proofs.YtjekalilfhnpmaaGreatDoor
