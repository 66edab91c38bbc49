/- Common ground of this seat: the program's closed facts, what the listed error variables give, small words on worlds. errors.Is, errors.As at *api.Fault, plain.Code: what they say of nil, of an error of package api, of a Fault round one. errors.As at *api.Fault: Go's own text is walked, reflectlite by the model's entries. plain.Code: an error's number and place; what a law's 'coded' and 'faulted' say. Texts of bytes; the document's Byte. Package stamp and what the references say of stamps: each function walked once. A tree of moves: what all moves make, one behind the other; no node lies in its -/
import Derived.Test.YtjekalilfhnpmaaGreatDoorProg
import Derived.KernelRfl
import Derived.JoinedTies
import Derived.LaidByTextLater
import Derived.LaidOnce
import GoSem.PinnedTables
import GoSem.Claim
import GoSem.ClaimJoined
import GoSem.ClaimMapViews
import GoSem.ClaimSeven
import Derived.WalkKit
import Derived.WalkSpells
import Derived.WalkLawsBesides
import Derived.ProofKit
import Derived.OpenShut
import Derived.ChangeOld
import Derived.Below
import Derived.LaidMore
import Derived.LaidSub
import Derived.Stop.Joined
import Derived.Stop.LaidErr
import Derived.SevenTiedAt
import Derived.Lib.SmallJoins
import Derived.Lib.Hide
import Derived.Deep.RegionWith
import Derived.Deep.RegionHeld3
import Derived.Deep.QuietTactic
import Derived.BigQuiet
import Derived.Deep.DeepMust
import Derived.Deep.DeepFit
import Derived.Deep.LoopGhost
import Derived.Deep.DeepCutAuto
import Derived.Handy
import Derived.LaidEql
import Derived.Stop.Asserts
import Derived.RowKitTokens
import Derived.Laws.AppendOwn
import Derived.Lib.AtoiAll
import Derived.Lib.ItoaNum
import Derived.Lib.Split
import Derived.Maps.OwnSet
import Derived.Maps.Ext
import Derived.RegionTactic
import Derived.ChangeAlike
import Derived.BigRegion
import Derived.Test.YtjekalilfhnpmaaGreatDoorCards
import Derived.Test.YtjekalilfhnpmaaGreatDoorTie
import Derived.LaidHandle
namespace Go.Proofs.YtjekalilfhnpmaaGreatDoor
open Go Go.ChangeShapes Go.WideShapes Go.ChangeAt Go.RowKit
set_option linter.unusedVariables false
set_option linter.unusedSimpArgs false
theorem own:ownKnob Tryz.prog.godebug=none:=by kernel_rfl
theorem errType:∀ u,Tryz.prog.typeName? 3 u=some "*errors.errorString"→u=364:=
 typeName_ptr_named (nm:= "errors.errorString") (by kernel_rfl) (by kernel_rfl) (by decide)
abbrev errV (a:Addr):Value:=.iface 364 (.pointer (some a))
structure ErrAt (w:World) (g:Nat) (txt:List UInt8) (a:Addr):Prop where
 var:w.cell? ⟨g,0,none⟩=some (.iface 364 (.pointer (some a)))
 cell:∃ s:ByteArray,w.cell? a=some (.string s)∧s.data.toList=txt
 blk:∃ c t,w.heap[a.block]?=some (.cells c t (0,0))
theorem ErrAt.lt {w:World} {g:Nat} {txt:List UInt8} {a:Addr} (h:ErrAt w g txt a):g < w.heap.size:=World.block_lt_of_cell? w _ h.var
theorem ErrAt.lta {w:World} {g:Nat} {txt:List UInt8} {a:Addr} (h:ErrAt w g txt a):a.block < w.heap.size:=by
 obtain ⟨s,hs,_⟩:=h.cell
 exact World.block_lt_of_cell? w _ hs
theorem ErrAt.frame {w w':World} {g:Nat} {txt:List UInt8} {a:Addr} (h:ErrAt w g txt a) (hb:∀ k,k < w.heap.size→(k=g∨k=a.block)→w'.heap[k]?=w.heap[k]?):ErrAt w' g txt a:=
 ⟨(World.cell?_of_block (w:=w) (hb g h.lt (.inl rfl))).trans h.var,
  by obtain ⟨s,hs,e⟩:=h.cell;exact ⟨s,(World.cell?_of_block (w:=w) (hb _ h.lta (.inr rfl))).trans hs,e⟩,
  by obtain ⟨c,t,hc⟩:=h.blk;exact ⟨c,t,(hb _ h.lta (.inr rfl)).trans hc⟩⟩
theorem ErrAt.below {w w':World} {g:Nat} {txt:List UInt8} {a:Addr} (h:ErrAt w g txt a) (hb:Below w.heap.size w w'):ErrAt w' g txt a:=
 h.frame fun k hk _=>hb.block k hk
theorem ErrAt.alloc {w:World} {g:Nat} {txt:List UInt8} {a:Addr} (h:ErrAt w g txt a) (o:Obj):ErrAt (w.alloc o) g txt a:=
 h.below ((Below.refl _ _).alloc (Nat.le_refl _) _)
theorem ErrAt.ne {w:World} {g g':Nat} {txt txt':List UInt8} {a a':Addr} (h:ErrAt w g txt a) (h':ErrAt w g' txt' a') (hne:txt≠txt'):a≠a':=by
 rintro rfl
 obtain ⟨s,hs,rfl⟩:=h.cell
 obtain ⟨s',hs',rfl⟩:=h'.cell
 rw [hs] at hs'
 cases hs'
 exact hne rfl
def errG:Nat→Nat
 | 1=>4
 | 2=>1
 | 3=>5
 | 4=>6
 | 5=>7
 | 6=>2
 | 7=>3
 | 8=>0
 | 9=>8
 | 10=>9
 | 11=>10
 | 12=>11
 | _=>0
def errT:Nat→List UInt8
 | 1=>[99,111,110,99,111,114,100,97,116,58,32,116,101,120,116]
 | 2=>[99,111,110,99,111,114,100,97,116,58,32,98,111,117,110,100]
 | 3=>[99,111,110,99,111,114,100,97,116,58,32,115,104,97,112,101]
 | 4=>[99,111,110,99,111,114,100,97,116,58,32,110,97,109,101]
 | 5=>[99,111,110,99,111,114,100,97,116,58,32,107,105,110,100]
 | 6=>[99,111,110,99,111,114,100,97,116,58,32,110,111,110,101]
 | 7=>[99,111,110,99,111,114,100,97,116,58,32,101,120,105,115,116]
 | 8=>[99,111,110,99,111,114,100,97,116,58,32,102,117,108,108]
 | 9=>[99,111,110,99,111,114,100,97,116,58,32,103,97,112]
 | 10=>[99,111,110,99,111,114,100,97,116,58,32,99,121,99,108,101]
 | 11=>[99,111,110,99,111,114,100,97,116,58,32,111,102,102]
 | 12=>[99,111,110,99,111,114,100,97,116,58,32,115,117,109]
 | _=>[]
def Errs (a:Nat→Addr) (S:List Nat) (w:World):Prop:=∀ k∈S,ErrAt w (errG k) (errT k) (a k)
theorem Errs.sub {a:Nat→Addr} {S S':List Nat} {w:World} (h:Errs a S w) (hs:∀ k∈S',k∈S):Errs a S' w:=fun k hk=>h k (hs k hk)
theorem Errs.below {a:Nat→Addr} {S:List Nat} {w w':World} (h:Errs a S w) (hb:Below w.heap.size w w'):Errs a S w':=fun k hk=>(h k hk).below hb
theorem Errs.alloc {a:Nat→Addr} {S:List Nat} {w:World} (h:Errs a S w) (o:Obj):Errs a S (w.alloc o):=fun k hk=>(h k hk).alloc o
theorem errs_of {S:List Nat} {w:World} (h:∀ k∈S,∃ a,ErrAt w (errG k) (errT k) a):∃ a,Errs a S w:=by
 classical
 refine ⟨fun k=>if hk:k∈S then (h k hk).choose else ⟨0,0,none⟩,fun k hk=>?_⟩
 simp only [hk,dif_pos]
 exact (h k hk).choose_spec
theorem laid_sentinel' {P:Program} {n nm:String} {text:List UInt8} {r:List (String×DataW Unit)} {W:World} {g:Nat} {ti tp te ts:TypeId} {ms:Array (String×TypeId)} {f:Field}
  (h:laidMet P ((n,.iface nm (.ptr (.agg [.lit (.string text)]))) :: r) W)
  (hg:P.globalNamed n=some g) (ht:(P.globals[g]?).map (·.type)=some ti) (hi:P.underlying ti=some (.interface ms)) (hrow:∀ u,P.typeName? 3 u=some nm→u=tp)
  (hp:P.underlying tp=some (.pointer te)) (he:P.underlying te=some (.struct #[f])) (hft:f.type=ts) (hfo:f.offset=0) (hs:P.underlying ts=some .string) (hc:P.cellsOf te=1) (hcs:P.cellsOf ts=1) :
  ∃ (a:Addr) (s:ByteArray),W.var? P n=some #[.iface tp (.pointer (some a))]∧W.cell? a=some (.string s)∧s.data.toList=text∧∃ c t,W.heap[a.block]?=some (.cells c t (0,0)):=by
 obtain ⟨ps,⟨g0,t0,cs0,f0,p0,q0,hg0,ht0,hv0,hd0,_,e0⟩,_,hrows⟩:=h
 obtain rfl:=Option.some.inj (hg.symm.trans hg0)
 obtain rfl:=Option.some.inj (ht.symm.trans ht0)
 subst e0
 obtain ⟨l0⟩:=cs0
 have ok0:∀ u v,l0=[.iface u v]→Value.okWide P W .any 0 u v:=fun u v e=>by
  subst e
  exact (hrows g 0 (by simp [MemPlace.row])).2 u v (by simpa using World.var?_cell hg0 hv0 0)
 obtain ⟨a0,s0,rfl,hc0,hs0,hz0,hp0⟩:=errorString_of_trod hi hrow hp he hft hfo hs hc hcs hd0 ok0
 refine ⟨a0,s0,hv0,hc0,hs0,(hrows a0.block a0.off ?_).1⟩
 subst hp0
 simp [MemPlace.row]
theorem errAt_of_laid {W:World} {n:String} {text:List UInt8} {g:Nat} {l:List (String×DataW Unit)} (h:laidMetH Tryz.prog l W)
  (hl:(l.filter fun x=>x.1 == n)=[(n,.iface "*errors.errorString" (.ptr (.agg [.lit (.string text)])))])
  (hg:Tryz.prog.globalNamed n=some g) (ht:(Tryz.prog.globals[g]?).map (·.type)=some 25):∃ a,ErrAt W g text a:=by
 have h1:=laidMetH.filter (fun x=>x.1 == n) h
 rw [hl] at h1
 have h2:laidMet Tryz.prog [(n,.iface "*errors.errorString" (.ptr (.agg [.lit (.string text)])))] W:=(laidMetH_iff.1 h1).1
 obtain ⟨a,s,hv,hc,hs,hb⟩:=laid_sentinel' (g:=g) (tp:=364) (te:=382) (ts:=9) h2 hg ht Tryz.underlying25 errType Tryz.underlying364 Tryz.underlying382 rfl rfl Tryz.underlying9 (by kernel_rfl) (by kernel_rfl)
 refine ⟨a,⟨?_,⟨s,hc,hs⟩,hb⟩⟩
 simpa using World.var?_cell hg hv 0
end Go.Proofs.YtjekalilfhnpmaaGreatDoor
namespace Go.Proofs.YtjekalilfhnpmaaGreatDoor
open Go Go.RowKit Go.Extern.Stop Go.Stop Go.Extern
set_option linter.unusedVariables false
set_option linter.unusedSimpArgs false
set_option maxHeartbeats 1000000
abbrev faultV (p:Addr):Value:=.iface 191 (.pointer (some p))
set_option maxHeartbeats 4000000
def TypeVar (w:World):Prop:=w.cell? ⟨12,0,none⟩=some (.iface 329 (.agg #[.pointer (some ⟨19,25,none⟩)]))
abbrev allErrs:List Nat:=[1,2,3,4,5,6,7,8,9,10,11,12]
theorem TypeVar.below {w w':World} (h:TypeVar w) (hb:Below w.heap.size w w'):TypeVar w':=(hb.cell (World.block_lt_of_cell? w _ h)).trans h
theorem TypeVar.alloc {w:World} (h:TypeVar w) (o:Obj):TypeVar (w.alloc o):=TypeVar.below h ((Below.refl _ _).alloc (Nat.le_refl _) _)
def ErrVal (a:Nat→Addr) (w:World) (v:Value) (k:Nat) (pl:Int):Prop:=
 (v=.nilIface∧k=0∧pl = -1)∨(1≤k∧k≤12∧v=errV (a k)∧pl = -1)∨
 (1≤k∧k≤12∧∃ pb po,v=faultV ⟨pb,po,none⟩∧w.cell? ⟨pb,po,none⟩=some (.int .i64 pl)∧w.cell? ⟨pb,po+1,none⟩=some (errV (a k)))
theorem ErrVal.nil {a:Nat→Addr} {w:World}:ErrVal a w .nilIface 0 (-1):=.inl ⟨rfl,rfl,rfl⟩
theorem ErrVal.bare {a:Nat→Addr} {w:World} (k:Nat) (h1:1≤k) (h2:k≤12):ErrVal a w (errV (a k)) k (-1):=.inr (.inl ⟨h1,h2,rfl,rfl⟩)
theorem ErrVal.below {a:Nat→Addr} {w w':World} {v:Value} {k:Nat} {pl:Int} (h:ErrVal a w v k pl) (hb:Below w.heap.size w w'):ErrVal a w' v k pl:=by
 rcases h with h | h | ⟨h1,h2,pb,po,rfl,p0,p1⟩
 ·exact .inl h
 ·exact .inr (.inl h)
 ·have hl:pb < w.heap.size:=World.block_lt_of_cell? w _ p0
  exact .inr (.inr ⟨h1,h2,pb,po,rfl,(hb.cell hl).trans p0,(hb.cell hl).trans p1⟩)
end Go.Proofs.YtjekalilfhnpmaaGreatDoor
namespace Go.Proofs.YtjekalilfhnpmaaGreatDoor
open Go Go.RowKit
set_option linter.unusedVariables false
set_option linter.unusedSimpArgs false
set_option maxHeartbeats 1000000
set_option maxRecDepth 100000
def S (l:List UInt8):ByteArray:=⟨l.toArray⟩
theorem S_of (s:ByteArray):S s.data.toList=s:=by
 apply ByteArray.ext
 simp [S]
theorem S_size (l:List UInt8):(S l).size=l.length:=by simp [S,ByteArray.size]
theorem ret_bool {a b:Bool} (h:a=b):Ending.returned (.bool a)=.returned (.bool b):=by rw [h]
theorem dec_len (n:Nat):∀ (u:Nat),1≤n→u < 10 ^ n→(Lib.decDigits u).length≤n:=by
 induction n with
 | zero=>intro u h;omega
 | succ n ih=>
  intro u _ h
  by_cases hu:u < 10
  ·rw [Lib.decDigits_one hu];simp
  ·rw [Lib.decDigits,dif_neg hu]
   have h1:1≤n:=by
    rcases Nat.eq_zero_or_pos n with rfl | h0
    ·simp at h;omega
    ·exact h0
   have:=ih (u / 10) h1 (by rw [Nat.pow_succ] at h;omega)
   simp
   omega
theorem itoa_len20 (n:Int) (h1:-9223372036854775808≤n) (h2:n≤9223372036854775807):(S (Lib.itoa n)).size≤21:=by
 rw [S_size]
 unfold Lib.itoa
 split
 ·have:=dec_len 20 n.natAbs (by omega) (by omega)
  simp;omega
 ·have:=dec_len 20 n.toNat (by omega) (by omega)
  omega
def StampOk (t b:Int):Prop:=1≤t∧t≤1073741824∧0≤b∧b < 4
theorem stampOk_not {t b:Int} (h:¬ StampOk t b):t < 1∨(1≤t∧1073741824 < t)∨(1≤t∧t≤1073741824∧b < 0)∨(1≤t∧t≤1073741824∧0≤b∧4≤b):=by
 unfold StampOk at h;omega
abbrev stampV (t b:Int):Value:=.agg #[.int .i64 t,.int .i64 b]
theorem less_any (t b t' b':Int) (w:World) :
  Calls Tryz.prog 119 #[stampV t b,stampV t' b'] w fun e w'=>e=.returned (.bool (decide (t < t'∨t=t'∧b < b')))∧Below w.heap.size w w':=by
 by_cases h1:t=t'
 ·subst h1
  go_enter Tryz.func119,Tryz.ntmps119
  go_wp2
  go_ret
  exact ⟨by simp,by go_grown⟩
 ·go_enter Tryz.func119,Tryz.ntmps119
  go_wp2
  go_ret
  exact ⟨by simp [h1],by go_grown⟩
theorem id_ok (t b:Int) (w:World) (h:StampOk t b) :
  Calls Tryz.prog 151 #[stampV t b] w fun e w'=>e=.returned (.tuple #[.int .i64 (t*4+b),.nilIface])∧Below w.heap.size w w':=by
 obtain ⟨h1,h2,h3,h4⟩:=h
 go_enter Tryz.func151,Tryz.ntmps151
 go_wp2
 go_ret2
 exact ⟨rfl,by go_grown⟩
theorem id_bad (t b:Int) (w:World) (a:Addr) (txt:List UInt8) (hE:ErrAt w 1 txt a) (h:¬ StampOk t b) :
  Calls Tryz.prog 151 #[stampV t b] w fun e w'=>e=.returned (.tuple #[.int .i64 0,errV a])∧Below w.heap.size w w':=by
 have hlt:=hE.lt
 have hlt1:1 < w.heap.size+1:=by omega
 have hc:=hE.var
 clear hE
 unfold errV
 rcases stampOk_not h with h1 | ⟨h1,h2⟩ | ⟨h1,h2,h3⟩ | ⟨h1,h2,h3,h4⟩
 all_goals
  clear h
  go_enter Tryz.func151,Tryz.ntmps151
  go_wp2
  go_ret2
  exact ⟨rfl,by go_grown⟩
end Go.Proofs.YtjekalilfhnpmaaGreatDoor
namespace Go.Proofs.YtjekalilfhnpmaaGreatDoor
namespace Tree
variable {M:Type}
abbrev Pl (M:Type):=Int→Option (Int×M)
inductive Ins (p:Pl M):Int→Int→Prop
 | here {x:Int} {v:Int×M}:p x=some v→Ins p x v.1
 | up {x o:Int} {v:Int×M}:p x=some v→Ins p v.1 o→Ins p x o
structure Mv (M:Type) where
 node:Int
 into:Int
 name:M
def put (p:Pl M) (x:Int) (v:Option (Int×M)):Pl M:=fun y=>if y=x then v else p y
open Classical in
noncomputable def goes (p:Pl M) (m:Mv M):Bool:=decide (m.node≠m.into∧¬ Ins p m.into m.node)
noncomputable def move (p:Pl M) (m:Mv M):Pl M:=if goes p m then put p m.node (some (m.into,m.name)) else p
def Deep (p:Pl M) (d:Int→Nat):Prop:=∀ x v,p x=some v→d v.1 < d x
def Acyc (p:Pl M):Prop:=∃ d,Deep p d
theorem Ins.deep {p:Pl M} {d:Int→Nat} (hd:Deep p d) {x o:Int} (h:Ins p x o):d o < d x:=by
 induction h with
 | here h=>exact hd _ _ h
 | up h _ ih=>exact Nat.lt_trans ih (hd _ _ h)
theorem Acyc.irr {p:Pl M} (h:Acyc p) (x:Int):¬ Ins p x x:=fun hi=>by
 obtain ⟨d,hd⟩:=h
 exact Nat.lt_irrefl _ (hi.deep hd)
theorem Ins.none {p:Pl M} {x o:Int} (h:p x=none):¬ Ins p x o:=by
 intro hi
 cases hi with
 | here h'=>rw [h] at h';cases h'
 | up h' _=>rw [h] at h';cases h'
theorem Ins.some {p:Pl M} {x o:Int} {v:Int×M} (h:p x=some v):Ins p x o↔v.1=o∨Ins p v.1 o:=by
 constructor
 ·intro hi
  cases hi with
  | here h'=>rw [h] at h';cases h';exact .inl rfl
  | up h' hi=>rw [h] at h';cases h';exact .inr hi
 ·rintro (rfl | hi)
  ·exact .here h
  ·exact .up h hi
theorem Acyc.empty:Acyc (fun _=>none:Pl M):=⟨fun _=>0,fun _ _ h=>by cases h⟩
open Classical in
theorem Acyc.move {p:Pl M} (h:Acyc p) (m:Mv M):Acyc (move p m):=by
 unfold Tree.move
 by_cases hg:goes p m=true
 ·rw [if_pos hg]
  unfold goes at hg
  simp only [decide_eq_true_eq] at hg
  obtain ⟨d,hd⟩:=h
  refine ⟨fun x=>if x=m.node∨Ins p x m.node then d x+d m.into+1 else d x,?_⟩
  intro x v hv
  unfold put at hv
  by_cases hx:x=m.node
  ·rw [if_pos hx] at hv
   cases hv
   simp only
   rw [if_neg (by
    rintro (h1 | h1)
    ·exact hg.1 h1.symm
    ·exact hg.2 h1),if_pos (.inl hx)]
   omega
  ·rw [if_neg hx] at hv
   have hlt:=hd x v hv
   simp only
   by_cases h1:v.1=m.node∨Ins p v.1 m.node
   ·rw [if_pos h1,if_pos (.inr ((Ins.some hv).2 h1))]
    omega
   ·rw [if_neg h1]
    split <;> omega
 ·rw [if_neg hg]
  exact h
noncomputable def replay:Pl M→List (Mv M)→Pl M
 | p,[]=>p
 | p,m :: l=>replay (move p m) l
theorem replay_append (p:Pl M) (a b:List (Mv M)):replay p (a++b)=replay (replay p a) b:=by
 induction a generalizing p with
 | nil=>rfl
 | cons m a ih=>exact ih _
theorem Acyc.replay {p:Pl M} (h:Acyc p) (l:List (Mv M)):Acyc (replay p l):=by
 induction l generalizing p with
 | nil=>exact h
 | cons m l ih=>exact ih (h.move m)
end Tree
end Go.Proofs.YtjekalilfhnpmaaGreatDoor
namespace Go.Proofs.YtjekalilfhnpmaaGreatDoor
open Go Go.RowKit
set_option linter.unusedVariables false
set_option linter.unusedSimpArgs false
structure Fr (X:Nat→Prop) (w w':World):Prop where
 os:w'.os=w.os
 tape:w'.tape=w.tape
 output:w'.output=w.output
 size:w.heap.size≤w'.heap.size
 block:∀ k,k < w.heap.size→¬ X k→w'.heap[k]?=w.heap[k]?
theorem Fr.of_below {X:Nat→Prop} {w w':World} (h:Below w.heap.size w w'):Fr X w w':=⟨h.os,h.tape,h.output,h.size,fun k hk _=>h.block k hk⟩
theorem Fr.trans {X:Nat→Prop} {w w' w'':World} (h:Fr X w w') (h':Fr X w' w''):Fr X w w'':=
 ⟨h'.os.trans h.os,h'.tape.trans h.tape,h'.output.trans h.output,Nat.le_trans h.size h'.size,fun k hk hx=>(h'.block k (Nat.lt_of_lt_of_le hk h.size) hx).trans (h.block k hk hx)⟩
theorem Fr.mono {X Y:Nat→Prop} {w w':World} (h:Fr X w w') (hs:∀ k,X k→Y k):Fr Y w w':=⟨h.os,h.tape,h.output,h.size,fun k hk hx=>h.block k hk (fun hx'=>hx (hs k hx'))⟩
theorem Fr.below {X:Nat→Prop} {base:Nat} {w w':World} (h:Fr X w w') (hb:base≤w.heap.size) (hx:∀ k,X k→base≤k):Below base w w':=
 ⟨h.os,h.tape,h.output,h.size,fun k hk=>h.block k (by omega) (fun hk'=>by have:=hx k hk';omega)⟩
theorem Fr.cell {X:Nat→Prop} {w w':World} (h:Fr X w w') {p:Addr} (hp:p.block < w.heap.size) (hx:¬ X p.block):w'.cell? p=w.cell? p:=World.cell?_of_block (h.block _ hp hx)
theorem Fr.frozen {X:Nat→Prop} {w w':World} (h:Fr X w w') {p:Addr} (hp:p.block < w.heap.size) (hx:¬ X p.block):w'.frozen? p=w.frozen? p:=World.frozen?_of_block (h.block _ hp hx)
def Own (LB:Nat) (v:Value) (k:Nat):Prop:=k=LB∨v.ownBlock=some k
end Go.Proofs.YtjekalilfhnpmaaGreatDoor
namespace Go.Proofs.YtjekalilfhnpmaaGreatDoor
open Go Go.RowKit Go.Maps
set_option linter.unusedVariables false
set_option linter.unusedSimpArgs false
set_option maxRecDepth 100000
def heldR:Value→Option (DataW Value×List MemPlace):=fun v=>some (.held v,[])
def mlook (D:DataW Value) (l:Lit):Option Value:=if Maps.has D l=true then (match D.atKey l .nil with | .held v=>some v | _=>none) else none
theorem atKey_has {D:DataW Value} {l:Lit} (h:Maps.has D l=true) (z z':DataW Value):D.atKey l z=D.atKey l z':=by
 cases D with
 | map es=>
  simp only [Maps.has,List.any_eq_true] at h
  simp only [DataW.atKey]
  cases hf:es.find? (fun p=>p.1.sameKey l) with
  | some p=>rfl
  | none=>
   obtain ⟨p,hp,hs⟩:=h
   have:=List.find?_eq_none.1 hf p hp
   rw [hs] at this
   exact absurd rfl this
 | _=>cases h
open Classical in
noncomputable def upd (f:Lit→Option Value) (kl:Lit) (v:Option Value):Lit→Option Value:=fun l=>if l=kl then v else f l
theorem upd_same (f:Lit→Option Value) (kl:Lit) (v:Option Value):upd f kl v kl=v:=by unfold upd;rw [if_pos rfl]
theorem upd_other (f:Lit→Option Value) {kl l:Lit} (v:Option Value) (h:l≠kl):upd f kl v l=f l:=by unfold upd;rw [if_neg h]
def MapV (P:Program) (kt:TypeId) (b n:Nat) (f:Lit→Option Value) (w:World):Prop:=∃ D:DataW Value,w.ownsMap P kt heldR b n D∧∀ l,f l=mlook D l
section
variable {P:Program} {kt:TypeId} {b n:Nat} {f:Lit→Option Value} {w:World}
theorem MapV.made (w:World) (P:Program) (kt:TypeId):MapV P kt w.heap.size 0 (fun _=>none) (w.alloc (.map #[] 0)):=
 ⟨_,World.ownsMap_made w P kt heldR,fun l=>by simp [mlook,Maps.has]⟩
theorem MapV.lt (h:MapV P kt b n f w):b < w.heap.size:=by obtain ⟨D,h,_⟩:=h;exact h.lt
theorem MapV.mono (h:MapV P kt b n f w) {n':Nat} (hn:n≤n'):MapV P kt b n' f w:=by obtain ⟨D,h,e⟩:=h;exact ⟨D,h.mono hn,e⟩
theorem MapV.block {w':World} (h:MapV P kt b n f w) (hb:w'.heap[b]?=w.heap[b]?):MapV P kt b n f w':=by
 obtain ⟨D,⟨es,clock,h1,h2⟩,e⟩:=h
 exact ⟨D,⟨es,clock,hb.trans h1,h2⟩,e⟩
theorem MapV.below {w':World} (h:MapV P kt b n f w) (hb:Below w.heap.size w w'):MapV P kt b n f w':=h.block (hb.block b h.lt)
theorem MapV.fr {X:Nat→Prop} {w':World} (h:MapV P kt b n f w) (hF:Fr X w w') (hx:¬ X b):MapV P kt b n f w':=h.block (hF.block b h.lt hx)
theorem MapV.ext {g:Lit→Option Value} (h:MapV P kt b n f w) (e:∀ l,g l=f l):MapV P kt b n g w:=by obtain ⟨D,h,e'⟩:=h;exact ⟨D,h,fun l=>(e l).trans (e' l)⟩
theorem MapV.look (h:MapV P kt b n f w) (K:Keyed P kt) {t e:TypeId} (ht:P.underlying t=some (.map kt e)) {z:Value} (hz:(zeroValue e).run P w=.ok z w) {key:Value} {kl:Lit} (hkey:keyOf P kt key=some kl) :
  (Instr.lookup t (.map (some b)) key true).run P w=.ok (.tuple #[(f kl).getD z,.bool (f kl).isSome]) w∧(Instr.lookup t (.map (some b)) key false).run P w=.ok ((f kl).getD z) w:=by
 obtain ⟨D,h,ef⟩:=h
 obtain ⟨v,ps,hr,hv⟩:=h.look_ok K ht hz (zd:=.held z) (zp:=[]) rfl hkey
 obtain ⟨v2,ps2,hr2,hv2⟩:=h.lookup K ht hz (zd:=.held z) (zp:=[]) rfl hkey
 have e1:DataW.held v=D.atKey kl (.held z):=congrArg Prod.fst (Option.some.inj hv)
 have e2:DataW.held v2=D.atKey kl (.held z):=congrArg Prod.fst (Option.some.inj hv2)
 have e3:v2=v:=by have:=e2.trans e1.symm;cases this;rfl
 subst e3
 rw [hr,hr2,ef kl,mlook]
 cases hh:Maps.has D kl with
 | true=>rw [if_pos rfl,atKey_has hh .nil (.held z),←e1];exact ⟨rfl,rfl⟩
 | false=>
  rw [Maps.atKey_of_not_has hh] at e1
  cases e1
  exact ⟨rfl,rfl⟩
theorem MapV.store (h:MapV P kt b n f w) (K:Keyed P kt) {t e:TypeId} (ht:P.underlying t=some (.map kt e)) (hn:n < maxLen) {key val:Value} {kl:Lit} (hkey:keyOf P kt key=some kl) :
  ∃ w',(Instr.mapUpdate t (.map (some b)) key val).run P w=.ok () w'∧MapV P kt b (n+1) (upd f kl (some val)) w'∧w.grownBy w' (some b):=by
 obtain ⟨D,h,ef⟩:=h
 have hm:=h.isMap
 have hk:=K.key hkey
 obtain ⟨w',hr,h',hg⟩:=h.update K ht hn (val:=val) (d:=.held val) (ps:=[]) hkey rfl
 refine ⟨w',hr,⟨_,h',fun l=>?_⟩,hg⟩
 by_cases hl:l=kl
 ·subst hl
  rw [upd_same,mlook,Maps.has_put_same hm hk,if_pos rfl,Maps.atKey_put_same hm hk]
 ·rw [upd_other f _ hl,ef l,mlook,mlook,Maps.has_put_other hl,Maps.atKey_put_other hl]
theorem MapV.drop (h:MapV P kt b n f w) (K:Keyed P kt) {t e:TypeId} (ht:P.underlying t=some (.map kt e)) {key:Value} {kl:Lit} (hkey:keyOf P kt key=some kl) (ty:TypeId) :
  ∃ w',(Builtin.delete_ #[t,kt] ty #[.map (some b),key]).run P w=.ok (.tuple #[]) w'∧MapV P kt b n (upd f kl none) w'∧w.grownBy w' (some b):=by
 obtain ⟨D,h,ef⟩:=h
 obtain ⟨w',hr,h',hg⟩:=h.drop K ht hkey ty
 refine ⟨w',hr,⟨_,h',fun l=>?_⟩,hg.grown⟩
 by_cases hl:l=kl
 ·subst hl
  rw [upd_same,mlook,Maps.has_del_same]
  rfl
 ·rw [upd_other f _ hl,ef l,mlook,mlook,Maps.has_del_other hl,Maps.atKey_del_other hl]
end
theorem wpList_look_ok {P:Program} (w:World) {ops:Array Oper} {rest:List Oper} {o:Oper} {a:Act} {Q:Exit→Act→World→Prop}
  (hg:o.guard=none) (m x:Operand) (t:TypeId) (hop:o.op=Op.lookup t m x true)
  (k e:TypeId) (K:Keyed P k) (ht:P.underlying t=some (.map k e)) (z:Value) (hz:(zeroValue e).run P w=.ok z w) (b n:Nat) (f:Lit→Option Value)
  (hm:a.eval m=.map (some b)) (hown:MapV P k b n f w) (key:Value) (kl:Lit) (hx:a.eval x=key) (hkey:keyOf P k key=some kl) (r:Option Value) (hr:f kl=r)
  (hK:wpList P ops Q rest (a.put o.dst (.tuple #[r.getD z,.bool r.isSome])) w) :
  wpList P ops Q (o :: rest) a w:=by
 refine wpList_plain hg fun K' hK'=>?_
 have hrun:=(hown.look K ht hz hkey).1
 rw [hr] at hrun
 unfold Oper.wp
 simp [execOp,hop,hm,hx,hrun,Result.andThen]
 exact hK' _ _ hK
theorem wpList_look {P:Program} (w:World) {ops:Array Oper} {rest:List Oper} {o:Oper} {a:Act} {Q:Exit→Act→World→Prop}
  (hg:o.guard=none) (m x:Operand) (t:TypeId) (hop:o.op=Op.lookup t m x false)
  (k e:TypeId) (K:Keyed P k) (ht:P.underlying t=some (.map k e)) (z:Value) (hz:(zeroValue e).run P w=.ok z w) (b n:Nat) (f:Lit→Option Value)
  (hm:a.eval m=.map (some b)) (hown:MapV P k b n f w) (key:Value) (kl:Lit) (hx:a.eval x=key) (hkey:keyOf P k key=some kl) (r:Option Value) (hr:f kl=r)
  (hK:wpList P ops Q rest (a.put o.dst (r.getD z)) w) :
  wpList P ops Q (o :: rest) a w:=by
 refine wpList_plain hg fun K' hK'=>?_
 have hrun:=(hown.look K ht hz hkey).2
 rw [hr] at hrun
 unfold Oper.wp
 simp [execOp,hop,hm,hx,hrun,Result.andThen]
 exact hK' _ _ hK
theorem wpList_put {P:Program} (w:World) {ops:Array Oper} {rest:List Oper} {o:Oper} {a:Act} {Q:Exit→Act→World→Prop}
  (hg:o.guard=none) (m x v:Operand) (t:TypeId) (hop:o.op=Op.mapUpdate t m x v)
  (k e:TypeId) (K:Keyed P k) (ht:P.underlying t=some (.map k e)) (b n:Nat) (f:Lit→Option Value)
  (hm:a.eval m=.map (some b)) (hown:MapV P k b n f w) (hn:n < maxLen) (key val:Value) (kl:Lit) (hx:a.eval x=key) (hv:a.eval v=val) (hkey:keyOf P k key=some kl)
  (hK:∀ w',MapV P k b (n+1) (upd f kl (some val)) w'→w.grownBy w' (some b)→wpList P ops Q rest (a.put o.dst undef) w') :
  wpList P ops Q (o :: rest) a w:=by
 refine wpList_plain hg fun K' hK'=>?_
 obtain ⟨w',hrun,r1,r2⟩:=hown.store K ht hn (val:=val) hkey
 unfold Oper.wp
 simp [execOp,hop,hm,hx,hv,hrun,Result.andThen]
 exact hK' _ _ (hK w' r1 r2)
theorem wpList_del {P:Program} (w:World) {ops:Array Oper} {rest:List Oper} {o:Oper} {a:Act} {Q:Exit→Act→World→Prop}
  (hg:o.guard=none) (m x:Operand) (t k:TypeId) (hop:o.op=Op.call { callee:=Callee.builtin Builtin.delete,args:=#[m,x],argTypes:=#[t,k] })
  (e:TypeId) (K:Keyed P k) (ht:P.underlying t=some (.map k e)) (b n:Nat) (f:Lit→Option Value)
  (hm:a.eval m=.map (some b)) (hown:MapV P k b n f w) (key:Value) (kl:Lit) (hx:a.eval x=key) (hkey:keyOf P k key=some kl)
  (hK:∀ w',MapV P k b n (upd f kl none) w'→w.grownBy w' (some b)→wpList P ops Q rest (a.put o.dst (.tuple #[])) w') :
  wpList P ops Q (o :: rest) a w:=by
 refine wpList_plain hg fun K' hK'=>?_
 obtain ⟨w',hrun,r1,r2⟩:=hown.drop K ht hkey o.type
 unfold Oper.wp
 simp [execOp,hop,resolve,invoke,builtin,hm,hx,hrun,Result.andThen]
 exact hK' _ _ (hK w' r1 r2)
theorem fr_of_grown {w w':World} {b:Nat} {X:Nat→Prop} (h:w.grownBy w' (some b)) (hx:X b):Fr X w w':=
 ⟨h.os,h.tape,h.output,h.size,fun k hk hn=>h.block k hk (fun e=>hn (by cases e;exact hx))⟩
end Go.Proofs.YtjekalilfhnpmaaGreatDoor
namespace Go.Proofs.YtjekalilfhnpmaaGreatDoor
open Go Go.RowKit
set_option linter.unusedVariables false
set_option linter.unusedSimpArgs false
set_option maxHeartbeats 1000000
set_option maxRecDepth 100000
theorem clockNew_ok (by':Int) (w:World) (h1:0≤by') (h2:by' < 4) :
  Calls Tryz.prog 50 #[.int .i64 by'] w fun e w'=>e=.returned (.tuple #[.pointer (some ⟨w.heap.size,0,none⟩),.nilIface])∧w'=w.alloc (.cells #[.int .i64 0,.int .i64 by'] 182):=by
 go_enter Tryz.func50,Tryz.ntmps50
 go_wp2
 go_ret2
 exact ⟨rfl,rfl⟩
theorem clockNew_bad (by':Int) (w:World) (a:Addr) (hE:ErrAt w 1 (errT 2) a) (h:by' < 0∨4≤by') :
  Calls Tryz.prog 50 #[.int .i64 by'] w fun e w'=>e=.returned (.tuple #[.pointer none,errV a])∧Below w.heap.size w w':=by
 have hc:=hE.var
 clear hE
 by_cases h1:by' < 0
 ·clear h
  go_enter Tryz.func50,Tryz.ntmps50
  go_wp2
  go_quiet (fail)
  go_wp2
  go_ret2
  exact ⟨rfl,⟨rfl,rfl,rfl,Nat.le_refl _,fun _ _=>rfl⟩⟩
 ·have h2:4≤by':=by omega
  clear h
  go_enter Tryz.func50,Tryz.ntmps50
  go_wp2
  go_quiet (fail)
  go_wp2
  go_ret2
  exact ⟨rfl,⟨rfl,rfl,rfl,Nat.le_refl _,fun _ _=>rfl⟩⟩
theorem clockTime_any (B:Nat) (t:Int) (w:World) (h0:w.cell? ⟨B,0,none⟩=some (.int .i64 t)) :
  Calls Tryz.prog 44 #[.pointer (some ⟨B,0,none⟩)] w fun e w'=>e=.returned (.int .i64 t)∧w'=w:=by
 go_enter Tryz.func44,Tryz.ntmps44
 go_wp2
 go_ret
 exact ⟨rfl,rfl⟩
theorem clockHear_ok (B:Nat) (T t b:Int) (w:World) (h0:w.cell? ⟨B,0,none⟩=some (.int .i64 T)) (hf:w.frozen? ⟨B,0,none⟩=false) (h:StampOk t b) :
  Calls Tryz.prog 116 #[.pointer (some ⟨B,0,none⟩),stampV t b] w fun e w'=>e=.returned .nilIface∧Below w.heap.size (w.setCell ⟨B,0,none⟩ (.int .i64 (max T t))) w':=by
 have hB:=World.block_lt_of_cell? w _ h0
 simp only at hB
 obtain ⟨h1,h2,h3,h4⟩:=h
 by_cases hm0:t≤T
 ·have hm:max T t=T:=by omega
  rw [hm]
  clear hm
  go_enter Tryz.func116,Tryz.ntmps116
  go_wp2
  go_region
  go_wp2
  go_ret
  exact ⟨rfl,by go_grown⟩
 ·have hm:max T t=t:=by omega
  rw [hm]
  clear hm
  go_enter Tryz.func116,Tryz.ntmps116
  go_wp2
  go_region
  go_wp2
  go_ret
  exact ⟨rfl,by go_grown⟩
end Go.Proofs.YtjekalilfhnpmaaGreatDoor
namespace Go.Proofs.YtjekalilfhnpmaaGreatDoor
open Go Go.ChangeShapes Go.WideShapes Go.ChangeAt Go.RowKit
set_option linter.unusedVariables false
set_option linter.unusedSimpArgs false
theorem etNamed:Tryz.prog.globalNamed "errors.errorType"=some 12:=by kernel_rfl
theorem rtNamed:(Tryz.prog.cutTypes.find? (·.1 == "internal/reflectlite.rtype")).map (·.2)=some 329:=by kernel_rfl
theorem oneRow:((List.range 394).filter fun t=>Tryz.prog.rowNamed t [101,114,114,111,114])=[25]:=by kernel_rfl
theorem typesSize:Tryz.prog.types.size=394:=by kernel_rfl
theorem typeVar_of_laid {W:World} {l:List (String×DataW Unit)} (h:laidMetH Tryz.prog l W)
  (hl:("errors.errorType",Rows.laid_errors_errorType)∈l):TypeVar W:=by
 have h':=(laidMetH_iff.1 h).2
 obtain ⟨name,u,ty,e1,e2,e3,e4,e5⟩:=h' _ (List.mem_filter.2 ⟨hl,by rfl⟩)
 have en:name=[101,114,114,111,114]:=(Option.some.inj e1).symm
 subst en
 obtain rfl:=Option.some.inj (rtNamed.symm.trans e2)
 have hm:ty∈(List.range 394).filter fun t=>Tryz.prog.rowNamed t [101,114,114,111,114]:=List.mem_filter.2 ⟨List.mem_range.2 (by rw [←typesSize];exact e3),e4⟩
 rw [oneRow] at hm
 obtain rfl:=List.mem_singleton.1 hm
 have hh:typeHandle Tryz.prog 25=.pointer (some ⟨19,25,none⟩):=by kernel_rfl
 rw [hh] at e5
 simpa [TypeVar] using World.var?_cell etNamed e5 0
def errN:Nat→String
 | 1=> "concordat/api.ErrText"
 | 2=> "concordat/api.ErrBound"
 | 3=> "concordat/api.ErrShape"
 | 4=> "concordat/api.ErrName"
 | 5=> "concordat/api.ErrKind"
 | 6=> "concordat/api.ErrNone"
 | 7=> "concordat/api.ErrExist"
 | 8=> "concordat/api.ErrFull"
 | 9=> "concordat/api.ErrGap"
 | 10=> "concordat/api.ErrCycle"
 | 11=> "concordat/api.ErrOff"
 | 12=> "concordat/api.ErrSum"
 | _=> ""
def ErrVarOk (k:Nat):Prop:=Tryz.prog.globalNamed (errN k)=some (errG k)∧(Tryz.prog.globals[errG k]?).map (·.type)=some 25
theorem errVar1:ErrVarOk 1:=⟨by kernel_rfl,by kernel_rfl⟩
theorem errVar2:ErrVarOk 2:=⟨by kernel_rfl,by kernel_rfl⟩
theorem errVar3:ErrVarOk 3:=⟨by kernel_rfl,by kernel_rfl⟩
theorem errVar4:ErrVarOk 4:=⟨by kernel_rfl,by kernel_rfl⟩
theorem errVar5:ErrVarOk 5:=⟨by kernel_rfl,by kernel_rfl⟩
theorem errVar6:ErrVarOk 6:=⟨by kernel_rfl,by kernel_rfl⟩
theorem errVar7:ErrVarOk 7:=⟨by kernel_rfl,by kernel_rfl⟩
theorem errVar8:ErrVarOk 8:=⟨by kernel_rfl,by kernel_rfl⟩
theorem errVar9:ErrVarOk 9:=⟨by kernel_rfl,by kernel_rfl⟩
theorem errVar10:ErrVarOk 10:=⟨by kernel_rfl,by kernel_rfl⟩
theorem errVar11:ErrVarOk 11:=⟨by kernel_rfl,by kernel_rfl⟩
theorem errVar12:ErrVarOk 12:=⟨by kernel_rfl,by kernel_rfl⟩
def ErrLaid (l:List (String×DataW Unit)) (k:Nat):Prop:=
 (l.filter fun x=>x.1 == errN k)=[(errN k,.iface "*errors.errorString" (.ptr (.agg [.lit (.string (errT k))])))]
theorem errs_of_laid {W:World} {l:List (String×DataW Unit)} {S:List Nat} (h:laidMetH Tryz.prog l W) (hv:∀ k∈S,ErrVarOk k∧ErrLaid l k):∃ a,Errs a S W:=
 errs_of fun k hk=>errAt_of_laid (n:=errN k) h (hv k hk).2 (hv k hk).1.1 (hv k hk).1.2
end Go.Proofs.YtjekalilfhnpmaaGreatDoor
