/- What is wanted besides: dec_len20 infoPlR isInside_any itoa_neg itoa_nonneg placeOf_any ret_str sortL_len. -/
import Derived.Shelf.SlSortCmp.KitK
import Derived.BigQuiet
import Derived.Test.YtjekalilfhnpmaaGreatDoorV02
import Derived.Test.YtjekalilfhnpmaaGreatDoorV03
import Derived.Test.YtjekalilfhnpmaaGreatDoorV06
import Derived.Test.YtjekalilfhnpmaaGreatDoorV07
import Derived.Test.YtjekalilfhnpmaaGreatDoorV11
import Derived.Test.YtjekalilfhnpmaaGreatDoorV20
namespace Go.Proofs.YtjekalilfhnpmaaGreatDoor
open Go Go.RowKit
set_option linter.unusedVariables false
set_option linter.unusedSimpArgs false
set_option maxHeartbeats 1000000
set_option maxRecDepth 100000
theorem ret_str {a b:ByteArray} (h:a=b):Ending.returned (.string a)=.returned (.string b):=by rw [h]
theorem dec_len20 (u:Nat) (h:u≤9223372036854775808):(S (Lib.decDigits u)).size≤20:=by
 rw [S_size]
 exact dec_len 20 u (by omega) (by omega)
theorem itoa_nonneg (n:Int) (h:0≤n):Lib.itoa n=Lib.decDigits n.toNat:=by unfold Lib.itoa;rw [if_neg (by omega)]
theorem itoa_neg (n:Int) (h:n < 0):Lib.itoa n=45 :: Lib.decDigits n.natAbs:=by unfold Lib.itoa;rw [if_pos h]
end Go.Proofs.YtjekalilfhnpmaaGreatDoor
namespace Go.Proofs.YtjekalilfhnpmaaGreatDoor
open Go Go.RowKit Go.Shelf Go.Lib Go.Sort
set_option linter.unusedVariables false
set_option linter.unusedSimpArgs false
set_option linter.unusedSectionVars false
set_option maxHeartbeats 1000000
section
variable {T:Type} (E:Enc T) {α:Type} [Inhabited α] (f:α→T)
variable {E f}
end
section
variable {T:Type} [Inhabited T] (lt:T→T→Bool)
open Stb
variable {lt}
theorem sortL_len (hS:SWO lt) (L:List T):(sortL lt L).length=L.length:=(sortL_perm hS L).length_eq
end
end Go.Proofs.YtjekalilfhnpmaaGreatDoor
namespace Go.Proofs.YtjekalilfhnpmaaGreatDoor
open Go Go.RowKit Tree
set_option linter.unusedVariables false
set_option linter.unusedSimpArgs false
theorem RepP.have' {Q:List PlT} {p:PlB} (h:RepP Q p) {i:Nat} {y:PlT} (hy:Q[i]?=some y):p y.nd=some (y.into,y.nm):=(h.is y).1 (List.mem_of_getElem? hy)
theorem RepP.lack {Q:List PlT} {p:PlB} (h:RepP Q p) {x:Int} (hx:∀ y∈Q,y.nd≠x):p x=none:=by
 cases hp:p x with
 | none=>rfl
 | some v=>exact absurd rfl (hx ⟨x,v.1,v.2⟩ ((h.is _).2 (by simpa using hp)))
def rankP (d:Int→Nat) (Q:List PlT) (x:Int):Nat:=Q.countP fun y=>decide (d y.nd≤d x)
theorem rankP_le (d:Int→Nat) (Q:List PlT) (x:Int):rankP d Q x≤Q.length:=List.countP_le_length
theorem rankP_lt {d:Int→Nat} {Q:List PlT} {y:PlT} (hy:y∈Q) (hd:d y.into < d y.nd):rankP d Q y.into < rankP d Q y.nd:=by
 unfold rankP
 induction Q with
 | nil=>simp at hy
 | cons z Q ih=>
  have hm:Q.countP (fun z=>decide (d z.nd≤d y.into))≤Q.countP (fun z=>decide (d z.nd≤d y.nd)):=List.countP_mono_left (fun z _ hz=>by simp at hz ⊢;omega)
  rw [List.countP_cons,List.countP_cons]
  rcases List.mem_cons.1 hy with rfl | hy
  ·simp [show ¬ d y.nd≤d y.into by omega]
   omega
  ·have:=ih hy
   by_cases h1:d z.nd≤d y.into
   ·simp [h1,show d z.nd≤d y.nd by omega]
    exact this
   ·simp [h1]
    omega
end Go.Proofs.YtjekalilfhnpmaaGreatDoor
namespace Go.Proofs.YtjekalilfhnpmaaGreatDoor
open Go Go.RowKit Go.Maps Tree
set_option linter.unusedVariables false
set_option linter.unusedSimpArgs false
set_option maxHeartbeats 4000000
set_option maxRecDepth 100000
theorem infoPlR:(Tryz.prog.info? 69).map (fun i=>(i.zero,i.size,i.bytes))=some (some (.agg #[.int .i64 0,.int .i64 0,.string ⟨#[]⟩]),3,32):=by kernel_rfl
theorem pl_at {w:World} {A:Option Addr} {n c:Nat} {Q:List PlT} (h:SlV plE w (.slice A n c) Q) {i:Nat} {y:PlT} (hy:Q[i]?=some y) :
  ∃ b off,A=some ⟨b,off,none⟩∧b < w.heap.size∧w.cell? ⟨b,off+i*3,none⟩=some (.int .i64 y.nd)∧w.cell? ⟨b,off+i*3+1,none⟩=some (.int .i64 y.into)∧w.cell? ⟨b,off+i*3+2,none⟩=some (.string y.nm):=by
 obtain ⟨b,off,e,hb,hc⟩:=h.at' (by decide) hy
 refine ⟨b,off,e,hb,?_⟩
 have g:∀ j u,(plE.cells y)[j]?=some u→w.cell? ⟨b,off+i*3+j,none⟩=some u:=fun j u hu=>by rw [Nat.add_assoc];exact hc j u hu
 exact ⟨g 0 _ rfl,g 1 _ rfl,g 2 _ rfl⟩
def PlaceAt (Q:List PlT) (x r:Int):Prop:=(∃ (k:Nat) (y:PlT),r=(k:Int)∧Q[k]?=some y∧y.nd=x)∨(r = -1∧∀ y∈Q,y.nd≠x)
theorem placeOf_any (A:Option Addr) (n c:Nat) (x:Int) (Q:List PlT) (w:World) (hs:SlV plE w (.slice A n c) Q) (hn:n≤100000) :
  Calls Tryz.prog 82 #[.slice A n c,.int .i64 x] w fun e w'=>∃ r,e=.returned (.int .i64 r)∧PlaceAt Q x r∧w'=w:=by
 have HN:=Lib.hid hs.len
 have HS:=Lib.hid hs
 clear hs
 go_enter Tryz.func82,Tryz.ntmps82
 go_wp2_with fail
 go_loopw [5] (fun v5 wr=>∃ i:Nat,i≤n∧v5=.int .i64 i∧wr=w∧Hid (∀ j y,j < i→Q[j]?=some y→y.nd≠x)) (fun v5 _=>n - (intOf v5).toNat)
 case atStart=>exact ⟨0,by omega,rfl,rfl,Lib.hid (fun j y h=>by omega)⟩
 case round=>
  obtain ⟨i,hi,rfl,rfl,HP⟩:=hrel
  by_cases hlt:i < n
  ·obtain ⟨y,hy⟩:∃ y,Q[i]?=some y:=⟨_,List.getElem?_eq_getElem (by have:=HN.out;omega)⟩
   obtain ⟨b,off,rfl,_,c0,_,_⟩:=pl_at HS.out hy
   have HY:=Lib.hid hy
   have i1:(0:Int)≤(i:Int):=by omega
   have i2:(i:Int) < (n:Int):=by omega
   clear hy
   by_cases he:y.nd=x
   ·have hb:(y.nd == x)=true:=by simp [he]
    have HE:=Lib.hid he
    clear he
    go_wp2_with fail
    go_ret
    exact ⟨_,rfl,.inl ⟨i,y,rfl,HY.out,HE.out⟩,rfl⟩
   ·have hb:(y.nd == x)=false:=by simp [he]
    have HE:=Lib.hid he
    clear he
    go_wp2_with fail
    go_roundw
    case rel=>exact ⟨i+1,by omega,by go_num,trivial,Lib.hid (fun j z h1 h2=>by
     by_cases hj:j=i
     ·subst hj;rw [HY.out] at h2;cases h2;exact HE.out
     ·exact HP.out j z (by omega) h2)⟩
    case measure=>simp [intOf] <;> omega
  ·have i2:¬ (i:Int) < (n:Int):=by omega
   go_wp2_with fail
   go_ret
   refine ⟨_,rfl,.inr ⟨rfl,fun y hy=>?_⟩,rfl⟩
   obtain ⟨j,hj,rfl⟩:=List.getElem_of_mem hy
   exact HP.out j _ (by have:=HN.out;omega) (List.getElem?_eq_getElem hj)
open Classical in
theorem isInside_any (A:Option Addr) (n c:Nat) (x o:Int) (Q:List PlT) (p:PlB) (w:World) (hs:SlV plE w (.slice A n c) Q) (hn:n≤100000) (hQ:RepP Q p) (hac:Acyc p) :
  Calls Tryz.prog 28 #[.slice A n c,.int .i64 x,.int .i64 o] w fun e w'=>e=.returned (.bool (decide (Ins p x o)))∧w'=w:=by
 obtain ⟨R,hR⟩:∃ R,R=decide (Ins p x o):=⟨_,rfl⟩
 rw [←hR]
 have HR:Hid (R=true↔Ins p x o):=Lib.hid (by rw [hR,decide_eq_true_iff])
 obtain ⟨d,hd⟩:=hac
 have HD:=Lib.hid hd
 have HN:=Lib.hid hs.len
 have HS:=Lib.hid hs
 have HQ:=Lib.hid hQ
 have HC:Hid (∀ x,Calls Tryz.prog 82 #[.slice A n c,.int .i64 x] w fun e w'=>∃ r,e=.returned (.int .i64 r)∧PlaceAt Q x r∧w'=w):=Lib.hid fun x=>placeOf_any A n c x Q w hs hn
 have HK0:Hid (rankP d Q x+0≤n):=Lib.hid (by have:=rankP_le d Q x;have:=hs.len;omega)
 clear hs hQ hd hR
 go_enter Tryz.func28,Tryz.ntmps28
 go_wp2_with fail
 go_loopw [1,7] (fun v1 v7 wr=>∃ (i:Nat) (z:Int),v1=.int .i64 z∧v7=.int .i64 i∧wr=w∧Hid (rankP d Q z+i≤n)∧Hid (R=true↔Ins p z o)) (fun _ v7 _=>n+1 - (intOf v7).toNat)
 case atStart=>exact ⟨0,x,rfl,rfl,rfl,HK0,HR⟩
 case round=>
  obtain ⟨i,z,rfl,rfl,rfl,HKz,HRz⟩:=hrel
  clear HR HK0
  have hin:i≤n:=by have:=HKz.out;omega
  have i2:(i:Int)≤(n:Int):=by omega
  go_wp2_with fail
  refine (HC.out z).mono ?_
  rintro e w1 ⟨r,rfl,hr,rfl⟩
  rcases hr with ⟨k,y,rfl,hy,hyz⟩ | ⟨rfl,hno⟩
  ·obtain ⟨b,off,rfl,_,_,c1,_⟩:=pl_at HS.out hy
   have hk:k < n:=by have:=HN.out;have:=(List.getElem?_eq_some_iff.1 hy).1;omega
   have hp:p z=some (y.into,y.nm):=by rw [←hyz];exact HQ.out.have' hy
   have hdd:d y.into < d y.nd:=by have:=HD.out z _ hp;rw [hyz];exact this
   have hrk:=rankP_lt (List.mem_of_getElem? hy) hdd
   rw [hyz] at hrk
   have HRk:=Lib.hid hrk
   have HPz:=Lib.hid hp
   have k1:(0:Int)≤(k:Int):=by omega
   have k2:(k:Int) < (n:Int):=by omega
   clear hy hyz hp hdd hrk
   by_cases he:y.into=o
   ·have hb:(y.into == o)=true:=by simp [he]
    obtain rfl:R=true:=HRz.out.2 ((Ins.some HPz.out).2 (.inl he))
    clear he
    go_wp2_with fail
    go_ret
    exact ⟨rfl,rfl⟩
   ·have hb:(y.into == o)=false:=by simp [he]
    have HR2:Hid (R=true↔Ins p y.into o):=Lib.hid (HRz.out.trans ((Ins.some HPz.out).trans ⟨fun h=>h.resolve_left he,.inr⟩))
    clear he
    go_wp2_with fail
    go_roundw
    case rel=>exact ⟨i+1,y.into,rfl,by go_num,trivial,Lib.hid (by have:=HKz.out;have:=HRk.out;omega),HR2⟩
    case measure=>simp [intOf] <;> omega
  ·have hR0:R=false:=by
    cases R with
    | false=>rfl
    | true=>exact absurd (HRz.out.1 rfl) (Ins.none (HQ.out.lack hno))
   subst hR0
   clear hno
   go_wp2_with fail
   go_ret
   exact ⟨rfl,rfl⟩
end Go.Proofs.YtjekalilfhnpmaaGreatDoor
