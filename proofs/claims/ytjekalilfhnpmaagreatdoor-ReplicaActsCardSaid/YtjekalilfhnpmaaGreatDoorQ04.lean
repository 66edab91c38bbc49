/- What the program's own and the library's variables hold: the ground of all walks. Numerals and cuts by the library. Names and what is seen: by the document, by the program. Bytes as hex digits, and back. Letters of a line: how they lie; finding one. How arguments open, and what a row's listed variables give of the ground. -/
import Derived.Sort.Grow
import Derived.ShapedOpen
import Derived.Lib.BufferRead
import Derived.Deep.AppendLies
import Derived.Deep.RegionHeldLaw
import Derived.Lib.SmallJoins
import Derived.Shelf.Abstract
import Derived.Lib.LaidTab
import Derived.Laws.IdiomArrays
import Derived.Test.YtjekalilfhnpmaaGreatDoorQ00
import Derived.Test.YtjekalilfhnpmaaGreatDoorQ02
theorem Go.Proofs.YtjekalilfhnpmaaGreatDoor.κ4 {p:Prop} (h:p):Go.RowKit.Hid p:=Go.Lib.hid h
namespace Go.Proofs.YtjekalilfhnpmaaGreatDoor
open Go Go.RowKit Go.Shelf
set_option linter.unusedVariables false
set_option linter.unusedSimpArgs false
set_option maxHeartbeats 1000000
set_option maxRecDepth 100000
theorem var_below {P:Program} {w w':World} {n:String} {cs:Array Value} (h:w.var? P n=some cs) (hb:Below w.heap.size w w'):w'.var? P n=some cs:=by
 unfold World.var? at h ⊢
 cases hg:P.globalNamed n with
 | none=>rw [hg] at h;cases h
 | some g=>
  rw [hg] at h
  simp only [Option.bind_some] at h ⊢
  have hlt:g < w.heap.size:=by
   rcases Nat.lt_or_ge g w.heap.size with h1 | h1
   ·exact h1
   ·rw [Array.getElem?_eq_none (by omega)] at h
    cases h
  rw [hb.block g hlt]
  exact h
def dbTab:List Int:=[0,1,56,2,57,49,28,3,61,58,42,50,38,29,17,4,62,47,59,36,45,43,51,22,53,39,33,30,24,18,12,5,63,55,48,27,60,41,37,16,46,35,44,21,52,32,23,11,54,26,40,15,34,20,31,10,25,14,19,9,13,8,7,6]
structure Gd (F:Nat→Bool) (a:Nat→Addr) (w:World):Prop where
 errs:∀ k,1≤k→k≤12→F k=true→ErrAt w (errG k) (errT k) (a k)
 tv:F 20=true→TypeVar w
 tab:F 21=true→Lib.TabIs Tryz.prog w "internal/strconv.uint64pow10" .u64 Lib.pow10Tab
 len:F 22=true→∃ m,w.cell? ⟨14,0,none⟩=some (.int .i64 m)
 db:F 23=true→Lib.TabIs Tryz.prog w "math/bits.deBruijn64tab" .u8 dbTab
theorem Gd.below {F:Nat→Bool} {a:Nat→Addr} {w w':World} (h:Gd F a w) (hb:Below w.heap.size w w'):Gd F a w' where
 errs:=fun k h1 h2 hf=>(h.errs k h1 h2 hf).below hb
 tv:=fun hf=>(h.tv hf).below hb
 tab:=fun hf=>var_below (h.tab hf) hb
 len:=fun hf=>let ⟨m,e⟩:=h.len hf;⟨m,(hb.cell (World.block_lt_of_cell? _ _ e)).trans e⟩
 db:=fun hf=>var_below (h.db hf) hb
theorem Gd.alloc {F:Nat→Bool} {a:Nat→Addr} {w:World} (h:Gd F a w) (o:Obj):Gd F a (w.alloc o):=h.below ((Below.refl _ _).alloc (Nat.le_refl _) _)
theorem Gd.drew {F:Nat→Bool} {a:Nat→Addr} {w:World} (h:Gd F a w):Gd F a w.drew:=h.below (Below.refl _ _).drew
theorem Gd.all {F:Nat→Bool} {a:Nat→Addr} {w:World} (h:Gd F a w) (hF:∀ k,1≤k→k≤12→F k=true):Errs a allErrs w:=by
 intro k hk
 have:1≤k∧k≤12:=by
  simp only [allErrs,List.mem_cons,List.not_mem_nil,or_false] at hk
  omega
 exact h.errs k this.1 this.2 (hF k this.1 this.2)
theorem below_drewN (B:Nat) (w:World) (k:Nat):Below B w (w.drewN k):=by
 induction k with
 | zero=>exact Below.refl _ _
 | succ k ih=>exact ⟨ih.os,ih.tape,ih.output,ih.size,ih.block⟩
theorem below_grow (w:World) (os:Array Obj):Below w.heap.size w (Go.Sort.grow w os):=
 ⟨rfl,rfl,rfl,by simp [Go.Sort.grow],fun k hk=>by show (w.heap++os)[k]?=_;rw [Array.getElem?_append,if_pos hk]⟩
theorem size_drewN (w:World) (k:Nat):(w.drewN k).heap.size=w.heap.size:=by
 induction k with
 | zero=>rfl
 | succ k ih=>exact ih
theorem itoa_any {F:Nat→Bool} (a:Nat→Addr) (n:Int) (w:World) (hG:Gd F a w) (f21:F 21=true) (h0:-9223372036854775808≤n) (h1:n≤9223372036854775807) :
  Calls Tryz.prog 63 #[.int .i64 n] w fun e w'=>e=.returned (.string (S (Lib.itoa n)))∧Below w.heap.size w w':=
 (Tryz.strconv_Itoa n h0 h1 w (hG.tab f21)).mono fun _ _ ⟨he,k,os,hw⟩=>⟨he,by
  subst hw
  have h1:=below_drewN w.heap.size w k
  have h2:=below_grow (w.drewN k) os
  have h3:(w.drewN k).heap.size=w.heap.size:=size_drewN w k
  rw [h3] at h2
  exact h1.trans h2⟩
theorem below_bytesWorld (w:World) (e:TypeId) (t:ByteArray):Below w.heap.size w (Lib.bytesWorld w e t):=by
 refine ⟨rfl,rfl,rfl,?_,fun k hk=>?_⟩
 ·simp [Lib.bytesWorld,World.freeze]
 ·simp only [Lib.bytesWorld,World.freeze]
  rw [if_neg (by omega)]
  show (Array.modify _ _ _)[k]?=_
  rw [Array.getElem?_modify,if_neg (by omega)]
  exact Below.heap_alloc _ _ k hk
end Go.Proofs.YtjekalilfhnpmaaGreatDoor
namespace Go.Proofs.YtjekalilfhnpmaaGreatDoor
open Go Go.RowKit
set_option linter.unusedVariables false
set_option linter.unusedSimpArgs false
set_option maxHeartbeats 4000000
set_option maxRecDepth 100000
def nameB (c:UInt8):Bool:=decide ((97≤(c.toNat:Int)∧(c.toNat:Int)≤122)∨(48≤(c.toNat:Int)∧(c.toNat:Int)≤57)∨(c.toNat:Int)=45∨(c.toNat:Int)=46)
def seenB (c:UInt8):Bool:=decide (32≤(c.toNat:Int)∧(c.toNat:Int)≤126)
theorem name1_any (c:UInt8) (w:World) :
  Calls Tryz.prog 194 #[.int .u8 c.toNat] w fun e w'=>e=.returned (.bool (!nameB c))∧w'=w:=by
 have H:Hid (nameB c=decide ((97≤(c.toNat:Int)∧(c.toNat:Int)≤122)∨(48≤(c.toNat:Int)∧(c.toNat:Int)≤57)∨(c.toNat:Int)=45∨(c.toNat:Int)=46)):=rfl
 generalize nameB c=nb at H ⊢
 obtain ⟨x,hx⟩:∃ x:Int,x=(c.toNat:Int):=⟨_,rfl⟩
 have hb:0≤x∧x < 256:=by have:=c.toNat_lt;omega
 rw [←hx] at H ⊢
 have hb1:=hb.1
 have hb2:=hb.2
 clear hx hb
 go_enter Tryz.func194,Tryz.ntmps194
 go_wp2_with fail
 all_goals
  go_ret
  refine ⟨ret_bool ?_,rfl⟩
  rw [H.out,Bool.eq_iff_iff]
  (try simp)
  (try omega)
theorem seen1_any (c:UInt8) (w:World) :
  Calls Tryz.prog 237 #[.int .u8 c.toNat] w fun e w'=>e=.returned (.bool (!seenB c))∧w'=w:=by
 have H:Hid (seenB c=decide (32≤(c.toNat:Int)∧(c.toNat:Int)≤126)):=rfl
 generalize seenB c=nb at H ⊢
 obtain ⟨x,hx⟩:∃ x:Int,x=(c.toNat:Int):=⟨_,rfl⟩
 have hb:0≤x∧x < 256:=by have:=c.toNat_lt;omega
 rw [←hx] at H ⊢
 have hb1:=hb.1
 have hb2:=hb.2
 clear hx hb
 go_enter Tryz.func237,Tryz.ntmps237
 go_wp2_with fail
 all_goals
  go_ret
  refine ⟨ret_bool ?_,rfl⟩
  rw [H.out,Bool.eq_iff_iff]
  (try simp)
  (try omega)
abbrev FV (k:FuncId):Value:=.func (Fn.func k) #[] #[]
def IdxEnds (b:Bool) (w:World) (e:Ending) (w':World):Prop:=∃ r:Int,e=.returned (.int .i64 r)∧decide (0≤r)=b∧w'=w
def NoneOf (p:UInt8→Bool) (l:List UInt8) (j:Nat):Prop:=∀ i c,i < j→l[i]?=some c→p c=false
theorem indexFunc_b (k:FuncId) (he:∀ (args:Array Value) (w:World),Sem.run Tryz.prog (callFunc k args) w=.ok (.enter k args) w) (p:UInt8→Bool) (hp:∀ c w,Calls Tryz.prog k #[.int .u8 c.toNat] w fun e w'=>e=.returned (.bool (p c))∧w'=w) (g n cap:Nat) (l:List UInt8) (hl:l.length=n) (hn:n≤1000) (w:World)
  (hc:∀ j c,l[j]?=some c→w.cell? ⟨g,j,none⟩=some (.int .u8 c.toNat)) :
  Calls Tryz.prog 236 #[.slice (some ⟨g,0,none⟩) n cap,FV k] w (IdxEnds (l.any p) w):=by
 have HP:=κ4 hp
 have HC:=κ4 hc
 have HL:=κ4 hl
 clear hp hc hl
 go_enter Tryz.func236,Tryz.ntmps236
 go_wp2_with fail
 go_loop [8] (fun v8=>∃ j:Nat,j≤n∧v8=.int .i64 j∧NoneOf p l j) (fun v8=>n - (intOf v8).toNat)
 case atStart=>exact ⟨0,by omega,rfl,fun i c hi=>by omega⟩
 case round=>
  obtain ⟨j,hj,rfl,hno⟩:=hrel
  have HN:=κ4 hno
  clear hno
  by_cases hlt:j < n
  ·have hjl:j < l.length:=by have:=HL.out;omega
   obtain ⟨c,hx⟩:∃ c,l[j]?=some c:=⟨_,List.getElem?_eq_getElem hjl⟩
   have HX:=κ4 hx
   have q0:=HC.out j c hx
   have i0:(0:Int)≤(j:Int):=by omega
   have i1:(j:Int) < (n:Int):=by omega
   clear hx hjl
   cases hpc:p c with
   | true=>
    have HPC:Hid (∀ w,Calls Tryz.prog k #[.int .u8 c.toNat] w fun e w'=>e=.returned (.bool true)∧w'=w):=fun w=>by have:=HP.out c w;rwa [hpc] at this
    have HQ:=κ4 hpc
    clear hpc
    go_wp2_with fail
    refine (HPC.out _).mono ?_
    rintro e w' ⟨rfl,rfl⟩
    go_wp2_with fail
    go_ret
    exact ⟨j,rfl,by
     rw [show decide ((0:Int)≤(j:Int))=true by simp]
     symm
     rw [List.any_eq_true]
     exact ⟨c,List.mem_of_getElem? HX.out,HQ.out⟩,rfl⟩
   | false=>
    have HPC:Hid (∀ w,Calls Tryz.prog k #[.int .u8 c.toNat] w fun e w'=>e=.returned (.bool false)∧w'=w):=fun w=>by have:=HP.out c w;rwa [hpc] at this
    have HQ:=κ4 hpc
    clear hpc
    go_wp2_with fail
    refine (HPC.out _).mono ?_
    rintro e w' ⟨rfl,rfl⟩
    go_wp2_with fail
    go_round
    case rel=>exact ⟨j+1,by omega,by go_num,fun i d hi hd=>by
     by_cases e:i=j
     ·subst e
      rw [HX.out] at hd
      cases hd
      exact HQ.out
     ·exact HN.out i d (by omega) hd⟩
    case measure=>simp [intOf];omega
  ·have hge:¬ (j:Int) < (n:Int):=by omega
   have hjn:n≤j:=by omega
   clear hlt
   go_wp2_with fail
   go_ret
   exact ⟨-1,rfl,by
    rw [show decide ((0:Int)≤-1)=false by decide]
    symm
    rw [List.any_eq_false]
    intro c hc
    obtain ⟨i,hi⟩:=List.mem_iff_getElem?.1 hc
    have hlt:i < l.length:=(List.getElem?_eq_some_iff.1 hi).1
    have:=HN.out i c (by have:=HL.out;omega) hi
    simp [this],rfl⟩
theorem containsFunc_b (x:Bool) (k:FuncId) (he:∀ (args:Array Value) (w:World),Sem.run Tryz.prog (callFunc k args) w=.ok (.enter k args) w) (p:UInt8→Bool) (hp:∀ c w,Calls Tryz.prog k #[.int .u8 c.toNat] w fun e w'=>e=.returned (.bool (p c))∧w'=w) (g n cap:Nat) (l:List UInt8) (hl:l.length=n) (hn:n≤1000) (w:World)
  (hc:∀ j c,l[j]?=some c→w.cell? ⟨g,j,none⟩=some (.int .u8 c.toNat)) (hx:l.any p=x) :
  Calls Tryz.prog 193 #[.slice (some ⟨g,0,none⟩) n cap,FV k] w fun e w'=>e=.returned (.bool x)∧w'=w:=by
 have H:=κ4 (indexFunc_b k he p hp g n cap l hl hn w hc)
 rw [hx] at H
 clear hp hc hx
 go_enter Tryz.func193,Tryz.ntmps193
 go_wp2_with fail
 refine H.out.mono ?_
 rintro e w' ⟨r,rfl,hr,rfl⟩
 have HR:=κ4 hr
 clear hr
 go_wp2_with fail
 go_ret
 exact ⟨ret_bool HR.out,rfl⟩
theorem ent1:∀ (args:Array Value) (w:World),Sem.run Tryz.prog (callFunc 194 args) w=.ok (.enter 194 args) w:=fun args w=>enters_of Tryz.func194 (by kernel_rfl) rfl args w
theorem ent2:∀ (args:Array Value) (w:World),Sem.run Tryz.prog (callFunc 237 args) w=.ok (.enter 237 args) w:=fun args w=>enters_of Tryz.func237 (by kernel_rfl) rfl args w
theorem bytes_cells (s:ByteArray) (w:World) (e:TypeId):∀ j c,s.data.toList[j]?=some c→(Lib.bytesWorld w e s).cell? ⟨w.heap.size,j,none⟩=some (.int .u8 c.toNat):=by
 intro j c hc
 have hj:j < s.size:=(List.getElem?_eq_some_iff.1 hc).1
 rw [Lib.bytesWorld_cell w e s j hj]
 simp [List.getD,hc]
def isNmB (l:List UInt8):Bool:=decide (1≤l.length∧l.length≤12) && l.all nameB
def isSnB (l:List UInt8):Bool:=l.all seenB
theorem any_not (p:UInt8→Bool) (l:List UInt8):l.any (fun c=>!p c)=!l.all p:=by
 induction l with
 | nil=>rfl
 | cons c r ih=>simp [ih]
theorem opName_any (x:Bool) (s:ByteArray) (w:World) (hs:s.size≤100000) (hx:isNmB s.data.toList=x) :
  Calls Tryz.prog 154 #[.string s] w fun e w'=>e=.returned (.bool x)∧Below w.heap.size w w':=by
 have hsz:s.data.toList.length=s.size:=rfl
 by_cases h0:s.size=0
 ·have h3:s.toList.isEmpty=true:=by
   rw [ByteArray.toList_eq,List.isEmpty_iff]
   exact List.eq_nil_of_length_eq_zero (by omega)
  have hxf:x=false:=by rw [←hx];unfold isNmB;rw [decide_eq_false (by omega)];rfl
  subst hxf
  clear hx hsz h0
  go_enter Tryz.func154,Tryz.ntmps154
  go_wp2_with fail
  go_ret
  exact ⟨rfl,Below.refl _ _⟩
 ·have h3:s.toList.isEmpty=false:=by
   rw [ByteArray.toList_eq]
   cases hl:s.data.toList with
   | nil=>rw [hl] at hsz;simp at hsz;omega
   | cons _ _=>rfl
  by_cases h12:12 < s.size
  ·have hxf:x=false:=by rw [←hx];unfold isNmB;rw [decide_eq_false (by omega)];rfl
   subst hxf
   clear hx hsz h0
   go_enter Tryz.func154,Tryz.ntmps154
   go_wp2_with fail
   go_ret
   exact ⟨by simp,Below.refl _ _⟩
  ·have HC:Hid (∀ w cap,Calls Tryz.prog 193 #[.slice (some ⟨w.heap.size,0,none⟩) s.size cap,FV 194] (Lib.bytesWorld w 5 s) fun e w'=>e=.returned (.bool (!x))∧w'=Lib.bytesWorld w 5 s):=fun w cap=>
    containsFunc_b (!x) _ ent1 (fun c=>!nameB c) name1_any _ _ cap s.data.toList hsz (by omega) _ (bytes_cells s w _) (by
     rw [any_not,←hx]
     unfold isNmB
     rw [decide_eq_true (by omega)]
     simp)
   have kc:=fun w=>Lib.run_convert_string_bytes (P:=Tryz.prog) w 9 212 5 s Tryz.underlying9 Tryz.underlying212 Tryz.underlying5
   have h12':s.size≤12:=by omega
   clear hx hsz h0 h12
   go_enter Tryz.func154,Tryz.ntmps154
   go_wp2_with fail
   refine (HC.out _ _).mono ?_
   rintro e w' ⟨rfl,rfl⟩
   go_wp2_with fail
   go_ret
   exact ⟨rfl,below_bytesWorld w _ s⟩
theorem opSeen_any (x:Bool) (s:ByteArray) (m:Nat) (w:World) (hs:s.size≤100000) (hm:m≤1000) (hx:(decide (s.size≤m) && isSnB s.data.toList)=x) :
  Calls Tryz.prog 195 #[.string s,.int .i64 m] w fun e w'=>e=.returned (.bool x)∧Below w.heap.size w w':=by
 have hsz:s.data.toList.length=s.size:=rfl
 by_cases h12:m < s.size
 ·have hxf:x=false:=by rw [←hx,decide_eq_false (by omega)];rfl
  subst hxf
  clear hx hsz
  go_enter Tryz.func195,Tryz.ntmps195
  go_wp2_with fail
  go_ret
  exact ⟨by simp,Below.refl _ _⟩
 ·have HC:Hid (∀ w cap,Calls Tryz.prog 193 #[.slice (some ⟨w.heap.size,0,none⟩) s.size cap,FV 237] (Lib.bytesWorld w 5 s) fun e w'=>e=.returned (.bool (!x))∧w'=Lib.bytesWorld w 5 s):=fun w cap=>
   containsFunc_b (!x) _ ent2 (fun c=>!seenB c) seen1_any _ _ cap s.data.toList hsz (by omega) _ (bytes_cells s w _) (by
    rw [any_not,←hx]
    rw [decide_eq_true (by omega)]
    simp [isSnB])
  have kc:=fun w=>Lib.run_convert_string_bytes (P:=Tryz.prog) w 9 212 5 s Tryz.underlying9 Tryz.underlying212 Tryz.underlying5
  have h12':s.size≤m:=by omega
  clear hx hsz h12
  go_enter Tryz.func195,Tryz.ntmps195
  go_wp2_with fail
  refine (HC.out _ _).mono ?_
  rintro e w' ⟨rfl,rfl⟩
  go_wp2_with fail
  go_ret
  exact ⟨by simp,below_bytesWorld w _ s⟩
theorem infoByte:(Tryz.prog.info? 5).map (fun i=>(i.zero,i.size,i.bytes))=some (some (.int .u8 0),1,1):=by kernel_rfl
def bytesV (xs:List UInt8):List Value:=xs.map fun x=>Value.int .u8 x.toNat
structure BSt (w0:World) (v:Value) (xs:List UInt8) (w:World):Prop where
 own:w.ownsRow w0.heap.size 5 1 v xs.length (bytesV xs)
 bel:Below w0.heap.size w0 w
theorem BSt.below {w0 w w':World} {v:Value} {xs:List UInt8} (h:BSt w0 v xs w) (hb:Below w.heap.size w w'):BSt w0 v xs w':=
 ⟨h.own.kept (row:=none) ⟨hb.os,hb.tape,hb.output,hb.size,fun k hk _=>hb.block k hk⟩ (by cases hv:v.ownBlock <;> simp),h.bel.trans (hb.mono h.bel.size)⟩
theorem BSt.app {w0 w w':World} {v v':Value} {xs ys:List UInt8} {o:Obj} (h:BSt w0 v xs w)
  (hown:w'.ownsRow w0.heap.size 5 1 v' (xs.length+ys.length) (bytesV xs++bytesV ys)) (hg:(w.alloc o).grownBy w' v.ownBlock):BSt w0 v' (xs++ys) w':=by
 have hb:Below w0.heap.size w0 w':=(h.bel.alloc h.bel.size o).grown hg (by have:=h.bel.size;simp;omega) (fun k hk=>(h.own.lt k hk).1)
 exact ⟨by simpa [bytesV] using hown,hb⟩
theorem BSt.start (w:World):BSt w (.slice none 0 0) [] w:=⟨World.ownsRow_nil _ _ _ _,Below.refl _ _⟩
theorem BSt.text {w0 w:World} {v:Value} {xs:List UInt8} (h:BSt w0 v xs w):(convert 212 9 v).run Tryz.prog w=.ok (.string (S xs)) w:=by
 have hown:=h.own
 rcases h.own.2 with ⟨hv,hn⟩ | ⟨g,cap,cur,hv,hg,hh,hcap,hm,hsz,hcs⟩
 ·have:xs=[]:=List.eq_nil_of_length_eq_zero hn
  subst this
  rw [hv]
  exact Lib.run_convert_nil_bytes (P:=Tryz.prog) w 212 9 5 0 Tryz.underlying212 Tryz.underlying5 Tryz.underlying9
 ·rw [hv]
  refine run_convert_bytes_back (P:=Tryz.prog) _ 212 9 5 ⟨g,0,none⟩ cap xs Tryz.underlying212 Tryz.underlying5 Tryz.underlying9 ?_
  intro j hj
  have:=hown.cells (g:=g) (by rw [hv];rfl) j (.int .u8 (xs[j].toNat:Int)) (by rw [bytesV,List.getElem?_map,List.getElem?_eq_getElem hj];rfl)
  rw [Addr.add_lit] at this
  rw [Addr.add_lit]
  simpa using this
end Go.Proofs.YtjekalilfhnpmaaGreatDoor
namespace Go.Proofs.YtjekalilfhnpmaaGreatDoor
open Go Go.RowKit Go.Shelf
set_option linter.unusedVariables false
set_option linter.unusedSimpArgs false
set_option maxHeartbeats 4000000
set_option maxRecDepth 100000
abbrev Lt.cells (x:Lt):List Value:=[.int .i64 x.id,.int .u8 x.c.toNat,.bool x.gone]
abbrev ltV (x:Lt):Value:=.agg #[.int .i64 x.id,.int .u8 x.c.toNat,.bool x.gone]
def lts (L:List Lt):List Value:=L.flatMap Lt.cells
theorem lts_len (L:List Lt):(lts L).length=L.length*3:=by
 induction L with
 | nil=>rfl
 | cons x r ih=>unfold lts at ih ⊢;simp only [List.flatMap_cons,List.length_append,ih,List.length_cons,List.length_nil];omega
theorem lts_app (A B:List Lt):lts (A++B)=lts A++lts B:=by unfold lts;exact List.flatMap_append
theorem lts_at:∀ (L:List Lt) (j:Nat) (x:Lt),L[j]?=some x→(lts L)[j*3]?=some (.int .i64 x.id)∧(lts L)[j*3+1]?=some (.int .u8 x.c.toNat)∧(lts L)[j*3+2]?=some (.bool x.gone)
 | [],j,x,h=>by simp at h
 | y :: r,0,x,h=>by simp at h;subst h;exact ⟨rfl,rfl,rfl⟩
 | y :: r,j+1,x,h=>by
  have:=lts_at r j x (by simpa using h)
  have e:lts (y :: r)=y.cells++lts r:=rfl
  rw [e]
  have hl:y.cells.length=3:=rfl
  rw [List.getElem?_append_right (by rw [hl];omega),List.getElem?_append_right (by rw [hl];omega),List.getElem?_append_right (by rw [hl];omega),hl]
  rw [show (j+1)*3 - 3=j*3 by omega,show (j+1)*3+1 - 3=j*3+1 by omega,show (j+1)*3+2 - 3=j*3+2 by omega]
  exact this
def LtsAt (w:World) (g:Nat) (L:List Lt):Prop:=∀ j x,L[j]?=some x→w.cell? ⟨g,j*3,none⟩=some (.int .i64 x.id)∧w.cell? ⟨g,j*3+1,none⟩=some (.int .u8 x.c.toNat)∧w.cell? ⟨g,j*3+2,none⟩=some (.bool x.gone)
theorem LtsAt.below {w w':World} {g:Nat} {L:List Lt} (h:LtsAt w g L) (hl:g < w.heap.size) (hb:Below w.heap.size w w'):LtsAt w' g L:=
 fun j x hx=>⟨(hb.cell hl).trans (h j x hx).1,(hb.cell hl).trans (h j x hx).2.1,(hb.cell hl).trans (h j x hx).2.2⟩
def LtSl (w:World) (v:Value) (L:List Lt):Prop:=(v=.slice none 0 0∧L=[])∨∃ g cap,v=.slice (some ⟨g,0,none⟩) L.length cap∧L.length≤cap∧g < w.heap.size∧LtsAt w g L
theorem LtSl.below {w w':World} {v:Value} {L:List Lt} (h:LtSl w v L) (hb:Below w.heap.size w w'):LtSl w' v L:=by
 rcases h with h | ⟨g,cap,hv,hc,hg,hl⟩
 ·exact .inl h
 ·exact .inr ⟨g,cap,hv,hc,Nat.lt_of_lt_of_le hg hb.size,hl.below hg hb⟩
abbrev fndV (B:Nat):Value:=.func (Fn.func 198) #[] #[.pointer (some ⟨B,0,none⟩)]
theorem find1_any (x:Lt) (id:Int) (B:Nat) (w:World) (hB:w.cell? ⟨B,0,none⟩=some (.int .i64 id)) (b:Bool) (hb:(x.id == id)=b) :
  Calls Tryz.prog 198 #[ltV x,.pointer (some ⟨B,0,none⟩)] w fun e w'=>e=.returned (.bool b)∧Below w.heap.size w w':=by
 have hl:=World.block_lt_of_cell? w _ hB
 have hl2:B < w.heap.size:=hl
 clear hl
 go_enter Tryz.func198,Tryz.ntmps198
 go_wp2_with fail
 go_ret
 exact ⟨by simp [hb],(Below.refl _ _).alloc (Nat.le_refl _) _⟩
theorem indexFunc_nil (id:Int) (B:Nat) (w:World) :
  Calls Tryz.prog 197 #[.slice none 0 0,fndV B] w fun e w'=>e=.returned (.int .i64 (-1))∧Below w.heap.size w w':=by
 go_enter Tryz.func197,Tryz.ntmps197
 go_wp2_with fail
 go_loop [8] (fun v8=>v8=.int .i64 0) (fun v8=>0)
 case atStart=>rfl
 case round=>
  obtain rfl:=hrel
  go_wp2_with fail
  go_ret
  exact ⟨rfl,Below.refl _ _⟩
theorem indexFunc_row (id:Int) (B g n cap:Nat) (L:List Lt) (w:World) (hn:L.length=n) (hn2:n≤1000) (hg:g < w.heap.size) (hL:LtsAt w g L) (hB:w.cell? ⟨B,0,none⟩=some (.int .i64 id)) :
  Calls Tryz.prog 197 #[.slice (some ⟨g,0,none⟩) n cap,fndV B] w fun e w'=>e=.returned (.int .i64 (ixOf id L))∧Below w.heap.size w w':=by
 have HL:=κ4 hL
 have HB:=κ4 hB
 have HN:=κ4 hn
 have hBl:=World.block_lt_of_cell? w _ hB
 have HBl:=κ4 hBl
 clear hL hB hn hBl
 go_enter Tryz.func197,Tryz.ntmps197
 go_wp2_with fail
 go_loopw [8] (fun v8 wr=>∃ j:Nat,j≤n∧v8=.int .i64 j∧(∀ i y,i < j→L[i]?=some y→y.id≠id)∧Below w.heap.size w wr) (fun v8 _=>n - (intOf v8).toNat)
 case atStart=>exact ⟨0,by omega,rfl,fun i y hi=>by omega,Below.refl _ _⟩
 case round=>
  obtain ⟨j,hj,rfl,hno,hb⟩:=hrel
  have HNo:=κ4 hno
  have HBe:=κ4 hb
  clear hno hb
  by_cases hlt:j < n
  ·have hjl:j < L.length:=by have:=HN.out;omega
   obtain ⟨x,hx⟩:∃ x,L[j]?=some x:=⟨_,List.getElem?_eq_getElem hjl⟩
   obtain ⟨q0,q1,q2⟩:=HL.out.below hg HBe.out j x hx
   have hc:=(HBe.out.cell (p:=⟨B,0,none⟩) HBl.out).trans HB.out
   have HX:=κ4 hx
   have i0:(0:Int)≤(j:Int):=by omega
   have i1:(j:Int) < (n:Int):=by omega
   clear hx hjl
   by_cases he:x.id=id
   ·have HF:=κ4 (fun w hB=>find1_any x id B w hB true (by simp [he]))
    have HE:=κ4 he
    clear he
    go_wp2_with fail
    refine (HF.out _ hc).mono ?_
    rintro e w2 ⟨rfl,hb2⟩
    have HBe2:=κ4 (HBe.out.trans (hb2.mono HBe.out.size))
    clear hb2
    go_wp2_with fail
    go_ret
    exact ⟨by rw [ixOf_some HX.out HE.out HNo.out];rfl,HBe2.out⟩
   ·have HF:=κ4 (fun w hB=>find1_any x id B w hB false (by simp [he]))
    have HE:=κ4 he
    clear he
    go_wp2_with fail
    refine (HF.out _ hc).mono ?_
    rintro e w2 ⟨rfl,hb2⟩
    have HBe2:=κ4 (HBe.out.trans (hb2.mono HBe.out.size))
    clear hb2
    go_wp2_with fail
    go_roundw
    case rel=>exact ⟨j+1,by omega,by go_num,fun i y hi hy=>by
     by_cases e:i=j
     ·subst e;rw [HX.out] at hy;cases hy;exact HE.out
     ·exact HNo.out i y (by omega) hy,HBe2.out⟩
    case measure=>simp [intOf];omega
  ·have hge:¬ (j:Int) < (n:Int):=by omega
   have hjn:n≤j:=by omega
   clear hlt
   go_wp2_with fail
   go_ret
   exact ⟨by rw [ixOf_none (fun y hy=>by
    obtain ⟨i,hi⟩:=List.mem_iff_getElem?.1 hy
    have hlt:i < L.length:=(List.getElem?_eq_some_iff.1 hi).1
    exact HNo.out i y (by have:=HN.out;omega) hi)];rfl,HBe.out⟩
structure LineAt (w:World) (LB:Nat) (L:List Lt):Prop where
 sl:∃ v,w.cell? ⟨LB,0,none⟩=some v∧LtSl w v L
theorem LineAt.lt {w:World} {LB:Nat} {L:List Lt} (h:LineAt w LB L):LB < w.heap.size:=by
 obtain ⟨v,hv,_⟩:=h.sl
 exact World.block_lt_of_cell? w _ hv
theorem LineAt.below {w w':World} {LB:Nat} {L:List Lt} (h:LineAt w LB L) (hb:Below w.heap.size w w'):LineAt w' LB L:=by
 have hl:=h.lt
 obtain ⟨v,hv,hs⟩:=h.sl
 exact ⟨v,(hb.cell hl).trans hv,hs.below hb⟩
theorem find_any (id:Int) (LB:Nat) (L:List Lt) (w:World) (hn:L.length≤1000) (h:LineAt w LB L) :
  Calls Tryz.prog 160 #[.pointer (some ⟨LB,0,none⟩),.int .i64 id] w fun e w'=>e=.returned (.int .i64 (ixOf id L))∧Below w.heap.size w w':=by
 have hlt:=h.lt
 obtain ⟨v,hv,hs⟩:=h.sl
 have hb1:Below w.heap.size w (w.alloc (.cells #[.int .i64 id] 3)):=(Below.refl _ _).alloc (Nat.le_refl _) _
 have hc:(w.alloc (.cells #[.int .i64 id] 3)).cell? ⟨w.heap.size,0,none⟩=some (.int .i64 id):=by simp [go_sem]
 rcases hs with ⟨rfl,rfl⟩ | ⟨g,cap,rfl,hcap,hg,hL⟩
 ·have HI:=κ4 (indexFunc_nil id w.heap.size (w.alloc (.cells #[.int .i64 id] 3)))
  have HB:=κ4 hb1
  clear hb1 hc h
  go_enter Tryz.func160,Tryz.ntmps160
  go_wp2_with fail
  refine HI.out.mono ?_
  rintro e w2 ⟨rfl,hb2⟩
  have HB2:=κ4 (HB.out.trans (hb2.mono HB.out.size))
  clear hb2
  go_wp2_with fail
  go_ret
  exact ⟨rfl,HB2.out⟩
 ·have HI:=κ4 (indexFunc_row id w.heap.size g L.length cap L _ rfl hn (by simp;omega) (hL.below hg hb1) hc)
  have HB:=κ4 hb1
  clear hb1 hc h hL
  go_enter Tryz.func160,Tryz.ntmps160
  go_wp2_with fail
  refine HI.out.mono ?_
  rintro e w2 ⟨rfl,hb2⟩
  have HB2:=κ4 (HB.out.trans (hb2.mono HB.out.size))
  clear hb2
  go_wp2_with fail
  go_ret
  exact ⟨rfl,HB2.out⟩
end Go.Proofs.YtjekalilfhnpmaaGreatDoor
namespace Go.Proofs.YtjekalilfhnpmaaGreatDoor
open Go Go.ChangeShapes Go.WideShapes Go.ChangeAt Go.RowKit
set_option linter.unusedVariables false
set_option linter.unusedSimpArgs false
theorem tab_of_laid {W:World} {l:List (String×DataW Unit)} (h:laidMetH Tryz.prog l W)
  (hl:(l.filter fun x=>x.1 == "internal/strconv.uint64pow10")=[("internal/strconv.uint64pow10",Lib.tabData .u64 Lib.pow10Tab)]):Lib.TabIs Tryz.prog W "internal/strconv.uint64pow10" .u64 Lib.pow10Tab:=by
 have h1:=laidMetH.filter (fun x=>x.1 == "internal/strconv.uint64pow10") h
 rw [hl] at h1
 have h2:laidMet Tryz.prog [("internal/strconv.uint64pow10",Lib.tabData .u64 Lib.pow10Tab)] W:=(laidMetH_iff.1 h1).1
 exact Lib.tabIs_of_head (g:=13) (t:=345) (e:=277) (n:=20) (by kernel_rfl) (by kernel_rfl) Tryz.underlying345 Tryz.underlying277 (by kernel_rfl) (by kernel_rfl) h2
set_option maxRecDepth 100000 in
theorem open_vec {H:Type} {enc:TypeId×Value→H} {W:World} {r:Reach} {b0 base:Nat} {sp:Nat→Bool} {held:Bool} {v:Value} {d:DataW H} {p:List MemPlace}
  (o:Value.okWide Tryz.prog W r b0 47 v) (h:DataW.Trod enc Tryz.prog W base sp held 47 v d p) :
  ∃ a b c d:Int,v=.agg #[.int .i64 a,.int .i64 b,.int .i64 c,.int .i64 d]∧(Lit.int .i64 a).wf=true∧(Lit.int .i64 b).wf=true∧(Lit.int .i64 c).wf=true∧(Lit.int .i64 d).wf=true:=by
 obtain ⟨cs,rfl,hsz,_⟩:∃ cs,v=.agg cs∧cs.size=Tryz.prog.cellsOf 47∧Row.okWide Tryz.prog W r b0 47 cs:=by
  simpa [Value.okWide,Tryz.underlying47] using o
 have h4:Tryz.prog.cellsOf 47=4:=by kernel_rfl
 obtain ⟨c0,c1,c2,c3,rfl⟩:=Joins.array4 (hsz.trans h4)
 obtain ⟨fuel,hf⟩:=h
 obtain ⟨y0,y1,y2,y3,m,hx,hy0,hy1,hy2,hy3⟩:=trod_array4 Tryz.underlying47 (by kernel_rfl) hf
 obtain ⟨x0,e0,_,w0⟩:=DataW.trod_int Tryz.underlying3 hy0
 obtain ⟨x1,e1,_,w1⟩:=DataW.trod_int Tryz.underlying3 hy1
 obtain ⟨x2,e2,_,w2⟩:=DataW.trod_int Tryz.underlying3 hy2
 obtain ⟨x3,e3,_,w3⟩:=DataW.trod_int Tryz.underlying3 hy3
 simp at e0 e1 e2 e3
 subst e0 e1 e2 e3
 exact ⟨x0,x1,x2,x3,rfl,w0,w1,w2,w3⟩
def flagsOf (l:List Nat):Nat→Bool:=fun k=>l.contains k
end Go.Proofs.YtjekalilfhnpmaaGreatDoor
