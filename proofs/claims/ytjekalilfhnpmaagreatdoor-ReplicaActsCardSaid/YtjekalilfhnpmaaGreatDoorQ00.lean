/- DERIVED: THE SHELF's CONTRACTS AT THIS DUMP, IN PLAIN WORDS (tools/lay-plain.mjs out of 'TryzShelf.lean', which tools/lay-shelf.mjs wrote): THE SAME DECLARATIONS UNDER THE SAME NAMES: 'import', 'namespace', 'open', 'def', 'theorem' AND NOTHING ELSE: no command of the shelf's: FOR A HAND-IN. Each laying: the table of numbers ('.._ren') and one theorem, a field a fact of the dump's own or the kernel's comparison; each contract: ONE APPLICATION. Letters of a line: plain laws. The order of letters: letters that are inserted each behind its own one, in any order, stand in one order. Plain law, no p -/
import Derived.Shelf.Strings.Builder1
import Derived.Shelf.Strings.Builder2
import Derived.Shelf.Strings.OnBuilder
import Derived.Shelf.Small.Bits
import Derived.Shelf.Small.Strs
import Derived.Shelf.Strings.BuilderF
import Derived.Shelf.Strconv.Itoa0
import Derived.Shelf.Strconv.Itoa1
import Derived.Shelf.LaysM
import Derived.Shelf.Strconv.Itoa2
import Derived.Shelf.Strconv.Itoa3
import Derived.Shelf.Strings.Search1
import Derived.Shelf.Strings.Search2
import Derived.Shelf.Strings.Search3
import Derived.Shelf.Strings.Shaped
import Derived.Shelf.Unicode.DecodeSlow
import Derived.Test.YtjekalilfhnpmaaGreatDoorProg
import Derived.Shelf.SlIterI.Nil
import Derived.Shelf.SortM.Plain
import Derived.Shelf.SortM.SortNone
import Derived.Ground.GgzProg
import Derived.Ground.SlgmProg
namespace Go.Proofs
open Go.Shelf
def Tryz.lays156_ren:Go.Shelf.Ren:=⟨fun | 156=>67 | 165=>128 | 166=>129 | 169=>130 | 240=>170 | 241=>171 | 276=>224 | 277=>225 | n=>n,fun | 31=>122 | 9=>9 | 3=>3 | 4=>4 | 0=>0 | 20=>20 | 72=>227 | 76=>34 | 70=>225 | 37=>212 | 75=>25 | 127=>266 | 164=>280 | 5=>5 | 80=>46 | n=>n,fun | n=>n⟩
theorem Tryz.lays156:Go.Proofs.Lays.n156 Tryz.prog Tryz.lays156_ren:={
 mixed:=by kernel_rfl
 f156:=Tryz.func67.trans (congrArg some (by kernel_rfl))
 f165:=Tryz.func128.trans (congrArg some (by kernel_rfl))
 f166:=Tryz.func129.trans (congrArg some (by kernel_rfl))
 f169:=Tryz.func130.trans (congrArg some (by kernel_rfl))
 f240:=Tryz.func170.trans (congrArg some (by kernel_rfl))
 f241:=Tryz.func171.trans (congrArg some (by kernel_rfl))
 f276:=Tryz.func224.trans (congrArg some (by kernel_rfl))
 f277:=Tryz.func225.trans (congrArg some (by kernel_rfl))
 t0:=Tryz.underlying0
 a0:=Tryz.isAgg0
 z0:=Tryz.sizeOf0
 v0:=Tryz.zeroValue0
 t3:=Tryz.underlying3
 a3:=Tryz.isAgg3
 z3:=Tryz.sizeOf3
 v3:=Tryz.zeroValue3
 t4:=Tryz.underlying4
 a4:=Tryz.isAgg4
 z4:=Tryz.sizeOf4
 v4:=Tryz.zeroValue4
 t9:=Tryz.underlying9
 a9:=Tryz.isAgg9
 z9:=Tryz.sizeOf9
 v9:=Tryz.zeroValue9
 t20:=Tryz.underlying20
 a20:=Tryz.isAgg20
 z20:=Tryz.sizeOf20
 v20:=Tryz.zeroValue20
 t31:=Tryz.underlying122
 a31:=Tryz.isAgg122
 z31:=Tryz.sizeOf122
 v31:=Tryz.zeroValue122
 t37:=Tryz.underlying212
 a37:=Tryz.isAgg212
 z37:=Tryz.sizeOf212
 v37:=Tryz.zeroValue212
 t70:=Tryz.underlying225
 a70:=Tryz.isAgg225
 z70:=Tryz.sizeOf225
 v70:=Tryz.zeroValue225
 t72:=Tryz.underlying227
 a72:=Tryz.isAgg227
 z72:=Tryz.sizeOf227
 v72:=Tryz.zeroValue227
 t75:=Tryz.underlying25
 a75:=Tryz.isAgg25
 z75:=Tryz.sizeOf25
 v75:=Tryz.zeroValue25
 t76:=Tryz.underlying34
 a76:=Tryz.isAgg34
 z76:=Tryz.sizeOf34
 v76:=Tryz.zeroValue34
 t127:=Tryz.underlying266
 a127:=Tryz.isAgg266
 z127:=Tryz.sizeOf266
 v127:=Tryz.zeroValue266
 t164:=Tryz.underlying280
 a164:=Tryz.isAgg280
 z164:=Tryz.sizeOf280
 v164:=Tryz.zeroValue280 }
theorem Tryz.Builder_Extra_156:Builder.Extra Tryz.prog Tryz.lays156_ren:={
 sizeBuilder:=by kernel_rfl
 liesBuilder:=by kernel_rfl
 t5:=Tryz.underlying5
 a5:=Tryz.isAgg5
 z5:=Tryz.sizeOf5
 v5:=Tryz.zeroValue5
 infoByte:=by kernel_rfl
 cellsByte:=by kernel_rfl
 sizeByte:=by kernel_rfl
 neB5:=by decide }
open Go.RowKit in
theorem Tryz.strings_Join_none (a:Option Addr) (c:Nat) (sep:ByteArray) (w:World) :
  Calls Tryz.prog 67 #[.slice a 0 c,.string sep] w fun e w'=>e=.returned (.string ⟨#[]⟩)∧w'=w:=Any.strings_Join_none Tryz.lays156 Tryz.Builder_Extra_156 a c sep w
open Go.RowKit in
theorem Tryz.strings_Join (bk o c:Nat) (xs:List ByteArray) (sep:ByteArray) (w:World) (hcells:∀ (j:Nat) x,xs[j]?=some x→w.cell? ⟨bk,o+j,none⟩=some (.string x)) (hbk:bk < w.heap.size) (hN:xs.length≤140737488355328) (hcap:xs.length≤c) (hlen:(Lib.join (xs.map (·.data.toList)) sep.data.toList).length≤140737488355328) :
  Calls Tryz.prog 67 #[.slice (some ⟨bk,o,none⟩) xs.length c,.string sep] w fun e w'=>e=.returned (.string ⟨(Lib.join (xs.map (·.data.toList)) sep.data.toList).toArray⟩)∧Below w.heap.size w w':=Any.strings_Join Tryz.lays156 Tryz.Builder_Extra_156 bk o c xs sep w hcells hbk hN hcap hlen
def Tryz.lays137_ren:Go.Shelf.Ren:=⟨fun | 137=>152 | 217=>192 | 266=>235 | n=>n,fun | 9=>9 | 5=>5 | 3=>3 | n=>n,fun | n=>n⟩
theorem Tryz.lays137:Go.Proofs.Lays.n137 Tryz.prog Tryz.lays137_ren:={
 mixed:=by kernel_rfl
 f137:=Tryz.func152.trans (congrArg some (by kernel_rfl))
 f217:=Tryz.func192.trans (congrArg some (by kernel_rfl))
 f266:=Tryz.func235.trans (congrArg some (by kernel_rfl))
 t3:=Tryz.underlying3
 a3:=Tryz.isAgg3
 z3:=Tryz.sizeOf3
 v3:=Tryz.zeroValue3
 t5:=Tryz.underlying5
 a5:=Tryz.isAgg5
 z5:=Tryz.sizeOf5
 v5:=Tryz.zeroValue5
 t9:=Tryz.underlying9
 a9:=Tryz.isAgg9
 z9:=Tryz.sizeOf9
 v9:=Tryz.zeroValue9 }
open Go.RowKit in
theorem Tryz.strings_IndexByte (s:ByteArray) (c:Int) (w:World) :
  Calls Tryz.prog 152 #[.string s,.int .u8 c] w fun e w'=>e=.returned (.int .i64 (Lib.indexByte s.data.toList c.toNat.toUInt8))∧w'=w:=Any.strings_IndexByte Tryz.lays137 s c w
def Tryz.laysM171_ren:Go.Shelf.Ren:=⟨fun | 171=>63 | 243=>122 | 246=>166 | 283=>203 | 284=>204 | 285=>205 | 286=>206 | 129=>181 | 317=>240 | 318=>241 | 319=>242 | 320=>243 | 337=>256 | 338=>257 | n=>n,fun | 3=>3 | 9=>9 | 2=>2 | 4=>4 | 171=>306 | 0=>0 | 53=>277 | 37=>212 | 5=>5 | 173=>308 | 212=>345 | 51=>275 | 20=>20 | 213=>346 | 46=>233 | 232=>362 | 233=>363 | n=>n,fun | 17=>13 | 18=>17 | 19=>18 | n=>n⟩
theorem Tryz.laysM171:Go.Proofs.LaysM.n171 Tryz.prog Tryz.laysM171_ren:={
 mixed:=by kernel_rfl
 f129:=Tryz.func181.trans (congrArg some (by kernel_rfl))
 f171:=Tryz.func63.trans (congrArg some (by kernel_rfl))
 f243:=Tryz.func122.trans (congrArg some (by kernel_rfl))
 f246:=Tryz.func166.trans (congrArg some (by kernel_rfl))
 f283:=Tryz.func203.trans (congrArg some (by kernel_rfl))
 f284:=Tryz.func204.trans (congrArg some (by kernel_rfl))
 f285:=Tryz.func205.trans (congrArg some (by kernel_rfl))
 f286:=Tryz.func206.trans (congrArg some (by kernel_rfl))
 f317:=Tryz.func240.trans (congrArg some (by kernel_rfl))
 f318:=Tryz.func241.trans (congrArg some (by kernel_rfl))
 f319:=Tryz.func242.trans (congrArg some (by kernel_rfl))
 f320:=Tryz.func243.trans (congrArg some (by kernel_rfl))
 f337:=Tryz.func256.trans (congrArg some (by kernel_rfl))
 f338:=Tryz.func257.trans (congrArg some (by kernel_rfl))
 t0:=Tryz.underlying0
 a0:=Tryz.isAgg0
 z0:=Tryz.sizeOf0
 v0:=Tryz.zeroValue0
 t2:=Tryz.underlying2
 a2:=Tryz.isAgg2
 z2:=Tryz.sizeOf2
 v2:=Tryz.zeroValue2
 t3:=Tryz.underlying3
 a3:=Tryz.isAgg3
 z3:=Tryz.sizeOf3
 v3:=Tryz.zeroValue3
 t4:=Tryz.underlying4
 a4:=Tryz.isAgg4
 z4:=Tryz.sizeOf4
 v4:=Tryz.zeroValue4
 t5:=Tryz.underlying5
 a5:=Tryz.isAgg5
 z5:=Tryz.sizeOf5
 v5:=Tryz.zeroValue5
 t9:=Tryz.underlying9
 a9:=Tryz.isAgg9
 z9:=Tryz.sizeOf9
 v9:=Tryz.zeroValue9
 t20:=Tryz.underlying20
 a20:=Tryz.isAgg20
 z20:=Tryz.sizeOf20
 v20:=Tryz.zeroValue20
 t37:=Tryz.underlying212
 a37:=Tryz.isAgg212
 z37:=Tryz.sizeOf212
 v37:=Tryz.zeroValue212
 t46:=Tryz.underlying233
 a46:=Tryz.isAgg233
 z46:=Tryz.sizeOf233
 v46:=Tryz.zeroValue233
 t51:=Tryz.underlying275
 a51:=Tryz.isAgg275
 z51:=Tryz.sizeOf275
 v51:=Tryz.zeroValue275
 t53:=Tryz.underlying277
 a53:=Tryz.isAgg277
 z53:=Tryz.sizeOf277
 v53:=Tryz.zeroValue277
 t171:=Tryz.underlying306
 a171:=Tryz.isAgg306
 z171:=Tryz.sizeOf306
 v171:=Tryz.zeroValue306
 t173:=Tryz.underlying308
 a173:=Tryz.isAgg308
 z173:=Tryz.sizeOf308
 v173:=Tryz.zeroValue308
 t212:=Tryz.underlying345
 a212:=Tryz.isAgg345
 z212:=Tryz.sizeOf345
 v212:=Tryz.zeroValue345
 t213:=Tryz.underlying346
 a213:=Tryz.isAgg346
 z213:=Tryz.sizeOf346
 t232:=Tryz.underlying362
 a232:=Tryz.isAgg362
 z232:=Tryz.sizeOf362
 v232:=Tryz.zeroValue362
 t233:=Tryz.underlying363
 a233:=Tryz.isAgg363
 z233:=Tryz.sizeOf363
 v233:=Tryz.zeroValue363
 g17:=by kernel_rfl
 g18:=by kernel_rfl
 g19:=by kernel_rfl
 i0:=by kernel_rfl
 i2:=by kernel_rfl
 i3:=by kernel_rfl
 i4:=by kernel_rfl
 i5:=by kernel_rfl
 i9:=by kernel_rfl
 i20:=by kernel_rfl
 i37:=by kernel_rfl
 i46:=by kernel_rfl
 i51:=by kernel_rfl
 i53:=by kernel_rfl
 i171:=by kernel_rfl
 i173:=by kernel_rfl
 i212:=by kernel_rfl
 i232:=by kernel_rfl
 i233:=by kernel_rfl
 m17:=by kernel_rfl
 m18:=by kernel_rfl
 m19:=by kernel_rfl }
open Go.RowKit Go.Sort Go.Lib in
theorem Tryz.strconv_Itoa (n:Int) (h0:-9223372036854775808≤n) (h1:n≤9223372036854775807) (w:World) (htab:Lib.TabIs Tryz.prog w "internal/strconv.uint64pow10" .u64 Lib.pow10Tab) :
  Calls Tryz.prog 63 #[.int .i64 n] w fun e w'=>e=.returned (.string ⟨(Lib.itoa n).toArray⟩)∧∃ k os,w'=grow (w.drewN k) os:=Any.strconv_Itoa Tryz.laysM171 n h0 h1 w htab
end Go.Proofs
namespace Go.Proofs.YtjekalilfhnpmaaGreatDoor
set_option linter.unusedVariables false
structure Lt where
 id:Int
 c:UInt8
 gone:Bool
def ixOf (id:Int):List Lt→Int
 | []=>-1
 | x :: r=>if x.id=id then 0 else if ixOf id r < 0 then -1 else ixOf id r+1
theorem ixOf_none {id:Int}:∀ {L:List Lt},(∀ x∈L,x.id≠id)→ixOf id L = -1
 | [],_=>rfl
 | x :: r,h=>by
  unfold ixOf
  rw [if_neg (h x (by simp)),ixOf_none (fun y hy=>h y (by simp [hy])),if_pos (by omega)]
theorem ixOf_some {id:Int}:∀ {L:List Lt} {j:Nat} {x:Lt},L[j]?=some x→x.id=id→(∀ i y,i < j→L[i]?=some y→y.id≠id)→ixOf id L=j
 | [],j,x,h,_,_=>by simp at h
 | y :: r,0,x,h,he,_=>by simp at h;subst h;unfold ixOf;rw [if_pos he];rfl
 | y :: r,j+1,x,h,he,hn=>by
  have h0:=hn 0 y (by omega) rfl
  have ih:=ixOf_some (L:=r) (j:=j) (x:=x) (by simpa using h) he (fun i z hi hz=>hn (i+1) z (by omega) (by simpa using hz))
  unfold ixOf
  rw [if_neg h0,ih,if_neg (by omega)]
  simp
theorem ixOf_lt (id:Int):∀ (L:List Lt),ixOf id L < L.length∧-1≤ixOf id L
 | []=>by simp [ixOf]
 | x :: r=>by
  have:=ixOf_lt id r
  unfold ixOf
  rw [List.length_cons]
  split
  ·omega
  ·split
   ·omega
   ·omega
theorem ixOf_at {id:Int}:∀ {L:List Lt},0≤ixOf id L→∃ A x B,L=A++x :: B∧x.id=id∧ixOf id L=A.length∧∀ y∈A,y.id≠id
 | [],h=>by simp [ixOf] at h
 | y :: r,h=>by
  by_cases he:y.id=id
  ·exact ⟨[],y,r,rfl,he,by unfold ixOf;rw [if_pos he];rfl,by simp⟩
  ·by_cases hr:ixOf id r < 0
   ·unfold ixOf at h
    rw [if_neg he,if_pos hr] at h
    omega
   ·obtain ⟨A,x,B,h1,h2,h3,h4⟩:=ixOf_at (id:=id) (L:=r) (by omega)
    refine ⟨y :: A,x,B,by rw [h1];rfl,h2,?_,?_⟩
    ·show ixOf id (y :: r)=_
     unfold ixOf
     rw [if_neg he,if_neg hr,h3]
     simp
    ·intro z hz
     rcases List.mem_cons.1 hz with rfl | hz
     ·exact he
     ·exact h4 z hz
def insErr (id behind:Int) (L:List Lt):Nat:=
 if id < 4∨4294967300≤id∨behind < 0∨id≤behind then 3 else if 0≤ixOf id L then 7 else if 0 < behind∧ixOf behind L < 0 then 6 else 0
def insAt (L:List Lt) (a:Nat) (id:Int):Nat:=a+((L.drop a).takeWhile fun x=>decide (id < x.id)).length
def insFrom (behind:Int) (L:List Lt):Nat:=if 0 < behind then (ixOf behind L+1).toNat else 0
def insL (id behind:Int) (c:UInt8) (L:List Lt):List Lt:=L.take (insAt L (insFrom behind L) id)++⟨id,c,false⟩ :: L.drop (insAt L (insFrom behind L) id)
def insAfter (id behind:Int) (c:UInt8) (L:List Lt):List Lt:=if insErr id behind L=0 then insL id behind c L else L
theorem takeWhile_stop (p:Lt→Bool):∀ (L:List Lt) (k:Nat),(∀ j x,j < k→L[j]?=some x→p x=true)→k≤L.length→(∀ x,L[k]?=some x→p x=false)→(L.takeWhile p).length=k
 | [],k,_,hk,_=>by simp at hk;subst hk;rfl
 | y :: r,0,_,_,hs=>by have:=hs y rfl;simp [List.takeWhile,this]
 | y :: r,k+1,hp,hk,hs=>by
  have h0:=hp 0 y (by omega) rfl
  rw [List.takeWhile_cons_of_pos h0,List.length_cons,takeWhile_stop p r k (fun j x hj hx=>hp (j+1) x (by omega) (by simpa using hx)) (by simpa using hk) (fun x hx=>hs x (by simpa using hx))]
theorem insAt_is {L:List Lt} {a k:Nat} {id:Int} (ha:a≤k) (hk:k≤L.length) (hp:∀ j x,a≤j→j < k→L[j]?=some x→id < x.id) (hs:∀ x,L[k]?=some x→¬ id < x.id):insAt L a id=k:=by
 unfold insAt
 rw [takeWhile_stop _ (L.drop a) (k - a) (fun j x hj hx=>by
   rw [List.getElem?_drop] at hx
   exact decide_eq_true (hp (a+j) x (by omega) (by omega) hx)) (by simp;omega) (fun x hx=>by
   rw [List.getElem?_drop,show a+(k - a)=k by omega] at hx
   exact decide_eq_false (hs x hx))]
 omega
def txtL (L:List Lt):List UInt8:=(L.filter fun x=>!x.gone).map (·.c)
def idsL (L:List Lt):List Int:=L.map (·.id)
theorem txtL_len (L:List Lt):(txtL L).length≤L.length:=by unfold txtL;rw [List.length_map];exact List.length_filter_le _ _
def delL (id:Int):List Lt→List Lt
 | []=>[]
 | x :: r=>if x.id=id then ⟨x.id,x.c,true⟩ :: r else x :: delL id r
theorem delL_none {id:Int}:∀ {L:List Lt},ixOf id L < 0→delL id L=L
 | [],_=>rfl
 | y :: r,h=>by
  unfold ixOf at h
  unfold delL
  split at h
  ·omega
  ·rename_i hne
   rw [if_neg hne]
   split at h
   ·rename_i hr;rw [delL_none hr]
   ·omega
theorem delL_at {id:Int} {x:Lt} {B:List Lt}:∀ {A:List Lt},x.id=id→(∀ y∈A,y.id≠id)→delL id (A++x :: B)=A++⟨x.id,x.c,true⟩ :: B
 | [],h,_=>by unfold delL;rw [List.nil_append];simp [h]
 | y :: A,h,hn=>by
  show delL id (y :: (A++x :: B))=_
  unfold delL
  rw [if_neg (hn y (by simp)),delL_at h (fun z hz=>hn z (by simp [hz]))]
  rfl
theorem delL_ids (id:Int):∀ (L:List Lt),idsL (delL id L)=idsL L
 | []=>rfl
 | y :: r=>by
  unfold delL
  split
  ·rfl
  ·show y.id :: idsL (delL id r)=y.id :: idsL r
   rw [delL_ids id r]
theorem delL_len (id:Int) (L:List Lt):(delL id L).length=L.length:=by
 have:=congrArg List.length (delL_ids id L)
 simpa [idsL] using this
theorem insAt_le (id behind:Int) (L:List Lt):insFrom behind L≤insAt L (insFrom behind L) id∧insAt L (insFrom behind L) id≤L.length:=by
 have hf:insFrom behind L≤L.length:=by
  have:=ixOf_lt behind L
  unfold insFrom
  split <;> omega
 refine ⟨by unfold insAt;omega,?_⟩
 unfold insAt
 have:((L.drop (insFrom behind L)).takeWhile fun x=>decide (id < x.id)).length≤(L.drop (insFrom behind L)).length:=by
  generalize L.drop (insFrom behind L)=M
  induction M with
  | nil=>simp
  | cons a r ih=>rw [List.takeWhile_cons];split <;> simp <;> omega
 rw [List.length_drop] at this
 omega
theorem insL_len (id behind:Int) (c:UInt8) (L:List Lt):(insL id behind c L).length=L.length+1:=by
 have:=(insAt_le id behind L).2
 unfold insL
 rw [List.length_append,List.length_cons,List.length_take,List.length_drop]
 omega
end Go.Proofs.YtjekalilfhnpmaaGreatDoor
namespace Go.Proofs.YtjekalilfhnpmaaGreatDoor.LineOrd
def bef (par:Nat→Nat):Nat→Nat→Nat→Bool
 | 0,_,_=>false
 | n+1,x,y=>
  if x < y then x == par y || bef par n x (par y)
  else if y < x then !(y == par x || bef par n y (par x))
  else false
theorem bef_fuel (par:Nat→Nat) (hp:∀ z,0 < z→par z < z):∀ (k n m x y:Nat),x+y≤k→x+y < n→x+y < m→bef par n x y=bef par m x y:=by
 intro k
 induction k with
 | zero=>
  intro n m x y hk hn hm
  obtain ⟨rfl,rfl⟩:x=0∧y=0:=by omega
  cases n <;> cases m <;> simp [bef] at *
 | succ k ih=>
  intro n m x y hk hn hm
  cases n with
  | zero=>omega
  | succ n=>
   cases m with
   | zero=>omega
   | succ m=>
    simp only [bef]
    by_cases h1:x < y
    ·have:=hp y (by omega)
     rw [if_pos h1,if_pos h1,ih n m x (par y) (by omega) (by omega) (by omega)]
    ·rw [if_neg h1,if_neg h1]
     by_cases h2:y < x
     ·have:=hp x (by omega)
      rw [if_pos h2,if_pos h2,ih n m y (par x) (by omega) (by omega) (by omega)]
     ·rw [if_neg h2,if_neg h2]
def Bef (par:Nat→Nat) (x y:Nat):Prop:=bef par (x+y+1) x y=true
structure Order (par:Nat→Nat) (R:Nat→Nat→Prop):Prop where
 par_lt:∀ z,0 < z→par z < z
 lt:∀ x y,x < y→(R x y↔x=par y∨R x (par y))
 gt:∀ x y,y < x→(R x y↔¬ R y x)
 irr:∀ x,¬ R x x
theorem Bef.order (par:Nat→Nat) (hp:∀ z,0 < z→par z < z):Order par (Bef par):=by
 refine ⟨hp,?_,?_,?_⟩
 ·intro x y h
  unfold Bef
  have:=hp y (by omega)
  rw [show bef par (x+y+1) x y=(x == par y || bef par (x+y) x (par y)) by simp [bef,h]]
  rw [bef_fuel par hp (x+par y) (x+y) (x+par y+1) x (par y) (by omega) (by omega) (by omega)]
  simp
 ·intro x y h
  unfold Bef
  have:=hp x (by omega)
  rw [show bef par (x+y+1) x y=!(y == par x || bef par (x+y) y (par x)) by simp [bef,h,Nat.lt_asymm h]]
  rw [show bef par (y+x+1) y x=(y == par x || bef par (y+x) y (par x)) by simp [bef,h]]
  rw [Nat.add_comm y x]
  simp
 ·intro x
  unfold Bef
  simp [bef]
section
variable {par:Nat→Nat} {R:Nat→Nat→Prop} (O:Order par R)
include O
theorem Order.not_zero (x:Nat):0 < x→¬ R x 0:=by
 induction x using Nat.strongRecOn with
 | _ x ih=>
  intro hx h
  rw [O.gt x 0 hx,O.lt 0 x hx] at h
  have hl:=O.par_lt x hx
  rcases Nat.eq_zero_or_pos (par x) with h0 | h0
  ·exact h (.inl h0.symm)
  ·exact h (.inr (Classical.byContradiction fun hn=>ih (par x) hl h0 ((O.gt (par x) 0 h0).2 hn)))
theorem Order.asymm {x y:Nat} (h:R x y):¬ R y x:=by
 rcases Nat.lt_trichotomy x y with hl | rfl | hl
 ·exact fun h'=>((O.gt y x hl).1 h') h
 ·exact O.irr x
 ·exact (O.gt x y hl).1 h
theorem Order.par_bef {y:Nat} (hy:0 < y):R (par y) y:=(O.lt _ _ (O.par_lt y hy)).2 (.inl rfl)
structure Good (par:Nat→Nat) (R:Nat→Nat→Prop) (l:List Nat):Prop where
 sorted:l.Pairwise R
 pos:∀ y∈l,0 < y
 closed:∀ y∈l,par y=0∨par y∈l
omit O in
theorem Good.nil:Good par R []:=⟨.nil,by simp,by simp⟩
theorem Order.ahead {A C:List Nat} {x:Nat} (hg:Good par R (A++C)) (hx:0 < x) (hnew:x ∉ A++C) (_hpar:par x=0∨par x∈A)
  (hA:∀ y∈A,y < x→y=par x∨R y (par x)):∀ y∈A,R y x:=by
 intro y
 induction y using Nat.strongRecOn with
 | _ y ih=>
  intro hy
  have hp0:=hg.pos y (by simp [hy])
  rcases Nat.lt_trichotomy y x with hl | rfl | hl
  ·exact (O.lt y x hl).2 (hA y hy hl)
  ·exact absurd (by simp [hy]) hnew
  ·refine (O.gt y x hl).2 fun hxy=>?_
   rcases (O.lt x y hl).1 hxy with he | hr
   ·rcases hg.closed y (by simp [hy]) with h0 | hm
    ·omega
    ·exact hnew (he▸hm)
   ·rcases hg.closed y (by simp [hy]) with h0 | hm
    ·exact O.not_zero x hx (h0▸hr)
    ·have hm':par y∈A:=by
      rcases List.mem_append.1 hm with h | h
      ·exact h
      ·have:=(List.pairwise_append.1 hg.sorted).2.2 y hy (par y) h
       exact absurd (O.par_bef hp0) (O.asymm this)
     exact O.asymm (ih (par y) (O.par_lt y hp0) hm') hr
theorem Order.behind {A C:List Nat} {c x:Nat} (hg:Good par R (A++c :: C)) (_hx:0 < x) (hnew:x ∉ A++c :: C) (hc:c < x)
  (hC:∀ y∈c :: C,y≠par x∧¬ R y (par x)):∀ y∈c :: C,R x y:=by
 intro y
 induction y using Nat.strongRecOn with
 | _ y ih=>
  intro hy
  have hp0:=hg.pos y (List.mem_append_right _ hy)
  rcases Nat.lt_trichotomy x y with hl | rfl | hl
  ·refine (O.lt x y hl).2 (.inr ?_)
   have hyC:y∈C:=by
    rcases List.mem_cons.1 hy with rfl | h
    ·omega
    ·exact h
   have hcy:R c y:=(List.pairwise_cons.1 (List.pairwise_append.1 hg.sorted).2.1).1 y hyC
   rw [O.lt c y (by omega)] at hcy
   have hm:par y∈c :: C:=by
    rcases hg.closed y (List.mem_append_right _ hy) with h0 | hm
    ·rw [h0] at hcy
     have hcp:=hg.pos c (by simp)
     rcases hcy with h | h
     ·omega
     ·exact absurd h (O.not_zero c hcp)
    ·rcases List.mem_append.1 hm with h | h
     ·have hAc:=(List.pairwise_append.1 hg.sorted).2.2 (par y) h c (by simp)
      rcases hcy with h' | h'
      ·exact absurd (h'▸hAc) (O.irr _)
      ·exact absurd h' (O.asymm hAc)
     ·exact h
   exact ih (par y) (O.par_lt y hp0) hm
  ·exact absurd (List.mem_append_right _ hy) hnew
  ·refine (O.gt x y hl).2 fun h=>?_
   rcases (O.lt y x hl).1 h with h' | h'
   ·exact (hC y hy).1 h'
   ·exact (hC y hy).2 h'
theorem Order.insert {P B C:List Nat} {x:Nat} (hg:Good par R (P++(B++C))) (hx:0 < x) (hnew:x ∉ P++(B++C))
  (hpar:(par x=0∧P=[])∨∃ A,P=A++[par x]) (hB:∀ y∈B,x < y) (hC:∀ c,C.head?=some c→c < x) :
  Good par R (P++(B++x :: C)):=by
 have hs:=hg.sorted
 have hP:par x=0∨par x∈P:=by
  rcases hpar with ⟨h,_⟩ | ⟨A,rfl⟩
  ·exact .inl h
  ·exact .inr (by simp)
 have hPp:∀ y∈P,y=par x∨R y (par x):=by
  intro y hy
  rcases hpar with ⟨_,rfl⟩ | ⟨A,rfl⟩
  ·simp at hy
  ·rcases List.mem_append.1 hy with h | h
   ·exact .inr ((List.pairwise_append.1 (List.pairwise_append.1 hs).1).2.2 y h _ (by simp))
   ·exact .inl (by simpa using h)
 have hA:∀ y∈P++B,R y x:=by
  refine O.ahead (A:=P++B) (C:=C) (by simpa using hg) hx (by simpa using hnew) (hP.imp id fun h=>by simp [h]) ?_
  intro y hy hl
  rcases List.mem_append.1 hy with h | h
  ·exact hPp y h
  ·exact absurd (hB y h) (by omega)
 have hR:∀ y∈C,R x y:=by
  cases hc:C with
  | nil=>simp
  | cons c D=>
   subst hc
   refine O.behind (A:=P++B) (by simpa using hg) hx (by simpa using hnew) (hC c rfl) ?_
   intro y hy
   have hy0:=hg.pos y (by simp only [List.mem_append];exact .inr (.inr hy))
   rcases hpar with ⟨h0,_⟩ | ⟨A,rfl⟩
   ·exact ⟨by omega,h0▸O.not_zero y hy0⟩
   ·have:=(List.pairwise_append.1 hs).2.2 (par x) (by simp) y (by simp only [List.mem_append];exact .inr hy)
    exact ⟨fun h=>O.irr _ (h▸this),O.asymm this⟩
 have hmem:∀ y,y∈P++(B++x :: C)↔y=x∨y∈P++(B++C):=by
  intro y;simp only [List.mem_append,List.mem_cons]
  constructor
  ·rintro (h | h | h | h) <;> simp [h]
  ·rintro (h | h | h | h) <;> simp [h]
 refine ⟨?_,fun y hy=>?_,fun y hy=>?_⟩
 ·have h1:=List.pairwise_append.1 hs
  have h2:=List.pairwise_append.1 h1.2.1
  refine List.pairwise_append.2 ⟨h1.1,List.pairwise_append.2 ⟨h2.1,List.pairwise_cons.2 ⟨hR,h2.2.1⟩,?_⟩,?_⟩
  ·intro a ha b hb
   rcases List.mem_cons.1 hb with rfl | hb
   ·exact hA a (by simp [ha])
   ·exact h2.2.2 a ha b hb
  ·intro a ha b hb
   rcases List.mem_append.1 hb with hb | hb
   ·exact h1.2.2 a ha b (by simp [hb])
   ·rcases List.mem_cons.1 hb with rfl | hb
    ·exact hA a (by simp [ha])
    ·exact h1.2.2 a ha b (by simp [hb])
 ·rcases (hmem y).1 hy with rfl | h
  ·exact hx
  ·exact hg.pos y h
 ·rcases (hmem y).1 hy with rfl | h
  ·exact hP.imp id fun h=>(hmem _).2 (.inr (by simp [h]))
  ·exact (hg.closed y h).imp id fun h=>(hmem _).2 (.inr h)
theorem Order.unique:∀ {l m:List Nat},l.Pairwise R→m.Pairwise R→(∀ y,y∈l↔y∈m)→l=m
 | [],m,_,_,h=>by
  cases m with
  | nil=>rfl
  | cons b m=>exact absurd ((h b).2 (by simp)) (by simp)
 | a :: l,[],_,_,h=>absurd ((h a).1 (by simp)) (by simp)
 | a :: l,b :: m,hl,hm,h=>by
  have hl':=List.pairwise_cons.1 hl
  have hm':=List.pairwise_cons.1 hm
  have hab:a=b:=by
   rcases List.mem_cons.1 ((h a).1 (by simp)) with h1 | h1
   ·exact h1
   ·rcases List.mem_cons.1 ((h b).2 (by simp)) with h2 | h2
    ·exact h2.symm
    ·exact absurd (hl'.1 b h2) (O.asymm (hm'.1 a h1))
  subst hab
  have:l=m:=by
   refine Order.unique hl'.2 hm'.2 fun y=>⟨fun hy=>?_,fun hy=>?_⟩
   ·rcases List.mem_cons.1 ((h y).1 (by simp [hy])) with rfl | h1
    ·exact absurd (hl'.1 y hy) (O.irr y)
    ·exact h1
   ·rcases List.mem_cons.1 ((h y).2 (by simp [hy])) with rfl | h1
    ·exact absurd (hm'.1 y hy) (O.irr y)
    ·exact h1
  rw [this]
end
end Go.Proofs.YtjekalilfhnpmaaGreatDoor.LineOrd
namespace Go.Proofs.YtjekalilfhnpmaaGreatDoor
open LineOrd
theorem takeWhile_all (p:Nat→Bool):∀ (D:List Nat),∀ y∈D.takeWhile p,p y=true
 | [],y,h=>by simp at h
 | a :: D,y,h=>by
  rw [List.takeWhile_cons] at h
  split at h
  ·rcases List.mem_cons.1 h with rfl | h
   ·assumption
   ·exact takeWhile_all p D y h
  ·simp at h
theorem dropWhile_head (p:Nat→Bool):∀ (D:List Nat) (c:Nat),(D.dropWhile p).head?=some c→p c=false
 | [],c,h=>by simp at h
 | a :: D,c,h=>by
  rw [List.dropWhile_cons] at h
  split at h
  ·exact dropWhile_head p D c h
  ·rename_i hp
   simp at h
   subst h
   simpa using hp
end Go.Proofs.YtjekalilfhnpmaaGreatDoor
namespace Go.Proofs
open Go.Shelf
def Tryz.plKeys_ren:Go.Shelf.Ren:=⟨fun | 7=>85 | 10=>139 | n=>n,fun | 23=>151 | 26=>3 | 3=>81 | 28=>125 | 0=>0 | 27=>124 | 33=>111 | 4=>4 | n=>n,fun | n=>n⟩
theorem Tryz.plKeys:Go.Proofs.SlLaysZI.n7 Tryz.prog Tryz.plKeys_ren:={
 mixed:=by kernel_rfl
 f7:=⟨Tryz.f85.name,by decide,Tryz.func85.trans (congrArg some (by kernel_rfl))⟩
 f10:=⟨Tryz.f139.name,by decide,Tryz.func139.trans (congrArg some (by kernel_rfl))⟩
 t0:=Tryz.underlying0
 a0:=Tryz.isAgg0
 z0:=Tryz.sizeOf0
 v0:=Tryz.zeroValue0
 t4:=Tryz.underlying4
 a4:=Tryz.isAgg4
 z4:=Tryz.sizeOf4
 v4:=Tryz.zeroValue4
 t23:=Tryz.underlying151
 a23:=Tryz.isAgg151
 z23:=Tryz.sizeOf151
 v23:=Tryz.zeroValue151
 t26:=Tryz.underlying3
 a26:=Tryz.isAgg3
 z26:=Tryz.sizeOf3
 v26:=Tryz.zeroValue3
 t27:=Tryz.underlying124
 a27:=Tryz.isAgg124
 z27:=Tryz.sizeOf124
 v27:=Tryz.zeroValue124
 t28:=Tryz.underlying125
 a28:=Tryz.isAgg125
 z28:=Tryz.sizeOf125
 v28:=Tryz.zeroValue125
 t33:=Tryz.underlying111
 a33:=Tryz.isAgg111
 z33:=Tryz.sizeOf111
 v33:=Tryz.zeroValue111 }
def Tryz.lnKeys_ren:Go.Shelf.Ren:=⟨fun | 7=>65 | 10=>125 | n=>n,fun | 23=>101 | 26=>3 | 3=>118 | 28=>125 | 0=>0 | 27=>124 | 33=>111 | 4=>4 | n=>n,fun | n=>n⟩
theorem Tryz.lnKeys:Go.Proofs.SlLaysZI.n7 Tryz.prog Tryz.lnKeys_ren:={
 mixed:=by kernel_rfl
 f7:=⟨Tryz.f65.name,by decide,Tryz.func65.trans (congrArg some (by kernel_rfl))⟩
 f10:=⟨Tryz.f125.name,by decide,Tryz.func125.trans (congrArg some (by kernel_rfl))⟩
 t0:=Tryz.underlying0
 a0:=Tryz.isAgg0
 z0:=Tryz.sizeOf0
 v0:=Tryz.zeroValue0
 t4:=Tryz.underlying4
 a4:=Tryz.isAgg4
 z4:=Tryz.sizeOf4
 v4:=Tryz.zeroValue4
 t23:=Tryz.underlying101
 a23:=Tryz.isAgg101
 z23:=Tryz.sizeOf101
 v23:=Tryz.zeroValue101
 t26:=Tryz.underlying3
 a26:=Tryz.isAgg3
 z26:=Tryz.sizeOf3
 v26:=Tryz.zeroValue3
 t27:=Tryz.underlying124
 a27:=Tryz.isAgg124
 z27:=Tryz.sizeOf124
 v27:=Tryz.zeroValue124
 t28:=Tryz.underlying125
 a28:=Tryz.isAgg125
 z28:=Tryz.sizeOf125
 v28:=Tryz.zeroValue125
 t33:=Tryz.underlying111
 a33:=Tryz.isAgg111
 z33:=Tryz.sizeOf111
 v33:=Tryz.zeroValue111 }
def Tryz.plSorted_ren:Go.Shelf.Ren:=⟨fun | 6=>64 | 8=>123 | 9=>124 | 11=>167 | 13=>133 | 12=>168 | 23=>180 | 24=>181 | 14=>207 | 15=>208 | 16=>209 | 17=>210 | 18=>211 | 19=>212 | 20=>213 | 21=>214 | 22=>215 | 25=>244 | 26=>227 | 27=>228 | 28=>245 | 29=>246 | 30=>135 | 31=>258 | n=>n,fun | 26=>3 | 28=>125 | 24=>42 | 0=>0 | 3=>3 | 37=>233 | 48=>275 | 50=>277 | 4=>4 | 40=>269 | 39=>268 | 45=>63 | 5=>5 | 9=>9 | 51=>322 | 55=>326 | 57=>351 | 58=>155 | 33=>111 | n=>n,fun | n=>n⟩
theorem Tryz.plSorted:Go.Proofs.SlLaysZI.n6 Tryz.prog Tryz.plSorted_ren:={
 mixed:=by kernel_rfl
 f6:=⟨Tryz.f64.name,by decide,Tryz.func64.trans (congrArg some (by kernel_rfl))⟩
 f8:=⟨Tryz.f123.name,by decide,Tryz.func123.trans (congrArg some (by kernel_rfl))⟩
 f11:=⟨Tryz.f167.name,by decide,Tryz.func167.trans (congrArg some (by kernel_rfl))⟩
 t0:=Tryz.underlying0
 a0:=Tryz.isAgg0
 z0:=Tryz.sizeOf0
 v0:=Tryz.zeroValue0
 t24:=Tryz.underlying42
 a24:=Tryz.isAgg42
 z24:=Tryz.sizeOf42
 v24:=Tryz.zeroValue42
 t26:=Tryz.underlying3
 a26:=Tryz.isAgg3
 z26:=Tryz.sizeOf3
 v26:=Tryz.zeroValue3
 t28:=Tryz.underlying125
 a28:=Tryz.isAgg125
 z28:=Tryz.sizeOf125
 v28:=Tryz.zeroValue125
 i26:=by kernel_rfl }
def Tryz.plSort_ren:Go.Shelf.Ren:=⟨fun | 5=>124 | 8=>133 | 7=>168 | 19=>180 | 20=>181 | 10=>207 | 11=>208 | 12=>209 | 13=>210 | 14=>211 | 15=>212 | 16=>213 | 17=>214 | 18=>215 | 30=>244 | 31=>227 | 32=>228 | 33=>245 | 34=>246 | 35=>135 | 40=>258 | n=>n,fun | 23=>42 | 25=>3 | 3=>3 | 32=>233 | 22=>42 | 0=>0 | 44=>275 | 46=>277 | 4=>4 | 36=>269 | 35=>268 | 41=>63 | 5=>5 | 9=>9 | 53=>322 | 57=>326 | 63=>351 | 64=>155 | n=>n,fun | n=>n⟩
theorem Tryz.plSort:Go.Proofs.SlLaysM.n5 Tryz.prog Tryz.plSort_ren:={
 mixed:=by kernel_rfl
 f5:=⟨Tryz.f124.name,by decide,Tryz.func124.trans (congrArg some (by kernel_rfl))⟩
 f7:=⟨Tryz.f168.name,by decide,Tryz.func168.trans (congrArg some (by kernel_rfl))⟩
 f8:=Tryz.func133.trans (congrArg some (by kernel_rfl))
 f10:=⟨Tryz.f207.name,by decide,Tryz.func207.trans (congrArg some (by kernel_rfl))⟩
 f11:=⟨Tryz.f208.name,by decide,Tryz.func208.trans (congrArg some (by kernel_rfl))⟩
 f12:=⟨Tryz.f209.name,by decide,Tryz.func209.trans (congrArg some (by kernel_rfl))⟩
 f13:=⟨Tryz.f210.name,by decide,Tryz.func210.trans (congrArg some (by kernel_rfl))⟩
 f14:=⟨Tryz.f211.name,by decide,Tryz.func211.trans (congrArg some (by kernel_rfl))⟩
 f15:=⟨Tryz.f212.name,by decide,Tryz.func212.trans (congrArg some (by kernel_rfl))⟩
 f16:=⟨Tryz.f213.name,by decide,Tryz.func213.trans (congrArg some (by kernel_rfl))⟩
 f17:=⟨Tryz.f214.name,by decide,Tryz.func214.trans (congrArg some (by kernel_rfl))⟩
 f18:=⟨Tryz.f215.name,by decide,Tryz.func215.trans (congrArg some (by kernel_rfl))⟩
 f19:=Tryz.func180.trans (congrArg some (by kernel_rfl))
 f20:=Tryz.func181.trans (congrArg some (by kernel_rfl))
 f30:=⟨Tryz.f244.name,by decide,Tryz.func244.trans (congrArg some (by kernel_rfl))⟩
 f31:=Tryz.func227.trans (congrArg some (by kernel_rfl))
 f32:=Tryz.func228.trans (congrArg some (by kernel_rfl))
 f33:=⟨Tryz.f245.name,by decide,Tryz.func245.trans (congrArg some (by kernel_rfl))⟩
 f34:=⟨Tryz.f246.name,by decide,Tryz.func246.trans (congrArg some (by kernel_rfl))⟩
 f35:=⟨Tryz.f135.name,by decide,Tryz.func135.trans (congrArg some (by kernel_rfl))⟩
 f40:=⟨Tryz.f258.name,by decide,Tryz.func258.trans (congrArg some (by kernel_rfl))⟩
 t0:=Tryz.underlying0
 a0:=Tryz.isAgg0
 z0:=Tryz.sizeOf0
 v0:=Tryz.zeroValue0
 t3:=Tryz.underlying3
 a3:=Tryz.isAgg3
 z3:=Tryz.sizeOf3
 v3:=Tryz.zeroValue3
 t4:=Tryz.underlying4
 a4:=Tryz.isAgg4
 z4:=Tryz.sizeOf4
 v4:=Tryz.zeroValue4
 t5:=Tryz.underlying5
 a5:=Tryz.isAgg5
 z5:=Tryz.sizeOf5
 v5:=Tryz.zeroValue5
 t9:=Tryz.underlying9
 a9:=Tryz.isAgg9
 z9:=Tryz.sizeOf9
 v9:=Tryz.zeroValue9
 t22:=Tryz.underlying42
 a22:=Tryz.isAgg42
 z22:=Tryz.sizeOf42
 v22:=Tryz.zeroValue42
 t23:=Tryz.underlying42
 a23:=Tryz.isAgg42
 z23:=Tryz.sizeOf42
 v23:=Tryz.zeroValue42
 t25:=Tryz.underlying3
 a25:=Tryz.isAgg3
 z25:=Tryz.sizeOf3
 v25:=Tryz.zeroValue3
 t32:=Tryz.underlying233
 a32:=Tryz.isAgg233
 z32:=Tryz.sizeOf233
 v32:=Tryz.zeroValue233
 t35:=Tryz.underlying268
 a35:=Tryz.isAgg268
 z35:=Tryz.sizeOf268
 v35:=Tryz.zeroValue268
 t36:=Tryz.underlying269
 a36:=Tryz.isAgg269
 z36:=Tryz.sizeOf269
 v36:=Tryz.zeroValue269
 t41:=Tryz.underlying63
 a41:=Tryz.isAgg63
 z41:=Tryz.sizeOf63
 v41:=Tryz.zeroValue63
 t44:=Tryz.underlying275
 a44:=Tryz.isAgg275
 z44:=Tryz.sizeOf275
 v44:=Tryz.zeroValue275
 t46:=Tryz.underlying277
 a46:=Tryz.isAgg277
 z46:=Tryz.sizeOf277
 v46:=Tryz.zeroValue277
 t53:=Tryz.underlying322
 a53:=Tryz.isAgg322
 z53:=Tryz.sizeOf322
 v53:=Tryz.zeroValue322
 t57:=Tryz.underlying326
 a57:=Tryz.isAgg326
 z57:=Tryz.sizeOf326
 v57:=Tryz.zeroValue326
 t63:=Tryz.underlying351
 a63:=Tryz.isAgg351
 z63:=Tryz.sizeOf351
 v63:=Tryz.zeroValue351
 t64:=Tryz.underlying155
 a64:=Tryz.isAgg155
 z64:=Tryz.sizeOf155
 v64:=Tryz.zeroValue155 }
end Go.Proofs
