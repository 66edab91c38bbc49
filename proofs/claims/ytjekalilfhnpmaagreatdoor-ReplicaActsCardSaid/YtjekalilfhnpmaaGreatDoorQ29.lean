/- A replica's State: its lines. A replica's State: determined by its operations. -/
import Derived.Test.YtjekalilfhnpmaaGreatDoorQ00
import Derived.Test.YtjekalilfhnpmaaGreatDoorQ06
import Derived.Test.YtjekalilfhnpmaaGreatDoorQ18
import Derived.Test.YtjekalilfhnpmaaGreatDoorQ28
theorem Go.Proofs.YtjekalilfhnpmaaGreatDoor.κ29 {p:Prop} (h:p):Go.RowKit.Hid p:=Go.Lib.hid h
namespace Go.Proofs.YtjekalilfhnpmaaGreatDoor
open Go Go.RowKit Go.Maps Go.Sort Go.Shelf LineOrd Tree
set_option linter.unusedVariables false
set_option linter.unusedSimpArgs false
set_option maxHeartbeats 2000000
set_option maxRecDepth 100000
def strB:Enc ByteArray:=⟨fun x=>[.string x],1,fun _=>rfl,fun x v hv=>by simp at hv;subst hv;rfl⟩
theorem infoStrB:(Tryz.prog.info? 9).map (fun i=>(i.zero,i.size,i.bytes))=some (some (.string ⟨#[]⟩),1,16):=by kernel_rfl
def plLine (y:PlT):ByteArray:=S (Lib.itoa y.nd)++⟨#[32,105,110,32]⟩++S (Lib.itoa y.into)++⟨#[32]⟩++y.nm
def txLine (n:Int) (t:ByteArray):ByteArray:=S (Lib.itoa n)++⟨#[32,116,101,120,116,32]⟩++t
def mkLine (x:MarkT):ByteArray:=S (Lib.itoa x.nd)++⟨#[32,109,97,114,107,32]⟩++x.nm++⟨#[32]⟩++x.vl
def txLines (T:Int→List UInt8):List Int→List ByteArray
 | []=>[]
 | n :: r=>if S (T n)=⟨#[]⟩ then txLines T r else txLine n (S (T n)) :: txLines T r
theorem txLines_snoc (T:Int→List UInt8) (a:List Int) (n:Int):txLines T (a++[n])=txLines T a++(if S (T n)=⟨#[]⟩ then [] else [txLine n (S (T n))]):=by
 induction a with
 | nil=>
  simp only [List.nil_append,txLines]
 | cons x r ih=>simp only [List.cons_append,txLines,ih];split <;> rfl
theorem txLines_len (T:Int→List UInt8) (a:List Int):(txLines T a).length≤a.length:=by
 induction a with
 | nil=>exact Nat.le_refl _
 | cons x r ih=>
  simp only [txLines]
  split
  ·rw [List.length_cons];omega
  ·rw [List.length_cons,List.length_cons];omega
def joinB (L:List ByteArray):ByteArray:=⟨(Lib.join (L.map (·.data.toList)) [10]).toArray⟩
def stateB (Q:List PlT) (ns:List Int) (T:Int→List UInt8) (ms:List MarkT):ByteArray:=joinB (Q.map plLine++txLines T ns++ms.map mkLine)
theorem join_len (sep:List UInt8) (c:Nat):∀ (L:List (List UInt8)),(∀ x∈L,x.length≤c)→(Lib.join L sep).length≤L.length*(c+sep.length)
 | [],_=>by simp [Lib.join]
 | [x],h=>by have:=h x (by simp);simp [Lib.join];omega
 | x :: y :: r,h=>by
  have h1:=h x (by simp)
  have h2:=join_len sep c (y :: r) (fun z hz=>h z (List.mem_cons_of_mem _ hz))
  have h3:Lib.join (x :: y :: r) sep=x++sep++Lib.join (y :: r) sep:=by simp [Lib.join,List.intercalate,List.intersperse]
  rw [h3,List.length_append,List.length_append]
  simp only [List.length_cons] at h2 ⊢
  have:(r.length+1+1)*(c+sep.length)=(r.length+1)*(c+sep.length)+(c+sep.length):=by rw [Nat.add_mul (r.length+1) 1];omega
  omega
theorem wpList_append_rw {T:Type} {P:Program} {w:World} {ops:Array Oper} {rest:List Oper} {o:Oper} {a:Act} {Q:Exit→Act→World→Prop} (hg:o.guard=none) (s x:Operand) (t:TypeId)
  (hop:o.op=Op.call { callee:=Callee.builtin Builtin.append,args:=#[s,x],argTypes:=#[t,t] })
  (E:Enc T) (base:Nat) (e:TypeId) (z:Value) (bytes:Nat) (ht:P.underlying t=some (.slice e)) (hi:(P.info? e).map (fun i=>(i.zero,i.size,i.bytes))=some (some z,E.k,bytes)) (hzs:z.cells.size=E.k) (hsz:0 < E.k)
  (v:Value) (L:List T) (hs:a.eval s=v) (hL:Rw E e base v L w) (ad:Addr) (c:Nat) (y:T) (hx:a.eval x=.slice (some ad) 1 c) (hX:SlV E w (.slice (some ad) 1 c) [y])
  (b1:L.length+1≤maxLen) (b2:(L.length+1)*bytes≤140737488355328) (hbase:base≤w.heap.size)
  (hK:∀ v' w',Rw E e base v' (L++[y]) w'→w.grownBy w' v.ownBlock→(v'.ownBlock=v.ownBlock∨v'.ownBlock=some w.heap.size)→wpList P ops Q rest (a.put o.dst v') w') :
  wpList P ops Q (o :: rest) a w:=by
 obtain ⟨i,h2,h3,h4,h5⟩:=info_of hi
 rcases hX with ⟨he,_⟩ | ⟨ad',c'',he,_,hds⟩
 ·cases he
 ·cases he
  refine wpList_append_lies w hg s x t hop base e i z E.k bytes ht h2 h3 h4 h5 hzs hsz v L.length (E.row L) hs hL ad 1 c (E.row [y]) hx (E.row_len [y]) hds (E.row_one [y]) (by omega) b1 b2 hbase w.heap.size rfl ?_
  intro g' cap' w' ho hgr hat _
  refine hK _ w' ?_ hgr ?_
  ·unfold Rw
   rw [E.row_app,List.length_append]
   exact ho
  ·rcases hat with h | h
   ·exact .inl h.symm
   ·exact .inr (by rw [h];rfl)
theorem bel2 {w0 w1 w2:World} (h1:RowKit.Below w0.heap.size w0 w1) (h2:RowKit.Below w1.heap.size w1 w2):RowKit.Below w0.heap.size w0 w2:=h1.trans (h2.mono h1.size)
structure StB (w0:World) (v:Value) (L:List ByteArray) (w:World):Prop where
 row:Rw strB 9 w0.heap.size v L w
 bel:Below w0.heap.size w0 w
theorem StB.start (w:World):StB w (.slice none 0 0) [] w:=⟨Rw.nil _ _ _ _,Below.refl _ _⟩
theorem StB.below {w0 w w':World} {v:Value} {L:List ByteArray} (h:StB w0 v L w) (hb:Below w.heap.size w w'):StB w0 v L w':=⟨h.row.below hb,h.bel.trans (hb.mono h.bel.size)⟩
theorem StB.app {w0 w wX w5:World} {v v5:Value} {L:List ByteArray} {y:ByteArray} (h:StB w0 v L w) (hb:Below w.heap.size w wX) (hr:Rw strB 9 w0.heap.size v5 (L++[y]) w5) (hg:wX.grownBy w5 v.ownBlock):StB w0 v5 (L++[y]) w5:=
 ⟨hr,(h.bel.trans (hb.mono h.bel.size)).grown hg (Nat.le_trans h.bel.size hb.size) (fun k hk=>(h.row.lt k hk).1)⟩
theorem Rw.side {T:Type} {E:Enc T} {ty:TypeId} {base:Nat} {v2 v:Value} {N:List T} {w wX w5:World} (h:Rw E ty base v2 N w) (hb:Below w.heap.size w wX) (hg:wX.grownBy w5 v.ownBlock) (ha:∀ k,v2.ownBlock=some k→v.ownBlock≠some k):Rw E ty base v2 N w5:=
 (h.below hb).kept (fun k hk=>hg.block k ((h.below hb).lt k hk).2 (fun e=>ha k hk e.symm))
theorem apart_app {T:Type} {E:Enc T} {ty:TypeId} {base:Nat} {v2 v v5:Value} {N:List T} {wX:World} (h:Rw E ty base v2 N wX) (hat:v5.ownBlock=v.ownBlock∨v5.ownBlock=some wX.heap.size) (ha:∀ k,v2.ownBlock=some k→v.ownBlock≠some k):∀ k,v2.ownBlock=some k→v5.ownBlock≠some k:=fun k hk e=>by
 rcases hat with h1 | h1
 ·exact ha k hk (h1▸e)
 ·have:=(h.lt k hk).2
  rw [h1] at e
  cases e
  omega
theorem lnKeys_any (mb:Option Nat) (W:World):Calls Tryz.prog 65 #[.map mb] W fun e w'=>e=.returned (.func (.func 125) #[] #[.pointer (some ⟨W.heap.size,0,none⟩)])∧w'=W.alloc (.cells #[.map mb] 101):=
 callsIn_wide.1 (AnyZI.keys_in Tryz.lnKeys Fence.wide 5 trivial rfl mb W)
theorem lnSorted_any (b n:Nat) (D0:DataW Value) (w:World) (hown:w.ownsMap Tryz.prog 3 heldR b n D0) (hmax:Maps.size D0≤100000) :
  Calls Tryz.prog 64 #[.func (.func 125) #[] #[.pointer (some ⟨w.heap.size,0,none⟩)]] (w.alloc (.cells #[.map (some b)] 101)) fun e w'=>∃ (v:Value) (ss:List Int),e=.returned v∧ss.Perm (intKeys D0)∧
   w'.ownsRow w.heap.size 3 1 v ss.length ((ss.mergeSort (fun x y=>decide (x≤y))).map encZ)∧Below w.heap.size w w':=by
 have hbl:=hown.lt
 have hseq:SeqGives Fence.wide 2 Tryz.prog 125 #[.pointer (some ⟨w.heap.size,0,none⟩)] encZ (fun ss=>ss.Perm (intKeys D0)) (Maps.size D0) (w.alloc (.cells #[.map (some b)] 101)):=
  AnyZI.keys_gives (ρ:=Tryz.lnKeys_ren) { Tryz.lnKeys with } Fence.wide _ trivial rfl (by omega) w.heap.size b n D0 _ (by simp) (by simp) (by
   obtain ⟨es,clock,hb,Ft,hs,hD⟩:=hown
   exact ⟨es,clock,(Below.heap_alloc _ _ b hbl).trans hb,Ft,hs,hD⟩)
 have cS:=AnyZI.sorted_in Tryz.plSorted Fence.wide 5 trivial trivial trivial trivial rfl (by omega) (plSorts _) (enters_of Tryz.func124 (by kernel_rfl) rfl) 125 #[.pointer (some ⟨w.heap.size,0,none⟩)] trivial (enters_of Tryz.func125 (by kernel_rfl) rfl) _ _ (show Maps.size D0≤maxLen by unfold maxLen;omega) (by omega) _ hseq
 refine (callsIn_wide.1 (show CallsIn Fence.wide 5 Tryz.prog 64 _ _ _ from cS)).mono ?_
 rintro e w' ⟨v,ss,rfl,hS,hrow,hnil,hb⟩
 exact ⟨v,ss,rfl,hS,ownsRow_base_a hrow (by simp),((Below.refl _ w).alloc (Nat.le_refl _) _).trans (hb.mono (by simp))⟩
theorem lnSorted_keys (kn:Int→Prop) (LB:Int→Nat) (b n:Nat) (w:World) (hm:MT Tryz.prog 3 ekI ptrV b n (txM kn LB) w) (hn:n≤100000) (hk:∀ x,kn x→I64 x) :
  Calls Tryz.prog 64 #[.func (.func 125) #[] #[.pointer (some ⟨w.heap.size,0,none⟩)]] (w.alloc (.cells #[.map (some b)] 101)) fun e w'=>∃ (v:Value) (ns:List Int),e=.returned v∧Rw intE 3 w.heap.size v ns w'∧ns.Pairwise (· < ·)∧(∀ x,x∈ns↔kn x)∧ns.length≤n∧Below w.heap.size w w':=by
 obtain ⟨D,hD,hnd,hks⟩:=MT_keys hm
 have hsz:=hD.size_le
 have hlen:(intKeys D).length≤n:=by
  obtain ⟨es,rfl,_⟩:=hD.entries treeK
  simpa [intKeys,Maps.size] using hsz
 refine (lnSorted_any b n D w hD (by omega)).mono ?_
 rintro e w' ⟨v,ss,rfl,hp,hrow,hb⟩
 refine ⟨v,ss.mergeSort (fun x y=>decide (x≤y)),rfl,?_,sorted_up (hp.nodup_iff.2 hnd),fun x=>?_,?_,hb⟩
 ·unfold Rw
  rw [List.length_mergeSort,intE_row]
  exact hrow
 ·rw [(List.mergeSort_perm ss _).mem_iff,hp.mem_iff,hks]
  unfold txM
  constructor
  ·rintro ⟨_,h⟩
   refine Classical.byContradiction fun hn=>?_
   rw [if_neg hn] at h
   cases h
  ·exact fun h=>⟨hk x h,by rw [if_pos h];rfl⟩
 ·rw [(List.mergeSort_perm ss _).length_eq,hp.length_eq]
  exact hlen
theorem itoa21 {n:Int} (h:I64 n):(S (Lib.itoa n)).size≤21:=itoa_len20 n h.1 h.2
theorem plLine_len {y:PlT} (h1:I64 y.nd) (h2:I64 y.into) (h3:y.nm.size≤100000):(plLine y).size≤200100:=by
 have a1:=itoa21 h1
 have a2:=itoa21 h2
 unfold plLine
 rw [ByteArray.size_append,ByteArray.size_append,ByteArray.size_append,ByteArray.size_append]
 show (S (Lib.itoa y.nd)).size+4+(S (Lib.itoa y.into)).size+1+y.nm.size≤_
 omega
theorem mkLine_len {x:MarkT} (h1:I64 x.nd) (h2:x.nm.size≤100000) (h3:x.vl.size≤100000):(mkLine x).size≤200100:=by
 have a1:=itoa21 h1
 unfold mkLine
 rw [ByteArray.size_append,ByteArray.size_append,ByteArray.size_append,ByteArray.size_append]
 show (S (Lib.itoa x.nd)).size+6+x.nm.size+1+x.vl.size≤_
 omega
theorem txLines_le {T:Int→List UInt8}:∀ {ns:List Int},(∀ n∈ns,I64 n∧(T n).length≤1000)→∀ z∈txLines T ns,z.size≤200100
 | [],_,z,hz=>by simp [txLines] at hz
 | n :: r,h,z,hz=>by
  simp only [txLines] at hz
  have hr:∀ m∈r,I64 m∧(T m).length≤1000:=fun m hm=>h m (List.mem_cons_of_mem _ hm)
  split at hz
  ·exact txLines_le hr z hz
  ·rcases List.mem_cons.1 hz with rfl | hz
   ·have h0:=h n (by simp)
    have a1:=itoa21 h0.1
    unfold txLine
    rw [ByteArray.size_append,ByteArray.size_append,S_size]
    show (S (Lib.itoa n)).size+6+(T n).length≤_
    omega
   ·exact txLines_le hr z hz
def StRaw (s:RpSt) (w:World) (e:Ending) (w':World):Prop:=
 ∃ (Q:List PlT) (ns:List Int) (ks:List KeyT),RepP Q (runO p00 s.g)∧ns.Pairwise (· < ·)∧(∀ x,x∈ns↔s.kn x)∧ks.Pairwise (fun x y=>kLt x y=true)∧(∀ k,k∈ks↔(KeyOk k∧∃ c,s.m k=some c∧c.v.size≠0))∧e=.returned (.string (stateB Q ns (fun x=>txtL (s.ll x)) (ks.map (markOf s.m))))∧Below w.heap.size w w'
theorem state_raw {F0:Nat→Bool} (ea:Nat→Addr) {y:RLay} {col:Nat→Int} {RB:Nat} {b:Int} {s:RpSt} {w:World} (h:RepL y col RB b s w) (hG:Gd F0 ea w) (f21:F0 21=true) (hn1:y.tn≤1000000) (hn2:y.cn≤10000) (hn3:y.xn≤10000)
  (hp:∀ x i nm,runO p00 s.g x=some (i,nm)→I64 x∧I64 i∧nm.size≤100000) (hm:∀ k c,KeyOk k→s.m k=some c→k.2.size≤100000∧c.v.size≤100000) (hl:∀ x,s.kn x→I64 x∧(s.ll x).length≤1000) :
  Calls Tryz.prog 18 #[ptrV RB] w (StRaw s w):=by
 have HH:=κ29 h
 have HG:=κ29 hG
 have HP:=κ29 hp
 have HM:=κ29 hm
 have HL:=κ29 hl
 have c5:=h.a.c7
 have HPl:=κ29 (treePlaces_any 0 y.TB y.tb y.tn y.tv s.g w h.tr hn1 (fun x v hv=>(hp x v.1 v.2 hv).1))
 have HMk:=κ29 (fun w' (hb:Below w.heap.size w w')=>marks_any 0 y.CC y.cb y.cn s.m w' (h.below hb).ce hn2)
 have HKy:=κ29 (fun w' (hb:Below w.heap.size w w')=>lnSorted_keys s.kn y.LB y.XB y.xn w' (h.below hb).tx (by omega) (fun x hx=>(hl x hx).1))
 have HTx:=κ29 (fun w' (hb:Below w.heap.size w w') x (hx:s.kn x)=>repText_any (h.below hb) x (hl x hx).1 true ⟨fun _=>hx,fun _=>rfl⟩ (hl x hx).2)
 have HIt:=κ29 (fun w' (hb:Below w.heap.size w w') x (hx:I64 x)=>itoa_any ea x w' (hG.below hb) f21 hx.1 hx.2)
 unfold ptrV at *
 clear h hG hp hm hl
 go_enter Tryz.func18,Tryz.ntmps18
 go_wp2_with fail
 refine HPl.out.mono ?_
 rintro e w1 ⟨v1,Q,rfl,hr1,hQ,hql,hb1⟩
 obtain ⟨A1,n1,cc1,rfl⟩:=hr1.slice
 have hn1':n1=Q.length:=hr1.sl.len
 have HQ:=κ29 hQ
 have HQl:=κ29 hql
 have HR1:=κ29 hr1
 have HB1:=κ29 hb1
 have HN1:=κ29 hn1'
 have hn1m:n1≤1000000:=by omega
 clear hr1 hQ hql hb1 hn1' HPl
 go_wp2_with fail
 go_loopw [3,17] (fun v3 v17 wr=>∃ j:Nat,j≤n1∧v17=.int .i64 j∧Hid (StB w1 v3 ((Q.take j).map plLine) wr)) (fun _ v17 _=>n1 - (RowKit.intOf v17).toNat)
 case atStart=>exact ⟨0,by omega,rfl,κ29 (StB.start w1)⟩
 case round=>
  obtain ⟨j,hj,rfl,HS⟩:=hrel
  by_cases hlt:j < n1
  ·obtain ⟨x,hx⟩:∃ x,Q[j]?=some x:=⟨_,List.getElem?_eq_getElem (by have:=HN1.out;omega)⟩
   have i1:(0:Int)≤(j:Int):=by omega
   have i2:(j:Int) < (n1:Int):=by omega
   have hrw:=HR1.out.below HS.out.bel
   obtain ⟨g,off,rfl,hgl,hc⟩:=hrw.sl.at' (by decide) hx
   have c0:wr.cell? ⟨g,off+j*3,none⟩=some (.int .i64 x.nd):=hc 0 _ rfl
   have c1:wr.cell? ⟨g,off+j*3+1,none⟩=some (.int .i64 x.into):=by have:=hc 1 _ rfl;rw [←Nat.add_assoc] at this;exact this
   have c2:wr.cell? ⟨g,off+j*3+2,none⟩=some (.string x.nm):=by have:=hc 2 _ rfl;rw [←Nat.add_assoc] at this;exact this
   have hxr:=HP.out x.nd x.into x.nm ((HQ.out.is x).1 (List.mem_of_getElem? hx))
   have HXr:=κ29 hxr
   have HTk:Hid ((Q.take (j+1)).map plLine=(Q.take j).map plLine++[plLine x]):=κ29 (by
    obtain ⟨h1,h2⟩:=List.getElem?_eq_some_iff.1 hx
    rw [←List.take_append_getElem h1,h2,List.map_append]
    rfl)
   have hlj:((Q.take j).map plLine).length+1≤1000001:=by rw [List.length_map,List.length_take];omega
   obtain ⟨Ls,hLs⟩:∃ Ls,(Q.take j).map plLine=Ls:=⟨_,rfl⟩
   rw [hLs] at HS HTk hlj
   have hl1:Ls.length+1≤maxLen:=by unfold maxLen;omega
   have hl2:(Ls.length+1)*16≤140737488355328:=by omega
   obtain ⟨T0,hT0⟩:∃ T0,T0=S (Lib.itoa x.nd):=⟨_,rfl⟩
   obtain ⟨T1,hT1⟩:∃ T1,T1=S (Lib.itoa x.into):=⟨_,rfl⟩
   obtain ⟨U1,hU1⟩:∃ U1,U1=T0++⟨#[32,105,110,32]⟩:=⟨_,rfl⟩
   obtain ⟨U2,hU2⟩:∃ U2,U2=U1++T1:=⟨_,rfl⟩
   obtain ⟨U3,hU3⟩:∃ U3,U3=U2++⟨#[32]⟩:=⟨_,rfl⟩
   obtain ⟨U4,hU4⟩:∃ U4,U4=U3++x.nm:=⟨_,rfl⟩
   have hU:plLine x=U4:=by rw [hU4,hU3,hU2,hU1,hT0,hT1];rfl
   rw [hU] at HTk
   have z0:T0.size≤21:=by rw [hT0];exact itoa_len20 _ hxr.1.1 hxr.1.2
   have z1:T1.size≤21:=by rw [hT1];exact itoa_len20 _ hxr.2.1.1 hxr.2.1.2
   have y1:U1.size≤25:=by rw [hU1,ByteArray.size_append];show T0.size+4≤_;omega
   have y2:U2.size≤46:=by rw [hU2,ByteArray.size_append];omega
   have y3:U3.size≤47:=by rw [hU3,ByteArray.size_append];show U2.size+1≤_;omega
   have y4:=hxr.2.2
   have m1:∀ w,(Op.stringOp .add T0 ⟨#[32,105,110,32]⟩).run Tryz.prog w=.ok (.string U1) w:=fun w=>by rw [hU1];exact run_string_add_sum (P:=Tryz.prog) (w:=w) _ _ (by show T0.size+4≤_;omega)
   have m2:∀ w,(Op.stringOp .add U1 T1).run Tryz.prog w=.ok (.string U2) w:=fun w=>by rw [hU2];exact run_string_add_sum (P:=Tryz.prog) (w:=w) _ _ (by omega)
   have m3:∀ w,(Op.stringOp .add U2 ⟨#[32]⟩).run Tryz.prog w=.ok (.string U3) w:=fun w=>by rw [hU3];exact run_string_add_sum (P:=Tryz.prog) (w:=w) _ _ (by show U2.size+1≤_;omega)
   have m4:∀ w,(Op.stringOp .add U3 x.nm).run Tryz.prog w=.ok (.string U4) w:=fun w=>by rw [hU4];exact run_string_add_sum (P:=Tryz.prog) (w:=w) _ _ (by omega)
   have HT0:=κ29 hT0
   have HT1:=κ29 hT1
   clear hx hxr hrw hgl hc hLs hlj hT0 hT1 hU1 hU2 hU3 hU4 hU z0 z1 y1 y2 y3 y4
   go_upto_region 5 with (fail)
   obtain ⟨W,hW⟩:∃ W,W=wr.alloc (.cells #[.int .i64 x.nd,.int .i64 x.into,.string x.nm] 81):=⟨_,rfl⟩
   have hbW:Below wr.heap.size wr W:=by rw [hW];exact (Below.refl _ _).alloc (Nat.le_refl _) _
   have hS0:W.cell? ⟨wr.heap.size,0,none⟩=some (.int .i64 x.nd)∧W.cell? ⟨wr.heap.size,1,none⟩=some (.int .i64 x.into)∧W.cell? ⟨wr.heap.size,2,none⟩=some (.string x.nm):=by rw [hW];simp [go_sem]
   rw [←hW]
   have HSW:=κ29 (HS.out.below hbW)
   have HKp:Hid (∀ w',Below W.heap.size W w'→w'.cell? ⟨wr.heap.size,0,none⟩=some (.int .i64 x.nd)∧w'.cell? ⟨wr.heap.size,1,none⟩=some (.int .i64 x.into)∧w'.cell? ⟨wr.heap.size,2,none⟩=some (.string x.nm)):=κ29 fun w' hb=>⟨cell_keep hb hS0.1,cell_keep hb hS0.2.1,cell_keep hb hS0.2.2⟩
   have HKg:Hid (∀ wX w',Below W.heap.size W wX→wX.grownBy w' u3.ownBlock→w'.cell? ⟨wr.heap.size,0,none⟩=some (.int .i64 x.nd)∧w'.cell? ⟨wr.heap.size,1,none⟩=some (.int .i64 x.into)∧w'.cell? ⟨wr.heap.size,2,none⟩=some (.string x.nm)):=κ29 fun wX w' hb hg=>by
    have hne:some wr.heap.size≠u3.ownBlock:=fun e=>by have:=(HS.out.row.lt _ e.symm).2;omega
    exact ⟨hg.cell (HKp.out wX hb).1 hne,hg.cell (HKp.out wX hb).2.1 hne,hg.cell (HKp.out wX hb).2.2 hne⟩
   have HI1:Hid (∀ w',Below W.heap.size W w'→Calls Tryz.prog 63 #[.int .i64 x.nd] w' fun e w''=>e=.returned (.string T0)∧Below w'.heap.size w' w''):=κ29 fun w' hb=>by rw [HT0.out];exact HIt.out w' (HB1.out.trans ((HSW.out.bel.trans (hb.mono HSW.out.bel.size)).mono HB1.out.size)) x.nd HXr.out.1
   have HI2:Hid (∀ w',Below W.heap.size W w'→Calls Tryz.prog 63 #[.int .i64 x.into] w' fun e w''=>e=.returned (.string T1)∧Below w'.heap.size w' w''):=κ29 fun w' hb=>by rw [HT1.out];exact HIt.out w' (HB1.out.trans ((HSW.out.bel.trans (hb.mono HSW.out.bel.size)).mono HB1.out.size)) x.into HXr.out.2.1
   have HFin:Hid (∀ wX v5 w5,Below W.heap.size W wX→Rw strB 9 w1.heap.size v5 (Ls++[U4]) w5→wX.grownBy w5 u3.ownBlock→StB w1 v5 (Ls++[U4]) w5):=κ29 fun wX v5 w5 h1 h2 h3=>HSW.out.app h1 h2 h3
   clear hW hbW hS0 c0 c1 c2
   go_region_held_law (fun w'=>w'.cell? ⟨wr.heap.size,0,none⟩=some (.int .i64 x.nd)∧w'.cell? ⟨wr.heap.size,1,none⟩=some (.int .i64 x.into)∧w'.cell? ⟨wr.heap.size,2,none⟩=some (.string x.nm)) (first | (with_reducible exact hSC) | exact HKp.out _ (by go_grown))
    (first
     | (go_at_call 63;refine (HI1.out _ (by go_grown)).mono ?_;rintro e wA ⟨rfl,hbA⟩;have hA:=bel2 (w0:=W) (by go_grown) hbA;have sA:=hA.size)
     | (go_at_call 63;refine (HI2.out _ hA).mono ?_;rintro e wB ⟨rfl,hbB⟩;have hB:=bel2 hA hbB;have sB:=hB.size)
     | (refine step_append_rw rfl _ _ 122 rfl strB w1.heap.size 9 (.string ⟨#[]⟩) 16 Tryz.underlying122 infoStrB rfl (by decide) u3 Ls (by rfl) (HSW.out.row.below (by go_grown)) _ _ U4 (by rfl) (SlV.one (E:=strB) _ U4 _ _ rfl) hl1 hl2 (by have:=HSW.out.bel.size;simp;omega) ?_;intro v5 w5 hr5 hg5 hat5 hsl5;have hfin:=HFin.out _ _ _ (by go_grown) hr5 hg5;have hSC:=HKg.out _ _ (by go_grown) hg5))
   all_goals
    rename_i hH
    clear hH hSC hA hB sA sB
    have HS5:Hid (StB w1 v5 ((Q.take (j+1)).map plLine) w5):=κ29 (by rw [HTk.out];exact hfin)
    clear hfin hr5 hg5 hat5 hsl5 hbA hbB HFin HKg HKp HI1 HI2 m1 m2 m3 m4
    go_wp2_with fail
    go_roundw
    case rel=>exact ⟨j+1,by omega,by go_num,HS5⟩
    case measure=>simp [RowKit.intOf];omega
  ·obtain rfl:j=n1:=by omega
   have i2:¬ (j:Int) < (j:Int):=by omega
   have HSq:Hid (StB w1 u3 (Q.map plLine) wr):=κ29 (by have:=HS.out;rwa [List.take_of_length_le (by have:=HN1.out;omega)] at this)
   have HBw:Hid (Below w.heap.size w wr):=κ29 (HB1.out.trans (HSq.out.bel.mono HB1.out.size))
   have c9:=(HH.out.below HBw.out).a.c9
   have HK1:=κ29 (lnKeys_any (some y.XB) wr)
   have HK2:=κ29 (HKy.out wr HBw.out)
   clear HS hlt hj HR1
   go_wp2_with fail
   refine HK1.out.mono ?_
   rintro e w2 ⟨rfl,rfl⟩
   go_wp2_with fail
   refine HK2.out.mono ?_
   rintro e w2 ⟨v2,ns,rfl,hr2,hup,hns,hnl,hb2⟩
   obtain ⟨A2,n2,cc2,rfl⟩:=hr2.slice
   have hn2':n2=ns.length:=hr2.sl.len
   have HN2:=κ29 hn2'
   have HNs:=κ29 (show ns.Pairwise (· < ·)∧∀ x,x∈ns↔s.kn x from ⟨hup,hns⟩)
   have HS2:Hid (StB w1 u3 (Q.map plLine) w2∧Rw intE 3 w1.heap.size (.slice A2 n2 cc2) ns w2∧∀ k,(Value.slice A2 n2 cc2).ownBlock=some k→u3.ownBlock≠some k):=κ29 ⟨HSq.out.below hb2,hr2.lower HSq.out.bel.size,fun k hk e=>by
    have h1:=(hr2.lt k hk).1
    have h2:=(HSq.out.row.lt k e).2
    omega⟩
   have hn2m:n2≤10000:=by omega
   have HQ1:Hid (Q.length≤1000000):=κ29 (by have:=HQl.out;omega)
   clear hr2 hup hns hnl hb2 hn2' HK1 HK2 c9 HSq HBw
   go_wp2_with fail
   go_loopw [3,7,8,44] (fun v3 _ _ v44 wr=>∃ j:Nat,j≤n2∧v44=.int .i64 j∧Hid (StB w1 v3 (Q.map plLine++txLines (fun x=>txtL (s.ll x)) (ns.take j)) wr∧Rw intE 3 w1.heap.size (.slice A2 n2 cc2) ns wr∧∀ k,(Value.slice A2 n2 cc2).ownBlock=some k→v3.ownBlock≠some k)) (fun _ _ _ v44 _=>n2 - (RowKit.intOf v44).toNat)
   case atStart=>exact ⟨0,by omega,rfl,κ29 (by have:=HS2.out;simpa [txLines] using this)⟩
   case round=>
    clear HS2
    obtain ⟨i,hi,rfl,HS⟩:=hrel
    by_cases hlt:i < n2
    ·obtain ⟨x,hx⟩:∃ x,ns[i]?=some x:=⟨_,List.getElem?_eq_getElem (by have:=HN2.out;omega)⟩
     have i1:(0:Int)≤(i:Int):=by omega
     have i3:(i:Int) < (n2:Int):=by omega
     obtain ⟨g,off,rfl,hgl,hc⟩:=HS.out.2.1.sl.at' (by decide) hx
     have c0:wr.cell? ⟨g,off+i,none⟩=some (.int .i64 x):=by have:=hc 0 _ rfl;simpa [intE] using this
     have hkx:s.kn x:=(HNs.out.2 x).1 (List.mem_of_getElem? hx)
     have hxr:=HL.out x hkx
     have HBw:Hid (Below w.heap.size w wr):=κ29 (HB1.out.trans (HS.out.1.bel.mono HB1.out.size))
     obtain ⟨TX,hTX⟩:∃ TX,S (txtL (s.ll x))=TX:=⟨_,rfl⟩
     have HCx:=κ29 (HTx.out wr HBw.out x hkx)
     simp only [txtO,if_true] at HCx
     rw [hTX] at HCx
     have HXr:=κ29 hxr
     have htl:txLines (fun x=>txtL (s.ll x)) (ns.take (i+1))=txLines (fun x=>txtL (s.ll x)) (ns.take i)++(if TX=⟨#[]⟩ then [] else [txLine x TX]):=by
      obtain ⟨h1,h2⟩:=List.getElem?_eq_some_iff.1 hx
      rw [←List.take_append_getElem h1,h2,txLines_snoc,hTX]
     have HTl:=κ29 htl
     have hszT:TX.size≤1000:=by
      rw [←hTX,S_size]
      unfold txtL
      rw [List.length_map]
      exact Nat.le_trans (List.length_filter_le _ _) hxr.2
     clear hx hc hkx hxr hTX htl
     by_cases hT:TX=⟨#[]⟩
     ·subst hT
      go_wp2_with fail
      refine HCx.out.mono ?_
      rintro e w3 ⟨rfl,hb3⟩
      have HS3:Hid (StB w1 u3 (Q.map plLine++txLines (fun x=>txtL (s.ll x)) (ns.take (i+1))) w3∧Rw intE 3 w1.heap.size (.slice (some ⟨g,off,none⟩) n2 cc2) ns w3∧∀ k,(Value.slice (some ⟨g,off,none⟩) n2 cc2).ownBlock=some k→u3.ownBlock≠some k):=κ29 ⟨by rw [HTl.out];simpa using HS.out.1.below hb3,HS.out.2.1.below hb3,HS.out.2.2⟩
      clear hb3 c0
      go_wp2_with fail
      go_roundw
      case rel=>exact ⟨i+1,by omega,by go_num,HS3⟩
      case measure=>simp [RowKit.intOf];omega
     ·have htn:(TX.toList == [])=false:=by
       rw [beq_eq_false_iff_ne]
       intro e
       apply hT
       rw [←S_of TX]
       have:TX.data.toList=[]:=by rwa [ByteArray.toList_eq] at e
       rw [this]
       rfl
      go_wp2_with fail
      refine HCx.out.mono ?_
      rintro e w3 ⟨rfl,hb3⟩
      have HB3:=κ29 hb3
      clear hb3 c0
      go_wp2_with fail
      obtain ⟨T0,hT0⟩:∃ T0,T0=S (Lib.itoa x):=⟨_,rfl⟩
      obtain ⟨U1,hU1⟩:∃ U1,U1=T0++⟨#[32,116,101,120,116,32]⟩:=⟨_,rfl⟩
      obtain ⟨U2,hU2⟩:∃ U2,U2=U1++TX:=⟨_,rfl⟩
      have hU:txLine x TX=U2:=by rw [hU2,hU1,hT0];rfl
      have z0:T0.size≤21:=by rw [hT0];exact itoa_len20 _ HXr.out.1.1 HXr.out.1.2
      have y1:U1.size≤27:=by rw [hU1,ByteArray.size_append];show T0.size+6≤_;omega
      have m1:∀ w,(Op.stringOp .add T0 ⟨#[32,116,101,120,116,32]⟩).run Tryz.prog w=.ok (.string U1) w:=fun w=>by rw [hU1];exact run_string_add_sum (P:=Tryz.prog) (w:=w) _ _ (by show T0.size+6≤_;omega)
      have m2:∀ w,(Op.stringOp .add U1 TX).run Tryz.prog w=.ok (.string U2) w:=fun w=>by rw [hU2];exact run_string_add_sum (P:=Tryz.prog) (w:=w) _ _ (by omega)
      have HIx:=κ29 (HIt.out w3 (HBw.out.trans (HB3.out.mono HBw.out.size)) x HXr.out.1)
      rw [←hT0] at HIx
      have HTl2:Hid (txLines (fun x=>txtL (s.ll x)) (ns.take (i+1))=txLines (fun x=>txtL (s.ll x)) (ns.take i)++[U2]):=κ29 (by rw [HTl.out,if_neg hT,hU])
      obtain ⟨Ls,hLs⟩:∃ Ls,Q.map plLine++txLines (fun x=>txtL (s.ll x)) (ns.take i)=Ls:=⟨_,rfl⟩
      have hll:Ls.length+1≤1020000:=by
       have h1:=txLines_len (fun x=>txtL (s.ll x)) (ns.take i)
       rw [List.length_take] at h1
       have:=HQ1.out
       rw [←hLs,List.length_append,List.length_map]
       omega
      have HLs:=κ29 hLs
      rw [hLs] at HS
      have hl1:Ls.length+1≤maxLen:=by unfold maxLen;omega
      have hl2:(Ls.length+1)*16≤140737488355328:=by omega
      clear hT0 hU1 hU2 hU hLs hll z0 y1 htn hT
      refine HIx.out.mono ?_
      rintro e w4 ⟨rfl,hb4⟩
      have HB4:=κ29 (bel2 HB3.out hb4)
      clear hb4 HIx
      have HRow:=κ29 (fun o'=>(HS.out.1.row.below HB4.out).below ((Below.refl w4.heap.size w4).alloc (Nat.le_refl _) o'))
      have hsz:w1.heap.size≤w4.heap.size:=Nat.le_trans HS.out.1.bel.size HB4.out.size
      go_wp2_with (at_builtin;refine wpList_append_rw rfl _ _ 122 rfl strB w1.heap.size 9 (.string ⟨#[]⟩) 16 Tryz.underlying122 infoStrB rfl (by decide) u3 Ls (by rfl) (HRow.out _) _ _ U2 (by rfl) (SlV.one (E:=strB) _ U2 _ _ rfl) hl1 hl2 (by simp;omega) ?_)
      intro v5 w5 hr5 hg5 hat5
      have HS5:Hid (StB w1 v5 (Q.map plLine++txLines (fun x=>txtL (s.ll x)) (ns.take (i+1))) w5∧Rw intE 3 w1.heap.size (.slice (some ⟨g,off,none⟩) n2 cc2) ns w5∧∀ k,(Value.slice (some ⟨g,off,none⟩) n2 cc2).ownBlock=some k→v5.ownBlock≠some k):=κ29 (by
       have hb:=bel2 HB4.out ((Below.refl w4.heap.size w4).alloc (Nat.le_refl _) (.cells #[.string U2] 9))
       refine ⟨?_,HS.out.2.1.side hb hg5 HS.out.2.2,apart_app (HS.out.2.1.below hb) (by rw [World.size_alloc];exact hat5) HS.out.2.2⟩
       rw [HTl2.out,←List.append_assoc,HLs.out]
       exact HS.out.1.app hb hr5 hg5)
      clear hr5 hg5 hat5 HRow hsz m1 m2
      go_wp2_with fail
      go_roundw
      case rel=>exact ⟨i+1,by omega,by go_num,HS5⟩
      case measure=>simp [RowKit.intOf];omega
    ·obtain rfl:i=n2:=by omega
     have i3:¬ (i:Int) < (i:Int):=by omega
     have HS6:Hid (StB w1 u3 (Q.map plLine++txLines (fun x=>txtL (s.ll x)) ns) wr):=κ29 (by have:=HS.out.1;rwa [List.take_of_length_le (by have:=HN2.out;omega)] at this)
     have HBw:Hid (Below w.heap.size w wr):=κ29 (HB1.out.trans (HS6.out.bel.mono HB1.out.size))
     have c8:=(HH.out.below HBw.out).a.c8
     have HK3:=κ29 (HMk.out wr HBw.out)
     obtain ⟨Ls,hLs⟩:∃ Ls,Q.map plLine++txLines (fun x=>txtL (s.ll x)) ns=Ls:=⟨_,rfl⟩
     have HLl:Hid (Ls.length≤1010000):=κ29 (by
      have h1:=txLines_len (fun x=>txtL (s.ll x)) ns
      have:=HQ1.out
      have:=HN2.out
      rw [←hLs,List.length_append,List.length_map]
      omega)
     have HLs:=κ29 hLs
     rw [hLs] at HS6
     clear HS hlt hi hLs
     unfold ptrV at c8
     go_wp2_with fail
     refine HK3.out.mono ?_
     rintro e w3 ⟨v3,ks,rfl,hr3,hup3,hks,hkl,hb3⟩
     obtain ⟨Ms,hMs⟩:∃ Ms,ks.map (markOf s.m)=Ms:=⟨_,rfl⟩
     rw [hMs] at hr3
     obtain ⟨A3,n3,cc3,rfl⟩:=hr3.slice
     have hn3':n3=Ms.length:=hr3.sl.len
     have hMl:Ms.length≤10000:=by rw [←hMs,List.length_map];omega
     have HMo:Hid (∀ x∈Ms,I64 x.nd∧x.nm.size≤100000∧x.vl.size≤100000):=κ29 (by
      intro x hx
      rw [←hMs] at hx
      obtain ⟨k,hk,rfl⟩:=List.mem_map.1 hx
      obtain ⟨h1,c,h2,h3⟩:=(hks k).1 hk
      have h4:=HM.out k c h1 h2
      refine ⟨⟨h1.1,h1.2⟩,h4.1,?_⟩
      unfold markOf
      rw [h2]
      exact h4.2)
     have HKs:=κ29 (show ks.Pairwise (fun x y=>kLt x y=true)∧(∀ k,k∈ks↔(KeyOk k∧∃ c,s.m k=some c∧c.v.size≠0))∧ks.map (markOf s.m)=Ms from ⟨hup3,hks,hMs⟩)
     have HN3:=κ29 hn3'
     have HS3:Hid (StB w1 u3 (Ls++(Ms.take 0).map mkLine) w3∧Rw markE 130 w1.heap.size (.slice A3 n3 cc3) Ms w3∧∀ k,(Value.slice A3 n3 cc3).ownBlock=some k→u3.ownBlock≠some k):=κ29 ⟨by rw [List.take_zero,List.map_nil,List.append_nil];exact HS6.out.below hb3,hr3.lower HS6.out.bel.size,fun k hk e=>by
      have h1:=(hr3.lt k hk).1
      have h2:=(HS6.out.row.lt k e).2
      omega⟩
     have hn3m:n3≤10000:=by omega
     clear hr3 hup3 hks hkl hb3 hn3' hMs hMl HK3 c8 HS6 HBw
     go_wp2_with fail
     go_loopw [3,68] (fun v3 v68 wr=>∃ j:Nat,j≤n3∧v68=.int .i64 j∧Hid (StB w1 v3 (Ls++(Ms.take j).map mkLine) wr∧Rw markE 130 w1.heap.size (.slice A3 n3 cc3) Ms wr∧∀ k,(Value.slice A3 n3 cc3).ownBlock=some k→v3.ownBlock≠some k)) (fun _ v68 _=>n3 - (RowKit.intOf v68).toNat)
     case atStart=>exact ⟨0,by omega,rfl,HS3⟩
     case round=>
      clear HS3
      obtain ⟨p,hpn,rfl,HS⟩:=hrel
      by_cases hlt:p < n3
      ·obtain ⟨x,hx⟩:∃ x,Ms[p]?=some x:=⟨_,List.getElem?_eq_getElem (by have:=HN3.out;omega)⟩
       have i1:(0:Int)≤(p:Int):=by omega
       have i4:(p:Int) < (n3:Int):=by omega
       obtain ⟨g,off,rfl,hgl,hc⟩:=HS.out.2.1.sl.at' (by decide) hx
       have c0:wr.cell? ⟨g,off+p*3,none⟩=some (.int .i64 x.nd):=hc 0 _ rfl
       have c1:wr.cell? ⟨g,off+p*3+1,none⟩=some (.string x.nm):=by have:=hc 1 _ rfl;rw [←Nat.add_assoc] at this;exact this
       have c2:wr.cell? ⟨g,off+p*3+2,none⟩=some (.string x.vl):=by have:=hc 2 _ rfl;rw [←Nat.add_assoc] at this;exact this
       have hxr:=HMo.out x (List.mem_of_getElem? hx)
       have HXr:=κ29 hxr
       have HTk:Hid ((Ms.take (p+1)).map mkLine=(Ms.take p).map mkLine++[mkLine x]):=κ29 (by
        obtain ⟨h1,h2⟩:=List.getElem?_eq_some_iff.1 hx
        rw [←List.take_append_getElem h1,h2,List.map_append]
        rfl)
       have hlj:(Ls++(Ms.take p).map mkLine).length+1≤1030000:=by have:=HLl.out;rw [List.length_append,List.length_map,List.length_take];omega
       obtain ⟨Lq,hLq⟩:∃ Lq,Ls++(Ms.take p).map mkLine=Lq:=⟨_,rfl⟩
       have HLq:=κ29 hLq
       rw [hLq] at HS hlj
       have hl1:Lq.length+1≤maxLen:=by unfold maxLen;omega
       have hl2:(Lq.length+1)*16≤140737488355328:=by omega
       obtain ⟨T0,hT0⟩:∃ T0,T0=S (Lib.itoa x.nd):=⟨_,rfl⟩
       obtain ⟨U1,hU1⟩:∃ U1,U1=T0++⟨#[32,109,97,114,107,32]⟩:=⟨_,rfl⟩
       obtain ⟨U2,hU2⟩:∃ U2,U2=U1++x.nm:=⟨_,rfl⟩
       obtain ⟨U3,hU3⟩:∃ U3,U3=U2++⟨#[32]⟩:=⟨_,rfl⟩
       obtain ⟨U4,hU4⟩:∃ U4,U4=U3++x.vl:=⟨_,rfl⟩
       have hU:mkLine x=U4:=by rw [hU4,hU3,hU2,hU1,hT0];rfl
       rw [hU] at HTk
       have y0:=hxr.2.1
       have y5:=hxr.2.2
       have z0:T0.size≤21:=by rw [hT0];exact itoa_len20 _ hxr.1.1 hxr.1.2
       have y1:U1.size≤27:=by rw [hU1,ByteArray.size_append];show T0.size+6≤_;omega
       have y2:U2.size≤100027:=by rw [hU2,ByteArray.size_append];omega
       have y3:U3.size≤100028:=by rw [hU3,ByteArray.size_append];show U2.size+1≤_;omega
       have m1:∀ w,(Op.stringOp .add T0 ⟨#[32,109,97,114,107,32]⟩).run Tryz.prog w=.ok (.string U1) w:=fun w=>by rw [hU1];exact run_string_add_sum (P:=Tryz.prog) (w:=w) _ _ (by show T0.size+6≤_;omega)
       have m2:∀ w,(Op.stringOp .add U1 x.nm).run Tryz.prog w=.ok (.string U2) w:=fun w=>by rw [hU2];exact run_string_add_sum (P:=Tryz.prog) (w:=w) _ _ (by omega)
       have m3:∀ w,(Op.stringOp .add U2 ⟨#[32]⟩).run Tryz.prog w=.ok (.string U3) w:=fun w=>by rw [hU3];exact run_string_add_sum (P:=Tryz.prog) (w:=w) _ _ (by show U2.size+1≤_;omega)
       have m4:∀ w,(Op.stringOp .add U3 x.vl).run Tryz.prog w=.ok (.string U4) w:=fun w=>by rw [hU4];exact run_string_add_sum (P:=Tryz.prog) (w:=w) _ _ (by omega)
       have HT0:=κ29 hT0
       clear hx hxr hgl hc hLq hlj hT0 hU1 hU2 hU3 hU4 hU z0 y0 y1 y2 y3 y5
       go_upto_region 17 with (fail)
       obtain ⟨W,hW⟩:∃ W,W=wr.alloc (.cells #[.int .i64 x.nd,.string x.nm,.string x.vl] 130):=⟨_,rfl⟩
       have hbW:Below wr.heap.size wr W:=by rw [hW];exact (Below.refl _ _).alloc (Nat.le_refl _) _
       have hS0:W.cell? ⟨wr.heap.size,0,none⟩=some (.int .i64 x.nd)∧W.cell? ⟨wr.heap.size,1,none⟩=some (.string x.nm)∧W.cell? ⟨wr.heap.size,2,none⟩=some (.string x.vl):=by rw [hW];simp [go_sem]
       rw [←hW]
       have HSW:=κ29 (HS.out.1.below hbW)
       have HRW:=κ29 (HS.out.2.1.below hbW)
       have HKp:Hid (∀ w',Below W.heap.size W w'→w'.cell? ⟨wr.heap.size,0,none⟩=some (.int .i64 x.nd)∧w'.cell? ⟨wr.heap.size,1,none⟩=some (.string x.nm)∧w'.cell? ⟨wr.heap.size,2,none⟩=some (.string x.vl)):=κ29 fun w' hb=>⟨cell_keep hb hS0.1,cell_keep hb hS0.2.1,cell_keep hb hS0.2.2⟩
       have HKg:Hid (∀ wX w',Below W.heap.size W wX→wX.grownBy w' u3.ownBlock→w'.cell? ⟨wr.heap.size,0,none⟩=some (.int .i64 x.nd)∧w'.cell? ⟨wr.heap.size,1,none⟩=some (.string x.nm)∧w'.cell? ⟨wr.heap.size,2,none⟩=some (.string x.vl)):=κ29 fun wX w' hb hg=>by
        have hne:some wr.heap.size≠u3.ownBlock:=fun e=>by have:=(HS.out.1.row.lt _ e.symm).2;omega
        exact ⟨hg.cell (HKp.out wX hb).1 hne,hg.cell (HKp.out wX hb).2.1 hne,hg.cell (HKp.out wX hb).2.2 hne⟩
       have HI1:Hid (∀ w',Below W.heap.size W w'→Calls Tryz.prog 63 #[.int .i64 x.nd] w' fun e w''=>e=.returned (.string T0)∧Below w'.heap.size w' w''):=κ29 fun w' hb=>by rw [HT0.out];exact HIt.out w' (HB1.out.trans ((HSW.out.bel.trans (hb.mono HSW.out.bel.size)).mono HB1.out.size)) x.nd HXr.out.1
       have HFin:Hid (∀ wX v5 w5,Below W.heap.size W wX→Rw strB 9 w1.heap.size v5 (Lq++[U4]) w5→wX.grownBy w5 u3.ownBlock→(v5.ownBlock=u3.ownBlock∨v5.ownBlock=some wX.heap.size)→StB w1 v5 (Ls++(Ms.take (p+1)).map mkLine) w5∧Rw markE 130 w1.heap.size (.slice (some ⟨g,off,none⟩) n3 cc3) Ms w5∧∀ k,(Value.slice (some ⟨g,off,none⟩) n3 cc3).ownBlock=some k→v5.ownBlock≠some k):=κ29 fun wX v5 w5 h1 h2 h3 h4=>⟨by rw [HTk.out,←List.append_assoc,HLq.out];exact HSW.out.app h1 h2 h3,HRW.out.side h1 h3 HS.out.2.2,apart_app (HRW.out.below h1) h4 HS.out.2.2⟩
       clear hW hbW hS0 c0 c1 c2
       go_region_held_law (fun w'=>w'.cell? ⟨wr.heap.size,0,none⟩=some (.int .i64 x.nd)∧w'.cell? ⟨wr.heap.size,1,none⟩=some (.string x.nm)∧w'.cell? ⟨wr.heap.size,2,none⟩=some (.string x.vl)) (first | (with_reducible exact hSC) | exact HKp.out _ (by go_grown))
        (first
         | (go_at_call 63;refine (HI1.out _ (by go_grown)).mono ?_;rintro e wA ⟨rfl,hbA⟩;have hA:=bel2 (w0:=W) (by go_grown) hbA;have sA:=hA.size)
         | (refine step_append_rw rfl _ _ 122 rfl strB w1.heap.size 9 (.string ⟨#[]⟩) 16 Tryz.underlying122 infoStrB rfl (by decide) u3 Lq (by rfl) (HSW.out.row.below (by go_grown)) _ _ U4 (by rfl) (SlV.one (E:=strB) _ U4 _ _ rfl) hl1 hl2 (by have:=HSW.out.bel.size;simp;omega) ?_;intro v5 w5 hr5 hg5 hat5 hsl5;have hfin:=HFin.out _ _ _ (by go_grown) hr5 hg5 hat5;have hSC:=HKg.out _ _ (by go_grown) hg5))
       all_goals
        rename_i hH
        clear hH hSC hA sA
        have HS5:=κ29 hfin
        clear hfin hr5 hg5 hat5 hsl5 hbA HFin HKg HKp HI1 m1 m2 m3 m4
        go_wp2_with fail
        go_roundw
        case rel=>exact ⟨p+1,by omega,by go_num,HS5⟩
        case measure=>simp [RowKit.intOf];omega
      ·obtain rfl:p=n3:=by omega
       have i4:¬ (p:Int) < (p:Int):=by omega
       have HS7:Hid (StB w1 u3 (Ls++Ms.map mkLine) wr):=κ29 (by have:=HS.out.1;rwa [List.take_of_length_le (by have:=HN3.out;omega)] at this)
       obtain ⟨La,hLa⟩:∃ La,Ls++Ms.map mkLine=La:=⟨_,rfl⟩
       rw [hLa] at HS7
       have hal:La.length≤1020000:=by have:=HLl.out;have:=HN3.out;rw [←hLa,List.length_append,List.length_map];omega
       have hea:∀ z∈La,z.size≤200100:=by
        intro z hz
        rw [←hLa,←HLs.out] at hz
        rcases List.mem_append.1 hz with hz | hz
        ·rcases List.mem_append.1 hz with hz | hz
         ·obtain ⟨q,hq,rfl⟩:=List.mem_map.1 hz
          have h1:=HP.out q.nd q.into q.nm ((HQ.out.is q).1 hq)
          exact plLine_len h1.1 h1.2.1 h1.2.2
         ·exact txLines_le (fun n hn=>⟨(HL.out n ((HNs.out.2 n).1 hn)).1,by unfold txtL;rw [List.length_map];exact Nat.le_trans (List.length_filter_le _ _) (HL.out n ((HNs.out.2 n).1 hn)).2⟩) z hz
        ·obtain ⟨q,hq,rfl⟩:=List.mem_map.1 hz
         have h1:=HMo.out q hq
         exact mkLine_len h1.1 h1.2.1 h1.2.2
       have hjl:(Lib.join (La.map (·.data.toList)) ((⟨#[10]⟩:ByteArray).data.toList)).length≤140737488355328:=by
        have h1:=join_len [10] 200100 (La.map (·.data.toList)) (by
         intro z hz
         obtain ⟨q,hq,rfl⟩:=List.mem_map.1 hz
         exact hea q hq)
        rw [List.length_map] at h1
        have h2:La.length*(200100 + [(10:UInt8)].length)≤1020000*(200100 + [(10:UInt8)].length):=Nat.mul_le_mul_right _ hal
        exact Nat.le_trans h1 (Nat.le_trans h2 (by decide))
       have HJl:=κ29 hjl
       have HSt:Hid (stateB Q ns (fun x=>txtL (s.ll x)) (ks.map (markOf s.m))=joinB La):=κ29 (by unfold stateB;rw [HKs.out.2.2,HLs.out,hLa])
       have HBw:Hid (Below w.heap.size w wr):=κ29 (HB1.out.trans (HS7.out.bel.mono HB1.out.size))
       have HE:Hid (∀ w',Below wr.heap.size wr w'→StRaw s w (.returned (.string (joinB La))) w'):=κ29 fun w' hb=>⟨Q,ns,ks,HQ.out,HNs.out.1,HNs.out.2,HKs.out.1,HKs.out.2.1,by rw [HSt.out],HBw.out.trans (hb.mono HBw.out.size)⟩
       clear HS hlt hpn hea hjl hLa
       rcases HS7.out.row.form with ⟨rfl,hnil⟩ | ⟨gz,cz,rfl,hcz,hcm,_,hgz⟩
       ·have HNil:=κ29 hnil
        have HJ:=κ29 (Tryz.strings_Join_none none 0 ⟨#[10]⟩ wr)
        clear hnil
        go_wp2_with fail
        refine HJ.out.mono ?_
        rintro e w9 ⟨rfl,rfl⟩
        go_wp2_with fail
        go_ret
        have:=HE.out _ (Below.refl _ _)
        rw [HNil.out] at this
        exact this
       ·have HJ:=κ29 (Tryz.strings_Join gz 0 cz La ⟨#[10]⟩ wr (fun q z hz=>by have:=HS7.out.row.at' rfl hz (j:=0) rfl;simpa [strB] using this) hgz (by omega) hcz HJl.out)
        clear hcz hcm hgz
        go_wp2_with fail
        refine HJ.out.mono ?_
        rintro e w9 ⟨rfl,hb9⟩
        have HB9:=κ29 hb9
        clear hb9
        go_wp2_with fail
        go_ret
        exact HE.out _ HB9.out
end Go.Proofs.YtjekalilfhnpmaaGreatDoor
namespace Go.Proofs.YtjekalilfhnpmaaGreatDoor
open Go Go.RowKit Go.Maps Go.Shelf LineOrd Tree
set_option linter.unusedVariables false
set_option linter.unusedSimpArgs false
set_option maxHeartbeats 2000000
set_option maxRecDepth 100000
def StateOf (K:List OpT) (str:ByteArray):Prop:=
 ∃ (Q:List PlT) (ns:List Int) (T:Int→List UInt8) (ks:List KeyT) (m:MapC),RepP Q (runO p00 (logOf K))∧ns.Pairwise (· < ·)∧(∀ x,x∈ns↔Known K x)∧(∀ x,Known K x→∃ L,LineOf K x L∧T x=txtL L)∧BestAll (InL K) m∧ks.Pairwise (fun x y=>kLt x y=true)∧(∀ k,k∈ks↔(KeyOk k∧∃ c,m k=some c∧c.v.size≠0))∧str=stateB Q ns T (ks.map (markOf m))
theorem up_same {a b:List Int} (ha:a.Pairwise (· < ·)) (hb:b.Pairwise (· < ·)) (h:∀ x,x∈a↔x∈b):a=b:=by
 refine List.Perm.eq_of_pairwise (le:=fun x y=>x < y) (fun a b _ _ h1 h2=>absurd h1 (by omega)) ha hb ?_
 have n1:a.Nodup:=ha.imp (fun hlt he=>by omega)
 have n2:b.Nodup:=hb.imp (fun hlt he=>by omega)
 exact (List.perm_ext_iff_of_nodup n1 n2).2 h
theorem txLines_congr {T T':Int→List UInt8}:∀ {ns:List Int},(∀ n∈ns,T n=T' n)→txLines T ns=txLines T' ns
 | [],_=>rfl
 | n :: r,h=>by
  have h0:=h n (by simp)
  have hr:=txLines_congr (ns:=r) fun m hm=>h m (List.mem_cons_of_mem _ hm)
  simp only [txLines,h0,hr]
theorem StateOf.unique {K:List OpT} (hK:DOk K) {a b:ByteArray} (h:StateOf K a) (h':StateOf K b):a=b:=by
 obtain ⟨Q,ns,T,ks,m,h1,h2,h3,h4,h5,h6,h7,rfl⟩:=h
 obtain ⟨Q',ns',T',ks',m',g1,g2,g3,g4,g5,g6,g7,rfl⟩:=h'
 obtain rfl:=h1.unique g1
 obtain rfl:=up_same h2 g2 (fun x=>by rw [h3,g3])
 have eT:txLines T ns=txLines T' ns:=txLines_congr fun n hn=>by
  obtain ⟨L,l1,l2⟩:=h4 n ((h3 n).1 hn)
  obtain ⟨L',l1',l2'⟩:=g4 n ((h3 n).1 hn)
  rw [l2,l2',LineOf.unique hK.lines (fun _=>Iff.rfl) l1 l1']
 have hu:OneStamp K:=fun x hx y hy e1 e2=>hK.one x hx y hy ⟨e1,e2⟩
 have em:=marks_same (m:=m) (m':=m') (fun k hk=>(h5 k hk).one (fun c c'=>hu.inl k c c') (g5 k hk)) h6 h7 g6 g7
 unfold stateB
 rw [eT,em]
theorem run_from {p:PlB}:∀ (L:List OpT) {x:Int} {v:Int×ByteArray},runO p L x=some v→p x=some v∨∃ o∈L,o.nd=x∧v=(o.ot,o.nm):=by
 intro L
 induction L generalizing p with
 | nil=>exact fun h=>.inl h
 | cons o r ih=>
  intro x v h
  rw [runO_cons] at h
  rcases ih h with h1 | ⟨q,hq,h2⟩
  ·unfold Tree.move at h1
   split at h1
   ·unfold Tree.put at h1
    split at h1
    ·rename_i e
     refine .inr ⟨o,by simp,?_⟩
     simp only [mvO] at e h1
     exact ⟨e.symm,(Option.some.inj h1).symm⟩
    ·exact .inl h1
   ·exact .inl h1
  ·exact .inr ⟨q,List.mem_cons_of_mem _ hq,h2⟩
theorem state_any {F0:Nat→Bool} (ea:Nat→Addr) (col:Nat→Int) (RB:Nat) (b:Int) (K:List OpT) (w:World) (h:RepD col RB b K w) (hG:Gd F0 ea w) (f21:F0 21=true) (hK:DOk K) (hKl:K.length≤400) :
  Calls Tryz.prog 18 #[ptrV RB] w fun e w'=>∃ str,e=.returned (.string str)∧StateOf K str∧Below w.heap.size w w':=by
 obtain ⟨y,s,hR,hO⟩:=h
 have hgl:s.g.length≤400:=by rw [hO.g];exact Nat.le_trans (logOf_len K) hKl
 have htn:y.tn≤1000000:=Nat.le_trans hR.tnb (Nat.le_trans (Nat.mul_le_mul hgl hgl) (by decide))
 have hct:s.ct≤400:=by rw [hO.ct];exact hKl
 refine (state_raw ea hR hG f21 htn (by have:=hR.cnb;omega) (by have:=hR.xnb;omega) ?_ ?_ ?_).mono ?_
 ·intro x i nm hx
  rw [hO.g] at hx
  rcases run_from _ hx with h1 | ⟨o,ho,h1,h2⟩
  ·cases h1
  ·have hw:=hK.wf o (logOf_mem.1 ho).1
   cases h2
   rw [←h1]
   exact ⟨⟨hw.nd1,hw.nd2⟩,⟨hw.ot1,hw.ot2⟩,hw.nm1⟩
 ·intro k c hk hc
  obtain ⟨o,ho,_,_,rfl,rfl⟩:=((hO.m k hk).is c hc).1
  exact ⟨(hK.wf o ho).nm1,(hK.wf o ho).vl1⟩
 ·intro x hx
  have hkx:=(hO.kn x).1 hx
  have hr:=hO.ll x hkx
  refine ⟨?_,by omega⟩
  obtain ⟨o,ho,_,rfl,_⟩:=hkx
  exact ⟨(hK.wf o ho).nd1,(hK.wf o ho).nd2⟩
 ·rintro e w' ⟨Q,ns,ks,h1,h2,h3,h4,h5,rfl,h6⟩
  refine ⟨_,rfl,⟨Q,ns,fun x=>txtL (s.ll x),ks,s.m,by rw [←hO.g];exact h1,h2,fun x=>(h3 x).trans (hO.kn x),fun x hx=>⟨_,(hO.ll x hx).1,rfl⟩,hO.m,h4,h5,rfl⟩,h6⟩
end Go.Proofs.YtjekalilfhnpmaaGreatDoor
