/- A replica of the call's own: how it lies in memory, and what stays of it. A replica's small methods: what is known, a text, a letter by its number. -/
import Derived.Test.YtjekalilfhnpmaaGreatDoorQ02
import Derived.Test.YtjekalilfhnpmaaGreatDoorQ05
import Derived.Test.YtjekalilfhnpmaaGreatDoorQ07
import Derived.Test.YtjekalilfhnpmaaGreatDoorQ19
import Derived.Test.YtjekalilfhnpmaaGreatDoorQ20
import Derived.Test.YtjekalilfhnpmaaGreatDoorQ22
namespace Go.Proofs.YtjekalilfhnpmaaGreatDoor
open Go Go.RowKit Go.Maps Go.Shelf LineOrd
set_option linter.unusedVariables false
set_option linter.unusedSimpArgs false
set_option maxHeartbeats 4000000
set_option maxRecDepth 100000
def ptrV (x:Nat):Value:=.pointer (some ⟨x,0,none⟩)
structure RpSt where
 v:Int→Nat
 t:Int
 g:List OpT
 m:MapC
 kn:Int→Prop
 ll:Int→List Lt
 K:List OpT
 ct:Nat
structure RLay where
 CB:Nat
 OV:Value
 TB:Nat
 tb:Nat
 tn:Nat
 tv:Value
 CC:Nat
 cb:Nat
 cn:Nat
 XB:Nat
 xn:Nat
 LB:Int→Nat
 LV:Int→Value
open Classical in
noncomputable def txM (kn:Int→Prop) (LB:Int→Nat):Int→Option Nat:=fun nd=>if kn nd then some (LB nd) else none
structure RepA (y:RLay) (RB:Nat) (b:Int) (s:RpSt) (w:World):Prop where
 c0:w.cell? ⟨RB,0,none⟩=some (ptrV y.CB)
 c1:w.cell? ⟨RB,1,none⟩=some (.int .i64 b)
 c2:w.cell? ⟨RB,2,none⟩=some (.int .i64 (s.v 0))
 c3:w.cell? ⟨RB,3,none⟩=some (.int .i64 (s.v 1))
 c4:w.cell? ⟨RB,4,none⟩=some (.int .i64 (s.v 2))
 c5:w.cell? ⟨RB,5,none⟩=some (.int .i64 (s.v 3))
 c6:w.cell? ⟨RB,6,none⟩=some y.OV
 c7:w.cell? ⟨RB,7,none⟩=some (ptrV y.TB)
 c8:w.cell? ⟨RB,8,none⟩=some (ptrV y.CC)
 c9:w.cell? ⟨RB,9,none⟩=some (.map (some y.XB))
 fz:∀ j,w.frozen? ⟨RB,j,none⟩=false
structure RepB (y:RLay) (b:Int) (s:RpSt) (w:World):Prop where
 k0:w.cell? ⟨y.CB,0,none⟩=some (.int .i64 s.t)
 k1:w.cell? ⟨y.CB,1,none⟩=some (.int .i64 b)
 kf:∀ j,w.frozen? ⟨y.CB,j,none⟩=false
structure Cols (y:RLay) (col:Nat→Int) (RB:Nat) (s:RpSt):Prop where
 o1:col RB=1
 o2:col y.CB=2
 o3:∀ k,y.OV.ownBlock=some k→col k=3
 o4:col y.TB=4
 o4b:col y.tb=4
 o4v:∀ k,y.tv.ownBlock=some k→col k=4
 o5:col y.CC=5
 o5b:col y.cb=5
 o6:col y.XB=6
 o7:∀ nd,s.kn nd→col (y.LB nd)=7+nd
 o7v:∀ nd,s.kn nd→∀ k,(y.LV nd).ownBlock=some k→col k=7+nd
 o0:∀ nd,s.kn nd→0≤nd
structure RepL (y:RLay) (col:Nat→Int) (RB:Nat) (b:Int) (s:RpSt) (w:World):Prop where
 a:RepA y RB b s w
 b':RepB y b s w
 ops:Rw opE 31 0 y.OV s.K w
 tr:TrS 0 y.TB y.tb y.tn y.tv s.g w
 ce:CSt 0 y.CC y.cb y.cn s.m w
 tx:MT Tryz.prog 3 ekI ptrV y.XB y.xn (txM s.kn y.LB) w
 ln:∀ nd,s.kn nd→LineSt 0 (y.LB nd) (y.LV nd) (s.ll nd) w
 co:Cols y col RB s
 lt:∀ k,col k≠0→k < w.heap.size
 tnb:y.tn≤s.g.length*s.g.length
 cnb:y.cn≤s.ct
 xnb:y.xn≤s.ct
theorem RepA.fr {X:Nat→Prop} {y:RLay} {RB:Nat} {b:Int} {s:RpSt} {w w':World} (h:RepA y RB b s w) (hF:Fr X w w') (hx:¬ X RB):RepA y RB b s w':=by
 have hl:RB < w.heap.size:=World.block_lt_of_cell? w _ h.c0
 have g:∀ {j:Nat} {u:Value},w.cell? ⟨RB,j,none⟩=some u→w'.cell? ⟨RB,j,none⟩=some u:=fun {j u} hc=>(hF.cell (p:=⟨RB,j,none⟩) hl hx).trans hc
 exact ⟨g h.c0,g h.c1,g h.c2,g h.c3,g h.c4,g h.c5,g h.c6,g h.c7,g h.c8,g h.c9,fun j=>(hF.frozen (p:=⟨RB,j,none⟩) hl hx).trans (h.fz j)⟩
theorem RepB.fr {X:Nat→Prop} {y:RLay} {b:Int} {s:RpSt} {w w':World} (h:RepB y b s w) (hF:Fr X w w') (hx:¬ X y.CB):RepB y b s w':=by
 have hl:y.CB < w.heap.size:=World.block_lt_of_cell? w _ h.k0
 exact ⟨(hF.cell (p:=⟨y.CB,0,none⟩) hl hx).trans h.k0,(hF.cell (p:=⟨y.CB,1,none⟩) hl hx).trans h.k1,fun j=>(hF.frozen (p:=⟨y.CB,j,none⟩) hl hx).trans (h.kf j)⟩
theorem RepL.fr {X:Nat→Prop} {y:RLay} {col:Nat→Int} {RB:Nat} {b:Int} {s:RpSt} {w w':World} (h:RepL y col RB b s w) (hF:Fr X w w') (hx:∀ k,X k→col k=0):RepL y col RB b s w':=by
 have nx:∀ {k:Nat} {c:Int},col k=c→c≠0→¬ X k:=fun {k c} h1 h2 h3=>h2 (h1▸hx k h3)
 have c:=h.co
 refine ⟨h.a.fr hF (nx c.o1 (by decide)),h.b'.fr hF (nx c.o2 (by decide)),h.ops.fr (X:=X) (fun k h1 h2=>hF.block k h1 h2) (fun k hk=>nx (c.o3 k hk) (by decide)),h.tr.fr hF (nx c.o4 (by decide)) (nx c.o4b (by decide)) (fun k hk=>nx (c.o4v k hk) (by decide)),h.ce.fr hF (nx c.o5 (by decide)) (nx c.o5b (by decide)),h.tx.fr hF (nx c.o6 (by decide)),fun nd hn=>hF.line (h.ln nd hn) (nx (c.o7 nd hn) (by have:=c.o0 nd hn;omega)) (fun k hk=>nx (c.o7v nd hn k hk) (by have:=c.o0 nd hn;omega)),c,fun k hk=>Nat.lt_of_lt_of_le (h.lt k hk) hF.size,h.tnb,h.cnb,h.xnb⟩
theorem RepL.below {y:RLay} {col:Nat→Int} {RB:Nat} {b:Int} {s:RpSt} {w w':World} (h:RepL y col RB b s w) (hb:Below w.heap.size w w'):RepL y col RB b s w':=h.fr (X:=fun _=>False) (Fr.of_below hb) (fun _ h=>h.elim)
def col1 (col:Nat→Int) (n:Nat) (v:Value) (c:Int):Nat→Int:=fun k=>if k < n then col k else if v.ownBlock=some k then c else 0
theorem col1_old {col:Nat→Int} {n:Nat} {v:Value} {c:Int} {k:Nat} (h:k < n):col1 col n v c k=col k:=by unfold col1;rw [if_pos h]
theorem col1_own {col:Nat→Int} {n:Nat} {v v0:Value} {c:Int} (h:∀ k,v.ownBlock=some k→v0.ownBlock=some k∨n≤k) (h0:∀ k,v0.ownBlock=some k→col k=c∧k < n):∀ k,v.ownBlock=some k→col1 col n v c k=c:=fun k hk=>by
 rcases h k hk with h1 | h1
 ·rw [col1_old (h0 k h1).2];exact (h0 k h1).1
 ·unfold col1
  rw [if_neg (by omega),if_pos hk]
theorem col1_lt {col:Nat→Int} {w w':World} {v:Value} {c:Int} (hs:w.heap.size≤w'.heap.size) (h:∀ k,v.ownBlock=some k→k < w'.heap.size):∀ k,col1 col w.heap.size v c k≠0→k < w'.heap.size:=fun k hk=>by
 unfold col1 at hk
 split at hk
 ·omega
 ·split at hk
  ·rename_i h1;exact h k h1
  ·exact absurd rfl hk
structure Grew (col col':Nat→Int) (w:World):Prop where
 old:∀ k,k < w.heap.size→col' k≠0→col k≠0
theorem Grew.refl (col:Nat→Int) (w:World):Grew col col w:=⟨fun _ _ h=>h⟩
theorem Grew.col1 (col:Nat→Int) (w:World) (v:Value) (c:Int):Grew col (col1 col w.heap.size v c) w:=⟨fun k hk h=>by rwa [col1_old hk] at h⟩
theorem Grew.trans {c c' c'':Nat→Int} {w w':World} (h:Grew c c' w) (h':Grew c' c'' w') (hs:w.heap.size≤w'.heap.size):Grew c c'' w:=⟨fun k hk h''=>h.old k hk (h'.old k (by omega) h'')⟩
abbrev InC (col:Nat→Int) (k:Nat):Prop:=col k≠0
theorem Grew.fr {c c':Nat→Int} {w w' w'':World} (h:Grew c c' w) (hF:Fr (InC c) w w') (hF':Fr (InC c') w' w''):Fr (InC c) w w'':=
 ⟨hF'.os.trans hF.os,hF'.tape.trans hF.tape,hF'.output.trans hF.output,Nat.le_trans hF.size hF'.size,fun k hk hx=>(hF'.block k (Nat.lt_of_lt_of_le hk hF.size) (fun h'=>hx (h.old k hk h'))).trans (hF.block k hk hx)⟩
section
variable {y:RLay} {col:Nat→Int} {RB:Nat} {b:Int} {s:RpSt} {w w':World}
theorem RepL.own_lt (h:RepL y col RB b s w) {k:Nat} {c:Int} (hc:col k=c) (h0:c≠0):k < w.heap.size:=h.lt k (by omega)
theorem RepL.tick (h:RepL y col RB b s w):RepL y col RB b { s with ct:=s.ct+1 } w:=
 ⟨⟨h.a.c0,h.a.c1,h.a.c2,h.a.c3,h.a.c4,h.a.c5,h.a.c6,h.a.c7,h.a.c8,h.a.c9,h.a.fz⟩,⟨h.b'.k0,h.b'.k1,h.b'.kf⟩,h.ops,h.tr,h.ce,h.tx,h.ln,⟨h.co.o1,h.co.o2,h.co.o3,h.co.o4,h.co.o4b,h.co.o4v,h.co.o5,h.co.o5b,h.co.o6,h.co.o7,h.co.o7v,h.co.o0⟩,h.lt,h.tnb,Nat.le_succ_of_le h.cnb,Nat.le_succ_of_le h.xnb⟩
theorem RepL.hear (h:RepL y col RB b s w) (t':Int):RepL y col RB b { s with t:=t' } (w.setCell ⟨y.CB,0,none⟩ (.int .i64 t'))∧Fr (InC col) w (w.setCell ⟨y.CB,0,none⟩ (.int .i64 t')):=by
 have hF:=fr_set w y.CB 0 (.int .i64 t')
 have c:=h.co
 have nx:∀ {k:Nat} {cc:Int},col k=cc→cc≠2→¬ k=y.CB:=fun {k cc} h1 h2 h3=>h2 (by rw [←h1,h3,c.o2])
 refine ⟨⟨?_,⟨World.cell?_setCell_same' _ _ _ (by rw [h.b'.k0];rfl),?_,fun j=>by rw [World.frozen?_setCell];exact h.b'.kf j⟩,h.ops.fr (X:=(·=y.CB)) (fun k h1 h2=>hF.block k h1 h2) (fun k hk=>nx (c.o3 k hk) (by decide)),h.tr.fr hF (nx c.o4 (by decide)) (nx c.o4b (by decide)) (fun k hk=>nx (c.o4v k hk) (by decide)),h.ce.fr hF (nx c.o5 (by decide)) (nx c.o5b (by decide)),h.tx.fr hF (nx c.o6 (by decide)),fun nd hn=>hF.line (h.ln nd hn) (nx (c.o7 nd hn) (by have:=c.o0 nd hn;omega)) (fun k hk=>nx (c.o7v nd hn k hk) (by have:=c.o0 nd hn;omega)),⟨c.o1,c.o2,c.o3,c.o4,c.o4b,c.o4v,c.o5,c.o5b,c.o6,c.o7,c.o7v,c.o0⟩,fun k hk=>Nat.lt_of_lt_of_le (h.lt k hk) hF.size,h.tnb,h.cnb,h.xnb⟩,hF.mono fun k hk=>by rw [hk];show col y.CB≠0;rw [c.o2];decide⟩
 ·have q:=h.a.fr hF (nx c.o1 (by decide))
  exact ⟨q.c0,q.c1,q.c2,q.c3,q.c4,q.c5,q.c6,q.c7,q.c8,q.c9,q.fz⟩
 ·have:=h.b'.k1
  simpa [go_sem] using this
theorem RepL.vec (h:RepL y col RB b s w) (a:Int) (n:Nat) (h0:0≤a) (h4:a < 4):RepL y col RB b { s with v:=fun x=>if x=a then n else s.v x } (w.setCell ⟨RB,2+a.toNat,none⟩ (.int .i64 n))∧Fr (InC col) w (w.setCell ⟨RB,2+a.toNat,none⟩ (.int .i64 n)):=by
 have hF:=fr_set w RB (2+a.toNat) (.int .i64 n)
 have c:=h.co
 have nx:∀ {k:Nat} {cc:Int},col k=cc→cc≠1→¬ k=RB:=fun {k cc} h1 h2 h3=>h2 (by rw [←h1,h3,c.o1])
 have q:=h.a
 refine ⟨⟨?_,?_,h.ops.fr (X:=(·=RB)) (fun k h1 h2=>hF.block k h1 h2) (fun k hk=>nx (c.o3 k hk) (by decide)),h.tr.fr hF (nx c.o4 (by decide)) (nx c.o4b (by decide)) (fun k hk=>nx (c.o4v k hk) (by decide)),h.ce.fr hF (nx c.o5 (by decide)) (nx c.o5b (by decide)),h.tx.fr hF (nx c.o6 (by decide)),fun nd hn=>hF.line (h.ln nd hn) (nx (c.o7 nd hn) (by have:=c.o0 nd hn;omega)) (fun k hk=>nx (c.o7v nd hn k hk) (by have:=c.o0 nd hn;omega)),⟨c.o1,c.o2,c.o3,c.o4,c.o4b,c.o4v,c.o5,c.o5b,c.o6,c.o7,c.o7v,c.o0⟩,fun k hk=>Nat.lt_of_lt_of_le (h.lt k hk) hF.size,h.tnb,h.cnb,h.xnb⟩,hF.mono fun k hk=>by rw [hk];show col RB≠0;rw [c.o1];decide⟩
 ·obtain ⟨m,rfl⟩:∃ m:Nat,a=m:=⟨a.toNat,by omega⟩
  have ht:((m:Int)).toNat=m:=by omega
  rw [ht]
  have gs:∀ {j:Nat} {u:Value},j≠2+m→w.cell? ⟨RB,j,none⟩=some u→(w.setCell ⟨RB,2+m,none⟩ (.int .i64 n)).cell? ⟨RB,j,none⟩=some u:=fun {j u} hj hc=>by
   rw [World.cell?_setCell_other _ _ _ _ (by intro e;cases e;exact hj rfl)];exact hc
  have hs:∀ {u:Value},w.cell? ⟨RB,2+m,none⟩=some u→(w.setCell ⟨RB,2+m,none⟩ (.int .i64 n)).cell? ⟨RB,2+m,none⟩=some (.int .i64 n):=fun hc=>World.cell?_setCell_same' _ _ _ (by rw [hc];rfl)
  have hm:m=0∨m=1∨m=2∨m=3:=by omega
  refine ⟨gs (by omega) q.c0,gs (by omega) q.c1,?_,?_,?_,?_,gs (by omega) q.c6,gs (by omega) q.c7,gs (by omega) q.c8,gs (by omega) q.c9,fun j=>by rw [World.frozen?_setCell];exact q.fz j⟩
  ·rcases hm with rfl | rfl | rfl | rfl
   ·exact hs q.c2
   ·exact gs (by omega) q.c2
   ·exact gs (by omega) q.c2
   ·exact gs (by omega) q.c2
  ·rcases hm with rfl | rfl | rfl | rfl
   ·exact gs (by omega) q.c3
   ·exact hs q.c3
   ·exact gs (by omega) q.c3
   ·exact gs (by omega) q.c3
  ·rcases hm with rfl | rfl | rfl | rfl
   ·exact gs (by omega) q.c4
   ·exact gs (by omega) q.c4
   ·exact hs q.c4
   ·exact gs (by omega) q.c4
  ·rcases hm with rfl | rfl | rfl | rfl
   ·exact gs (by omega) q.c5
   ·exact gs (by omega) q.c5
   ·exact gs (by omega) q.c5
   ·exact hs q.c5
 ·have r:=h.b'.fr hF (nx c.o2 (by decide))
  exact ⟨r.k0,r.k1,r.kf⟩
theorem RepL.tree (h:RepL y col RB b s w) {n':Nat} {lv':Value} {g':List OpT} (hT:TrS 0 y.TB y.tb n' lv' g' w') (hF:Fr (fun k=>k=y.TB∨k=y.tb) w w') (hv:∀ k,lv'.ownBlock=some k→y.tv.ownBlock=some k∨w.heap.size≤k) (hn':n'≤g'.length*g'.length) :
  RepL { y with tn:=n',tv:=lv' } (col1 col w.heap.size lv' 4) RB b { s with g:=g' } w'∧Fr (InC col) w w':=by
 have c:=h.co
 have nx:∀ {k:Nat} {cc:Int},col k=cc→cc≠4→¬ (k=y.TB∨k=y.tb):=fun {k cc} h1 h2 h3=>h2 (by rcases h3 with h3 | h3 <;> rw [←h1,h3] <;> first | exact c.o4 | exact c.o4b)
 have ol:∀ {k:Nat} {cc:Int},col k=cc→cc≠0→col1 col w.heap.size lv' 4 k=cc:=fun {k cc} h1 h2=>(col1_old (h.own_lt h1 h2)).trans h1
 refine ⟨⟨?_,?_,h.ops.fr (X:=fun k=>k=y.TB∨k=y.tb) (fun k h1 h2=>hF.block k h1 h2) (fun k hk=>nx (c.o3 k hk) (by decide)),hT,h.ce.fr hF (nx c.o5 (by decide)) (nx c.o5b (by decide)),h.tx.fr hF (nx c.o6 (by decide)),fun nd hn=>hF.line (h.ln nd hn) (nx (c.o7 nd hn) (by have:=c.o0 nd hn;omega)) (fun k hk=>nx (c.o7v nd hn k hk) (by have:=c.o0 nd hn;omega)),⟨ol c.o1 (by decide),ol c.o2 (by decide),fun k hk=>ol (c.o3 k hk) (by decide),ol c.o4 (by decide),ol c.o4b (by decide),col1_own hv (fun k hk=>⟨c.o4v k hk,(h.tr.row.lt k hk).2⟩),ol c.o5 (by decide),ol c.o5b (by decide),ol c.o6 (by decide),fun nd hn=>ol (c.o7 nd hn) (by have:=c.o0 nd hn;omega),fun nd hn k hk=>ol (c.o7v nd hn k hk) (by have:=c.o0 nd hn;omega),c.o0⟩,col1_lt hF.size (fun k hk=>(hT.row.lt k hk).2),hn',h.cnb,h.xnb⟩,hF.mono fun k hk=>by rcases hk with hk | hk <;> rw [hk] <;> (first | (show col y.TB≠0;rw [c.o4];decide) | (show col y.tb≠0;rw [c.o4b];decide))⟩
 ·have q:=h.a.fr hF (nx c.o1 (by decide))
  exact ⟨q.c0,q.c1,q.c2,q.c3,q.c4,q.c5,q.c6,q.c7,q.c8,q.c9,q.fz⟩
 ·have r:=h.b'.fr hF (nx c.o2 (by decide))
  exact ⟨r.k0,r.k1,r.kf⟩
theorem RepL.cell (h:RepL y col RB b s w) {n':Nat} {m':MapC} (hC:CSt 0 y.CC y.cb n' m' w') (hF:Fr (·=y.cb) w w') (hn':n'≤s.ct) :
  RepL { y with cn:=n' } col RB b { s with m:=m' } w'∧Fr (InC col) w w':=by
 have c:=h.co
 have nx:∀ {k:Nat} {cc:Int},col k=cc→cc≠5→¬ k=y.cb:=fun {k cc} h1 h2 h3=>h2 (by rw [←h1,h3,c.o5b])
 refine ⟨⟨?_,?_,h.ops.fr (X:=(·=y.cb)) (fun k h1 h2=>hF.block k h1 h2) (fun k hk=>nx (c.o3 k hk) (by decide)),h.tr.fr hF (nx c.o4 (by decide)) (nx c.o4b (by decide)) (fun k hk=>nx (c.o4v k hk) (by decide)),hC,h.tx.fr hF (nx c.o6 (by decide)),fun nd hn=>hF.line (h.ln nd hn) (nx (c.o7 nd hn) (by have:=c.o0 nd hn;omega)) (fun k hk=>nx (c.o7v nd hn k hk) (by have:=c.o0 nd hn;omega)),⟨c.o1,c.o2,c.o3,c.o4,c.o4b,c.o4v,c.o5,c.o5b,c.o6,c.o7,c.o7v,c.o0⟩,fun k hk=>Nat.lt_of_lt_of_le (h.lt k hk) hF.size,h.tnb,hn',h.xnb⟩,hF.mono fun k hk=>by rw [hk];show col y.cb≠0;rw [c.o5b];decide⟩
 ·have q:=h.a.fr hF (nx c.o1 (by decide))
  exact ⟨q.c0,q.c1,q.c2,q.c3,q.c4,q.c5,q.c6,q.c7,q.c8,q.c9,q.fz⟩
 ·have r:=h.b'.fr hF (nx c.o2 (by decide))
  exact ⟨r.k0,r.k1,r.kf⟩
open Classical in
theorem RepL.line (h:RepL y col RB b s w) {nd:Int} (hk:s.kn nd) {v':Value} {L':List Lt} (hL:LineSt 0 (y.LB nd) v' L' w') (hF:Fr (Own (y.LB nd) (y.LV nd)) w w') (hv:∀ k,v'.ownBlock=some k→(y.LV nd).ownBlock=some k∨w.heap.size≤k) :
  RepL { y with LV:=fun x=>if x=nd then v' else y.LV x } (col1 col w.heap.size v' (7+nd)) RB b { s with ll:=fun x=>if x=nd then L' else s.ll x } w'∧Fr (InC col) w w':=by
 have c:=h.co
 have n0:=c.o0 nd hk
 have hown:∀ {k:Nat},Own (y.LB nd) (y.LV nd) k→col k=7+nd:=fun {k} h3=>by
  rcases h3 with h3 | h3
  ·rw [h3];exact c.o7 nd hk
  ·exact c.o7v nd hk k h3
 have nx:∀ {k:Nat} {cc:Int},col k=cc→cc≠7+nd→¬ Own (y.LB nd) (y.LV nd) k:=fun {k cc} h1 h2 h3=>h2 (by rw [←h1];exact hown h3)
 have ol:∀ {k:Nat} {cc:Int},col k=cc→cc≠0→col1 col w.heap.size v' (7+nd) k=cc:=fun {k cc} h1 h2=>(col1_old (h.own_lt h1 h2)).trans h1
 have hlv:∀ k,(y.LV nd).ownBlock=some k→k < w.heap.size:=fun k hk'=>h.own_lt (c.o7v nd hk k hk') (by omega)
 have hlv':∀ k,v'.ownBlock=some k→k < w'.heap.size:=fun k hk'=>(World.ownsRow.lt hL.own k hk').2
 refine ⟨⟨?_,?_,h.ops.fr (X:=Own (y.LB nd) (y.LV nd)) (fun k h1 h2=>hF.block k h1 h2) (fun k hk=>nx (c.o3 k hk) (by omega)),h.tr.fr hF (nx c.o4 (by omega)) (nx c.o4b (by omega)) (fun k hk=>nx (c.o4v k hk) (by omega)),h.ce.fr hF (nx c.o5 (by omega)) (nx c.o5b (by omega)),h.tx.fr hF (nx c.o6 (by omega)),fun x hx=>?_,⟨ol c.o1 (by decide),ol c.o2 (by decide),fun k hk=>ol (c.o3 k hk) (by decide),ol c.o4 (by decide),ol c.o4b (by decide),fun k hk=>ol (c.o4v k hk) (by decide),ol c.o5 (by decide),ol c.o5b (by decide),ol c.o6 (by decide),fun x hx=>ol (c.o7 x hx) (by have:=c.o0 x hx;omega),fun x hx k hk'=>?_,c.o0⟩,col1_lt hF.size hlv',h.tnb,h.cnb,h.xnb⟩,hF.mono fun k hk'=>by have:=hown hk';show col k≠0;omega⟩
 ·have q:=h.a.fr hF (nx c.o1 (by omega))
  exact ⟨q.c0,q.c1,q.c2,q.c3,q.c4,q.c5,q.c6,q.c7,q.c8,q.c9,q.fz⟩
 ·have r:=h.b'.fr hF (nx c.o2 (by omega))
  exact ⟨r.k0,r.k1,r.kf⟩
 ·by_cases e:x=nd
  ·subst e
   simp only [if_true]
   exact hL
  ·simp only [if_neg e]
   exact hF.line (h.ln x hx) (nx (c.o7 x hx) (by omega)) (fun k hk'=>nx (c.o7v x hx k hk') (by omega))
 ·by_cases e:x=nd
  ·subst e
   simp only [if_true] at hk'
   exact col1_own hv (fun k hk2=>⟨c.o7v x hk k hk2,hlv k hk2⟩) k hk'
  ·simp only [if_neg e] at hk'
   exact ol (c.o7v x hx k hk') (by have:=c.o0 x hx;omega)
open Classical in
theorem RepL.make (h:RepL y col RB b s w) {nd:Int} (hk:¬ s.kn nd) (n0:0≤nd) {B n':Nat} {w1:World} (hB:w.heap.size≤B) (hb:Below w.heap.size w w1) (hB1:B < w1.heap.size) (hL:LineSt 0 B (.slice none 0 0) [] w1) (hF:Fr (·=y.XB) w1 w') (hm:MT Tryz.prog 3 ekI ptrV y.XB n' (updT (txM s.kn y.LB) nd (some B)) w') (hn':n'≤s.ct) :
  RepL { y with xn:=n',LB:=fun x=>if x=nd then B else y.LB x,LV:=fun x=>if x=nd then .slice none 0 0 else y.LV x } (fun k=>if k=B then 7+nd else col k) RB b { s with kn:=fun x=>x=nd∨s.kn x,ll:=fun x=>if x=nd then [] else s.ll x } w'∧Fr (InC col) w w'∧Grew col (fun k=>if k=B then 7+nd else col k) w:=by
 have c:=h.co
 have h1:=h.below hb
 have nx:∀ {k:Nat} {cc:Int},col k=cc→cc≠6→¬ k=y.XB:=fun {k cc} h1 h2 h3=>h2 (by rw [←h1,h3,c.o6])
 have ol:∀ {k:Nat} {cc:Int},col k=cc→cc≠0→(if k=B then 7+nd else col k)=cc:=fun {k cc} h1 h2=>by rw [if_neg (by have:=h.own_lt h1 h2;omega)];exact h1
 have hXB:y.XB < w.heap.size:=h.own_lt c.o6 (by decide)
 refine ⟨⟨?_,?_,h1.ops.fr (X:=(·=y.XB)) (fun k h1 h2=>hF.block k h1 h2) (fun k hk=>nx (c.o3 k hk) (by decide)),h1.tr.fr hF (nx c.o4 (by decide)) (nx c.o4b (by decide)) (fun k hk=>nx (c.o4v k hk) (by decide)),h1.ce.fr hF (nx c.o5 (by decide)) (nx c.o5b (by decide)),?_,fun x hx=>?_,⟨ol c.o1 (by decide),ol c.o2 (by decide),fun k hk=>ol (c.o3 k hk) (by decide),ol c.o4 (by decide),ol c.o4b (by decide),fun k hk=>ol (c.o4v k hk) (by decide),ol c.o5 (by decide),ol c.o5b (by decide),ol c.o6 (by decide),fun x hx=>?_,fun x hx k hk'=>?_,fun x hx=>?_⟩,fun k hk'=>?_,h.tnb,h.cnb,hn'⟩,?_,⟨fun k hk' h2=>by rwa [if_neg (by omega)] at h2⟩⟩
 ·have q:=h1.a.fr hF (nx c.o1 (by decide))
  exact ⟨q.c0,q.c1,q.c2,q.c3,q.c4,q.c5,q.c6,q.c7,q.c8,q.c9,q.fz⟩
 ·have r:=h1.b'.fr hF (nx c.o2 (by decide))
  exact ⟨r.k0,r.k1,r.kf⟩
 ·refine hm.of_eq fun x kl _=>?_
  unfold txM updT
  by_cases e:x=nd
  ·subst e;simp
  ·simp [e]
 ·by_cases e:x=nd
  ·subst e
   simp only [if_true]
   exact hF.line hL (by omega) (fun k hk'=>by simp [Value.ownBlock] at hk')
  ·simp only [if_neg e]
   have hx':s.kn x:=hx.resolve_left e
   exact hF.line (h1.ln x hx') (nx (c.o7 x hx') (by have:=c.o0 x hx';omega)) (fun k hk'=>nx (c.o7v x hx' k hk') (by have:=c.o0 x hx';omega))
 ·by_cases e:x=nd
  ·subst e;simp
  ·simp only [if_neg e]
   have hx':s.kn x:=hx.resolve_left e
   exact ol (c.o7 x hx') (by have:=c.o0 x hx';omega)
 ·by_cases e:x=nd
  ·subst e;simp [Value.ownBlock] at hk'
  ·simp only [if_neg e] at hk'
   have hx':s.kn x:=hx.resolve_left e
   exact ol (c.o7v x hx' k hk') (by have:=c.o0 x hx';omega)
 ·rcases hx with hx | hx
  ·omega
  ·exact c.o0 x hx
 ·by_cases e:k=B
  ·have:=hF.size;omega
  ·have:=h1.lt k (by simpa [e] using hk')
   have:=hF.size
   omega
 ·refine ⟨hF.os.trans hb.os,hF.tape.trans hb.tape,hF.output.trans hb.output,Nat.le_trans hb.size hF.size,fun k hk' hx=>(hF.block k (by have:=hb.size;omega) (fun e=>hx (by rw [e];show col y.XB≠0;rw [c.o6];decide))).trans (hb.block k hk')⟩
theorem RepL.setOps (h:RepL y col RB b s w) {v':Value} {K':List OpT} (hR:Rw opE 31 0 v' K' w) (hn:Nat) (hlt:hn≤w.heap.size) (hv:∀ k,v'.ownBlock=some k→hn≤k) (hc:∀ k,hn≤k→col k=0) :
  RepL { y with OV:=v' } (fun k=>if v'.ownBlock=some k then 3 else col k) RB b { s with K:=K' } (w.setCell ⟨RB,6,none⟩ v')∧Fr (InC col) w (w.setCell ⟨RB,6,none⟩ v')∧(∀ k,k < hn→(if v'.ownBlock=some k then 3 else col k)=col k):=by
 have hF:=fr_set w RB 6 v'
 have c:=h.co
 have nx:∀ {k:Nat} {cc:Int},col k=cc→cc≠1→¬ k=RB:=fun {k cc} h1 h2 h3=>h2 (by rw [←h1,h3,c.o1])
 have q:=h.a
 have ol:∀ {k:Nat} {cc:Int},col k=cc→cc≠0→(if v'.ownBlock=some k then 3 else col k)=cc:=fun {k cc} h1 h2=>by
  rw [if_neg (fun e=>by have:=hc k (hv k e);omega)];exact h1
 have hRB:∀ k,v'.ownBlock=some k→¬ k=RB:=fun k hk e=>by have:=hc k (hv k hk);rw [e,c.o1] at this;omega
 refine ⟨⟨?_,?_,hR.fr (X:=(·=RB)) (fun k h1 h2=>hF.block k h1 h2) hRB,h.tr.fr hF (nx c.o4 (by decide)) (nx c.o4b (by decide)) (fun k hk=>nx (c.o4v k hk) (by decide)),h.ce.fr hF (nx c.o5 (by decide)) (nx c.o5b (by decide)),h.tx.fr hF (nx c.o6 (by decide)),fun nd hn=>hF.line (h.ln nd hn) (nx (c.o7 nd hn) (by have:=c.o0 nd hn;omega)) (fun k hk=>nx (c.o7v nd hn k hk) (by have:=c.o0 nd hn;omega)),⟨ol c.o1 (by decide),ol c.o2 (by decide),fun k hk=>if_pos hk,ol c.o4 (by decide),ol c.o4b (by decide),fun k hk=>ol (c.o4v k hk) (by decide),ol c.o5 (by decide),ol c.o5b (by decide),ol c.o6 (by decide),fun x hx=>ol (c.o7 x hx) (by have:=c.o0 x hx;omega),fun x hx k hk'=>ol (c.o7v x hx k hk') (by have:=c.o0 x hx;omega),c.o0⟩,fun k hk=>?_,h.tnb,h.cnb,h.xnb⟩,hF.mono fun k hk=>by rw [hk];show col RB≠0;rw [c.o1];decide,fun k hk=>if_neg (fun e=>by have:=hv k e;omega)⟩
 ·have gs:∀ {j:Nat} {u:Value},j≠6→w.cell? ⟨RB,j,none⟩=some u→(w.setCell ⟨RB,6,none⟩ v').cell? ⟨RB,j,none⟩=some u:=fun {j u} hj hc=>by
   rw [World.cell?_setCell_other _ _ _ _ (by intro e;cases e;exact hj rfl)];exact hc
  exact ⟨gs (by omega) q.c0,gs (by omega) q.c1,gs (by omega) q.c2,gs (by omega) q.c3,gs (by omega) q.c4,gs (by omega) q.c5,World.cell?_setCell_same' _ _ _ (by rw [q.c6];rfl),gs (by omega) q.c7,gs (by omega) q.c8,gs (by omega) q.c9,fun j=>by rw [World.frozen?_setCell];exact q.fz j⟩
 ·have r:=h.b'.fr hF (nx c.o2 (by decide))
  exact ⟨r.k0,r.k1,r.kf⟩
 ·have hs:=hF.size
  by_cases e:v'.ownBlock=some k
  ·have:=(hR.lt k e).2;omega
  ·rw [if_neg e] at hk
   have:=h.lt k hk
   omega
end
end Go.Proofs.YtjekalilfhnpmaaGreatDoor
namespace Go.Proofs.YtjekalilfhnpmaaGreatDoor
open Go Go.RowKit Go.Maps Go.Shelf LineOrd
set_option linter.unusedVariables false
set_option linter.unusedSimpArgs false
set_option maxHeartbeats 4000000
set_option maxRecDepth 100000
section
variable {y:RLay} {col:Nat→Int} {RB:Nat} {b:Int} {s:RpSt} {w:World}
theorem zeroLn (w:World):(zeroValue 118).run Tryz.prog w=.ok (.pointer none) w:=by kernel_rfl
theorem repBy_any (h:RepL y col RB b s w):Calls Tryz.prog 49 #[ptrV RB] w fun e w'=>e=.returned (.int .i64 b)∧w'=w:=by
 have c1:=h.a.c1
 unfold ptrV
 clear h
 go_enter Tryz.func49,Tryz.ntmps49
 go_wp2_with fail
 go_ret
 exact ⟨rfl,rfl⟩
def vecV (v:Int→Nat):Value:=.agg #[.int .i64 (v 0),.int .i64 (v 1),.int .i64 (v 2),.int .i64 (v 3)]
theorem repVector_any (h:RepL y col RB b s w):Calls Tryz.prog 19 #[ptrV RB] w fun e w'=>e=.returned (vecV s.v)∧Below w.heap.size w w':=by
 have c2:=h.a.c2
 have c3:=h.a.c3
 have c4:=h.a.c4
 have c5:=h.a.c5
 have hRB:RB < w.heap.size:=World.block_lt_of_cell? w _ c2
 unfold ptrV vecV at *
 clear h
 generalize s.v 0=v0 at *
 generalize s.v 1=v1 at *
 generalize s.v 2=v2 at *
 generalize s.v 3=v3 at *
 go_enter Tryz.func19,Tryz.ntmps19
 go_wp2_with fail
 refine bodyPost_ret (v:=.agg #[.int .i64 v0,.int .i64 v1,.int .i64 v2,.int .i64 v3]) (by simp [results,Tryz.results19,go_sem]) rfl ⟨rfl,?_⟩
 go_grown
theorem repKnown_any (h:RepL y col RB b s w) (x:Int) (hx:I64 x) (kb:Bool) (hk:kb=true↔s.kn x):Calls Tryz.prog 108 #[ptrV RB,.int .i64 x] w fun e w'=>e=.returned (.bool kb)∧Below w.heap.size w w':=by
 have c9:=h.a.c9
 have htx:=h.tx
 have hlk:∃ r,txM s.kn y.LB x=r∧r.isSome=kb:=⟨_,rfl,by
  unfold txM
  by_cases hh:s.kn x
  ·simp [hh,hk.2 hh]
  ·have:kb=false:=by
    cases kb with
    | false=>rfl
    | true=>exact absurd (hk.1 rfl) hh
   simp [hh,this]⟩
 obtain ⟨r,hr,rfl⟩:=hlk
 unfold ptrV
 clear h hk
 go_enter Tryz.func108,Tryz.ntmps108
 go_wp2_with (at_lookup;refine wpList_lookT_ok _ rfl _ _ _ rfl 3 118 treeK Tryz.underlying101 _ (zeroLn _) ekI ptrV y.XB y.xn (txM s.kn y.LB) rfl htx x rfl (ekI_reads hx) r hr ?_)
 go_wp2_with fail
 go_ret
 exact ⟨rfl,Below.refl _ _⟩
theorem repPlace_any (h:RepL y col RB b s w) (x:Int) (hx:I64 x) (pb:Bool) (hk:pb=true↔x=0∨x=1∨s.kn x):Calls Tryz.prog 54 #[ptrV RB,.int .i64 x] w fun e w'=>e=.returned (.bool pb)∧Below w.heap.size w w':=by
 by_cases h0:x=0
 ·have:pb=true:=hk.2 (.inl h0)
  subst this h0
  unfold ptrV
  clear h hk
  go_enter Tryz.func54,Tryz.ntmps54
  go_wp2_with fail
  go_ret
  exact ⟨rfl,Below.refl _ _⟩
 ·by_cases h1:x=1
  ·have:pb=true:=hk.2 (.inr (.inl h1))
   subst this h1
   unfold ptrV
   clear h hk
   go_enter Tryz.func54,Tryz.ntmps54
   go_wp2_with fail
   go_ret
   exact ⟨rfl,Below.refl _ _⟩
  ·have HK:=Lib.hid (repKnown_any h x hx pb (by rw [hk];simp [h0,h1]))
   have e0:(x == 0)=false:=by simpa using h0
   have e1:(x == 1)=false:=by simpa using h1
   unfold ptrV at *
   clear h hk h0 h1
   go_enter Tryz.func54,Tryz.ntmps54
   go_wp2_with fail
   refine HK.out.mono ?_
   rintro e w1 ⟨rfl,hb⟩
   have HB:=Lib.hid hb
   clear hb
   go_wp2_with fail
   go_ret
   exact ⟨rfl,HB.out⟩
def txtO (kn:Bool) (L:List Lt):List UInt8:=if kn then txtL L else []
theorem repText_any (h:RepL y col RB b s w) (x:Int) (hx:I64 x) (kb:Bool) (hk:kb=true↔s.kn x) (hl:(s.ll x).length≤1000):Calls Tryz.prog 15 #[ptrV RB,.int .i64 x] w fun e w'=>e=.returned (.string (S (txtO kb (s.ll x))))∧Below w.heap.size w w':=by
 have c9:=h.a.c9
 have htx:=h.tx
 have HL:=Lib.hid h
 cases kb with
 | true=>
  have hkn:s.kn x:=hk.1 rfl
  have hlk:txM s.kn y.LB x=some (y.LB x):=by unfold txM;rw [if_pos hkn]
  have HT:Hid (∀ w',Below w.heap.size w w'→Calls Tryz.prog 62 #[.pointer (some ⟨y.LB x,0,none⟩)] w' fun e w''=>e=.returned (.string (S (txtL (s.ll x))))∧Below w'.heap.size w' w''):=Lib.hid fun w' hb=>line_text (y.LB x) (s.ll x) w' ((h.ln x hkn).below hb).at' hl
  have e:txtO true (s.ll x)=txtL (s.ll x):=rfl
  rw [e]
  clear e
  unfold ptrV
  clear h hk hkn hl
  go_enter Tryz.func15,Tryz.ntmps15
  go_wp2_with (at_lookup;refine wpList_lookT_ok _ rfl _ _ _ rfl 3 118 treeK Tryz.underlying101 _ (zeroLn _) ekI ptrV y.XB y.xn (txM s.kn y.LB) rfl htx x rfl (ekI_reads hx) (some (y.LB x)) hlk ?_)
  simp only [Option.map_some,Option.getD_some,Option.isSome_some,ptrV]
  go_wp2_with fail
  refine (HT.out _ (Below.refl _ _)).mono ?_
  rintro e w1 ⟨rfl,hb⟩
  have HB:=Lib.hid hb
  clear hb
  go_wp2_with fail
  go_ret
  exact ⟨rfl,HB.out⟩
 | false=>
  have hkn:¬ s.kn x:=fun hh=>by have:=hk.2 hh;cases this
  have hlk:txM s.kn y.LB x=none:=by unfold txM;rw [if_neg hkn]
  have e:S (txtO false (s.ll x))=⟨#[]⟩:=rfl
  rw [e]
  clear e
  unfold ptrV
  clear h hk hkn hl
  go_enter Tryz.func15,Tryz.ntmps15
  go_wp2_with (at_lookup;refine wpList_lookT_ok _ rfl _ _ _ rfl 3 118 treeK Tryz.underlying101 _ (zeroLn _) ekI ptrV y.XB y.xn (txM s.kn y.LB) rfl htx x rfl (ekI_reads hx) none hlk ?_)
  go_wp2_with fail
  go_ret
  exact ⟨rfl,Below.refl _ _⟩
def LetEnds (kb:Bool) (k:Int) (L:List Lt) (w:World) (e:Ending) (w':World):Prop:=
 Below w.heap.size w w'∧((kb=true∧0≤k∧∃ x,(seenL L)[k.toNat]?=some x∧e=.returned (.tuple #[.int .i64 x.id,.bool true]))∨((kb=false∨k < 0∨(seenL L).length≤k)∧e=.returned (.tuple #[.int .i64 0,.bool false])))
theorem repLetter_any (h:RepL y col RB b s w) (x k:Int) (hx:I64 x) (hk64:I64 k) (kb:Bool) (hk:kb=true↔s.kn x) (hl:(s.ll x).length≤1000):Calls Tryz.prog 121 #[ptrV RB,.int .i64 x,.int .i64 k] w (LetEnds kb k (s.ll x) w):=by
 have c9:=h.a.c9
 have htx:=h.tx
 have HL:=Lib.hid h
 cases kb with
 | true=>
  have hkn:s.kn x:=hk.1 rfl
  have hlk:txM s.kn y.LB x=some (y.LB x):=by unfold txM;rw [if_pos hkn]
  have HT:Hid (∀ w',Below w.heap.size w w'→Calls Tryz.prog 165 #[.pointer (some ⟨y.LB x,0,none⟩),.int .i64 k] w' (AtEnds k (s.ll x) w')):=Lib.hid fun w' hb=>lineAt_any k (y.LB x) (s.ll x) w' ((h.ln x hkn).below hb).at' hl hk64.1 hk64.2
  unfold ptrV
  clear h hk hkn hl
  go_enter Tryz.func121,Tryz.ntmps121
  go_wp2_with (at_lookup;refine wpList_lookT_ok _ rfl _ _ _ rfl 3 118 treeK Tryz.underlying101 _ (zeroLn _) ekI ptrV y.XB y.xn (txM s.kn y.LB) rfl htx x rfl (ekI_reads hx) (some (y.LB x)) hlk ?_)
  simp only [Option.map_some,Option.getD_some,Option.isSome_some,ptrV]
  go_wp2_with fail
  refine (HT.out _ (Below.refl _ _)).mono ?_
  rintro e w1 ⟨hb,he⟩
  have HB:=Lib.hid hb
  clear hb
  rcases he with ⟨h0,z,hz,rfl⟩ | ⟨h0,rfl⟩
  ·have HZ:=Lib.hid hz
   clear hz
   go_wp2_with fail
   go_ret2
   exact ⟨HB.out,.inl ⟨rfl,h0,z,HZ.out,rfl⟩⟩
  ·have H0:=Lib.hid h0
   clear h0
   go_wp2_with fail
   go_ret2
   exact ⟨HB.out,.inr ⟨.inr H0.out,rfl⟩⟩
 | false=>
  have hkn:¬ s.kn x:=fun hh=>by have:=hk.2 hh;cases this
  have hlk:txM s.kn y.LB x=none:=by unfold txM;rw [if_neg hkn]
  unfold ptrV
  clear h hk hkn hl
  go_enter Tryz.func121,Tryz.ntmps121
  go_wp2_with (at_lookup;refine wpList_lookT_ok _ rfl _ _ _ rfl 3 118 treeK Tryz.underlying101 _ (zeroLn _) ekI ptrV y.XB y.xn (txM s.kn y.LB) rfl htx x rfl (ekI_reads hx) none hlk ?_)
  go_wp2_with fail
  go_ret2
  exact ⟨Below.refl _ _,.inr ⟨.inl rfl,rfl⟩⟩
end
end Go.Proofs.YtjekalilfhnpmaaGreatDoor
