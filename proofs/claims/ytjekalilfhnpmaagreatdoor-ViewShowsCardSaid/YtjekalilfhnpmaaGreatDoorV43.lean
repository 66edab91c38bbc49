/- The document's ListOf, walked. The document's FindOf, walked. The document's PathOf, walked. -/
import Derived.Test.YtjekalilfhnpmaaGreatDoorV33
import Derived.Test.YtjekalilfhnpmaaGreatDoorV38
import Derived.Test.YtjekalilfhnpmaaGreatDoorV40
namespace Go.Proofs.YtjekalilfhnpmaaGreatDoor
open Go Go.RowKit Go.Maps Go.Shelf LineOrd Tree
set_option linter.unusedVariables false
set_option linter.unusedSimpArgs false
set_option maxHeartbeats 20000000
set_option maxRecDepth 100000
theorem infoEntM:(Tryz.prog.info? 62).map (fun i=>(i.zero,i.size,i.bytes))=some (some (.agg #[.string ⟨#[]⟩,.int .i64 0]),2,24):=by kernel_rfl
theorem sLe (a b:ByteArray):(Op.bytesLess a.toList b.toList || a.toList == b.toList)=!sLt b a:=by
 cases h1:sLt b a with
 | true=>
  have h2:Op.bytesLess a.toList b.toList=false:=by
   cases h2:sLt a b with
   | true=>have:=sLt_trans h1 h2;rw [sLt_irrefl] at this;cases this
   | false=>exact h2
  have h3:(a.toList == b.toList)=false:=by
   rw [beq_eq_false_iff_ne]
   intro e
   have:=toList_inj e
   subst this
   rw [sLt_irrefl] at h1
   cases h1
  rw [h2,h3]
  rfl
 | false=>
  cases h2:sLt a b with
  | true=>
   have h3:Op.bytesLess a.toList b.toList=true:=h2
   rw [h3]
   rfl
  | false=>
   rw [sLt_tri h2 h1]
   simp
theorem enM_to {base n c:Nat} {A:Option Addr} {L:List EntT} {w:World} (h:Rw entE 62 base (.slice A n c) L w) {k:Nat} (hk:k≤n) :
  (∀ W,(Instr.slice 58 (.slice A n c) none (some (.int .i64 k)) none).run Tryz.prog W=.ok (.slice A k c) W)∧SlV entE w (.slice A k c) (L.take k):=by
 have hln:=h.sl.len
 rcases h.form with ⟨e,hL⟩ | ⟨g,cap,e,hc,hm,hb,hg⟩
 ·cases e
  obtain rfl:k=0:=by omega
  subst hL
  exact ⟨fun W=>by rfl,SlV.nil⟩
 ·cases e
  have i0:(0:Int)≤(k:Int):=by omega
  have i1:(k:Int)≤(c:Int):=by omega
  exact ⟨fun W=>by go_simp,h.sl.take hk c (by omega)⟩
theorem enM_from {base n c:Nat} {A:Option Addr} {L:List EntT} {w:World} (h:Rw entE 62 base (.slice A n c) L w) {k:Nat} (hk:k≤n) :
  ∃ A' m' c',(∀ W,(Instr.slice 58 (.slice A n c) (some (.int .i64 k)) none none).run Tryz.prog W=.ok (.slice A' m' c') W)∧m'=n - k∧SlV entE w (.slice A' m' c') (L.drop k):=by
 have hln:=h.sl.len
 rcases h.form with ⟨e,hL⟩ | ⟨g,cap,e,hc,hm,hb,hg⟩
 ·cases e
  obtain rfl:k=0:=by omega
  subst hL
  exact ⟨none,0,0,fun W=>by rfl,rfl,SlV.nil⟩
 ·cases e
  have i0:(0:Int)≤(k:Int):=by omega
  have i1:(k:Int)≤(L.length:Int):=by omega
  by_cases hkc:k=c
  ·refine ⟨some ⟨g,0,none⟩,0,0,fun W=>by
    have e1:L.length=k:=by omega
    have i2:(L.length:Int)≤(c:Int):=by omega
    go_simp,by omega,?_⟩
   rw [List.drop_eq_nil_of_le (by omega)]
   exact SlV.empty _ _
  ·refine ⟨some ⟨g,0+k*2,none⟩,L.length - k,c - k,fun W=>by
    have i2:(L.length:Int)≤(c:Int):=by omega
    go_simp;intro h;omega,rfl,?_⟩
   exact h.sl.drop hk (c - k) (by omega)
def MlEnds (K:List OpT) (z:Int) (w:World) (e:Ending) (w':World):Prop:=∃ A n c Q,e=.returned (.slice A n c)∧RepP Q (runO p00 (logOf K))∧Q.length≤K.length∧Rw entE 62 w.heap.size (.slice A n c) (ents (sortV (keysIn z Q))) w'∧Below w.heap.size w w'
structure InsK (z:Int) (Q:List PlT) (i:Nat) (L:List KeyT):Prop where
 up:L.Pairwise (fun a b=>vLt a b=true)
 pm:L.Perm (keysIn z (Q.take i))
theorem mList_any (MB:Nat) (b:Int) (A:Option Addr) (n c:Nat) (K:List OpT) (z:Int) (w:World) (h:MRep MB b A n c K w) (hK:DOk K) (hup:Rising K) (hl:K.length≤1000) :
  Calls Tryz.prog 24 #[ptrV MB,.int .i64 z] w (MlEnds K z w):=by
 have c1:=h.c1
 have HPl:=Lib.hid (placesOf_any A n c K w h.sl hl)
 rw [moves_log hup] at HPl
 have HK:=Lib.hid (And.intro hK hup)
 have hnn:n≤1000:=by have:=h.sl.len;omega
 have HKl:=Lib.hid hl
 unfold PlEnds at HPl
 clear h hK hup
 unfold ptrV
 go_enter Tryz.func24,Tryz.ntmps24
 go_wp2_with fail
 refine HPl.out.mono ?_
 rintro e w1 ⟨v4,Q,rfl,hr1,hQ,hQl,hb1⟩
 obtain ⟨A4,n4,c4,rfl⟩:=hr1.slice
 have hn4:n4=Q.length:=hr1.sl.len
 have hn5:n4≤1000:=by omega
 have HN4:=Lib.hid hn4
 have HR1:=Lib.hid hr1.sl
 have HQ:=Lib.hid (And.intro hQ hQl)
 have HOk:=Lib.hid (plc_ok HK.out.1 (by rw [moves_log HK.out.2];exact hQ))
 have HB1:=Lib.hid hb1
 clear hr1 hQ hQl hb1 hn4 HPl c1
 go_wp2_with fail
 go_loopw [6,7] (fun v6 v7 wr=>∃ (i:Nat) (L:List KeyT) (B:Option Addr) (m cb:Nat),i≤n4∧v7=.int .i64 i∧v6=.slice B m cb∧m≤i∧Hid (InsK z Q i L)∧Hid (Rw entE 62 w.heap.size (.slice B m cb) (L.map kE) wr)∧Hid (Below w.heap.size w wr)∧Hid (Below w1.heap.size w1 wr)) (fun _ v7 _=>n4 - (RowKit.intOf v7).toNat)
 case atStart=>exact ⟨0,[],none,0,0,by omega,rfl,rfl,by omega,Lib.hid ⟨List.Pairwise.nil,by simp [keysIn]⟩,Lib.hid (Rw.nil _ _ _ _),HB1,Lib.hid (Below.refl _ _)⟩
 case round=>
  obtain ⟨i,L,B,m,cb,hi,rfl,rfl,hmi,HI,HR,HB,HBw⟩:=hrel
  by_cases hlt:i < n4
  ·obtain ⟨y,hy⟩:∃ y,Q[i]?=some y:=⟨_,List.getElem?_eq_getElem (by have:=HN4.out;omega)⟩
   obtain ⟨bb,off,rfl,hbl,q0,q1,q2⟩:=pl_at (HR1.out.below HBw.out) hy
   have i0:(0:Int)≤(i:Int):=by omega
   have i1:(i:Int) < (n4:Int):=by omega
   have htk:Q.take (i+1)=Q.take i++[y]:=by rw [List.take_add_one,hy];rfl
   by_cases hz:y.into=z
   ·subst hz
    have hlow:∀ a∈L,a.1 < y.nd:=fun a ha=>by
     have h1:=HI.out.pm.mem_iff.1 ha
     unfold keysIn at h1
     obtain ⟨q,hq,rfl⟩:=List.mem_map.1 h1
     have h2:=(List.mem_filter.1 hq).1
     obtain ⟨j,hj,rfl⟩:=List.getElem_of_mem h2
     rw [List.length_take] at hj
     obtain ⟨hil,he⟩:=List.getElem?_eq_some_iff.1 hy
     have:=List.pairwise_iff_getElem.1 HQ.out.1.up j i (by omega) hil (by omega)
     rw [he] at this
     rwa [List.getElem_take]
    have HTk:=Lib.hid htk
    have HLow:=Lib.hid hlow
    have HM:Hid (m=L.length):=Lib.hid (by have:=HR.out.sl.len;rwa [List.length_map] at this)
    have HPc:Hid (∀ wq,Below wr.heap.size wr wq→wq.cell? ⟨bb,off+i*3,none⟩=some (.int .i64 y.nd)∧wq.cell? ⟨bb,off+i*3+2,none⟩=some (.string y.nm)):=Lib.hid fun wq hb=>⟨cell_keep' hb q0,cell_keep' hb q2⟩
    clear htk hlow hy
    go_wp2_with fail
    rename World=>wo
    go_loopw [8] (fun v8 wq=>∃ k:Nat,k≤m∧v8=.int .i64 k∧Hid (∀ (i:Nat) (a:KeyT),i < k→L[i]?=some a→sLt y.nm a.2=false)∧Hid (Below wo.heap.size wo wq)) (fun v8 _=>m - (RowKit.intOf v8).toNat)
    case atStart=>exact ⟨0,by omega,rfl,Lib.hid (fun i a h=>by omega),Lib.hid (Below.refl _ _)⟩
    case round=>
     obtain ⟨k,hk,rfl,HA,HBq⟩:=hrel
     obtain ⟨tb,htb⟩:∃ tb:Bool,tb=(match L[k]? with | some a=>!sLt y.nm a.2 | none=>false):=⟨_,rfl⟩
     have HTb:=Lib.hid htb
     obtain ⟨p0,p2⟩:=HPc.out _ HBq.out
     have HBn:=Lib.hid (fun nq=>below_drawn HBq.out nq)
     clear htb q0 q1 q2
     go_upto_region 8 with (fail)
     go_cut [47] (fun v47 wc=>v47=.bool tb∧Hid (Below wo.heap.size wo wc))
     case first=>
      by_cases hkm:k < m
      ·obtain ⟨a,ha⟩:∃ a,L[k]?=some a:=⟨_,List.getElem?_eq_getElem (by have:=HM.out;omega)⟩
       obtain ⟨gb,goff,rfl,hgl,c0,c1⟩:=en_at (HR.out.sl.below HBq.out) (show (L.map kE)[k]?=some (kE a) by rw [List.getElem?_map,ha];rfl)
       have htb:tb=!sLt y.nm a.2:=by have:=HTb.out;rw [ha] at this;exact this
       have k1:(0:Int)≤(k:Int):=by omega
       have k2:(k:Int) < (m:Int):=by omega
       have hnm:(kE a).nm=a.2:=rfl
       rw [hnm] at c0
       have hle:(Op.bytesLess a.2.toList y.nm.toList || a.2.toList == y.nm.toList)=tb:=by rw [htb];exact sLe a.2 y.nm
       clear ha hnm hgl c1 htb
       go_wp2_with fail
       go_quiet (fail)
       rename_i nq
       go_wp2_with fail
       go_meet
       case rel=>exact ⟨by first | rfl | rw [hle],Lib.hid (HBn.out nq)⟩
      ·have hlt2:decide (k < m)=false:=by simp;omega
       have e1:tb=false:=by have:=HTb.out;rw [List.getElem?_eq_none (by have:=HM.out;omega)] at this;exact this
       subst e1
       clear hkm
       go_wp2_with fail
       go_quiet (fail)
       rename_i nq
       go_wp2_with fail
       go_meet
       case rel=>exact ⟨rfl,Lib.hid (HBn.out nq)⟩
     case rest=>
      obtain ⟨rfl,HB2⟩:=hcut
      clear p0 p2 HBn HBq
      cases tb with
      | true=>
       have hkn:k < m:=by
        rcases Nat.lt_or_ge k m with h | h
        ·exact h
        ·have:=HTb.out;rw [List.getElem?_eq_none (by have:=HM.out;omega)] at this;cases this
       have HA1:Hid (∀ (i:Nat) (a:KeyT),i < k+1→L[i]?=some a→sLt y.nm a.2=false):=Lib.hid fun i a hi ha=>by
        by_cases he:i=k
        ·subst he
         have:=HTb.out
         rw [ha] at this
         simpa using this.symm
        ·exact HA.out i a (by omega) ha
       go_wp2_with fail
       go_roundw
       case rel=>exact ⟨k+1,by omega,by go_num,HA1,HB2⟩
       case measure=>simp [RowKit.intOf];omega
      | false=>
       have HI2:Hid (InsK y.into Q (i+1) (L.take k++(y.nd,y.nm) :: L.drop k)):=Lib.hid ⟨ins_sorted HI.out.up (fun a ha=>HLow.out a ha) HA.out (fun a ha=>by
        have:=HTb.out
        rw [ha] at this
        simpa using this.symm),by
        rw [HTk.out,keysIn_snoc,if_pos rfl]
        exact (ins_perm k).trans (HI.out.pm.append_right _)⟩
       clear HTb HA
       obtain ⟨sl1,hs1⟩:=enM_to HR.out hk
       obtain ⟨B',m',c',sl2,hm',hs2⟩:=enM_from HR.out hk
       subst hm'
       have HS1:=Lib.hid (hs1.below HB2.out)
       have HS2:=Lib.hid (hs2.below HB2.out)
       have HBc:Hid (Below w.heap.size w wc):=Lib.hid (HB.out.trans (HB2.out.mono HB.out.size))
       have hwc:=HBc.out.size
       have hLl:L.length≤1000:=by have:=HM.out;omega
       obtain ⟨V,hV⟩:∃ V,Value.slice B m cb=V:=⟨_,rfl⟩
       rw [hV] at sl1 sl2 ⊢
       clear hs1 hs2 hV HR
       have hbc:bb < wc.heap.size:=by have:=HB2.out.size;omega
       go_wp2_with (at_builtin;refine wpList_append_rows rfl _ _ 58 rfl entE wc.heap.size 62 (.agg #[.string ⟨#[]⟩,.int .i64 0]) 24 Tryz.underlying58 infoEntM rfl (by decide) _ _ ([]) ((L.map kE).take k) rfl rfl (Rw.nil _ _ _ _) HS1.out ?a1 ?a2 ?a3 ?_)
       case a1=>unfold maxLen;rw [List.length_take,List.length_map];simp;omega
       case a2=>rw [List.length_take,List.length_map];simp;omega
       case a3=>exact Nat.le_refl _
       intro v1 wa hr1 hg1
       have hba:Below wc.heap.size wc wa:=(Below.refl _ _).grown hg1 (Nat.le_refl _) (fun k hk=>by simp [Value.ownBlock] at hk)
       have hca:=hba.size
       have HBa:Hid (Below wo.heap.size wo wa):=Lib.hid (bel2 HB2.out hba)
       have HBca:=Lib.hid hba
       have HRa:=Lib.hid hr1
       obtain ⟨A1,n1,c1,rfl⟩:=hr1.slice
       have hl1:((L.map kE).take k).length+1≤maxLen:=by unfold maxLen;rw [List.length_take,List.length_map];omega
       have hl2:(((L.map kE).take k).length+1)*24≤140737488355328:=by rw [List.length_take,List.length_map];omega
       have HKp:Hid (∀ w',Below wa.heap.size wa w'→w'.cell? ⟨bb,off+i*3,none⟩=some (.int .i64 y.nd)∧w'.cell? ⟨bb,off+i*3+2,none⟩=some (.string y.nm)):=Lib.hid fun w' hb=>HPc.out w' (bel2 HBa.out hb)
       have HKg:Hid (∀ wX w',Below wa.heap.size wa wX→wX.grownBy w' (Value.slice A1 n1 c1).ownBlock→w'.cell? ⟨bb,off+i*3,none⟩=some (.int .i64 y.nd)∧w'.cell? ⟨bb,off+i*3+2,none⟩=some (.string y.nm)):=Lib.hid fun wX w' hb hg=>by
        have hne:some bb≠(Value.slice A1 n1 c1).ownBlock:=fun e=>by have:=(HRa.out.lt _ e.symm).1;omega
        exact ⟨hg.cell (HKp.out wX hb).1 hne,hg.cell (HKp.out wX hb).2 hne⟩
       obtain ⟨p0,p2⟩:=HKp.out _ (Below.refl _ _).drew
       clear hr1 hg1 hba HS1
       go_wp2_with fail
       go_region_held_law (fun w'=>w'.cell? ⟨bb,off+i*3,none⟩=some (.int .i64 y.nd)∧w'.cell? ⟨bb,off+i*3+2,none⟩=some (.string y.nm)) (first | (with_reducible exact hSC) | exact HKp.out _ (by go_grown))
        (first
         | (refine step_append_rw rfl _ _ 58 rfl entE wc.heap.size 62 (.agg #[.string ⟨#[]⟩,.int .i64 0]) 24 Tryz.underlying58 infoEntM rfl (by decide) (.slice A1 n1 c1) ((L.map kE).take k) (by rfl) (HRa.out.below (by go_grown)) _ _ (kE (y.nd,y.nm)) (by rfl) (SlV.one (E:=entE) _ (kE (y.nd,y.nm)) _ _ rfl) hl1 hl2 (by simp;omega) ?_;intro v5 w5 hr5 hg5 hat5 hsl5;have hSC:=HKg.out _ _ (by go_grown) hg5;have hb5:Below wc.heap.size wc w5:=(HBca.out.trans (Below.mono (by go_grown:Below wa.heap.size wa _) hca)).grown hg5 (by simp;omega) (fun k hk=>(HRa.out.lt k hk).1)))
       all_goals
        rename_i hH
        clear hH hSC
        obtain ⟨g5,n5,c5,rfl⟩:=hsl5
        have HR5:=Lib.hid (hr5.lower hwc)
        have HS5:=Lib.hid (HS2.out.below hb5)
        have HB5:=Lib.hid hb5
        have hg5b:∀ q,(Value.slice (some ⟨g5,0,none⟩) n5 c5).ownBlock=some q→wc.heap.size≤q:=fun q hq=>(hr5.lt q hq).1
        have HG5:=Lib.hid hg5b
        have hw5:w.heap.size≤w5.heap.size:=by have:=hb5.size;omega
        clear hr5 hg5 hat5 hb5 hg5b HKp HKg p0 p2 HS2 HRa hl1 hl2
        go_wp2_with (at_builtin;refine wpList_append_rows rfl _ _ 58 rfl entE w.heap.size 62 (.agg #[.string ⟨#[]⟩,.int .i64 0]) 24 Tryz.underlying58 infoEntM rfl (by decide) _ _ ((L.map kE).take k++[kE (y.nd,y.nm)]) ((L.map kE).drop k) rfl rfl HR5.out HS5.out ?c1 ?c2 ?c3 ?_)
        case c1=>unfold maxLen;simp;omega
        case c2=>simp;omega
        case c3=>exact hw5
        intro v7 w7 hr7 hg7
        obtain ⟨A7,n7,c7,rfl⟩:=hr7.slice
        have hE:(L.map kE).take k++kE (y.nd,y.nm) :: (L.map kE).drop k=(L.take k++(y.nd,y.nm) :: L.drop k).map kE:=by simp
        rw [hE] at hr7
        have hn7:n7=L.length+1:=by have:=hr7.sl.len;simp at this;have:=HM.out;omega
        have HR7:=Lib.hid hr7
        have hb7:Below wc.heap.size wc w7:=HB5.out.grown hg7 HB5.out.size (fun q hq=>HG5.out q hq)
        have HB7:=Lib.hid hb7
        clear hr7 hg7 hb7 hE HR5 HS5 HB5 HG5
        go_wp2_with fail
        go_roundw
        case rel=>exact ⟨i+1,_,A7,n7,c7,by omega,by go_num,rfl,by have:=HM.out;omega,HI2,HR7,Lib.hid (HBc.out.trans (HB7.out.mono hwc)),Lib.hid (bel2 HBw.out (bel2 HB2.out HB7.out))⟩
        case measure=>simp [RowKit.intOf];omega
   ·have hzb:(y.into == z)=false:=by simpa using hz
    have HI2:Hid (InsK z Q (i+1) L):=Lib.hid ⟨HI.out.up,by rw [htk,keysIn_snoc,if_neg hz,List.append_nil];exact HI.out.pm⟩
    clear htk hy hz
    go_wp2_with fail
    go_roundw
    case rel=>exact ⟨i+1,L,B,m,cb,by omega,by go_num,rfl,by omega,HI2,HR,HB,HBw⟩
    case measure=>simp [RowKit.intOf];omega
  ·obtain rfl:i=n4:=by omega
   have i1:¬ (i:Int) < (i:Int):=by omega
   have hLs:L=sortV (keysIn z Q):=sorted_is HQ.out.1 HI.out.up (by have:=HI.out.pm;rwa [HN4.out,List.take_length] at this)
   have hmL:m=L.length:=by have:=HR.out.sl.len;rwa [List.length_map] at this
   have hkr:∀ k∈L,I64 k.1∧k.2.size≤100000:=fun k hk=>by
    have h1:=HI.out.pm.mem_iff.1 hk
    unfold keysIn at h1
    obtain ⟨q,hq,rfl⟩:=List.mem_map.1 h1
    have h2:=HOk.out q (List.mem_of_mem_take (List.mem_filter.1 hq).1)
    exact ⟨h2.1,h2.2.2⟩
   have HLs:=Lib.hid hLs
   have HM:=Lib.hid hmL
   have HKr:=Lib.hid hkr
   have HRw:=Lib.hid HR.out.sl
   have hmi2:m≤1000:=by omega
   clear hLs HBw hmL hkr HR HI
   rename World=>wo
   go_upto_region 15 with (fail)
   go_wp2_with fail
   go_loopw [10,11] (fun v10 v11 wr=>∃ (j:Nat),j≤m∧v11=.int .i64 j∧Hid (Rw entE 62 wo.heap.size v10 ((ents L).take j) wr∧Below wo.heap.size wo wr)) (fun _ v11 _=>m - (RowKit.intOf v11).toNat)
   case atStart=>exact ⟨0,by omega,rfl,Lib.hid ⟨Rw.nil _ _ _ _,Below.refl _ _⟩⟩
   case round=>
    obtain ⟨j,hj,rfl,HA⟩:=hrel
    by_cases hlt:j < m
    ·obtain ⟨k,hk⟩:∃ k,L[j]?=some k:=⟨_,List.getElem?_eq_getElem (by have:=HM.out;omega)⟩
     have hkm:=HKr.out k (List.mem_of_getElem? hk)
     obtain ⟨gb,goff,rfl,hgl,c0,c1⟩:=en_at (HRw.out.below HA.out.2) (show (L.map kE)[j]?=some (kE k) by rw [List.getElem?_map,hk];rfl)
     simp only [kE] at c0 c1
     have j0:(0:Int)≤(j:Int):=by omega
     have j1:(j:Int) < (m:Int):=by omega
     have HKm:=Lib.hid hkm
     have HK:=Lib.hid hk
     have HTk:=Lib.hid (ents_take hk)
     have HKp:Hid (∀ w',Below wr.heap.size wr w'→w'.cell? ⟨gb,goff+j*2,none⟩=some (.string k.2)∧w'.cell? ⟨gb,goff+j*2+1,none⟩=some (.int .i64 k.1)):=Lib.hid fun w' hb=>⟨cell_keep' hb c0,cell_keep' hb c1⟩
     clear hk hkm hgl
     go_upto_region 19 with (fail)
     go_cut [96] (fun v96 wd=>v96=.bool (dupB L j k)∧Hid (Below wr.heap.size wr wd))
     case first=>
      by_cases h0:j=0
      ·subst h0
       have hd:dupB L 0 k=false:=by simp [dupB]
       have i0:¬ (0:Int) < ((0:Nat):Int):=by omega
       go_wp2_with fail
       go_meet
       case rel=>exact ⟨by rw [hd],Lib.hid (Below.refl _ _)⟩
      ·have i0:(0:Int) < (j:Int):=by omega
       obtain ⟨k',hk'⟩:∃ k',L[j - 1]?=some k':=⟨_,List.getElem?_eq_getElem (by have:=HM.out;omega)⟩
       obtain ⟨p,hp⟩:∃ p,j=p+1:=⟨j - 1,by omega⟩
       subst hp
       simp only [Nat.add_sub_cancel] at hk'
       obtain ⟨bb',off',hA',hbl,r0,r1⟩:=en_at (HRw.out.below HA.out.2) (show (L.map kE)[p]?=some (kE k') by rw [List.getElem?_map,hk'];rfl)
       cases hA'
       simp only [kE] at r0
       obtain ⟨tb,htb⟩:∃ tb,(k'.2.toList == k.2.toList)=tb:=⟨_,rfl⟩
       have hd:dupB L (p+1) k=tb:=by
        unfold dupB
        rw [Nat.add_sub_cancel,hk',←htb]
        simp only [Option.map_some,Option.some.injEq]
        rw [decide_eq_true (by omega),Bool.true_and,Bool.eq_iff_iff,decide_eq_true_iff,beq_iff_eq]
        exact ⟨fun e=>by rw [e],fun e=>toList_inj e⟩
       have s1:IntKind.i64.wrap (((p+1:Nat):Int) - 1)=(p:Int):=by rw [IntKind.wrap_i64];omega
       have p0:(0:Int)≤(p:Int):=by omega
       have p1:(p:Int) < (m:Int):=by omega
       clear r1 hk' hbl
       go_wp2_with fail
       go_meet
       case rel=>exact ⟨by rw [hd],Lib.hid (Below.refl _ _)⟩
     case rest=>
      obtain ⟨rfl,HB4⟩:=hcut
      obtain ⟨db,hdb⟩:∃ db,dupB L j k=db:=⟨_,rfl⟩
      have HDb:=Lib.hid hdb
      rw [hdb]
      clear hdb c0 c1
      go_upto_if 96 with (fail)
      go_cut [12] (fun v12 wd=>v12=.string (entOf L j k).nm∧Hid (Below wr.heap.size wr wd))
      case first=>
       cases db with
       | true=>
        obtain ⟨T0,hT0⟩:∃ T0,T0=S (Lib.itoa k.1):=⟨_,rfl⟩
        obtain ⟨U1,hU1⟩:∃ U1,U1=k.2++⟨#[126]⟩:=⟨_,rfl⟩
        obtain ⟨U2,hU2⟩:∃ U2,U2=U1++T0:=⟨_,rfl⟩
        have hE:(entOf L j k).nm=U2:=by unfold entOf;rw [HDb.out,hU2,hU1,hT0,ByteArray.append_assoc];rfl
        have z0:T0.size≤21:=by rw [hT0];exact itoa21 HKm.out.1
        have y1:U1.size=k.2.size+1:=by rw [hU1,ByteArray.size_append];rfl
        have y2:=HKm.out.2
        have m1:∀ w,(Op.stringOp .add k.2 ⟨#[126]⟩).run Tryz.prog w=.ok (.string U1) w:=fun w=>by rw [hU1];exact run_string_add_sum (P:=Tryz.prog) (w:=w) _ _ (by show k.2.size+1≤_;omega)
        have m2:∀ w,(Op.stringOp .add U1 T0).run Tryz.prog w=.ok (.string U2) w:=fun w=>by rw [hU2];exact run_string_add_sum (P:=Tryz.prog) (w:=w) _ _ (by omega)
        have HEq:=Lib.hid hE
        have HDe:Hid (∀ w',Calls Tryz.prog 75 #[.int .i64 k.1] w' fun e w''=>e=.returned (.string T0)∧Below w'.heap.size w' w''):=Lib.hid fun w'=>by rw [hT0];exact decimal_any k.1 w' HKm.out.1.1 HKm.out.1.2
        obtain ⟨a0,a1⟩:=HKp.out _ HB4.out
        clear hT0 hU1 hU2 z0 y1 y2 hE
        go_wp2_with fail
        refine (HDe.out _).mono ?_
        rintro e w5 ⟨rfl,hb5⟩
        have HB5:=Lib.hid (bel2 HB4.out hb5)
        clear hb5 HDe
        go_wp2_with fail
        go_meet
        case rel=>exact ⟨by rw [HEq.out],HB5⟩
       | false=>
        have hE:(entOf L j k).nm=k.2:=by unfold entOf;rw [HDb.out];rfl
        go_wp2_with fail
        go_meet
        case rel=>exact ⟨by rw [hE],HB4⟩
      case rest=>
       obtain ⟨rfl,HB5⟩:=hcut
       obtain ⟨x,hx⟩:∃ x,entOf L j k=x:=⟨_,rfl⟩
       have hxn:k.1=x.nd:=by rw [←hx];rfl
       rw [hx] at HTk ⊢
       obtain ⟨e0,e1⟩:=HKp.out _ HB5.out
       rw [hxn] at e1
       have HRo:=Lib.hid (HA.out.1.below HB5.out)
       have hl1:((ents L).take j).length≤1000:=by rw [List.length_take,ents_len];have:=HM.out;omega
       clear hx hxn HDb
       go_wp2_with (at_builtin;refine wpList_append_rows rfl _ _ 58 rfl entE wo.heap.size 62 (.agg #[.string ⟨#[]⟩,.int .i64 0]) 24 Tryz.underlying58 infoEntM rfl (by decide) _ _ ((ents L).take j) [x] rfl rfl (HRo.out.below ((Below.refl _ _).alloc (Nat.le_refl _) _)) (SlV.one (E:=entE) wc x 62 _ rfl) ?e1 ?e2 ?e3 ?_)
       case e1=>unfold maxLen;simp;omega
       case e2=>simp;omega
       case e3=>have:=HA.out.2.size;have:=HB5.out.size;simp;omega
       intro v6 w6 hr6 hg6
       have HR6:Hid (Rw entE 62 wo.heap.size v6 ((ents L).take (j+1)) w6∧Below wo.heap.size wo w6):=Lib.hid (by
        rw [HTk.out]
        refine ⟨hr6,?_⟩
        have hb5:Below wo.heap.size wo (wc.alloc (.cells #[.string x.nm,.int .i64 x.nd] 62)):=bel2 (bel2 HA.out.2 HB5.out) ((Below.refl _ _).alloc (Nat.le_refl _) _)
        exact hb5.grown hg6 hb5.size (fun k hk=>(HA.out.1.lt k hk).1))
       clear hr6 hg6 HRo
       go_wp2_with fail
       go_roundw
       case rel=>exact ⟨j+1,by omega,by go_num,HR6⟩
       case measure=>simp [RowKit.intOf];omega
    ·obtain rfl:j=m:=by omega
     have j1:¬ (j:Int) < (j:Int):=by omega
     go_wp2_with fail
     go_ret
     have h1:=HA.out.1
     rw [List.take_of_length_le (by rw [ents_len,HM.out];exact Nat.le_refl _),HLs.out] at h1
     obtain ⟨A9,n9,c9,e9⟩:=h1.slice
     subst e9
     exact ⟨A9,n9,c9,Q,rfl,HQ.out.1,HQ.out.2,h1.lower HB.out.size,HB.out.trans (HA.out.2.mono HB.out.size)⟩
theorem str_at {A:Option Addr} {n c:Nat} {L:List ByteArray} {w:World} (h:SlV strB w (.slice A n c) L) {i:Nat} {y:ByteArray} (hy:L[i]?=some y) :
  ∃ b off,A=some ⟨b,off,none⟩∧b < w.heap.size∧w.cell? ⟨b,off+i,none⟩=some (.string y):=by
 obtain ⟨b,off,e,hb,hc⟩:=h.at' (by decide) hy
 refine ⟨b,off,e,hb,?_⟩
 have:=hc 0 (.string y) rfl
 simpa [strB] using this
def SeekF (L:List EntT) (s:ByteArray) (y:Int) (k:Nat) (f:Bool) (z:Int):Prop:=(f=false∧z=y∧∀ (j:Nat) (x:EntT),j < k→L[j]?=some x→namedB s x=false)∨(f=true∧stepF L s=some z)
theorem SeekF.start (L:List EntT) (s:ByteArray) (y:Int):SeekF L s y 0 false y:=.inl ⟨rfl,rfl,fun j x h=>by omega⟩
theorem SeekF.skip {L:List EntT} {s:ByteArray} {y:Int} {k:Nat} {z:Int} {x:EntT} (h:SeekF L s y k false z) (hx:L[k]?=some x) (hn:namedB s x=false):SeekF L s y (k+1) false z:=by
 rcases h with ⟨_,h1,h2⟩ | ⟨h,_⟩
 ·refine .inl ⟨rfl,h1,fun j u hj hu=>?_⟩
  by_cases e:j=k
  ·subst e;rw [hx] at hu;cases hu;exact hn
  ·exact h2 j u (by omega) hu
 ·cases h
theorem SeekF.hit {L:List EntT} {s:ByteArray} {y:Int} {k:Nat} {z:Int} {x:EntT} (h:SeekF L s y k false z) (hx:L[k]?=some x) (hn:namedB s x=true):SeekF L s y (k+1) true x.nd:=by
 rcases h with ⟨_,h1,h2⟩ | ⟨h,_⟩
 ·exact .inr ⟨rfl,stepF_at hx hn (fun j u hj hu=>h2 j u hj hu)⟩
 ·cases h
theorem SeekF.none {L:List EntT} {s:ByteArray} {y:Int} {z:Int} (h:SeekF L s y L.length false z):stepF L s=none:=by
 rcases h with ⟨_,h1,h2⟩ | ⟨h,_⟩
 ·refine stepF_no (.inl ⟨rfl,fun x hx=>?_⟩)
  obtain ⟨i,hi,rfl⟩:=List.getElem_of_mem hx
  exact h2 i _ hi (List.getElem?_eq_getElem hi)
 ·cases h
theorem SeekF.found {L:List EntT} {s:ByteArray} {y:Int} {k:Nat} {z:Int} (h:SeekF L s y k true z):stepF L s=some z:=by
 rcases h with ⟨h,_⟩ | ⟨_,h⟩
 ·cases h
 ·exact h
theorem first_byte {s:ByteArray} (h0:0 < s.size):Lib.hasPrefix s.data.toList [47]=(s[0]'h0 == 47):=by
 rcases hd:s.data.toList with _ | ⟨c,r⟩
 ·have:s.data.toList.length=s.size:=by simp
  rw [hd] at this
  simp at this
  omega
 ·have e:s[0]'h0=c:=by
   have h1:s.data.toList[0]?=some (s[0]'h0):=by
    rw [Array.getElem?_toList]
    exact Array.getElem?_eq_getElem h0
   rw [hd] at h1
   simpa using h1.symm
  rw [e]
  by_cases hc:c=47
  ·subst hc
   simp [Lib.hasPrefix]
  ·rw [(beq_eq_false_iff_ne).2 hc]
   show (((47:UInt8) == c) && List.isPrefixOf [] r)=false
   rw [(beq_eq_false_iff_ne).2 (fun e=>hc e.symm:(47:UInt8)≠c)]
   rfl
theorem mFind_any (MB:Nat) (b:Int) (A:Option Addr) (n c:Nat) (K:List OpT) (Q:List PlT) (s:ByteArray) (w:World) (h:MRep MB b A n c K w) (hK:DOk K) (hup:Rising K) (hl:K.length≤1000) (hQ:RepP Q (runO p00 (logOf K))) (hs:s.size≤100000) :
  Calls Tryz.prog 26 #[ptrV MB,.string s] w fun e w'=>e=.returned (.int .i64 ((findV Q s).getD (-1)))∧Below w.heap.size w w':=by
 have HM:=Lib.hid h
 have HLi:Hid (∀ w' z,Below w.heap.size w w'→Calls Tryz.prog 24 #[.pointer (some ⟨MB,0,none⟩),.int .i64 z] w' fun e w''=>∃ A n c,e=.returned (.slice A n c)∧n≤1000∧Rw entE 62 w'.heap.size (.slice A n c) (ents (sortV (keysIn z Q))) w''∧Below w'.heap.size w' w''):=Lib.hid fun w' z hb=>by
  refine (mList_any MB b A n c K z w' (h.below hb) hK hup hl).mono ?_
  rintro e w'' ⟨A1,n1,c1,Q1,rfl,h1,h2,h3,h4⟩
  obtain rfl:=h1.unique hQ
  refine ⟨A1,n1,c1,rfl,?_,h3,h4⟩
  have:=h3.sl.len
  rw [ents_len,(sortV_perm _).length_eq] at this
  have h5:=keysIn_len z Q1
  omega
 obtain ⟨F,hF⟩:∃ F,findV Q s=F:=⟨_,rfl⟩
 rw [hF]
 have HF:=Lib.hid hF
 clear h hK hup hl hQ hF
 unfold ptrV
 by_cases h0:s.size=0
 ·have hn:F=none:=by
   rw [←HF.out]
   have:s.data.toList=[]:=by
    have h1:s.data.toList.length=s.size:=by simp
    exact List.eq_nil_of_length_eq_zero (by omega)
   unfold findV
   rw [this]
   rfl
  subst hn
  go_enter Tryz.func26,Tryz.ntmps26
  go_wp2_with fail
  go_ret
  exact ⟨rfl,Below.refl _ _⟩
 have hp:0 < s.size:=by omega
 have hn1:¬ (s.size:Int) < 1:=by omega
 have hfb:=first_byte hp
 by_cases hb:s[0]=47
 ·have hb0:((s[0].toNat:Int) == 47)=true:=by rw [hb];rfl
  have hpre:Lib.hasPrefix s.data.toList [47]=true:=by rw [hfb,hb];rfl
  by_cases h1:s.size=1
  ·have hse:s=⟨#[47]⟩:=by
    apply ByteArray.ext
    apply Array.ext'
    have h2:s.data.toList.length=1:=by rw [←h1];simp
    obtain ⟨x,hx⟩:=List.length_eq_one_iff.1 h2
    rw [hx] at hpre ⊢
    simp [Lib.hasPrefix] at hpre
    rw [hpre]
   have hn:F=some 0:=by
    rw [←HF.out]
    unfold findV
    rw [hpre,hse]
    simp
   subst hn
   clear hse hpre hfb hb
   go_enter Tryz.func26,Tryz.ntmps26
   go_wp2_with fail
   go_ret
   exact ⟨rfl,Below.refl _ _⟩
  ·have n1:¬ (s.size:Int)=1:=by omega
   obtain ⟨T,hT⟩:∃ T,s.extract 1 s.size=T:=⟨_,rfl⟩
   have hFw:F=walkF Q 0 (cutB T):=by
    rw [←HF.out]
    unfold findV
    rw [hpre,if_neg (by decide),if_neg (by intro e;rw [e] at h1;exact h1 rfl),hT]
   have hTs:T.size≤100000:=by rw [←hT];simp;omega
   have hsl:∀ w,(Instr.slice 9 (.string s) (some (.int .i64 1)) none none).run Tryz.prog w=.ok (.string T) w:=fun w=>by rw [←hT];go_simp
   have HFw:=Lib.hid hFw
   have HCu:=Lib.hid (mCut_any T w hTs)
   clear hFw hT hfb hpre hb
   go_enter Tryz.func26,Tryz.ntmps26
   go_wp2_with fail
   refine HCu.out.mono ?_
   rintro e w1 ⟨A1,n1,c1,rfl,hr1,hb1,hn1m⟩
   have hn1:n1=(cutB T).length:=hr1.sl.len
   have HN1:=Lib.hid hn1
   have HR1:=Lib.hid hr1.sl
   have HB1:=Lib.hid hb1
   clear hr1 hb1 hn1 HCu
   go_wp2_with fail
   go_loopw [5,7] (fun v5 v7 wr=>∃ (i:Nat) (y:Int),i≤n1∧v7=.int .i64 i∧v5=.int .i64 y∧Hid (walkF Q 0 ((cutB T).take i)=some y)∧Hid (Below w1.heap.size w1 wr)) (fun _ v7 _=>n1 - (RowKit.intOf v7).toNat)
   case atStart=>exact ⟨0,0,by omega,rfl,rfl,Lib.hid rfl,Lib.hid (Below.refl _ _)⟩
   case round=>
    obtain ⟨i,y,hi,rfl,rfl,HY,HBr⟩:=hrel
    by_cases hlt:i < n1
    ·obtain ⟨u,hu⟩:∃ u,(cutB T)[i]?=some u:=⟨_,List.getElem?_eq_getElem (by have:=HN1.out;omega)⟩
     obtain ⟨gb,goff,rfl,hgl,c0⟩:=str_at (HR1.out.below HBr.out) hu
     have i0:(0:Int)≤(i:Int):=by omega
     have i1:(i:Int) < (n1:Int):=by omega
     have HTk:Hid (walkF Q 0 ((cutB T).take (i+1))=stepF (ents (sortV (keysIn y Q))) u):=Lib.hid (by
      rw [List.take_add_one,hu]
      show walkF Q 0 ((cutB T).take i++[u])=_
      rw [walkF_snoc,HY.out]
      rfl)
     have HU:=Lib.hid (show (cutB T).take (i+1)++(cutB T).drop (i+1)=cutB T from List.take_append_drop _ _)
     have HKp:Hid (∀ w',Below wr.heap.size wr w'→w'.cell? ⟨gb,goff+i,none⟩=some (.string u)):=Lib.hid fun w' hb=>cell_keep' hb c0
     have HL0:=Lib.hid (HLi.out wr y (HB1.out.trans (HBr.out.mono HB1.out.size)))
     clear hu hgl HY
     go_wp2_with fail
     refine HL0.out.mono ?_
     rintro e w2 ⟨A2,n2,c2,rfl,hn2,hr2,hb2⟩
     obtain ⟨E,hE⟩:∃ E,ents (sortV (keysIn y Q))=E:=⟨_,rfl⟩
     rw [hE] at hr2 HTk
     have hn2E:n2=E.length:=hr2.sl.len
     have HN2:=Lib.hid hn2E
     have HR2:=Lib.hid hr2.sl
     have HB2:=Lib.hid (bel2 HBr.out hb2)
     have HKp2:Hid (∀ w',Below w2.heap.size w2 w'→w'.cell? ⟨gb,goff+i,none⟩=some (.string u)):=Lib.hid fun w' hb=>HKp.out w' (bel2 hb2 hb)
     clear hr2 hb2 hE HL0 hn2E HKp c0 HBr
     go_wp2_with fail
     go_loopw [5,9,10] (fun v5 v9 v10 wr=>∃ (k:Nat) (f:Bool) (z:Int),k≤n2∧v10=.int .i64 k∧v9=.bool f∧v5=.int .i64 z∧Hid (SeekF E u y k f z)∧Hid (Below w2.heap.size w2 wr)) (fun _ _ v10 _=>n2 - (RowKit.intOf v10).toNat)
     case atStart=>exact ⟨0,false,y,by omega,rfl,rfl,rfl,Lib.hid (SeekF.start _ _ _),Lib.hid (Below.refl _ _)⟩
     case round=>
      obtain ⟨k,f,z,hk,rfl,rfl,rfl,HSk,HBk⟩:=hrel
      cases f with
      | true=>
       have HW:Hid (walkF Q 0 ((cutB T).take (i+1))=some z):=Lib.hid (by rw [HTk.out];exact HSk.out.found)
       have HBn:Hid (Below w1.heap.size w1 wr):=Lib.hid (bel2 HB2.out HBk.out)
       go_wp2_with fail
       all_goals
        go_roundw
        case rel=>exact ⟨i+1,z,by omega,by go_num,rfl,HW,HBn⟩
        case measure=>simp [RowKit.intOf];omega
      | false=>
       by_cases hkm:k < n2
       ·obtain ⟨x,hx⟩:∃ x,E[k]?=some x:=⟨_,List.getElem?_eq_getElem (by have:=HN2.out;omega)⟩
        obtain ⟨eb,eoff,rfl,hel,e0,e1⟩:=en_at (HR2.out.below HBk.out) hx
        have e2:=HKp2.out _ HBk.out
        have k0:(0:Int)≤(k:Int):=by omega
        have k1:(k:Int) < (n2:Int):=by omega
        obtain ⟨tb,htb⟩:∃ tb,(x.nm.toList == u.toList)=tb:=⟨_,rfl⟩
        have HN:Hid (namedB u x=tb):=Lib.hid htb
        have HX:=Lib.hid hx
        clear hx hel
        cases tb with
        | true=>
         have HS2:=Lib.hid (HSk.out.hit HX.out HN.out)
         go_wp2_with fail
         go_quiet (fail)
         rename_i nq
         have HBq:=Lib.hid (below_drawn HBk.out nq)
         obtain ⟨eb',eoff',hA',_,q0,q1⟩:=en_at (HR2.out.below HBq.out) HX.out
         cases hA'
         clear e0 e1 e2 HBk
         generalize wr.drewN nq=wq at HBq q0 q1 ⊢
         go_wp2_with fail
         go_roundw
         case rel=>exact ⟨k+1,true,x.nd,by omega,by go_num,rfl,rfl,HS2,HBq⟩
         case measure=>simp [RowKit.intOf];omega
        | false=>
         have HS2:=Lib.hid (HSk.out.skip HX.out HN.out)
         go_wp2_with fail
         go_quiet (fail)
         rename_i nq
         have HBq:=Lib.hid (below_drawn HBk.out nq)
         clear e0 e1 e2 HBk
         generalize wr.drewN nq=wq at HBq ⊢
         go_wp2_with fail
         go_roundw
         case rel=>exact ⟨k+1,false,z,by omega,by go_num,rfl,rfl,HS2,HBq⟩
         case measure=>simp [RowKit.intOf];omega
       ·obtain rfl:k=n2:=by omega
        have k1:¬ (k:Int) < (k:Int):=by omega
        have hF2:F=none:=by
         rw [HFw.out,←HU.out]
         refine walkF_none Q _ _ 0 ?_
         rw [HTk.out]
         have:=HSk.out
         rw [HN2.out] at this
         exact this.none
        subst hF2
        have HBn:Hid (Below w.heap.size w wr):=Lib.hid (HB1.out.trans ((bel2 HB2.out HBk.out).mono HB1.out.size))
        go_wp2_with fail
        go_ret
        exact ⟨rfl,HBn.out⟩
    ·obtain rfl:i=n1:=by omega
     have i1:¬ (i:Int) < (i:Int):=by omega
     have hF2:F=some y:=by rw [HFw.out,←HY.out,HN1.out,List.take_length]
     subst hF2
     go_wp2_with fail
     go_ret
     exact ⟨rfl,HB1.out.trans (HBr.out.mono HB1.out.size)⟩
 ·have hb0:((s[0].toNat:Int) == 47)=false:=by
   rw [beq_eq_false_iff_ne]
   intro e
   exact hb (UInt8.toNat_inj.1 (by show s[0].toNat=47;omega))
  have hn:F=none:=by
   rw [←HF.out]
   unfold findV
   rw [hfb,if_pos (by simpa using hb)]
  subst hn
  clear hfb hb
  go_enter Tryz.func26,Tryz.ntmps26
  go_wp2_with fail
  go_ret
  exact ⟨rfl,Below.refl _ _⟩
def PoEnds (p:PlB) (Q:List PlT) (x:Int) (w:World) (e:Ending) (w':World):Prop:=∃ t,e=.returned (.string t)∧(x=0∧t=⟨#[47]⟩∨x≠0∧¬ Ins p x 0∧t=⟨#[]⟩∨x≠0∧Ins p x 0∧PathB p Q x t)∧Below w.heap.size w w'
theorem rep_one {p:PlB} {Q:List PlT} (h:RepP Q p) {x:Int} {v:Int×ByteArray} (hx:p x=some v):∃ (j:Nat),Q[j]?=some ⟨x,v.1,v.2⟩∧∀ (i:Nat) (y:PlT),Q[i]?=some y→y.nd=x→i=j:=by
 obtain ⟨j,hj,he⟩:=List.getElem_of_mem ((h.is ⟨x,v.1,v.2⟩).2 hx)
 refine ⟨j,by rw [List.getElem?_eq_getElem hj,he],fun i y hi hy=>?_⟩
 obtain ⟨hil,hie⟩:=List.getElem?_eq_some_iff.1 hi
 refine Classical.byContradiction fun hne=>?_
 rcases Nat.lt_or_gt_of_ne hne with hlt | hlt
 ·have:=List.pairwise_iff_getElem.1 h.up i j hil hj hlt
  rw [hie,he] at this
  simp only at this
  omega
 ·have:=List.pairwise_iff_getElem.1 h.up j i hj hil hlt
  rw [hie,he] at this
  simp only at this
  omega
theorem mPath_any (MB:Nat) (b:Int) (A:Option Addr) (n c:Nat) (K:List OpT) (p:PlB) (Q:List PlT) (x:Int) (w:World) (h:MRep MB b A n c K w) (hK:DOk K) (hup:Rising K) (hl:K.length≤1000) (hp:runO p00 (logOf K)=p) (hQ:RepP Q p) :
  Calls Tryz.prog 30 #[ptrV MB,.int .i64 x] w (PoEnds p Q x w):=by
 have hac:Acyc p:=by rw [←hp];exact Acyc.replay Acyc.empty _
 have hrng:∀ x v,p x=some v→I64 x∧I64 v.1∧v.2.size≤100000:=fun x v hx=>by
  have h1:=plc_ok hK (Q:=Q) (by rw [moves_log hup,hp];exact hQ) ⟨x,v.1,v.2⟩ ((hQ.is _).2 hx)
  exact h1
 have HLi:Hid (∀ w' z,Below w.heap.size w w'→Calls Tryz.prog 24 #[.pointer (some ⟨MB,0,none⟩),.int .i64 z] w' fun e w''=>∃ A n c,e=.returned (.slice A n c)∧n≤1000∧Rw entE 62 w'.heap.size (.slice A n c) (ents (sortV (keysIn z Q))) w''∧Below w'.heap.size w' w''):=Lib.hid fun w' z hb=>by
  refine (mList_any MB b A n c K z w' (h.below hb) hK hup hl).mono ?_
  rintro e w'' ⟨A1,n1,c1,Q1,rfl,h1,h2,h3,h4⟩
  rw [hp] at h1
  obtain rfl:=h1.unique hQ
  refine ⟨A1,n1,c1,rfl,?_,h3,h4⟩
  have:=h3.sl.len
  rw [ents_len,(sortV_perm _).length_eq] at this
  have h5:=keysIn_len z Q1
  omega
 have c1:=h.c1
 have HPl:=Lib.hid (placesOf_any A n c K w h.sl hl)
 rw [moves_log hup,hp] at HPl
 unfold PlEnds at HPl
 have HQ:=Lib.hid hQ
 have HAc:=Lib.hid hac
 have HRg:=Lib.hid hrng
 have hKl:=hl
 clear h hK hup hl hp hQ hac hrng
 unfold ptrV
 by_cases hx0:x=0
 ·subst hx0
  go_enter Tryz.func30,Tryz.ntmps30
  go_wp2_with fail
  refine HPl.out.mono ?_
  rintro e w1 ⟨v4,Q',rfl,hr1,hQ',hQl,hb1⟩
  have HB1:=Lib.hid hb1
  clear hr1 hb1 HPl
  go_wp2_with fail
  go_ret
  exact ⟨_,rfl,.inl ⟨rfl,rfl⟩,HB1.out⟩
 have hxb:(x == 0)=false:=by simpa using hx0
 have hxn:¬ x=0:=hx0
 have HX0:=Lib.hid hx0
 clear hx0
 go_enter Tryz.func30,Tryz.ntmps30
 go_wp2_with fail
 refine HPl.out.mono ?_
 rintro e w1 ⟨v4,Q',rfl,hr1,hQ',hQl,hb1⟩
 obtain rfl:=hQ'.unique HQ.out
 obtain ⟨A4,n4,c4,rfl⟩:=hr1.slice
 have hn4:n4=Q'.length:=hr1.sl.len
 have hn4m:n4≤1000:=by omega
 have HN4:=Lib.hid hn4
 have HR1:=Lib.hid hr1.sl
 have HB1:=Lib.hid hb1
 have HQl:=Lib.hid hQl
 obtain ⟨t,hti⟩:∃ t:Bool,t=true↔Ins p x 0:=⟨@decide _ (Classical.propDecidable _),@decide_eq_true_iff _ (Classical.propDecidable _)⟩
 have HIn:Hid (Calls Tryz.prog 28 #[.slice A4 n4 c4,.int .i64 x,.int .i64 0] w1 fun e w'=>e=.returned (.bool t)∧w'=w1):=Lib.hid (by
  refine (isInside_any A4 n4 c4 x 0 Q' p w1 hr1.sl (by omega) HQ.out HAc.out).mono ?_
  rintro e w' ⟨rfl,rfl⟩
  refine ⟨?_,rfl⟩
  have hdec:∀ inst:Decidable (Ins p x 0),@decide _ inst=t:=fun inst=>by rw [Bool.eq_iff_iff,hti];exact @decide_eq_true_iff _ inst
  rw [hdec])
 have HTi:=Lib.hid hti
 clear hr1 hb1 hQl hQ' HPl hn4 c1 hti
 go_wp2_with fail
 refine HIn.out.mono ?_
 rintro e w2 ⟨rfl,rfl⟩
 cases t with
 | false=>
  go_wp2_with fail
  go_ret
  exact ⟨_,rfl,.inr (.inl ⟨HX0.out,(fun hi=>by have:=HTi.out.2 hi;cases this),rfl⟩),HB1.out⟩
 | true=>
  have HInx:Hid (Ins p x 0):=Lib.hid (HTi.out.1 rfl)
  obtain ⟨d,hd⟩:=HAc.out
  have HD:=Lib.hid hd
  have hrk:rankP d Q' x≤1000:=Nat.le_trans (rankP_le d Q' x) (by have:=HQl.out;omega)
  clear hd HIn
  go_wp2_with fail
  go_loopw [1,6] (fun v1 v6 wr=>∃ (y:Int) (out:ByteArray),v1=.int .i64 y∧v6=.string out∧Hid (y=0∨Ins p y 0)∧Hid (∀ t,PathB p Q' y t→PathB p Q' x (t++out))∧out.size+rankP d Q' y*100100≤1000*100100∧Hid (Below w2.heap.size w2 wr)) (fun v1 _ _=>rankP d Q' (RowKit.intOf v1))
  case atStart=>exact ⟨x,⟨#[]⟩,rfl,rfl,Lib.hid (.inr HInx.out),Lib.hid (fun t ht=>by rw [app_nil];exact ht),by have:=Nat.mul_le_mul_right 100100 hrk;show 0+_≤_;omega,Lib.hid (Below.refl _ _)⟩
  case round=>
   obtain ⟨y,out,rfl,rfl,HY,HP,hsz,HB⟩:=hrel
   by_cases hy0:y=0
   ·subst hy0
    go_wp2_with fail
    go_ret
    exact ⟨out,rfl,.inr (.inr ⟨HX0.out,HInx.out,by have:=HP.out _ PathB.root;rwa [nil_app] at this⟩),HB1.out.trans (HB.out.mono HB1.out.size)⟩
   ·have hyn:¬ y=0:=hy0
    obtain ⟨v,hv⟩:∃ v,p y=some v:=by
     rcases HY.out with h | h
     ·exact absurd h hy0
     ·cases hp:p y with
      | none=>exact absurd h (Ins.none hp)
      | some v=>exact ⟨v,rfl⟩
    have HNx:Hid (v.1=0∨Ins p v.1 0):=Lib.hid (by
     rcases HY.out with h | h
     ·exact absurd h hy0
     ·exact (Ins.some hv).1 h)
    have hvr:=HRg.out y v hv
    have hrl:rankP d Q' v.1 < rankP d Q' y:=rankP_lt (y:=⟨y,v.1,v.2⟩) ((HQ.out.is _).2 hv) (HD.out _ _ hv)
    obtain ⟨U0,hU0⟩:∃ U0,U0=(⟨#[47]⟩:ByteArray)++nameOf p Q' y:=⟨_,rfl⟩
    obtain ⟨U,hU⟩:∃ U,U=U0++out:=⟨_,rfl⟩
    have hns:=nameOf_size HQ.out hv hvr.1 hvr.2.2
    have z0:U0.size≤100023:=by rw [hU0,ByteArray.size_append];show 1+_≤_;omega
    have z1:U.size=U0.size+out.size:=by rw [hU,ByteArray.size_append]
    have m1:∀ w,(Op.stringOp .add ⟨#[47]⟩ (nameOf p Q' y)).run Tryz.prog w=.ok (.string U0) w:=fun w=>by rw [hU0];exact run_string_add_sum (P:=Tryz.prog) (w:=w) _ _ (by show 1+_≤_;omega)
    have m2:∀ w,(Op.stringOp .add U0 out).run Tryz.prog w=.ok (.string U) w:=fun w=>by rw [hU];exact run_string_add_sum (P:=Tryz.prog) (w:=w) _ _ (by omega)
    have HPn:Hid (∀ t,PathB p Q' v.1 t→PathB p Q' x (t++U)):=Lib.hid fun t ht=>by
     have:=HP.out _ (PathB.step hy0 hv ht)
     rwa [←hU0,ByteArray.append_assoc,←hU] at this
    have hsz2:U.size+rankP d Q' v.1*100100≤1000*100100:=by omega
    obtain ⟨j0,e0,he0,hn0,hm0,hone⟩:=ents_one HQ.out hv
    have HE:=Lib.hid (And.intro he0 hone)
    have HEn:=Lib.hid (And.intro hn0 hm0)
    obtain ⟨k0,hk0,hkone⟩:=rep_one HQ.out hv
    have HK0:=Lib.hid (And.intro hk0 hkone)
    have hk0n:k0 < n4:=by rw [HN4.out];exact (List.getElem?_eq_some_iff.1 hk0).1
    have HRl:=Lib.hid hrl
    obtain ⟨zi,hzi⟩:∃ zi,v.1=zi:=⟨_,rfl⟩
    rw [hzi] at HNx HPn hsz2 HE HK0 HRl
    clear hv hvr hrl hU0 hU hns z0 z1 he0 hn0 hm0 hone HP hk0 hkone hzi
    rename World=>wo
    go_wp2_with fail
    go_loopw [7,8] (fun v7 v8 wr=>∃ i:Nat,i≤n4∧v8=.int .i64 i∧v7=.int .i64 (if i≤k0 then 0 else zi)∧wr=wo) (fun _ v8 _=>n4 - (RowKit.intOf v8).toNat)
    case atStart=>exact ⟨0,by omega,rfl,by rw [if_pos (Nat.zero_le _)],rfl⟩
    case round=>
     obtain ⟨i,hi,rfl,rfl,rfl⟩:=hrel
     by_cases hlt:i < n4
     ·obtain ⟨q,hq⟩:∃ q,Q'[i]?=some q:=⟨_,List.getElem?_eq_getElem (by have:=HN4.out;omega)⟩
      obtain ⟨bb,off,rfl,hbl,q0,q1,q2⟩:=pl_at (HR1.out.below HB.out) hq
      have i0:(0:Int)≤(i:Int):=by omega
      have i1:(i:Int) < (n4:Int):=by omega
      by_cases hqy:q.nd=y
      ·obtain rfl:=HK0.out.2 i q hq hqy
       have hqe:q=⟨y,zi,v.2⟩:=by have:=HK0.out.1;rw [hq] at this;exact Option.some.inj this
       subst hqe
       rw [if_pos (Nat.le_refl _)]
       clear hq hqy hbl q2
       go_wp2_with fail
       go_roundw
       case rel=>exact ⟨i+1,by omega,by go_num,by rw [if_neg (by omega)],by first | rfl | trivial⟩
       case measure=>simp [RowKit.intOf];omega
      ·have hne:i≠k0:=fun e=>by subst e;rw [HK0.out.1] at hq;exact hqy (by rw [←Option.some.inj hq])
       have hif:(if i≤k0 then (0:Int) else zi)=(if i+1≤k0 then 0 else zi):=by
        by_cases hh:i≤k0
        ·rw [if_pos hh,if_pos (by omega)]
        ·rw [if_neg hh,if_neg (by omega)]
       have hqb:(q.nd == y)=false:=by simpa using hqy
       rw [hif]
       clear hq hbl q1 q2 hif
       go_wp2_with fail
       go_roundw
       case rel=>exact ⟨i+1,by omega,by go_num,rfl,by first | rfl | trivial⟩
       case measure=>simp [RowKit.intOf];omega
     ·obtain rfl:i=n4:=by omega
      have i1:¬ (i:Int) < (i:Int):=by omega
      rw [if_neg (by omega)]
      have HL0:=Lib.hid (HLi.out wr zi (HB1.out.trans (HB.out.mono HB1.out.size)))
      go_wp2_with fail
      refine HL0.out.mono ?_
      rintro e w4 ⟨A5,n5,c5,rfl,hn5,hr5,hb5⟩
      have hn5l:n5=(ents (sortV (keysIn zi Q'))).length:=hr5.sl.len
      have HS4:=Lib.hid hr5.sl
      have HB4:=Lib.hid (bel2 HB.out hb5)
      obtain ⟨E,hE⟩:∃ E,ents (sortV (keysIn zi Q'))=E:=⟨_,rfl⟩
      rw [hE] at HE HS4 hn5l
      have HN5:=Lib.hid hn5l
      have hj0:j0 < n5:=by rw [hn5l];exact (List.getElem?_eq_some_iff.1 HE.out.1).1
      clear hr5 hb5 hE hn5l HL0
      go_wp2_with fail
      go_loopw [6,10] (fun v6 v10 wq=>∃ j:Nat,j≤n5∧v10=.int .i64 j∧v6=.string (if j≤j0 then out else U)∧wq=w4) (fun _ v10 _=>n5 - (RowKit.intOf v10).toNat)
      case atStart=>exact ⟨0,by omega,rfl,by rw [if_pos (Nat.zero_le _)],rfl⟩
      case round=>
       obtain ⟨j,hj,rfl,rfl,rfl⟩:=hrel
       by_cases hlt:j < n5
       ·obtain ⟨k,hk⟩:∃ k,E[j]?=some k:=⟨_,List.getElem?_eq_getElem (by have:=HN5.out;omega)⟩
        obtain ⟨bb,off,rfl,hbl,q0,q1⟩:=en_at HS4.out hk
        have i0:(0:Int)≤(j:Int):=by omega
        have i1:(j:Int) < (n5:Int):=by omega
        by_cases hkj:k.nd=y
        ·obtain rfl:=HE.out.2 j k hk hkj
         obtain rfl:k=e0:=by rw [HE.out.1] at hk;exact (Option.some.inj hk).symm
         have hkn:=HEn.out.2
         rw [hkn] at q0
         rw [hkj] at q1
         rw [if_pos (Nat.le_refl _)]
         clear hk hkj hkn hbl
         go_wp2_with fail
         go_roundw
         case rel=>exact ⟨j+1,by omega,by go_num,by rw [if_neg (by omega)],by first | rfl | trivial⟩
         case measure=>simp [RowKit.intOf];omega
        ·have hne:j≠j0:=fun e=>by subst e;rw [HE.out.1] at hk;exact hkj (by rw [←Option.some.inj hk];exact HEn.out.1)
         have hko:(if j≤j0 then out else U)=(if j+1≤j0 then out else U):=by
          by_cases hh:j≤j0
          ·rw [if_pos hh,if_pos (by omega)]
          ·rw [if_neg hh,if_neg (by omega)]
         rw [hko]
         have hkb:(k.nd == y)=false:=by simpa using hkj
         clear hk hbl hko
         go_wp2_with fail
         go_roundw
         case rel=>exact ⟨j+1,by omega,by go_num,rfl,by first | rfl | trivial⟩
         case measure=>simp [RowKit.intOf];omega
       ·obtain rfl:j=n5:=by omega
        have i1:¬ (j:Int) < (j:Int):=by omega
        rw [if_neg (by omega)]
        go_wp2_with fail
        go_roundw
        case rel=>exact ⟨zi,U,rfl,rfl,HNx,HPn,hsz2,HB4⟩
        case measure=>exact HRl.out
end Go.Proofs.YtjekalilfhnpmaaGreatDoor
