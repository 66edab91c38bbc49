/- ViewShows: the walk. -/
import Derived.Test.YtjekalilfhnpmaaGreatDoorV03
import Derived.Test.YtjekalilfhnpmaaGreatDoorV39
import Derived.Test.YtjekalilfhnpmaaGreatDoorV40
import Derived.Test.YtjekalilfhnpmaaGreatDoorV41
import Derived.Test.YtjekalilfhnpmaaGreatDoorV43
namespace Go.Proofs.YtjekalilfhnpmaaGreatDoor
open Go Go.RowKit Go.Maps Go.Shelf LineOrd Tree
set_option linter.unusedVariables false
set_option linter.unusedSimpArgs false
set_option maxHeartbeats 20000000
set_option maxRecDepth 100000
theorem ints_of {w:World} {A:Option Addr} {n c:Nat} {L:List Int} (h:SlV intE w (.slice A n c) L):IntsAt w A L:=by
 cases hL:L with
 | nil=>exact .inl rfl
 | cons x r=>
  rw [hL] at h
  obtain ⟨b,off,e,hb,_⟩:=h.at' (i:=0) (x:=x) (by decide) rfl
  refine .inr ⟨b,off,e,hb,fun j y hy=>?_⟩
  obtain ⟨b',off',e',_,hc⟩:=h.at' (by decide) hy
  rw [e] at e'
  cases e'
  have:=hc 0 _ rfl
  simpa [intE] using this
theorem findV_ge {K:List OpT} (hK:DOk K) {Q:List PlT} (h:RepP Q (runO p00 (logOf K))) {s:ByteArray} {x:Int} (hx:findV Q s=some x):0≤x:=by
 have hw:∀ (r:List ByteArray) (z:Int),0≤z→walkF Q z r=some x→0≤x:=fun r=>by
  induction r with
  | nil=>intro z hz h;cases h;exact hz
  | cons t r ih=>
   intro z hz hw
   simp only [walkF] at hw
   cases hst:stepF (ents (sortV (keysIn z Q))) t with
   | none=>rw [hst] at hw;cases hw
   | some y=>
    rw [hst] at hw
    refine ih y ?_ hw
    unfold stepF at hst
    obtain ⟨e,he,rfl⟩:=Option.map_eq_some_iff.1 hst
    obtain ⟨i,hi,hie⟩:=List.getElem_of_mem (List.mem_of_find?_eq_some he)
    obtain ⟨k,hk,rfl,hp⟩:=ent_key h (show (ents (sortV (keysIn z Q)))[i]?=some e by rw [List.getElem?_eq_getElem hi,hie])
    exact (placed_name hK hp).2
 unfold findV at hx
 split at hx
 ·cases hx
 ·split at hx
  ·cases hx;exact Int.le_refl _
  ·exact hw _ 0 (Int.le_refl _) hx
theorem pathB_ne {p:PlB} {Q:List PlT} {x:Int} {t:ByteArray} (h:PathB p Q x t) (hx:x≠0):(t.toList == [])=false:=by
 cases h with
 | root=>exact absurd rfl hx
 | step _ _ _=>
  rw [beq_eq_false_iff_ne]
  intro e
  have:=congrArg List.length e
  simp [ByteArray.toList_eq,ByteArray.data_append] at this
structure BothP (p:PlB) (Q:List PlT) (x:Int) (s:ByteArray) (is:Bool):Prop where
 ways:x=0∧s=⟨#[47]⟩∧is=true∨x≠0∧¬ Ins p x 0∧s=⟨#[]⟩∧is=false∨x≠0∧Ins p x 0∧PathB p Q x s∧is=true
theorem path_all {RB TB:Nat} {K:List OpT} {p:PlB} {Q:List PlT} (w:World) (h:ViewV RB TB K p Q w) (x:Int) (hx:I64 x) :
  Calls Tryz.prog 29 #[ptrV RB,.int .i64 x] w fun e w'=>∃ s is,e=.returned (.tuple #[.string s,.bool is])∧BothP p Q x s is∧Below w.heap.size w w':=by
 by_cases h0:x=0
 ·subst h0
  refine (path_root w h).mono ?_
  rintro e w' ⟨rfl,hb⟩
  exact ⟨_,_,rfl,⟨.inl ⟨rfl,rfl,rfl⟩⟩,hb⟩
 ·by_cases hin:Ins p x 0
  ·refine (path_in w h x hx h0 hin).mono ?_
   rintro e w' ⟨s,hs,rfl,hb,_⟩
   exact ⟨_,_,rfl,⟨.inr (.inr ⟨h0,hin,hs,rfl⟩)⟩,hb⟩
  ·refine (path_out w h x hx h0 hin).mono ?_
   rintro e w' ⟨rfl,hb⟩
   exact ⟨_,_,rfl,⟨.inr (.inl ⟨h0,hin,rfl,rfl⟩)⟩,hb⟩
theorem BothP.same {p:PlB} {Q:List PlT} {x:Int} {s t:ByteArray} {is:Bool} (h:BothP p Q x s is) (h':x=0∧t=⟨#[47]⟩∨x≠0∧¬ Ins p x 0∧t=⟨#[]⟩∨x≠0∧Ins p x 0∧PathB p Q x t):t=s∧(s.toList == [])=!is:=by
 rcases h.ways with ⟨h0,rfl,rfl⟩ | ⟨h0,hn,rfl,rfl⟩ | ⟨h0,hi,hs,rfl⟩
 ·rcases h' with ⟨_,rfl⟩ | ⟨h1,_⟩ | ⟨h1,_⟩
  ·exact ⟨rfl,by rw [ByteArray.toList_eq];rfl⟩
  ·exact absurd h0 h1
  ·exact absurd h0 h1
 ·rcases h' with ⟨h1,_⟩ | ⟨_,_,rfl⟩ | ⟨_,h1,_⟩
  ·exact absurd h1 h0
  ·exact ⟨rfl,by rw [ByteArray.toList_eq];rfl⟩
  ·exact absurd h1 hn
 ·rcases h' with ⟨h1,_⟩ | ⟨_,h1,_⟩ | ⟨_,_,h1⟩
  ·exact absurd h1 h0
  ·exact absurd hi h1
  ·exact ⟨h1.unique hs,pathB_ne hs h0⟩
open Classical in
theorem viewShows_any {F0:Nat→Bool} (ea:Nat→Addr) (A:Option Addr) (n c:Nat) (Ts:List TurnT) (by' z:Int) (path:ByteArray) (w:World) (hG:Gd F0 ea w) (f2:F0 2=true) (f3:F0 3=true) (f4:F0 4=true) (f5:F0 5=true) (f6:F0 6=true) (f7:F0 7=true) (f8:F0 8=true) (f9:F0 9=true) (f10:F0 10=true) (f21:F0 21=true)
  (hs:SlV turnE w (.slice A n c) Ts) (hc:n≤maxLen) (hw:∀ x∈Ts,x.o.nm.size≤100000→x.o.vl.size≤100000→x.Wf) (hz:I64 z) (hps:path.size≤maxLen) :
  Calls Tryz.prog 5 #[.slice A n c,.int .i64 by',.int .i64 z,.string path] w fun e w'=>e=.returned (.bool true)∧Below w.heap.size w w':=by
 have HG:=Lib.hid hG
 have HS:=Lib.hid hs
 have HW:=Lib.hid hw
 have HZ:=Lib.hid hz
 have HBg:=Lib.hid (looked_any ea w hG f2 f3 f4 f5 f6 f7 f8 f9 f21)
 have hm1:n≤9223372036854775807:=by unfold maxLen at hc;omega
 have hm2:path.size≤9223372036854775807:=by unfold maxLen at hps;omega
 have HC:=Lib.hid hc
 clear hG hs hw hc hz hps
 go_enter Tryz.func5,Tryz.ntmps5
 go_wp2_with fail
 refine HBg.out.mono ?_
 rintro e w1 ⟨rfl,hb1⟩
 have HB1:=Lib.hid hb1
 have HLg:=Lib.hid (longTurns_any A n c Ts w1 (HS.out.below hb1) HC.out)
 clear hb1 HBg
 go_wp2_with fail
 refine HLg.out.mono ?_
 rintro e w1' ⟨lb,rfl,rfl,hsh⟩
 have HSh:=Lib.hid hsh
 clear hsh HLg
 cases lb with
 | true=>
  go_wp2_with fail
  go_ret
  exact ⟨rfl,HB1.out⟩
 | false=>
  by_cases hp60:60 < path.size
  ·have k6:(60:Int) < (path.size:Int):=by omega
   go_wp2_with fail
   go_ret
   exact ⟨rfl,HB1.out⟩
  have k6:¬ (60:Int) < (path.size:Int):=by omega
  by_cases hb0:by' < 0
  ·go_wp2_with fail
   go_ret
   exact ⟨rfl,HB1.out⟩
  by_cases hb4:4≤by'
  ·go_wp2_with fail
   go_ret
   exact ⟨rfl,HB1.out⟩
  have HPl:=Lib.hid (played_any ea A n c Ts w1' (HG.out.below HB1.out) f2 f3 f4 f5 f6 f7 f8 f9 f10 (HS.out.below HB1.out) (HSh.out (by first | exact rfl | trivial)).1 (fun x hx=>HW.out x hx (by have:=((HSh.out (by first | exact rfl | trivial)).2 x hx).1;omega) (by have:=((HSh.out (by first | exact rfl | trivial)).2 x hx).2;omega)))
  have HGp:=Lib.hid (HG.out.below HB1.out)
  have q22:∀ (w:World) (a:Option Addr) (n c n' c':Nat),(binOp .eql 44 (.slice a n c) (.slice none n' c')).run Tryz.prog w=.ok (.bool a.isNone) w:=fun w a n c n' c'=>Lib.run_eql_slice_nil w _ _ a n c n' c' Tryz.underlying44
  obtain ⟨d,rfl⟩:=Int.eq_ofNat_of_zero_le (show 0≤by' by omega)
  have hd:d < 4:=by omega
  go_wp2_with fail
  refine HPl.out.mono ?_
  rintro e w2 ⟨v,cs,RBs,Ks,H,rfl,hR,hrow,hF,hH⟩
  obtain ⟨g,cg,rfl⟩:∃ g cg,v=.slice (some ⟨g,0,none⟩) 4 cg:=by
   rcases hrow.row.form with ⟨_,h⟩ | ⟨g,cap,h,_⟩
   ·simp at h
   ·exact ⟨g,cap,h⟩
  have hHl:H.length≤60:=Nat.le_trans hH (HSh.out (by first | exact rfl | trivial)).1
  have hKl:(Ks d).length≤60:=Nat.le_trans (hF.len hd) hHl
  have hK:=hF.ok d hd
  have hup:=hF.rise d hd
  have cp:=hrow.ptr hd
  have hRd:=hR.rep d hd
  have hb2:=hR.bel
  obtain ⟨TB,hT,hVq⟩:=ViewV.of ea hRd (HGp.out.below hb2) f21 hK (by omega)
  have HOp:=Lib.hid (repOps_any (cs d) (RBs d) d (Ks d) w2 hRd (by omega))
  have HVq:=Lib.hid hVq
  have HRd:=Lib.hid hRd
  have HGd:=Lib.hid (HGp.out.below hb2)
  have HK:=Lib.hid (And.intro hK (And.intro hup hKl))
  have HB2:=Lib.hid (HB1.out.trans (hb2.mono HB1.out.size))
  have i0:(0:Int)≤(d:Int):=by omega
  have i1:(d:Int) < 4:=by omega
  obtain ⟨p,hp⟩:∃ p,runO p00 (logOf (Ks d))=p:=⟨_,rfl⟩
  rw [hp] at HVq
  have HP:=Lib.hid hp
  unfold ptrV at HOp
  clear hR hrow hF hH HPl hHl hKl hK hup hRd hb2 hT hVq hp
  go_wp2_with fail
  refine HOp.out.mono ?_
  rintro e w3 ⟨v3,rfl,hr3,hb3⟩
  obtain ⟨A3,n3,c3,rfl⟩:=hr3.slice
  obtain ⟨WM,hWM⟩:∃ WM,w3.alloc (.cells #[.int .i64 d,.slice A3 n3 c3] 55)=WM:=⟨_,rfl⟩
  have hbM:Below w3.heap.size w3 WM:=by rw [←hWM];exact (Below.refl _ _).alloc (Nat.le_refl _) _
  obtain ⟨MB,hMB⟩:∃ MB,w3.heap.size=MB:=⟨_,rfl⟩
  have hMR:MRep MB d A3 n3 c3 (Ks d) WM:=⟨by rw [←hWM,←hMB];simp [go_sem],by rw [←hWM,←hMB];simp [go_sem],hr3.sl.below hbM,fun j=>by rw [←hWM,←hMB];simp [go_sem]⟩
  have HMR:=Lib.hid hMR
  have HBM:=Lib.hid (bel2 hb3 hbM)
  have HLs:=Lib.hid (list_any ea (cs d) (RBs d) d (Ks d) z WM (HRd.out.below HBM.out) (HGd.out.below HBM.out) f21 HK.out.1 (by have:=HK.out.2.2;omega))
  clear hr3 hb3 hbM hMR HOp
  unfold ptrV LsEnds at HLs
  go_upto_region 9 with (fail)
  clear hWM hMB
  go_wp2_with fail
  refine HLs.out.mono ?_
  rintro e w4 ⟨v4,Q,rfl,hQ,hQl,hr4,hb4'⟩
  rw [HP.out] at hQ
  have HV:=Lib.hid (HVq.out Q hQ hQl)
  have HB4:=Lib.hid (bel2 HBM.out hb4')
  have hM4:=HMR.out.below hb4'
  have HM4:=Lib.hid hM4
  obtain ⟨A4,n4,c4,rfl⟩:=hr4.slice
  have HR4:=Lib.hid hr4.sl
  have HLm:=Lib.hid (mList_any MB d A3 n3 c3 (Ks d) z w4 hM4 HK.out.1 HK.out.2.1 (by have:=HK.out.2.2;omega))
  unfold ptrV MlEnds at HLm
  clear hQ hQl hr4 hb4' hM4 HLs HVq HBM HMR
  go_wp2_with fail
  refine HLm.out.mono ?_
  rintro e w5 ⟨A5,n5,c5,Q',rfl,hQ',hQl,hr5,hb5⟩
  rw [HP.out] at hQ'
  obtain rfl:=hQ'.unique HV.out.rep
  have hn4:n4=(ents (sortV (keysIn z Q'))).length:=HR4.out.len
  have hn5:n5=(ents (sortV (keysIn z Q'))).length:=hr5.sl.len
  obtain ⟨E,hE⟩:∃ E,ents (sortV (keysIn z Q'))=E:=⟨_,rfl⟩
  rw [hE] at hr5 HR4 hn4 hn5
  obtain rfl:n5=n4:=by omega
  have hnm:n5≤1000000:=by
   rw [hn5,←hE,ents_len,(sortV_perm _).length_eq]
   exact Nat.le_trans (keysIn_len _ _) HV.out.len
  have HRa:=Lib.hid (HR4.out.below hb5)
  have HRb:=Lib.hid hr5.sl
  have HB5:=Lib.hid (bel2 HB4.out hb5)
  have HM5:=Lib.hid (HM4.out.below hb5)
  have HN:=Lib.hid hn5
  clear hQ' hr5 hb5 hn4 hn5 hE HLm HR4 HM4 HB4
  go_wp2_with fail
  go_loopw [15] (fun v15 wr=>∃ j:Nat,j≤n5∧v15=.int .i64 j∧Hid (Below w5.heap.size w5 wr)) (fun v15 _=>n5 - (RowKit.intOf v15).toNat)
  case atStart=>exact ⟨0,by omega,rfl,Lib.hid (Below.refl _ _)⟩
  case round=>
   obtain ⟨j,hj,rfl,HBr⟩:=hrel
   by_cases hlt:j < n5
   ·obtain ⟨x,hx⟩:∃ x,E[j]?=some x:=⟨_,List.getElem?_eq_getElem (by have:=HN.out;omega)⟩
    obtain ⟨b1,o1,rfl,_,q0,q1⟩:=en_at (HRa.out.below HBr.out) hx
    obtain ⟨b2,o2,rfl,_,r0,r1⟩:=en_at (HRb.out.below HBr.out) hx
    have j0:(0:Int)≤(j:Int):=by omega
    have j1:(j:Int) < (n5:Int):=by omega
    clear hx
    go_wp2_with fail
    go_quiet (fail)
    rename_i nq
    have HBq:=Lib.hid (below_drawn HBr.out nq)
    clear q0 q1 r0 r1 HBr
    generalize wr.drewN nq=wq at HBq ⊢
    go_wp2_with fail
    go_roundw
    case rel=>exact ⟨j+1,by omega,by go_num,HBq⟩
    case measure=>simp [RowKit.intOf];omega
   ·obtain rfl:j=n5:=by omega
    have j1:¬ (j:Int) < (j:Int):=by omega
    have hb6:=bel2 HB5.out HBr.out
    have HB6:=Lib.hid hb6
    have HM6:=Lib.hid (HM5.out.below HBr.out)
    have HFi:=Lib.hid (viewFind_any wr (HV.out.below hb6) path (by omega))
    clear hb6 HBr HB5 HM5 HRa HRb
    go_wp2_with fail
    refine HFi.out.mono ?_
    rintro e w7 ⟨rfl,hb7⟩
    have HB7:=Lib.hid (bel2 HB6.out hb7)
    have HM7:=Lib.hid (HM6.out.below hb7)
    have HFm:=Lib.hid (mFind_any MB d A3 n3 c3 (Ks d) Q' path w7 HM7.out HK.out.1 HK.out.2.1 (by have:=HK.out.2.2;omega) (by rw [HP.out];exact HV.out.rep) (by omega))
    unfold ptrV at HFm
    obtain ⟨F,hF⟩:∃ F,findV Q' path=F:=⟨_,rfl⟩
    rw [hF] at HFm ⊢
    have hge:∀ x,F=some x→0≤x:=fun x hx=>findV_ge HK.out.1 (by rw [HP.out];exact HV.out.rep) (hF.trans hx)
    clear hb7 hF HFi HB6 HM6
    obtain ⟨is,k,k',his,hk,hk'⟩:∃ is k k',F.isSome=is∧F.getD 0=k∧F.getD (-1)=k':=⟨_,_,_,rfl,rfl,rfl⟩
    rw [his,hk]
    rw [hk'] at HFm
    have hway:(is=true∧k'=k∧0≤k)∨(is=false∧k=0∧k' = -1):=by
     cases F with
     | none=>exact .inr ⟨his.symm,hk.symm,hk'.symm⟩
     | some x=>exact .inl ⟨his.symm,by rw [←hk,←hk'];rfl,by rw [←hk];exact hge x rfl⟩
    clear his hk hk' hge
    go_wp2_with fail
    refine HFm.out.mono ?_
    rintro e w8 ⟨rfl,hb8⟩
    have HB8:=Lib.hid (bel2 HB7.out hb8)
    have HM8:=Lib.hid (HM7.out.below hb8)
    clear hb8 HFm HB7 HM7
    have HPl:=Lib.hid (placesOf_any A3 n3 c3 (Ks d) w8 HM8.out.sl (by have:=HK.out.2.2;omega))
    rw [moves_log HK.out.2.1,HP.out] at HPl
    unfold PlEnds at HPl
    have m1:=HM8.out.c1
    rcases hway with ⟨rfl,rfl,hk0⟩ | ⟨rfl,rfl,rfl⟩
    all_goals
     go_upto_region 22 with (fail)
     go_wp2_with fail
     refine HPl.out.mono ?_
     rintro e w9 ⟨v9,Q9,rfl,hr9,hQ9,hQ9l,hb9⟩
     obtain rfl:=hQ9.unique HV.out.rep
     obtain ⟨A9,n9,c9,rfl⟩:=hr9.slice
     have hn9:n9=Q9.length:=hr9.sl.len
     have hn9m:n9≤1000:=by have:=HK.out.2.2;omega
     have HN9:=Lib.hid hn9
     have HR9:=Lib.hid hr9.sl
     have HB9:=Lib.hid (bel2 HB8.out hb9)
     have HM9:=Lib.hid (HM8.out.below hb9)
     clear hr9 hQ9 hQ9l hb9 hn9 HPl HB8 HM8 m1
     go_wp2_with fail
     go_loopw [20,21] (fun v20 v21 wr=>∃ (i:Nat) (B:Option Addr) (m cb:Nat),i≤n9+1∧v21=.int .i64 ((i:Int) - 1)∧v20=.slice B m cb∧m≤i∧Hid (Rw intE 3 w9.heap.size (.slice B m cb) (((Q9.take (i - 1)).filter fun y=>decide (Ins p y.nd 1)).map PlT.nd) wr)∧Hid (Below w9.heap.size w9 wr)) (fun _ v21 _=>(n9 - (RowKit.intOf v21)).toNat)
     case atStart=>exact ⟨0,none,0,0,by omega,rfl,rfl,by omega,Lib.hid (Rw.nil _ _ _ _),Lib.hid (Below.refl _ _)⟩
     case round=>
      obtain ⟨i,B,m,cb,hi,rfl,rfl,hmi,HR,HBr⟩:=hrel
      by_cases hlt:i≤n9
      ·have i0':(i:Int) - 1 < (n9:Int):=by omega
       obtain ⟨db,hdb⟩:∃ db,decide (0≤(i:Int) - 1)=db:=⟨_,rfl⟩
       go_upto_if 144 with (fail)
       go_cut [20,21,22] (fun v20 v21 v22 wc=>∃ (x:Int) (B:Option Addr) (m cb:Nat),v21=.int .i64 ((i:Int) - 1)∧v22=.int .i64 x∧Hid (I64 x)∧v20=.slice B m cb∧m≤i+1∧Hid (Rw intE 3 w9.heap.size (.slice B m cb) (((Q9.take i).filter fun y=>decide (Ins p y.nd 1)).map PlT.nd) wc)∧Hid (Below w9.heap.size w9 wc))
       case first=>
        cases db with
        | false=>
         have hi0:i=0:=by have:=of_decide_eq_false hdb;omega
         subst hi0
         go_wp2_with fail
         go_meet
         case rel=>exact ⟨z,B,m,cb,rfl,rfl,HZ,rfl,by omega,HR,HBr⟩
        | true=>
         obtain ⟨q,rfl⟩:∃ q,i=q+1:=⟨i - 1,by have:=of_decide_eq_true hdb;omega⟩
         rw [Nat.add_sub_cancel] at HR
         obtain ⟨y,hy⟩:∃ y,Q9[q]?=some y:=⟨_,List.getElem?_eq_getElem (by have:=HN9.out;omega)⟩
         obtain ⟨bb,off,rfl,hbl,q0,q1,q2⟩:=pl_at (HR9.out.below HBr.out) hy
         have e1:((q+1:Nat):Int) - 1=(q:Int):=by omega
         have k0:(0:Int)≤(q:Int):=by omega
         have k1:(q:Int) < (n9:Int):=by omega
         have hyi:I64 y.nd:=(HV.out.t.rng y.nd _ ((HV.out.rep.is y).1 (List.mem_of_getElem? hy))).1
         obtain ⟨t,hti⟩:∃ t:Bool,t=true↔Ins p y.nd 1:=⟨decide (Ins p y.nd 1),decide_eq_true_iff⟩
         have HIn:Hid (Calls Tryz.prog 28 #[.slice (some ⟨bb,off,none⟩) n9 c9,.int .i64 y.nd,.int .i64 1] wr fun e w'=>e=.returned (.bool t)∧w'=wr):=Lib.hid (by
          refine (isInside_any (some ⟨bb,off,none⟩) n9 c9 y.nd 1 Q9 p wr (HR9.out.below HBr.out) (by omega) HV.out.rep HV.out.ac).mono ?_
          rintro e w' ⟨rfl,rfl⟩
          refine ⟨?_,rfl⟩
          have hdec:∀ inst:Decidable (Ins p y.nd 1),@decide _ inst=t:=fun inst=>by rw [Bool.eq_iff_iff,hti];exact @decide_eq_true_iff _ inst
          rw [hdec])
         have HTk:Hid (((Q9.take (q+1)).filter fun y=>decide (Ins p y.nd 1)).map PlT.nd=((Q9.take q).filter fun y=>decide (Ins p y.nd 1)).map PlT.nd++(if t=true then [y.nd] else [])):=Lib.hid (by
          rw [List.take_add_one,hy]
          show ((Q9.take q++[y]).filter _).map _=_
          rw [List.filter_append,List.map_append]
          congr 1
          cases t with
          | true=>rw [if_pos rfl,List.filter_cons,if_pos (decide_eq_true (hti.1 rfl))];rfl
          | false=>
           have hno:¬ Ins p y.nd 1:=fun h=>by have:=hti.2 h;cases this
           rw [if_neg (by decide),List.filter_cons,if_neg (by rw [decide_eq_true_iff];exact hno)];rfl)
         have HYi:=Lib.hid hyi
         rw [e1]
         clear hy hbl q1 q2 hyi hti
         go_wp2_with fail
         refine HIn.out.mono ?_
         rintro e wz ⟨rfl,rfl⟩
         cases t with
         | false=>
          rw [if_neg (by decide),List.append_nil] at HTk
          go_wp2_with fail
          go_meet
          case rel=>exact ⟨y.nd,B,m,cb,by rw [e1],rfl,HYi,rfl,by omega,Lib.hid (by rw [HTk.out];exact HR.out),HBr⟩
         | true=>
          rw [if_pos rfl] at HTk
          obtain ⟨LL,hLL⟩:∃ LL,((Q9.take q).filter fun y=>decide (Ins p y.nd 1)).map PlT.nd=LL:=⟨_,rfl⟩
          rw [hLL] at HR HTk
          have HmL:Hid (m=LL.length):=Lib.hid HR.out.sl.len
          have hsz:=HBr.out.size
          clear hLL
          go_wp2_with (at_builtin;refine wpList_append_rows rfl _ _ 42 rfl intE w9.heap.size 3 (.int .i64 0) 8 Tryz.underlying42 (by kernel_rfl) rfl (by decide) _ _ LL [y.nd] rfl rfl (HR.out.below ((Below.refl _ _).alloc (Nat.le_refl _) _)) (SlV.one (E:=intE) wz y.nd 3 _ rfl) ?e1 ?e2 ?e3 ?_)
          case e1=>have:=HmL.out;unfold maxLen;simp;omega
          case e2=>have:=HmL.out;first | (simp;done) | (simp;omega) | omega
          case e3=>first | (simp;done) | (simp;omega) | omega
          intro v6 w6 hr6 hg6
          have hb6:Below w9.heap.size w9 w6:=((HBr.out).alloc hsz _).grown hg6 (by have:=hsz;simp;omega) (fun k hk=>(HR.out.lt k hk).1)
          have hr6':Rw intE 3 w9.heap.size v6 (((Q9.take (q+1)).filter fun y=>decide (Ins p y.nd 1)).map PlT.nd) w6:=by rw [HTk.out];exact hr6
          obtain ⟨A6,n6,c6,rfl⟩:=hr6'.slice
          have hn6:n6=LL.length+1:=by have:=hr6.sl.len;simpa using this
          have HR6:=Lib.hid hr6'
          have HB6:=Lib.hid hb6
          clear hr6 hr6' hg6 hb6
          go_wp2_with fail
          go_meet
          case rel=>exact ⟨y.nd,A6,n6,c6,by rw [e1],rfl,HYi,rfl,by have:=HmL.out;omega,HR6,HB6⟩
       case rest=>
        obtain ⟨x,B2,m2,cb2,rfl,rfl,HX,rfl,hm2',HR2,HB2c⟩:=hcut
        have hbw:=bel2 HB9.out HB2c.out
        have HPa:=Lib.hid (path_all wc (HV.out.below hbw) x HX.out)
        have HMc:=Lib.hid (HM9.out.below HB2c.out)
        unfold ptrV at HPa
        clear hbw HR HBr hdb
        go_wp2_with fail
        refine HPa.out.mono ?_
        rintro e wd ⟨s,is,rfl,hbo,hb10⟩
        have HBo:=Lib.hid hbo
        have HMp:=Lib.hid (mPath_any MB d A3 n3 c3 (Ks d) p Q9 x wd (HMc.out.below hb10) HK.out.1 HK.out.2.1 (by have:=HK.out.2.2;omega) HP.out HV.out.rep)
        have HBd:=Lib.hid (bel2 HB2c.out hb10)
        have HRd2:=Lib.hid (HR2.out.below hb10)
        unfold ptrV PoEnds at HMp
        clear hbo hb10 HPa HMc HR2 HB2c
        go_wp2_with fail
        refine HMp.out.mono ?_
        rintro e we ⟨t,rfl,hway,hb11⟩
        obtain ⟨hts,hemp⟩:=HBo.out.same hway
        have HBe:=Lib.hid (bel2 HBd.out hb11)
        have HRe:=Lib.hid (HRd2.out.below hb11)
        subst hts
        clear hway hb11 HMp HBd HRd2 HBo
        have hne1:¬ ((t.toList != t.toList)=true):=by simp
        cases is with
        | true=>
         go_wp2_with fail
         go_roundw
         case rel=>exact ⟨i+1,B2,m2,cb2,by omega,by go_num,rfl,by omega,by rw [Nat.add_sub_cancel];exact HRe,HBe⟩
         case measure=>simp [RowKit.intOf];omega
        | false=>
         go_wp2_with fail
         go_roundw
         case rel=>exact ⟨i+1,B2,m2,cb2,by omega,by go_num,rfl,by omega,by rw [Nat.add_sub_cancel];exact HRe,HBe⟩
         case measure=>simp [RowKit.intOf];omega
      ·obtain rfl:i=n9+1:=by omega
       have i0':¬ (((n9+1:Nat):Int) - 1 < (n9:Int)):=by omega
       rw [Nat.add_sub_cancel,HN9.out,List.take_length] at HR
       have hbw:=bel2 HB9.out HBr.out
       have HLo:=Lib.hid (lost_any wr (HV.out.below hbw).t)
       have HBw:=Lib.hid hbw
       unfold ptrV LoEnds at HLo
       clear hbw
       go_wp2_with fail
       refine HLo.out.mono ?_
       rintro e wd ⟨A',n',c',Q',rfl,hQ',hs5,hb5⟩
       obtain rfl:=hQ'.unique HV.out.rep
       obtain ⟨LL,hLL⟩:∃ LL,((Q'.filter fun y=>decide (Ins p y.nd 1)).map PlT.nd)=LL:=⟨_,rfl⟩
       have hsB:=(HR.out.below hb5).sl
       have hlen:LL.length≤1000000:=by rw [←hLL,List.length_map];exact Nat.le_trans (List.length_filter_le _ _) HV.out.len
       rw [hLL] at hs5 hsB
       have HSm:=Lib.hid (sameInts_any A' B n' c' m cb LL LL wd hs5.len hsB.len (ints_of hs5) (ints_of hsB) (by rw [hs5.len];omega) (by rw [hsB.len];omega))
       have HBd:=Lib.hid (HB2.out.trans ((bel2 HBw.out hb5).mono HB2.out.size))
       clear hs5 hsB hb5 hQ' hLL HLo
       go_wp2_with fail
       refine HSm.out.mono ?_
       rintro e we ⟨rfl,hbe⟩
       have HBe:=Lib.hid (HBd.out.trans (hbe.mono HBd.out.size))
       clear hbe HSm
       go_wp2_with fail
       go_ret
       exact ⟨by simp,HBe.out⟩
end Go.Proofs.YtjekalilfhnpmaaGreatDoor
