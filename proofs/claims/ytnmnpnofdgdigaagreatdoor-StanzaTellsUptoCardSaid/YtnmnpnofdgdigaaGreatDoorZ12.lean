/- Part 12 of a proof laid in parts, one behind the other; no condition of its own. -/
import Derived.Test.YtnmnpnofdgdigaaGreatDoorZ08
import Derived.Test.YtnmnpnofdgdigaaGreatDoorZ11
set_option linter.all false
section
namespace Go.Proofs.YtnmnpnofdgdigaaGreatDoor
open Go.RowKit
set_option linter.unusedSimpArgs false
set_option linter.unusedVariables false
theorem eqS_comm (a b:ByteArray):eqS a b=eqS b a:=by
 unfold eqS
 rw [Bool.eq_iff_iff,beq_iff_eq,beq_iff_eq]
 exact⟨Eq.symm,Eq.symm⟩
def dupR (x y:AttrL):Bool:=(y.space.toList == x.space.toList) && (y.name.toList == x.name.toList)
theorem dupR_is (x y:AttrL):dupA x y=dupR x y:=by
 unfold dupA dupR
 rw [eqS_comm x.space,eqS_comm x.name]
 rfl
theorem any_none {l:List AttrL} {k:Nat} {x:AttrL} (h:∀(i:Nat) (y:AttrL),i < k→l[i]? = some y→dupR x y=false):(l.take k).any (dupA x)=false:=by
 rw [List.any_eq_false]
 intro y hy
 obtain⟨i,hi,rfl⟩:=List.mem_iff_getElem.1 hy
 rw [List.length_take] at hi
 rw [List.getElem_take,dupR_is,h i _ (by omega) (List.getElem?_eq_getElem (by omega))]
 simp
theorem any_one {l:List AttrL} {k i:Nat} {x y:AttrL} (hi:i < k) (hy:l[i]? = some y) (h:dupR x y=true):(l.take k).any (dupA x)=true:=by
 rw [List.any_eq_true]
 refine⟨y,List.mem_of_getElem? (i:=i) ?_,by rw [dupR_is];exact h⟩
 rw [List.getElem?_take,if_pos hi,hy]
set_option maxHeartbeats 4000000 in
set_option maxRecDepth 10000 in
theorem refattrs_any (A:Option Addr) (c:Nat) (l:List AttrL) (w:World) (hr:RdA w w.heap.size A l) (hc:l.length≤c) (hn:l.length≤1000000000) (hz:∀a∈l,SzA 1000000000 a) :
  Calls Tryz.prog 191 #[.slice A l.length c] w fun e w'=>e=.returned (.bool (attrsI l))∧Below w.heap.size w w':=by
 have HR:=Lib.hid hr
 have HZ:=Lib.hid hz
 have HI:Box (attrsI l=(attrsT l l.length && decide (l.length≤16))):=⟨rfl⟩
 clear hr hz
 generalize attrsI l=ri at *
 go_enter Tryz.func191,Tryz.ntmps191
 go_wp2
 go_loopw [3,4] (fun s3 _ wr=>∃k:Nat,k≤l.length∧s3=.int .i64 k∧Hid (Below w.heap.size w wr)∧Hid (attrsT l k=true)) (fun s3 _ _=>l.length - (intOf s3).toNat)
 case atStart=>exact⟨0,Nat.zero_le _,rfl,Lib.hid (Below.refl _ _),rfl⟩
 case round=>
  obtain⟨k,hk,rfl,HB,HN⟩:=hrel
  by_cases hlt:k < l.length
  ·obtain⟨x,hx⟩:∃x,l[k]? = some x:=⟨_,List.getElem?_eq_getElem hlt⟩
   have HX:=Lib.hid hx
   obtain⟨b,off,rfl,hb,hcc⟩:=HR.out (by omega)
   have HCC:=Lib.hid hcc
   have HD0:Hid (∀W,Below w.heap.size w W→W.cell? ⟨b,off+k*3,none⟩=some (.string x.space)):=Lib.hid (fun W hW=>(hW.cell (p:=⟨b,off+k*3,none⟩) hb).trans (hcc k x hx).1)
   have HD1:Hid (∀W,Below w.heap.size w W→W.cell? ⟨b,off+k*3+1,none⟩=some (.string x.name)):=Lib.hid (fun W hW=>(hW.cell (p:=⟨b,off+k*3+1,none⟩) hb).trans (hcc k x hx).2.1)
   have HD2:Hid (∀W,Below w.heap.size w W→W.cell? ⟨b,off+k*3+2,none⟩=some (.string x.value)):=Lib.hid (fun W hW=>(hW.cell (p:=⟨b,off+k*3+2,none⟩) hb).trans (hcc k x hx).2.2)
   obtain⟨z0,z1,z2⟩:=sz_get HZ.out hx
   have HT:Box (attrsT l (k+1)=(!(l.take k).any (dupA x) && (fullI x.name && decide (textErr x.value=0) && decide (textErr x.space=0)))):=⟨by rw [attrsT_succ l k x hx,HN.out];rfl⟩
   have HNO:=Lib.hid (attrsT_no l (k+1) l.length hlt)
   have H1:=Lib.hid (fun W=>reffull_any x.name W z1)
   have H2:=Lib.hid (fun W=>refcheck5_any x.value W z2)
   have H3:=Lib.hid (fun W=>refcheck5_any x.space W z0)
   have hlt':=Lib.hid hlt
   clear hx hcc
   go_wp2
   go_loopw [4] (fun s4 wq=>∃j:Nat,j≤k∧s4=.int .i64 j∧Hid (Below w.heap.size w wq)∧Hid (∀(i:Nat) (y:AttrL),i < j→l[i]? = some y→dupR x y=false)) (fun s4 _=>k - (intOf s4).toNat)
   case atStart=>exact⟨0,Nat.zero_le _,rfl,HB,Lib.hid (fun i y hi=>absurd hi (by omega))⟩
   case round=>
    obtain⟨j,hj,rfl,HB2,HN2⟩:=hrel
    have hlt:=hlt'.out
    by_cases hjk:j < k
    ·obtain⟨y,hy⟩:∃y,l[j]? = some y:=⟨_,List.getElem?_eq_getElem (by omega)⟩
     have HY:=Lib.hid hy
     have hjl:j < l.length:=by omega
     obtain⟨e0,e1,-⟩:=HCC.out j y hy
     have g0:∀W,Ext (World.drew _) W→W.cell? _=some _:=fun W hW=>ext_cell hW ((HB2.out.cell hb).trans e0)
     have g1:∀W,Ext (World.drew _) W→W.cell? _=some _:=fun W hW=>ext_cell hW ((HB2.out.cell hb).trans e1)
     have g2:∀W,Ext (World.drew _) W→W.cell? _=some _:=fun W hW=>ext_cell hW (HD0.out _ HB2.out)
     have g3:∀W,Ext (World.drew _) W→W.cell? _=some _:=fun W hW=>ext_cell hW (HD1.out _ HB2.out)
     have G0:=Lib.hid g0
     have G1:=Lib.hid g1
     have G2:=Lib.hid g2
     have G3:=Lib.hid g3
     have HQ:Box (dupR x y=((y.space.toList == x.space.toList) && (y.name.toList == x.name.toList))):=⟨rfl⟩
     clear hy e0 e1 g0 g1 g2 g3
     cases q0:y.space.toList == x.space.toList with
     | false=>
      have HQ1:Box (dupR x y=false):=⟨by rw [HQ.out,q0];rfl⟩
      go_wp2_with fail
      refine wp_region_typed rfl (by kernel_rfl) (by kernel_rfl) ?_
      repeat (first|refine tw_ldS rfl rfl G0.out (wdA rfl) ?_|refine tw_ldS rfl rfl G1.out (wdA rfl) ?_|refine tw_ldS rfl rfl G2.out (wdA rfl) ?_|refine tw_ldS rfl rfl G3.out (wdA rfl) ?_|refine tw_skip (wd_no rfl rfl rfl) ?_|refine tw_mv (.inl rfl) rfl (wdA rfl) ?_|refine tw_mv (.inr rfl) rfl (wdA rfl) ?_|refine tw_pickL rfl rfl rfl (wdA rfl) ?_|refine tw_op1 _ rfl rfl (wdA rfl) (fun ρ W hW h1=>by simp only [execOp,h1];go_simp;first|done|rfl) ?_|refine tw_op2 _ rfl rfl rfl (wdA rfl) (fun ρ W hW h1 h2=>by simp only [execOp,h1,h2];go_simp;first|done|rfl) ?_)
      dsimp only [wpT,List.reverse,List.reverseAux,FinT]
      intro W hW _
      simp only [Act.put,List.setIfInBounds_toArray,List.set_cons_zero,List.set_cons_succ]
      have XW:=Lib.hid (HB2.out.trans (((Below.refl wr.heap.size wr).drew.trans (Below.mono hW (Nat.le_refl _))).mono HB2.out.size))
      clear hW
      go_wp2
      go_roundw
      case rel=>exact⟨j+1,by omega,by go_num,XW,Lib.hid (fun i z hi hz=>by
       rcases Nat.lt_or_ge i j with h1|h1
       ·exact HN2.out i z h1 hz
       ·obtain rfl:i=j:=by omega
        rw [HY.out] at hz
        simp only [Option.some.injEq] at hz
        rw [←hz];exact HQ1.out)⟩
      case measure=>simp [intOf];omega
     | true=>
      cases q1:y.name.toList == x.name.toList with
      | false=>
       have HQ1:Box (dupR x y=false):=⟨by rw [HQ.out,q0,q1];rfl⟩
       go_wp2_with fail
       refine wp_region_typed rfl (by kernel_rfl) (by kernel_rfl) ?_
       repeat (first|refine tw_ldS rfl rfl G0.out (wdA rfl) ?_|refine tw_ldS rfl rfl G1.out (wdA rfl) ?_|refine tw_ldS rfl rfl G2.out (wdA rfl) ?_|refine tw_ldS rfl rfl G3.out (wdA rfl) ?_|refine tw_skip (wd_no rfl rfl rfl) ?_|refine tw_mv (.inl rfl) rfl (wdA rfl) ?_|refine tw_mv (.inr rfl) rfl (wdA rfl) ?_|refine tw_pickL rfl rfl rfl (wdA rfl) ?_|refine tw_op1 _ rfl rfl (wdA rfl) (fun ρ W hW h1=>by simp only [execOp,h1];go_simp;first|done|rfl) ?_|refine tw_op2 _ rfl rfl rfl (wdA rfl) (fun ρ W hW h1 h2=>by simp only [execOp,h1,h2];go_simp;first|done|rfl) ?_)
       dsimp only [wpT,List.reverse,List.reverseAux,FinT]
       intro W hW _
       simp only [Act.put,List.setIfInBounds_toArray,List.set_cons_zero,List.set_cons_succ]
       have XW:=Lib.hid (HB2.out.trans (((Below.refl wr.heap.size wr).drew.trans (Below.mono hW (Nat.le_refl _))).mono HB2.out.size))
       clear hW
       go_wp2
       go_roundw
       case rel=>exact⟨j+1,by omega,by go_num,XW,Lib.hid (fun i z hi hz=>by
        rcases Nat.lt_or_ge i j with h1|h1
        ·exact HN2.out i z h1 hz
        ·obtain rfl:i=j:=by omega
         rw [HY.out] at hz
         simp only [Option.some.injEq] at hz
         rw [←hz];exact HQ1.out)⟩
       case measure=>simp [intOf];omega
      | true=>
       have HQ1:Box (dupR x y=true):=⟨by rw [HQ.out,q0,q1];rfl⟩
       go_wp2_with fail
       refine wp_region_typed rfl (by kernel_rfl) (by kernel_rfl) ?_
       repeat (first|refine tw_ldS rfl rfl G0.out (wdA rfl) ?_|refine tw_ldS rfl rfl G1.out (wdA rfl) ?_|refine tw_ldS rfl rfl G2.out (wdA rfl) ?_|refine tw_ldS rfl rfl G3.out (wdA rfl) ?_|refine tw_skip (wd_no rfl rfl rfl) ?_|refine tw_mv (.inl rfl) rfl (wdA rfl) ?_|refine tw_mv (.inr rfl) rfl (wdA rfl) ?_|refine tw_pickL rfl rfl rfl (wdA rfl) ?_|refine tw_op1 _ rfl rfl (wdA rfl) (fun ρ W hW h1=>by simp only [execOp,h1];go_simp;first|done|rfl) ?_|refine tw_op2 _ rfl rfl rfl (wdA rfl) (fun ρ W hW h1 h2=>by simp only [execOp,h1,h2];go_simp;first|done|rfl) ?_)
       dsimp only [wpT,List.reverse,List.reverseAux,FinT]
       intro W hW _
       simp only [Act.put,List.setIfInBounds_toArray,List.set_cons_zero,List.set_cons_succ]
       have XW:=Lib.hid (HB2.out.trans (((Below.refl wr.heap.size wr).drew.trans (Below.mono hW (Nat.le_refl _))).mono HB2.out.size))
       clear hW
       go_wp2
       go_ret
       exact⟨ret_bool (by rw [HI.out,HNO.out (by rw [HT.out,any_one hjk HY.out HQ1.out];rfl)];rfl),XW.out⟩
    ·obtain rfl:j=k:=by omega
     have HT2:Box (attrsT l (j+1)=(fullI x.name && decide (textErr x.value=0) && decide (textErr x.space=0))):=⟨by rw [HT.out,any_none HN2.out];rfl⟩
     clear HT
     have d0:=HD0.out _ HB2.out
     have d1:=HD1.out _ HB2.out
     have d2:=HD2.out _ HB2.out
     generalize fullI x.name=q1 at *
     generalize textErr x.value=t2 at *
     generalize textErr x.space=t3 at *
     cases q1 with
     | false=>
      go_wp2_with fail
      refine(H1.out _).mono ?_
      rintro e w1 ⟨rfl,hb1⟩
      have X1:=Lib.hid (ext_step HB2.out (by first|exact e0A|exact e1A|exact e2A|exact e3A|exact e4A|exact e5A) hb1 HB2.out.size)
      clear hb1
      try clear d0 d1 d2
      have d0:=HD0.out _ X1.out
      have d1:=HD1.out _ X1.out
      have d2:=HD2.out _ X1.out
      go_wp2
      go_ret
      exact⟨ret_bool (by rw [HI.out,HNO.out (by rw [HT2.out];rfl)];rfl),X1.out⟩
     | true=>
      by_cases e2:t2=0
      ·subst e2
       by_cases e3:t3=0
       ·subst e3
        go_wp2_with fail
        refine(H1.out _).mono ?_
        rintro e w1 ⟨rfl,hb1⟩
        have X1:=Lib.hid (ext_step HB2.out (by first|exact e0A|exact e1A|exact e2A|exact e3A|exact e4A|exact e5A) hb1 HB2.out.size)
        clear hb1
        try clear d0 d1 d2
        have d0:=HD0.out _ X1.out
        have d1:=HD1.out _ X1.out
        have d2:=HD2.out _ X1.out
        go_wp2_with fail
        refine(H2.out _).mono ?_
        rintro e w2 ⟨rfl,hb2⟩
        have X2:Hid (Below w.heap.size w w2):=Lib.hid (ext_step (X1.out) (by first|exact e0A|exact e1A|exact e2A|exact e3A|exact e4A|exact e5A) hb2 (X1.out).size)
        clear hb2
        try clear d0 d1 d2
        have d0:=HD0.out _ X2.out
        have d1:=HD1.out _ X2.out
        have d2:=HD2.out _ X2.out
        go_wp2_with fail
        refine(H3.out _).mono ?_
        rintro e w3 ⟨rfl,hb3⟩
        have X3:Hid (Below w.heap.size w w3):=Lib.hid (ext_step (X2.out) (by first|exact e0A|exact e1A|exact e2A|exact e3A|exact e4A|exact e5A) hb3 (X2.out).size)
        clear hb3
        go_wp2
        go_roundw
        case rel=>exact⟨j+1,by omega,by go_num,X3,HT2.out⟩
        case measure=>simp [intOf];omega
       ·have hq3:(t3 != 0)=true:=by simpa using e3
        have HQ3:Box (decide (t3=0)=false):=⟨decide_eq_false e3⟩
        clear e3
        go_wp2_with fail
        refine(H1.out _).mono ?_
        rintro e w1 ⟨rfl,hb1⟩
        have X1:=Lib.hid (ext_step HB2.out (by first|exact e0A|exact e1A|exact e2A|exact e3A|exact e4A|exact e5A) hb1 HB2.out.size)
        clear hb1
        try clear d0 d1 d2
        have d0:=HD0.out _ X1.out
        have d1:=HD1.out _ X1.out
        have d2:=HD2.out _ X1.out
        go_wp2_with fail
        refine(H2.out _).mono ?_
        rintro e w2 ⟨rfl,hb2⟩
        have X2:Hid (Below w.heap.size w w2):=Lib.hid (ext_step (X1.out) (by first|exact e0A|exact e1A|exact e2A|exact e3A|exact e4A|exact e5A) hb2 (X1.out).size)
        clear hb2
        try clear d0 d1 d2
        have d0:=HD0.out _ X2.out
        have d1:=HD1.out _ X2.out
        have d2:=HD2.out _ X2.out
        go_wp2_with fail
        refine(H3.out _).mono ?_
        rintro e w3 ⟨rfl,hb3⟩
        have X3:Hid (Below w.heap.size w w3):=Lib.hid (ext_step (X2.out) (by first|exact e0A|exact e1A|exact e2A|exact e3A|exact e4A|exact e5A) hb3 (X2.out).size)
        clear hb3
        go_wp2
        go_ret
        exact⟨ret_bool (by rw [HI.out,HNO.out (by rw [HT2.out,HQ3.out];rfl)];rfl),X3.out⟩
      ·have hq2:(t2 != 0)=true:=by simpa using e2
       have HQ2:Box (decide (t2=0)=false):=⟨decide_eq_false e2⟩
       clear e2
       go_wp2_with fail
       refine(H1.out _).mono ?_
       rintro e w1 ⟨rfl,hb1⟩
       have X1:=Lib.hid (ext_step HB2.out (by first|exact e0A|exact e1A|exact e2A|exact e3A|exact e4A|exact e5A) hb1 HB2.out.size)
       clear hb1
       try clear d0 d1 d2
       have d0:=HD0.out _ X1.out
       have d1:=HD1.out _ X1.out
       have d2:=HD2.out _ X1.out
       go_wp2_with fail
       refine(H2.out _).mono ?_
       rintro e w2 ⟨rfl,hb2⟩
       have X2:Hid (Below w.heap.size w w2):=Lib.hid (ext_step (X1.out) (by first|exact e0A|exact e1A|exact e2A|exact e3A|exact e4A|exact e5A) hb2 (X1.out).size)
       clear hb2
       go_wp2
       go_ret
       exact⟨ret_bool (by rw [HI.out,HNO.out (by rw [HT2.out,HQ2.out];rfl)];rfl),X2.out⟩
  ·obtain rfl:k=l.length:=by omega
   have HT:=Box.mk HN.out
   have HB2:=HB
   by_cases h16:l.length≤16
   ·have h16':(l.length:Int)≤16:=by omega
    go_wp2
    go_ret
    exact⟨ret_bool (by rw [HI.out,HT.out,decide_eq_true h16];rfl),HB2.out⟩
   ·have h16':¬(l.length:Int)≤16:=by omega
    go_wp2
    go_ret
    exact⟨ret_bool (by rw [HI.out,HT.out,decide_eq_false h16];rfl),HB2.out⟩
end Go.Proofs.YtnmnpnofdgdigaaGreatDoor
end
section
namespace Go.Proofs.YtnmnpnofdgdigaaGreatDoor
open Go.RowKit
set_option linter.unusedSimpArgs false
set_option linter.unusedVariables false
theorem emp_is (s:ByteArray):s.toList.isEmpty=isEmp s:=by
 unfold isEmp
 rcases Nat.eq_zero_or_pos s.size with h|h
 ·rw [str_em s h,decide_eq_true h]
 ·rw [str_ne s h,decide_eq_false (by omega)]
set_option maxHeartbeats 4000000 in
set_option maxRecDepth 10000 in
theorem may_node (n:NodeL) (A:Option Addr) (c:Nat) (w:World) (hr:RdA w w.heap.size A n.attrs) (hc:n.attrs.length≤c) (hz:SzN 1000000000 n) :
  Calls Tryz.prog 88 #[encN n A c] w fun e w'=>e=.returned (.bool (nodeI n))∧Below w.heap.size w w':=by
 obtain⟨⟨k0,k1⟩,z1,z2,⟨z3,zA⟩,z4,m0,m1⟩:=hz
 have HXA:Hid (Below w.heap.size w (w.alloc (.cells #[.int .u8 n.kind,.string n.space,.string n.name,.slice A n.attrs.length c,.string n.text,.int .i64 n.many] 36))):=(Below.refl _ w).alloc (Nat.le_refl _) _
 obtain⟨W0,hW0⟩:∃W0,W0=w.alloc (.cells #[.int .u8 n.kind,.string n.space,.string n.name,.slice A n.attrs.length c,.string n.text,.int .i64 n.many] 36):=⟨_,rfl⟩
 have HX0:=HXA
 rw [←hW0] at HX0
 have hs0:w.heap.size < W0.heap.size:=by rw [hW0];simp
 have HD0:Hid (∀W,Below W0.heap.size W0 W→W.cell? ⟨w.heap.size,0,none⟩=some (.int .u8 n.kind)):=Lib.hid (fun W hW=>(hW.cell hs0).trans (by rw [hW0];simp))
 have HD1:Hid (∀W,Below W0.heap.size W0 W→W.cell? ⟨w.heap.size,1,none⟩=some (.string n.space)):=Lib.hid (fun W hW=>(hW.cell hs0).trans (by rw [hW0];simp))
 have HD2:Hid (∀W,Below W0.heap.size W0 W→W.cell? ⟨w.heap.size,2,none⟩=some (.string n.name)):=Lib.hid (fun W hW=>(hW.cell hs0).trans (by rw [hW0];simp))
 have HD3:Hid (∀W,Below W0.heap.size W0 W→W.cell? ⟨w.heap.size,3,none⟩=some (.slice A n.attrs.length c)):=Lib.hid (fun W hW=>(hW.cell hs0).trans (by rw [hW0];simp))
 have HD4:Hid (∀W,Below W0.heap.size W0 W→W.cell? ⟨w.heap.size,4,none⟩=some (.string n.text)):=Lib.hid (fun W hW=>(hW.cell hs0).trans (by rw [hW0];simp))
 have HD5:Hid (∀W,Below W0.heap.size W0 W→W.cell? ⟨w.heap.size,5,none⟩=some (.int .i64 n.many)):=Lib.hid (fun W hW=>(hW.cell hs0).trans (by rw [hW0];simp))
 have HRA:=Lib.hid (fun W (hW:Below w.heap.size w W)=>((hr.below hW (Nat.le_refl _)).more hW.size))
 have HT:=Lib.hid (fun W=>check5_any n.text W z4)
 have HS:=Lib.hid (fun W=>check5_any n.space W z1)
 have HF:=Lib.hid (fun W=>full_any n.name W z2)
 have HA0:=Lib.hid (fun W (hW:Below w.heap.size w W)=>attrs_any A c n.attrs W (HRA.out W hW) hc z3 zA)
 clear hr hc z1 z2 z3 zA z4
 unfold encN
 by_cases hk:n.kind=2
 ·have hk':(n.kind == 2)=true:=by rw [beq_iff_eq];exact hk
  have HI:Box (nodeI n=((isEmp n.name) && (isEmp n.space) && (decide (n.attrs.length=0)) && (decide (n.many=0)) && (!isEmp n.text) && (decide (textErr n.text=0)))):=⟨by unfold nodeI;rw [if_pos hk]⟩
  generalize nodeI n=ri at *
  generalize textErr n.text=t6 at *
  obtain⟨q1,hqq1⟩:∃q,(isEmp n.name)=q:=⟨_,rfl⟩
  rw [hqq1] at HI
  obtain⟨q2,hqq2⟩:∃q,(isEmp n.space)=q:=⟨_,rfl⟩
  rw [hqq2] at HI
  obtain⟨q3,hqq3⟩:∃q,(decide (n.attrs.length=0))=q:=⟨_,rfl⟩
  rw [hqq3] at HI
  obtain⟨q4,hqq4⟩:∃q,(decide (n.many=0))=q:=⟨_,rfl⟩
  rw [hqq4] at HI
  obtain⟨q5,hqq5⟩:∃q,(!isEmp n.text)=q:=⟨_,rfl⟩
  rw [hqq5] at HI
  obtain⟨q6,hqq6⟩:∃q,(decide (t6=0))=q:=⟨_,rfl⟩
  rw [hqq6] at HI
  rw [hk] at HD0 hW0 HXA
  rw [hk]
  cases q1 with
  | false=>
   have fq1:n.name.toList.isEmpty=false:=(emp_is n.name).trans hqq1
   go_enter Tryz.func88,Tryz.ntmps88
   go_wp2
   go_ret
   exact⟨ret_bool (by rw [HI.out];rfl),HXA.out⟩
  | true=>
   have fq1:n.name.toList.isEmpty=true:=(emp_is n.name).trans hqq1
   cases q2 with
   | false=>
    have fq2:n.space.toList.isEmpty=false:=(emp_is n.space).trans hqq2
    go_enter Tryz.func88,Tryz.ntmps88
    go_wp2
    go_ret
    exact⟨ret_bool (by rw [HI.out];rfl),HXA.out⟩
   | true=>
    have fq2:n.space.toList.isEmpty=true:=(emp_is n.space).trans hqq2
    cases q3 with
    | false=>
     have fq3:((n.attrs.length:Int) == 0)=false:=by have:=of_decide_eq_false hqq3;rw [beq_eq_false_iff_ne];omega
     go_enter Tryz.func88,Tryz.ntmps88
     go_wp2
     go_ret
     exact⟨ret_bool (by rw [HI.out];rfl),HXA.out⟩
    | true=>
     have fq3:(n.attrs.length:Int)=0:=by have:=of_decide_eq_true hqq3;omega
     cases q4 with
     | false=>
      have fq4:(n.many == 0)=false:=by have:=of_decide_eq_false hqq4;rw [beq_eq_false_iff_ne];omega
      go_enter Tryz.func88,Tryz.ntmps88
      go_wp2
      go_ret
      exact⟨ret_bool (by rw [HI.out];rfl),HXA.out⟩
     | true=>
      have fq4:n.many=0:=by have:=of_decide_eq_true hqq4;omega
      rw [fq4] at HD5 hW0 HXA
      cases q5 with
      | false=>
       have fq5:n.text.toList.isEmpty=true:=(emp_is n.text).trans (by rw [←Bool.not_not (isEmp n.text),hqq5];rfl)
       go_enter Tryz.func88,Tryz.ntmps88
       go_wp2
       go_ret
       exact⟨ret_bool (by rw [HI.out];rfl),HXA.out⟩
      | true=>
       have fq5:n.text.toList.isEmpty=false:=(emp_is n.text).trans (by rw [←Bool.not_not (isEmp n.text),hqq5];rfl)
       cases q6 with
       | false=>
        have fq6:(t6 == 0)=false:=by rw [beq_eq_false_iff_ne];exact of_decide_eq_false hqq6
        go_enter Tryz.func88,Tryz.ntmps88
        go_wp2_with fail
        rw [←hW0]
        refine(HT.out _).mono ?_
        rintro e w1 ⟨rfl,hb1⟩
        have X1:Hid (Below W0.heap.size W0 w1):=Lib.hid (ext_step (Below.refl W0.heap.size W0) (by first|exact e0A|exact e1A|exact e2A|exact e3A|exact e4A|exact e5A) hb1 (Below.refl W0.heap.size W0).size)
        clear hb1
        try clear d0 d1 d2 d3 d4 d5
        have d0:=HD0.out _ X1.out
        have d1:=HD1.out _ X1.out
        have d2:=HD2.out _ X1.out
        have d3:=HD3.out _ X1.out
        have d4:=HD4.out _ X1.out
        have d5:=HD5.out _ X1.out
        go_wp2
        go_ret
        exact⟨ret_bool (by rw [HI.out];rfl),HX0.out.trans (X1.out.mono HX0.out.size)⟩
       | true=>
        have fq6:t6=0:=of_decide_eq_true hqq6
        subst fq6
        go_enter Tryz.func88,Tryz.ntmps88
        go_wp2_with fail
        rw [←hW0]
        refine(HT.out _).mono ?_
        rintro e w1 ⟨rfl,hb1⟩
        have X1:Hid (Below W0.heap.size W0 w1):=Lib.hid (ext_step (Below.refl W0.heap.size W0) (by first|exact e0A|exact e1A|exact e2A|exact e3A|exact e4A|exact e5A) hb1 (Below.refl W0.heap.size W0).size)
        clear hb1
        try clear d0 d1 d2 d3 d4 d5
        have d0:=HD0.out _ X1.out
        have d1:=HD1.out _ X1.out
        have d2:=HD2.out _ X1.out
        have d3:=HD3.out _ X1.out
        have d4:=HD4.out _ X1.out
        have d5:=HD5.out _ X1.out
        go_wp2
        go_ret
        exact⟨ret_bool (by rw [HI.out];rfl),HX0.out.trans (X1.out.mono HX0.out.size)⟩
 ·have hk':(n.kind == 2)=false:=by rw [beq_eq_false_iff_ne];exact hk
  have HI:Box (nodeI n=((decide (n.kind=1)) && (isEmp n.text) && (fullI n.name) && (decide (textErr n.space=0)) && (attrsI n.attrs))):=⟨by unfold nodeI;rw [if_neg hk]⟩
  generalize nodeI n=ri at *
  generalize fullI n.name=p2 at *
  generalize textErr n.space=t3 at *
  generalize attrsI n.attrs=p4 at *
  obtain⟨p0,hqp0⟩:∃q,(decide (n.kind=1))=q:=⟨_,rfl⟩
  rw [hqp0] at HI
  obtain⟨p1,hqp1⟩:∃q,(isEmp n.text)=q:=⟨_,rfl⟩
  rw [hqp1] at HI
  obtain⟨p3,hqp3⟩:∃q,(decide (t3=0))=q:=⟨_,rfl⟩
  rw [hqp3] at HI
  cases p0 with
  | false=>
   have fp0:(n.kind == 1)=false:=by rw [beq_eq_false_iff_ne];exact of_decide_eq_false hqp0
   go_enter Tryz.func88,Tryz.ntmps88
   go_wp2
   go_ret
   exact⟨ret_bool (by rw [HI.out];rfl),HXA.out⟩
  | true=>
   have fp0:n.kind=1:=of_decide_eq_true hqp0
   rw [fp0] at HD0 hW0 HXA
   rw [fp0]
   cases p1 with
   | false=>
    have fp1:n.text.toList.isEmpty=false:=(emp_is n.text).trans hqp1
    go_enter Tryz.func88,Tryz.ntmps88
    go_wp2
    go_ret
    exact⟨ret_bool (by rw [HI.out];rfl),HXA.out⟩
   | true=>
    have fp1:n.text.toList.isEmpty=true:=(emp_is n.text).trans hqp1
    cases p2 with
    | false=>
     go_enter Tryz.func88,Tryz.ntmps88
     go_wp2_with fail
     rw [←hW0]
     refine(HF.out _).mono ?_
     rintro e w1 ⟨rfl,hb1⟩
     have X1:Hid (Below W0.heap.size W0 w1):=Lib.hid (ext_step (Below.refl W0.heap.size W0) (by first|exact e0A|exact e1A|exact e2A|exact e3A|exact e4A|exact e5A) hb1 (Below.refl W0.heap.size W0).size)
     clear hb1
     try clear d0 d1 d2 d3 d4 d5
     have d0:=HD0.out _ X1.out
     have d1:=HD1.out _ X1.out
     have d2:=HD2.out _ X1.out
     have d3:=HD3.out _ X1.out
     have d4:=HD4.out _ X1.out
     have d5:=HD5.out _ X1.out
     go_wp2
     go_ret
     exact⟨ret_bool (by rw [HI.out];rfl),HX0.out.trans (X1.out.mono HX0.out.size)⟩
    | true=>
     cases p3 with
     | false=>
      have fp3:(t3 == 0)=false:=by rw [beq_eq_false_iff_ne];exact of_decide_eq_false hqp3
      go_enter Tryz.func88,Tryz.ntmps88
      go_wp2_with fail
      rw [←hW0]
      refine(HF.out _).mono ?_
      rintro e w1 ⟨rfl,hb1⟩
      have X1:Hid (Below W0.heap.size W0 w1):=Lib.hid (ext_step (Below.refl W0.heap.size W0) (by first|exact e0A|exact e1A|exact e2A|exact e3A|exact e4A|exact e5A) hb1 (Below.refl W0.heap.size W0).size)
      clear hb1
      try clear d0 d1 d2 d3 d4 d5
      have d0:=HD0.out _ X1.out
      have d1:=HD1.out _ X1.out
      have d2:=HD2.out _ X1.out
      have d3:=HD3.out _ X1.out
      have d4:=HD4.out _ X1.out
      have d5:=HD5.out _ X1.out
      go_wp2_with fail
      refine(HS.out _).mono ?_
      rintro e w2 ⟨rfl,hb2⟩
      have X2:Hid (Below W0.heap.size W0 w2):=Lib.hid (ext_step (X1.out) (by first|exact e0A|exact e1A|exact e2A|exact e3A|exact e4A|exact e5A) hb2 (X1.out).size)
      clear hb2
      try clear d0 d1 d2 d3 d4 d5
      have d0:=HD0.out _ X2.out
      have d1:=HD1.out _ X2.out
      have d2:=HD2.out _ X2.out
      have d3:=HD3.out _ X2.out
      have d4:=HD4.out _ X2.out
      have d5:=HD5.out _ X2.out
      go_wp2
      go_ret
      exact⟨ret_bool (by rw [HI.out];rfl),HX0.out.trans (X2.out.mono HX0.out.size)⟩
     | true=>
      have fp3:t3=0:=of_decide_eq_true hqp3
      subst fp3
      cases p4 with
      | false=>
       go_enter Tryz.func88,Tryz.ntmps88
       go_wp2_with fail
       rw [←hW0]
       refine(HF.out _).mono ?_
       rintro e w1 ⟨rfl,hb1⟩
       have X1:Hid (Below W0.heap.size W0 w1):=Lib.hid (ext_step (Below.refl W0.heap.size W0) (by first|exact e0A|exact e1A|exact e2A|exact e3A|exact e4A|exact e5A) hb1 (Below.refl W0.heap.size W0).size)
       clear hb1
       try clear d0 d1 d2 d3 d4 d5
       have d0:=HD0.out _ X1.out
       have d1:=HD1.out _ X1.out
       have d2:=HD2.out _ X1.out
       have d3:=HD3.out _ X1.out
       have d4:=HD4.out _ X1.out
       have d5:=HD5.out _ X1.out
       go_wp2_with fail
       refine(HS.out _).mono ?_
       rintro e w2 ⟨rfl,hb2⟩
       have X2:Hid (Below W0.heap.size W0 w2):=Lib.hid (ext_step (X1.out) (by first|exact e0A|exact e1A|exact e2A|exact e3A|exact e4A|exact e5A) hb2 (X1.out).size)
       clear hb2
       try clear d0 d1 d2 d3 d4 d5
       have d0:=HD0.out _ X2.out
       have d1:=HD1.out _ X2.out
       have d2:=HD2.out _ X2.out
       have d3:=HD3.out _ X2.out
       have d4:=HD4.out _ X2.out
       have d5:=HD5.out _ X2.out
       go_wp2_with fail
       refine(HA0.out _ (HX0.out.trans (X2.out.mono HX0.out.size))).mono ?_
       rintro e w3 ⟨rfl,hb3⟩
       have X3:Hid (Below W0.heap.size W0 w3):=Lib.hid (ext_step (X2.out) (by first|exact e0A|exact e1A|exact e2A|exact e3A|exact e4A|exact e5A) hb3 (X2.out).size)
       clear hb3
       try clear d0 d1 d2 d3 d4 d5
       have d0:=HD0.out _ X3.out
       have d1:=HD1.out _ X3.out
       have d2:=HD2.out _ X3.out
       have d3:=HD3.out _ X3.out
       have d4:=HD4.out _ X3.out
       have d5:=HD5.out _ X3.out
       go_wp2
       go_ret
       exact⟨ret_bool (by rw [HI.out];rfl),HX0.out.trans (X3.out.mono HX0.out.size)⟩
      | true=>
       go_enter Tryz.func88,Tryz.ntmps88
       go_wp2_with fail
       rw [←hW0]
       refine(HF.out _).mono ?_
       rintro e w1 ⟨rfl,hb1⟩
       have X1:Hid (Below W0.heap.size W0 w1):=Lib.hid (ext_step (Below.refl W0.heap.size W0) (by first|exact e0A|exact e1A|exact e2A|exact e3A|exact e4A|exact e5A) hb1 (Below.refl W0.heap.size W0).size)
       clear hb1
       try clear d0 d1 d2 d3 d4 d5
       have d0:=HD0.out _ X1.out
       have d1:=HD1.out _ X1.out
       have d2:=HD2.out _ X1.out
       have d3:=HD3.out _ X1.out
       have d4:=HD4.out _ X1.out
       have d5:=HD5.out _ X1.out
       go_wp2_with fail
       refine(HS.out _).mono ?_
       rintro e w2 ⟨rfl,hb2⟩
       have X2:Hid (Below W0.heap.size W0 w2):=Lib.hid (ext_step (X1.out) (by first|exact e0A|exact e1A|exact e2A|exact e3A|exact e4A|exact e5A) hb2 (X1.out).size)
       clear hb2
       try clear d0 d1 d2 d3 d4 d5
       have d0:=HD0.out _ X2.out
       have d1:=HD1.out _ X2.out
       have d2:=HD2.out _ X2.out
       have d3:=HD3.out _ X2.out
       have d4:=HD4.out _ X2.out
       have d5:=HD5.out _ X2.out
       go_wp2_with fail
       refine(HA0.out _ (HX0.out.trans (X2.out.mono HX0.out.size))).mono ?_
       rintro e w3 ⟨rfl,hb3⟩
       have X3:Hid (Below W0.heap.size W0 w3):=Lib.hid (ext_step (X2.out) (by first|exact e0A|exact e1A|exact e2A|exact e3A|exact e4A|exact e5A) hb3 (X2.out).size)
       clear hb3
       try clear d0 d1 d2 d3 d4 d5
       have d0:=HD0.out _ X3.out
       have d1:=HD1.out _ X3.out
       have d2:=HD2.out _ X3.out
       have d3:=HD3.out _ X3.out
       have d4:=HD4.out _ X3.out
       have d5:=HD5.out _ X3.out
       go_wp2
       go_ret
       exact⟨ret_bool (by rw [HI.out];rfl),HX0.out.trans (X3.out.mono HX0.out.size)⟩
set_option maxHeartbeats 4000000 in
set_option maxRecDepth 10000 in
theorem refmay_node (n:NodeL) (A:Option Addr) (c:Nat) (w:World) (hr:RdA w w.heap.size A n.attrs) (hc:n.attrs.length≤c) (hz:SzN 1000000000 n) :
  Calls Tryz.prog 151 #[encN n A c] w fun e w'=>e=.returned (.bool (nodeI n))∧Below w.heap.size w w':=by
 obtain⟨⟨k0,k1⟩,z1,z2,⟨z3,zA⟩,z4,m0,m1⟩:=hz
 have HXA:Hid (Below w.heap.size w (w.alloc (.cells #[.int .u8 n.kind,.string n.space,.string n.name,.slice A n.attrs.length c,.string n.text,.int .i64 n.many] 36))):=(Below.refl _ w).alloc (Nat.le_refl _) _
 obtain⟨W0,hW0⟩:∃W0,W0=w.alloc (.cells #[.int .u8 n.kind,.string n.space,.string n.name,.slice A n.attrs.length c,.string n.text,.int .i64 n.many] 36):=⟨_,rfl⟩
 have HX0:=HXA
 rw [←hW0] at HX0
 have hs0:w.heap.size < W0.heap.size:=by rw [hW0];simp
 have HD0:Hid (∀W,Below W0.heap.size W0 W→W.cell? ⟨w.heap.size,0,none⟩=some (.int .u8 n.kind)):=Lib.hid (fun W hW=>(hW.cell hs0).trans (by rw [hW0];simp))
 have HD1:Hid (∀W,Below W0.heap.size W0 W→W.cell? ⟨w.heap.size,1,none⟩=some (.string n.space)):=Lib.hid (fun W hW=>(hW.cell hs0).trans (by rw [hW0];simp))
 have HD2:Hid (∀W,Below W0.heap.size W0 W→W.cell? ⟨w.heap.size,2,none⟩=some (.string n.name)):=Lib.hid (fun W hW=>(hW.cell hs0).trans (by rw [hW0];simp))
 have HD3:Hid (∀W,Below W0.heap.size W0 W→W.cell? ⟨w.heap.size,3,none⟩=some (.slice A n.attrs.length c)):=Lib.hid (fun W hW=>(hW.cell hs0).trans (by rw [hW0];simp))
 have HD4:Hid (∀W,Below W0.heap.size W0 W→W.cell? ⟨w.heap.size,4,none⟩=some (.string n.text)):=Lib.hid (fun W hW=>(hW.cell hs0).trans (by rw [hW0];simp))
 have HD5:Hid (∀W,Below W0.heap.size W0 W→W.cell? ⟨w.heap.size,5,none⟩=some (.int .i64 n.many)):=Lib.hid (fun W hW=>(hW.cell hs0).trans (by rw [hW0];simp))
 have HRA:=Lib.hid (fun W (hW:Below w.heap.size w W)=>((hr.below hW (Nat.le_refl _)).more hW.size))
 have HT:=Lib.hid (fun W=>refcheck5_any n.text W z4)
 have HS:=Lib.hid (fun W=>refcheck5_any n.space W z1)
 have HF:=Lib.hid (fun W=>reffull_any n.name W z2)
 have HA0:=Lib.hid (fun W (hW:Below w.heap.size w W)=>refattrs_any A c n.attrs W (HRA.out W hW) hc z3 zA)
 clear hr hc z1 z2 z3 zA z4
 unfold encN
 by_cases hk:n.kind=1
 ·have hk':(n.kind == 1)=true:=by rw [beq_iff_eq];exact hk
  have HI:Box (nodeI n=((fullI n.name) && (isEmp n.text) && (decide (textErr n.space=0)) && (attrsI n.attrs))):=⟨by unfold nodeI;rw [if_neg (by omega),decide_eq_true hk,Bool.true_and,Bool.and_comm (isEmp n.text)]⟩
  generalize nodeI n=ri at *
  generalize fullI n.name=p2 at *
  generalize textErr n.space=t3 at *
  generalize attrsI n.attrs=p4 at *
  obtain⟨p1,hqp1⟩:∃q,(isEmp n.text)=q:=⟨_,rfl⟩
  rw [hqp1] at HI
  obtain⟨p3,hqp3⟩:∃q,(decide (t3=0))=q:=⟨_,rfl⟩
  rw [hqp3] at HI
  rw [hk] at HD0 hW0 HXA
  rw [hk]
  cases p2 with
  | false=>
   go_enter Tryz.func151,Tryz.ntmps151
   go_wp2_with fail
   rw [←hW0]
   refine(HF.out _).mono ?_
   rintro e w1 ⟨rfl,hb1⟩
   have X1:Hid (Below W0.heap.size W0 w1):=Lib.hid (ext_step (Below.refl W0.heap.size W0) (by first|exact e0A|exact e1A|exact e2A|exact e3A|exact e4A|exact e5A) hb1 (Below.refl W0.heap.size W0).size)
   clear hb1
   try clear d0 d1 d2 d3 d4 d5
   have d0:=HD0.out _ X1.out
   have d1:=HD1.out _ X1.out
   have d2:=HD2.out _ X1.out
   have d3:=HD3.out _ X1.out
   have d4:=HD4.out _ X1.out
   have d5:=HD5.out _ X1.out
   go_wp2
   go_ret
   exact⟨ret_bool (by rw [HI.out];rfl),HX0.out.trans (X1.out.mono HX0.out.size)⟩
  | true=>
   cases p1 with
   | false=>
    have fp1:n.text.toList.isEmpty=false:=(emp_is n.text).trans hqp1
    go_enter Tryz.func151,Tryz.ntmps151
    go_wp2_with fail
    rw [←hW0]
    refine(HF.out _).mono ?_
    rintro e w1 ⟨rfl,hb1⟩
    have X1:Hid (Below W0.heap.size W0 w1):=Lib.hid (ext_step (Below.refl W0.heap.size W0) (by first|exact e0A|exact e1A|exact e2A|exact e3A|exact e4A|exact e5A) hb1 (Below.refl W0.heap.size W0).size)
    clear hb1
    try clear d0 d1 d2 d3 d4 d5
    have d0:=HD0.out _ X1.out
    have d1:=HD1.out _ X1.out
    have d2:=HD2.out _ X1.out
    have d3:=HD3.out _ X1.out
    have d4:=HD4.out _ X1.out
    have d5:=HD5.out _ X1.out
    go_wp2
    go_ret
    exact⟨ret_bool (by rw [HI.out];rfl),HX0.out.trans (X1.out.mono HX0.out.size)⟩
   | true=>
    have fp1:n.text.toList.isEmpty=true:=(emp_is n.text).trans hqp1
    cases p3 with
    | false=>
     have fp3:(t3 == 0)=false:=by rw [beq_eq_false_iff_ne];exact of_decide_eq_false hqp3
     go_enter Tryz.func151,Tryz.ntmps151
     go_wp2_with fail
     rw [←hW0]
     refine(HF.out _).mono ?_
     rintro e w1 ⟨rfl,hb1⟩
     have X1:Hid (Below W0.heap.size W0 w1):=Lib.hid (ext_step (Below.refl W0.heap.size W0) (by first|exact e0A|exact e1A|exact e2A|exact e3A|exact e4A|exact e5A) hb1 (Below.refl W0.heap.size W0).size)
     clear hb1
     try clear d0 d1 d2 d3 d4 d5
     have d0:=HD0.out _ X1.out
     have d1:=HD1.out _ X1.out
     have d2:=HD2.out _ X1.out
     have d3:=HD3.out _ X1.out
     have d4:=HD4.out _ X1.out
     have d5:=HD5.out _ X1.out
     go_wp2_with fail
     refine(HS.out _).mono ?_
     rintro e w2 ⟨rfl,hb2⟩
     have X2:Hid (Below W0.heap.size W0 w2):=Lib.hid (ext_step (X1.out) (by first|exact e0A|exact e1A|exact e2A|exact e3A|exact e4A|exact e5A) hb2 (X1.out).size)
     clear hb2
     try clear d0 d1 d2 d3 d4 d5
     have d0:=HD0.out _ X2.out
     have d1:=HD1.out _ X2.out
     have d2:=HD2.out _ X2.out
     have d3:=HD3.out _ X2.out
     have d4:=HD4.out _ X2.out
     have d5:=HD5.out _ X2.out
     go_wp2
     go_ret
     exact⟨ret_bool (by rw [HI.out];rfl),HX0.out.trans (X2.out.mono HX0.out.size)⟩
    | true=>
     have fp3:t3=0:=of_decide_eq_true hqp3
     subst fp3
     cases p4 with
     | false=>
      go_enter Tryz.func151,Tryz.ntmps151
      go_wp2_with fail
      rw [←hW0]
      refine(HF.out _).mono ?_
      rintro e w1 ⟨rfl,hb1⟩
      have X1:Hid (Below W0.heap.size W0 w1):=Lib.hid (ext_step (Below.refl W0.heap.size W0) (by first|exact e0A|exact e1A|exact e2A|exact e3A|exact e4A|exact e5A) hb1 (Below.refl W0.heap.size W0).size)
      clear hb1
      try clear d0 d1 d2 d3 d4 d5
      have d0:=HD0.out _ X1.out
      have d1:=HD1.out _ X1.out
      have d2:=HD2.out _ X1.out
      have d3:=HD3.out _ X1.out
      have d4:=HD4.out _ X1.out
      have d5:=HD5.out _ X1.out
      go_wp2_with fail
      refine(HS.out _).mono ?_
      rintro e w2 ⟨rfl,hb2⟩
      have X2:Hid (Below W0.heap.size W0 w2):=Lib.hid (ext_step (X1.out) (by first|exact e0A|exact e1A|exact e2A|exact e3A|exact e4A|exact e5A) hb2 (X1.out).size)
      clear hb2
      try clear d0 d1 d2 d3 d4 d5
      have d0:=HD0.out _ X2.out
      have d1:=HD1.out _ X2.out
      have d2:=HD2.out _ X2.out
      have d3:=HD3.out _ X2.out
      have d4:=HD4.out _ X2.out
      have d5:=HD5.out _ X2.out
      go_wp2_with fail
      refine(HA0.out _ (HX0.out.trans (X2.out.mono HX0.out.size))).mono ?_
      rintro e w3 ⟨rfl,hb3⟩
      have X3:Hid (Below W0.heap.size W0 w3):=Lib.hid (ext_step (X2.out) (by first|exact e0A|exact e1A|exact e2A|exact e3A|exact e4A|exact e5A) hb3 (X2.out).size)
      clear hb3
      try clear d0 d1 d2 d3 d4 d5
      have d0:=HD0.out _ X3.out
      have d1:=HD1.out _ X3.out
      have d2:=HD2.out _ X3.out
      have d3:=HD3.out _ X3.out
      have d4:=HD4.out _ X3.out
      have d5:=HD5.out _ X3.out
      go_wp2
      go_ret
      exact⟨ret_bool (by rw [HI.out];rfl),HX0.out.trans (X3.out.mono HX0.out.size)⟩
     | true=>
      go_enter Tryz.func151,Tryz.ntmps151
      go_wp2_with fail
      rw [←hW0]
      refine(HF.out _).mono ?_
      rintro e w1 ⟨rfl,hb1⟩
      have X1:Hid (Below W0.heap.size W0 w1):=Lib.hid (ext_step (Below.refl W0.heap.size W0) (by first|exact e0A|exact e1A|exact e2A|exact e3A|exact e4A|exact e5A) hb1 (Below.refl W0.heap.size W0).size)
      clear hb1
      try clear d0 d1 d2 d3 d4 d5
      have d0:=HD0.out _ X1.out
      have d1:=HD1.out _ X1.out
      have d2:=HD2.out _ X1.out
      have d3:=HD3.out _ X1.out
      have d4:=HD4.out _ X1.out
      have d5:=HD5.out _ X1.out
      go_wp2_with fail
      refine(HS.out _).mono ?_
      rintro e w2 ⟨rfl,hb2⟩
      have X2:Hid (Below W0.heap.size W0 w2):=Lib.hid (ext_step (X1.out) (by first|exact e0A|exact e1A|exact e2A|exact e3A|exact e4A|exact e5A) hb2 (X1.out).size)
      clear hb2
      try clear d0 d1 d2 d3 d4 d5
      have d0:=HD0.out _ X2.out
      have d1:=HD1.out _ X2.out
      have d2:=HD2.out _ X2.out
      have d3:=HD3.out _ X2.out
      have d4:=HD4.out _ X2.out
      have d5:=HD5.out _ X2.out
      go_wp2_with fail
      refine(HA0.out _ (HX0.out.trans (X2.out.mono HX0.out.size))).mono ?_
      rintro e w3 ⟨rfl,hb3⟩
      have X3:Hid (Below W0.heap.size W0 w3):=Lib.hid (ext_step (X2.out) (by first|exact e0A|exact e1A|exact e2A|exact e3A|exact e4A|exact e5A) hb3 (X2.out).size)
      clear hb3
      try clear d0 d1 d2 d3 d4 d5
      have d0:=HD0.out _ X3.out
      have d1:=HD1.out _ X3.out
      have d2:=HD2.out _ X3.out
      have d3:=HD3.out _ X3.out
      have d4:=HD4.out _ X3.out
      have d5:=HD5.out _ X3.out
      go_wp2
      go_ret
      exact⟨ret_bool (by rw [HI.out];rfl),HX0.out.trans (X3.out.mono HX0.out.size)⟩
 ·have hk':(n.kind == 1)=false:=by rw [beq_eq_false_iff_ne];exact hk
  have HI:Box (nodeI n=((decide (n.kind=2)) && (isEmp n.name) && (isEmp n.space) && (decide (n.attrs.length=0)) && (decide (n.many=0)) && (!isEmp n.text) && (decide (textErr n.text=0)))):=⟨by unfold nodeI;by_cases h2:n.kind=2 <;> simp [h2,hk]⟩
  generalize nodeI n=ri at *
  generalize textErr n.text=t6 at *
  obtain⟨q0,hqq0⟩:∃q,(decide (n.kind=2))=q:=⟨_,rfl⟩
  rw [hqq0] at HI
  obtain⟨q1,hqq1⟩:∃q,(isEmp n.name)=q:=⟨_,rfl⟩
  rw [hqq1] at HI
  obtain⟨q2,hqq2⟩:∃q,(isEmp n.space)=q:=⟨_,rfl⟩
  rw [hqq2] at HI
  obtain⟨q3,hqq3⟩:∃q,(decide (n.attrs.length=0))=q:=⟨_,rfl⟩
  rw [hqq3] at HI
  obtain⟨q4,hqq4⟩:∃q,(decide (n.many=0))=q:=⟨_,rfl⟩
  rw [hqq4] at HI
  obtain⟨q5,hqq5⟩:∃q,(!isEmp n.text)=q:=⟨_,rfl⟩
  rw [hqq5] at HI
  obtain⟨q6,hqq6⟩:∃q,(decide (t6=0))=q:=⟨_,rfl⟩
  rw [hqq6] at HI
  cases q0 with
  | false=>
   have fq0:(n.kind == 2)=false:=by rw [beq_eq_false_iff_ne];exact of_decide_eq_false hqq0
   go_enter Tryz.func151,Tryz.ntmps151
   go_wp2
   go_ret
   exact⟨ret_bool (by rw [HI.out];rfl),HXA.out⟩
  | true=>
   have fq0:n.kind=2:=of_decide_eq_true hqq0
   rw [fq0] at HD0 hW0 HXA
   rw [fq0]
   cases q1 with
   | false=>
    have fq1:n.name.toList.isEmpty=false:=(emp_is n.name).trans hqq1
    go_enter Tryz.func151,Tryz.ntmps151
    go_wp2
    go_ret
    exact⟨ret_bool (by rw [HI.out];rfl),HXA.out⟩
   | true=>
    have fq1:n.name.toList.isEmpty=true:=(emp_is n.name).trans hqq1
    cases q2 with
    | false=>
     have fq2:n.space.toList.isEmpty=false:=(emp_is n.space).trans hqq2
     go_enter Tryz.func151,Tryz.ntmps151
     go_wp2
     go_ret
     exact⟨ret_bool (by rw [HI.out];rfl),HXA.out⟩
    | true=>
     have fq2:n.space.toList.isEmpty=true:=(emp_is n.space).trans hqq2
     cases q3 with
     | false=>
      have fq3:((n.attrs.length:Int) == 0)=false:=by have:=of_decide_eq_false hqq3;rw [beq_eq_false_iff_ne];omega
      go_enter Tryz.func151,Tryz.ntmps151
      go_wp2
      go_ret
      exact⟨ret_bool (by rw [HI.out];rfl),HXA.out⟩
     | true=>
      have fq3:(n.attrs.length:Int)=0:=by have:=of_decide_eq_true hqq3;omega
      cases q4 with
      | false=>
       have fq4:(n.many == 0)=false:=by have:=of_decide_eq_false hqq4;rw [beq_eq_false_iff_ne];omega
       go_enter Tryz.func151,Tryz.ntmps151
       go_wp2
       go_ret
       exact⟨ret_bool (by rw [HI.out];rfl),HXA.out⟩
      | true=>
       have fq4:n.many=0:=by have:=of_decide_eq_true hqq4;omega
       rw [fq4] at HD5 hW0 HXA
       cases q5 with
       | false=>
        have fq5:n.text.toList.isEmpty=true:=(emp_is n.text).trans (by rw [←Bool.not_not (isEmp n.text),hqq5];rfl)
        go_enter Tryz.func151,Tryz.ntmps151
        go_wp2
        go_ret
        exact⟨ret_bool (by rw [HI.out];rfl),HXA.out⟩
       | true=>
        have fq5:n.text.toList.isEmpty=false:=(emp_is n.text).trans (by rw [←Bool.not_not (isEmp n.text),hqq5];rfl)
        cases q6 with
        | false=>
         have fq6:(t6 == 0)=false:=by rw [beq_eq_false_iff_ne];exact of_decide_eq_false hqq6
         go_enter Tryz.func151,Tryz.ntmps151
         go_wp2_with fail
         rw [←hW0]
         refine(HT.out _).mono ?_
         rintro e w1 ⟨rfl,hb1⟩
         have X1:Hid (Below W0.heap.size W0 w1):=Lib.hid (ext_step (Below.refl W0.heap.size W0) (by first|exact e0A|exact e1A|exact e2A|exact e3A|exact e4A|exact e5A) hb1 (Below.refl W0.heap.size W0).size)
         clear hb1
         try clear d0 d1 d2 d3 d4 d5
         have d0:=HD0.out _ X1.out
         have d1:=HD1.out _ X1.out
         have d2:=HD2.out _ X1.out
         have d3:=HD3.out _ X1.out
         have d4:=HD4.out _ X1.out
         have d5:=HD5.out _ X1.out
         go_wp2
         go_ret
         exact⟨ret_bool (by rw [HI.out];rfl),HX0.out.trans (X1.out.mono HX0.out.size)⟩
        | true=>
         have fq6:t6=0:=of_decide_eq_true hqq6
         subst fq6
         go_enter Tryz.func151,Tryz.ntmps151
         go_wp2_with fail
         rw [←hW0]
         refine(HT.out _).mono ?_
         rintro e w1 ⟨rfl,hb1⟩
         have X1:Hid (Below W0.heap.size W0 w1):=Lib.hid (ext_step (Below.refl W0.heap.size W0) (by first|exact e0A|exact e1A|exact e2A|exact e3A|exact e4A|exact e5A) hb1 (Below.refl W0.heap.size W0).size)
         clear hb1
         try clear d0 d1 d2 d3 d4 d5
         have d0:=HD0.out _ X1.out
         have d1:=HD1.out _ X1.out
         have d2:=HD2.out _ X1.out
         have d3:=HD3.out _ X1.out
         have d4:=HD4.out _ X1.out
         have d5:=HD5.out _ X1.out
         go_wp2
         go_ret
         exact⟨ret_bool (by rw [HI.out];rfl),HX0.out.trans (X1.out.mono HX0.out.size)⟩
end Go.Proofs.YtnmnpnofdgdigaaGreatDoor
end
