/- Part 32 of a proof laid in parts, one behind the other; no condition of its own. -/
import Derived.Test.YtnmnpnofdgdigaaGreatDoorZ31
set_option linter.all false
section
namespace Go.Proofs.YtnmnpnofdgdigaaGreatDoor
open Go.RowKit
set_option linter.unusedSimpArgs false
set_option linter.unusedVariables false
theorem rosL:rosB.toList=[106,97,98,98,101,114,58,105,113,58,114,111,115,116,101,114]:=by decide +kernel
theorem groupL:((⟨#[103,114,111,117,112]⟩:ByteArray):ByteArray).toList=[103,114,111,117,112]:=by decide +kernel
theorem removeL:((⟨#[114,101,109,111,118,101]⟩:ByteArray):ByteArray).toList=[114,101,109,111,118,101]:=by decide +kernel
theorem itemL:((⟨#[105,116,101,109]⟩:ByteArray):ByteArray).toList=[105,116,101,109]:=by decide +kernel
set_option maxHeartbeats 16000000 in
set_option maxRecDepth 10000 in
theorem refset_any (v:List NodeL) (A:Option Addr) (c:Nat) (w:World) (hc:v.length≤c) (hz:SzV 1000000000 v) (hr:RdV w w.heap.size A v) (htree:treeI v=true) :
  Calls Tryz.prog 112 #[.slice A v.length c] w (SetPost v w):=by
 obtain⟨W0,hW0⟩:∃W0,W0=w.alloc (.cells #[.int .u8 0,.string ⟨#[]⟩,.string ⟨#[]⟩,.string ⟨#[]⟩,.slice none 0 0,.bool false,.bool false,.bool false,.bool false,.bool false,.bool false] 56):=⟨_,rfl⟩
 have hX0:Below w.heap.size w W0:=by rw [hW0];exact(Below.refl _ _).alloc (Nat.le_refl _) _
 have hR0:Row W0 w.heap.size (cW emW none 0):=by rw [hW0];exact Row.new w _ _
 have HE:=Lib.hid (refelems_any v A c W0 hc hz ((hr.below hX0 (Nat.le_refl _)).more hX0.size) htree)
 have HX0:=Lib.hid hX0
 have HR0:=Lib.hid hR0
 have HW0:=Lib.hid hW0
 have HET:=Lib.hid (elems_tree htree)
 have HEZ:=Lib.hid (elems_szw hz htree)
 have HSR:Box (setR v=if oneIt v then setW v else emW):=⟨rfl⟩
 have HON:Box (oneIt v=(decide ((elemsI v).length=1) && isEl rosB (⟨#[105,116,101,109]⟩:ByteArray) (itemV v))):=⟨rfl⟩
 have HIV:Box (itemV v=(elemsI v).getD 0 []):=⟨rfl⟩
 have HOW:Hid (oneIt v=false→∀(w1:World),Below w.heap.size w w1→SetPost v w (.returned (.tuple #[encW emW none 0,.bool false])) w1):=Lib.hid (fun h w1 hb=>by
  have e:setR v=emW:=by unfold setR;rw [h];rfl
  unfold SetPost
  rw [e,h]
  exact⟨none,0,rfl,Nat.le_refl _,fun h0=>absurd h0 (by decide),hb⟩)
 have hgw:=hR0.lt
 unfold ElemsPost at HE
 generalize hev:elemsI v=ev at *
 clear hW0 hX0 hR0 hr
 go_enter Tryz.func112,Tryz.ntmps112
 go_wp2_with fail
 rw [←HW0.out]
 refine HE.out.mono ?_
 rintro e w1 ⟨A5,c5,ts,rfl,hl5,hm5,hrow5,hb1⟩
 have X1:=Lib.hid (HX0.out.trans (hb1.mono HX0.out.size))
 have Q1:=Lib.hid (HR0.out.ext hb1)
 have R1:=Lib.hid hrow5
 have HM:=Lib.hid hm5
 have HRW:=Lib.hid (hm5 ▸ hrow5.rdw (by rw [←hm5,List.length_map]))
 have hs1:=X1.out.size
 clear hb1 hrow5 hm5
 by_cases h1:ev.length=1
 ·obtain⟨x,hx⟩:∃x,ev[0]? = some x:=⟨_,List.getElem?_eq_getElem (by omega)⟩
  have hxi:itemV v=x:=by rw [HIV.out,List.getD_eq_getElem?_getD,hx];rfl
  have hxt:=HET.out x (List.mem_of_getElem? hx)
  have hxz:=HEZ.out.2 x (List.mem_of_getElem? hx)
  have hx0:=(tree_parts hxt).1
  have hx0i:(0:Int) < (x.length:Int):=by omega
  obtain⟨b,off,rfl,hb,hcc⟩:=HRW.out (by omega)
  obtain⟨A',c',e0,hl',hA'⟩:=hcc 0 x hx
  rw [Nat.add_zero] at e0
  have HA:=Lib.hid hA'
  obtain⟨b1,o1,rfl,hb1,hc1⟩:=hA' hx0
  obtain⟨d0,d1,d2,⟨A3,c3,d3,hl3,hA3⟩,d4,d5⟩:=hc1 0 (nodeAt x 0) (node_get hx0)
  rw [Nat.zero_mul,Nat.add_zero] at d0 d1 d2 d3 d4 d5
  have HA3:=Lib.hid hA3
  have HNN:Box (nodeAt x 0=nodeAt x 0):=⟨rfl⟩
  have HEL:Box (isEl rosB (⟨#[105,116,101,109]⟩:ByteArray) x=(((nodeAt x 0).space.toList == [106,97,98,98,101,114,58,105,113,58,114,111,115,116,101,114]) && ((nodeAt x 0).name.toList == [105,116,101,109]))):=⟨by unfold isEl;rw [rosL,itemL]⟩
  generalize hnn:nodeAt x 0=n at *
  have HN1:=Lib.hid hnn
  have HON1:Box (oneIt v=isEl rosB (⟨#[105,116,101,109]⟩:ByteArray) x):=⟨by rw [HON.out,hxi,decide_eq_true h1,Bool.true_and]⟩
  have HXI:=Lib.hid hxi
  have HX:=Lib.hid hx
  have HXT:=Lib.hid hxt
  have HXZ:=Lib.hid hxz
  have hN:((ev.length:Int) != 1)=false:=by simp [h1]
  have hNi:(0:Int) < (ev.length:Int):=by omega
  clear hxi hx hxt hxz hA' hc1 hcc hA3 hnn HNN
  have a0:w1.cell? ⟨w.heap.size,0,none⟩=some _:=Q1.out.at' 0 rfl
  have a1:w1.cell? ⟨w.heap.size,1,none⟩=some _:=Q1.out.at' 1 rfl
  have a2:w1.cell? ⟨w.heap.size,2,none⟩=some _:=Q1.out.at' 2 rfl
  have a3:w1.cell? ⟨w.heap.size,3,none⟩=some _:=Q1.out.at' 3 rfl
  have a4:w1.cell? ⟨w.heap.size,4,none⟩=some _:=Q1.out.at' 4 rfl
  have a5:w1.cell? ⟨w.heap.size,5,none⟩=some _:=Q1.out.at' 5 rfl
  have a6:w1.cell? ⟨w.heap.size,6,none⟩=some _:=Q1.out.at' 6 rfl
  have a7:w1.cell? ⟨w.heap.size,7,none⟩=some _:=Q1.out.at' 7 rfl
  have a8:w1.cell? ⟨w.heap.size,8,none⟩=some _:=Q1.out.at' 8 rfl
  have a9:w1.cell? ⟨w.heap.size,9,none⟩=some _:=Q1.out.at' 9 rfl
  have a10:w1.cell? ⟨w.heap.size,10,none⟩=some _:=Q1.out.at' 10 rfl
  have f0:w1.frozen? ⟨w.heap.size,0,none⟩=false:=Q1.out.fz 0
  have f1:w1.frozen? ⟨w.heap.size,1,none⟩=false:=Q1.out.fz 1
  have f2:w1.frozen? ⟨w.heap.size,2,none⟩=false:=Q1.out.fz 2
  have f3:w1.frozen? ⟨w.heap.size,3,none⟩=false:=Q1.out.fz 3
  have f4:w1.frozen? ⟨w.heap.size,4,none⟩=false:=Q1.out.fz 4
  have f5:w1.frozen? ⟨w.heap.size,5,none⟩=false:=Q1.out.fz 5
  have f6:w1.frozen? ⟨w.heap.size,6,none⟩=false:=Q1.out.fz 6
  have f7:w1.frozen? ⟨w.heap.size,7,none⟩=false:=Q1.out.fz 7
  have f8:w1.frozen? ⟨w.heap.size,8,none⟩=false:=Q1.out.fz 8
  have f9:w1.frozen? ⟨w.heap.size,9,none⟩=false:=Q1.out.fz 9
  have f10:w1.frozen? ⟨w.heap.size,10,none⟩=false:=Q1.out.fz 10
  cases h2:(n.space.toList == [106,97,98,98,101,114,58,105,113,58,114,111,115,116,101,114])
  ·have HO1:=Lib.hid (HOW.out (by rw [HON1.out,HEL.out,h2];rfl))
   go_wp2
   exact bodyPost_ret (v:=.tuple #[encW emW none 0,.bool false])
    (by
     obtain⟨tt,hh⟩:=put11_row Q1.out (.int .u8 0) (.string ⟨#[]⟩) (.string ⟨#[]⟩) (.string ⟨#[]⟩) (.slice none 0 0) (.bool false) (.bool false) (.bool false) (.bool false) (.bool false) (.bool false)
     exact results_jid (fn:=Tryz.f112) (p:=2) (s:=3) (ty:=56) rfl _ _ w.heap.size _ _ _ _ rfl rfl hh Tryz.underlying56 (by kernel_rfl)) rfl
    (HO1.out _ (put11_below X1.out (Nat.le_refl _) _ _ _ _ _ _ _ _ _ _ _))
  ·cases h3:(n.name.toList == [105,116,101,109])
   ·have HO1:=Lib.hid (HOW.out (by rw [HON1.out,HEL.out,h2,h3];rfl))
    go_wp2
    exact bodyPost_ret (v:=.tuple #[encW emW none 0,.bool false])
     (by
      obtain⟨tt,hh⟩:=put11_row Q1.out (.int .u8 0) (.string ⟨#[]⟩) (.string ⟨#[]⟩) (.string ⟨#[]⟩) (.slice none 0 0) (.bool false) (.bool false) (.bool false) (.bool false) (.bool false) (.bool false)
      exact results_jid (fn:=Tryz.f112) (p:=2) (s:=3) (ty:=56) rfl _ _ w.heap.size _ _ _ _ rfl rfl hh Tryz.underlying56 (by kernel_rfl)) rfl
     (HO1.out _ (put11_below X1.out (Nat.le_refl _) _ _ _ _ _ _ _ _ _ _ _))
   ·have HO1:Box (oneIt v=true):=⟨by rw [HON1.out,HEL.out,h2,h3];rfl⟩
    have e3:=d3
    clear a0 a1 a2 a3 a4 a5 a6 a7 a8 a9 a10 f0 f1 f2 f3 f4 f5 f6 f7 f8 f9 f10
    go_wp2_with fail
    obtain⟨W2,hW2⟩:∃W2,W2=w1.alloc (.cells #[.int .u8 n.kind,.string n.space,.string n.name,.slice A3 n.attrs.length c3,.string n.text,.int .i64 n.many] 36):=⟨_,rfl⟩
    rw [←hW2]
    have hX2:Below w1.heap.size w1 W2:=by rw [hW2];exact(Below.refl _ _).alloc (Nat.le_refl _) _
    have hN2:NRow W2 w1.heap.size n A3 c3:=by rw [hW2];exact NRow.new _ _ _ _ _
    have HRA:=Lib.hid ((HA3.out.below hX2 (Nat.le_refl _)).more hX2.size)
    have X2:=Lib.hid (X1.out.trans (hX2.mono X1.out.size))
    have Z2:=Lib.hid hX2
    have Q2:=Lib.hid (Q1.out.ext hX2)
    have N2:=Lib.hid hN2
    have hat:=(szv_get HXZ.out (node_get hx0)).2.2.2.1.1
    rw [HN1.out] at hat
    have HFD:=Lib.hid (fun W (hW:Ext W2.drew W) nm=>reffind_any n A3 c3 nm W ((HRA.out.below (ext_below hW) (Nat.le_refl _)).more (ext_below hW).size) hl3 hat)
    have EF:=Lib.hid (enters_of (P:=Tryz.prog) Tryz.func84 (by kernel_rfl) rfl)
    have G5:=Lib.hid (fun W (hW:Ext W2.drew W)=>N2.out.ext (ext_below hW))
    have GS:=Lib.hid (fun W (hW:Ext W2.drew W)=>(ext_below hW).size)
    have HGN:Box (goneI v=((findI n (⟨#[115,117,98,115,99,114,105,112,116,105,111,110]⟩:ByteArray)).toList == [114,101,109,111,118,101])):=⟨by unfold goneI;rw [HXI.out,HN1.out]⟩
    obtain⟨bg,hbg⟩:∃bg,((findI n (⟨#[115,117,98,115,99,114,105,112,116,105,111,110]⟩:ByteArray)).toList == [114,101,109,111,118,101])=bg:=⟨_,rfl⟩
    have HBG:=Lib.hid (show((findI n (⟨#[115,117,98,115,99,114,105,112,116,105,111,110]⟩:ByteArray)).toList == ((⟨#[114,101,109,111,118,101]⟩:ByteArray):ByteArray).toList)=bg by rw [removeL];exact hbg)
    rw [hbg] at HGN
    have HJ:Box (findI n (⟨#[106,105,100]⟩:ByteArray)=findI n (⟨#[106,105,100]⟩:ByteArray)):=⟨rfl⟩
    generalize hj:findI n (⟨#[106,105,100]⟩:ByteArray)=jd at HJ
    have HJD:=Lib.hid hj
    have HAT:=Lib.hid hat
    clear hW2 hX2 hN2 hbg hj hat d0 d1 d2 d3 d4 d5 e3
    refine wp_region_typed_tail 8 rfl (by kernel_rfl) (by kernel_rfl) (by kernel_rfl) ?_
    repeat (first|refine tw_ldN rfl rfl G5.out (wdA rfl) ?_|refine tw_fnB #[encN n A3 c3,.string (⟨#[106,105,100]⟩:ByteArray)] (.string jd) rfl (fun W=>EF.out _ W) rfl (wdA rfl) (fun W hW=>by rw [←HJD.out];exact HFD.out W hW _) ?_|refine tw_fnB #[encN n A3 c3,.string (⟨#[115,117,98,115,99,114,105,112,116,105,111,110]⟩:ByteArray)] (.string (findI n (⟨#[115,117,98,115,99,114,105,112,116,105,111,110]⟩:ByteArray))) rfl (fun W=>EF.out _ W) rfl (wdA rfl) (fun W hW=>HFD.out W hW _) ?_|refine tw_bldI jd rfl rfl (wdA rfl) ?_|refine tw_eqS _ (⟨#[114,101,109,111,118,101]⟩:ByteArray) bg HBG.out rfl rfl rfl (wdA rfl) ?_|refine tw_bldW jd bg rfl rfl rfl (wdA rfl) ?_|refine tw_allocW W2.heap.size GS.out rfl (wdA rfl) ?_|refine tw_skip (wd_no rfl rfl rfl) ?_|refine tw_mv (.inl rfl) rfl (wdA rfl) ?_|refine tw_mv (.inr rfl) rfl (wdA rfl) ?_|refine tw_pickL rfl rfl rfl (wdA rfl) ?_|refine tw_op1 _ rfl rfl (wdA rfl) (fun ρ W hW h1=>by simp only [execOp,h1];go_simp;first|done|rfl) ?_|refine tw_op2 _ rfl rfl rfl (wdA rfl) (fun ρ W hW h1 h2=>by simp only [execOp,h1,h2];go_simp;first|done|rfl) ?_)
    dsimp only [wpT,List.reverse,List.reverseAux,FinT,PtW,List.take,List.drop]
    intro u9 W5 hW5 hu9
    obtain⟨g,rfl,hg9,t9,hrow9⟩:=hu9.2
    simp only [Act.put,List.setIfInBounds_toArray,List.set_cons_zero,List.set_cons_succ]
    have hbs:=below_setRow (B:=W2.heap.size) (g:=g) (ext_below hW5) hg9 #[.int .u8 3,.string ⟨#[]⟩,.string jd,.string ⟨#[]⟩,.slice none 0 0,.bool false,.bool false,.bool false,.bool false,.bool false,.bool bg]
    have SV:=Lib.hid (show Row (W5.setRow g #[.int .u8 3,.string ⟨#[]⟩,.string jd,.string ⟨#[]⟩,.slice none 0 0,.bool false,.bool false,.bool false,.bool false,.bool false,.bool bg]) g #[.int .u8 3,.string ⟨#[]⟩,.string jd,.string ⟨#[]⟩,.slice none 0 0,.bool false,.bool false,.bool false,.bool false,.bool false,.bool bg] from⟨t9,setRow_heap W5 g _ _ _ _ hrow9⟩)
    have HROW:=Lib.hid hrow9
    clear hu9 hrow9 hW5 G5 GS HFD EF
    obtain⟨W6,hW6⟩:∃W6,W6=W5.setRow g #[.int .u8 3,.string ⟨#[]⟩,.string jd,.string ⟨#[]⟩,.slice none 0 0,.bool false,.bool false,.bool false,.bool false,.bool false,.bool bg]:=⟨_,rfl⟩
    rw [←hW6] at hbs SV
    have X6:=Lib.hid (X2.out.trans (hbs.mono X2.out.size))
    have Z6:=Lib.hid hbs
    have Q6:=Lib.hid (Q2.out.ext hbs)
    have N6:=Lib.hid (N2.out.ext hbs)
    have HW6:=Lib.hid hW6
    have hgl:=SV.out.lt
    have hz2:=Z2.out.size
    have hq1:=Q1.out.lt
    clear hW6 hbs
    refine wpList_store_row rfl 56 _ _ rfl g #[.int .u8 3,.string ⟨#[]⟩,.string jd,.string ⟨#[]⟩,.slice none 0 0,.bool false,.bool false,.bool false,.bool false,.bool false,.bool bg] rfl rfl t9 _ HROW.out (by kernel_rfl) rfl (by simp [Value.oneCell']) ?_
    rw [←HW6.out]
    clear HROW HW6 Q1 Q2 N2 R1 HRW
    have hgn:w.heap.size≠g:=by omega
    have a0:W6.cell? ⟨g,0,none⟩=some _:=SV.out.at' 0 rfl
    have a1:W6.cell? ⟨g,1,none⟩=some _:=SV.out.at' 1 rfl
    have a2:W6.cell? ⟨g,2,none⟩=some _:=SV.out.at' 2 rfl
    have a3:W6.cell? ⟨g,3,none⟩=some _:=SV.out.at' 3 rfl
    have a4:W6.cell? ⟨g,4,none⟩=some _:=SV.out.at' 4 rfl
    have a5:W6.cell? ⟨g,5,none⟩=some _:=SV.out.at' 5 rfl
    have a6:W6.cell? ⟨g,6,none⟩=some _:=SV.out.at' 6 rfl
    have a7:W6.cell? ⟨g,7,none⟩=some _:=SV.out.at' 7 rfl
    have a8:W6.cell? ⟨g,8,none⟩=some _:=SV.out.at' 8 rfl
    have a9:W6.cell? ⟨g,9,none⟩=some _:=SV.out.at' 9 rfl
    have a10:W6.cell? ⟨g,10,none⟩=some _:=SV.out.at' 10 rfl
    cases bg
    ·have HF2:=Lib.hid (reffind_any n A3 c3 (⟨#[110,97,109,101]⟩:ByteArray) W6 ((HRA.out.below Z6.out (Nat.le_refl _)).more Z6.out.size) hl3 HAT.out)
     unfold encN at HF2
     generalize hnm:findI n (⟨#[110,97,109,101]⟩:ByteArray)=nm at HF2
     have HNM:=Lib.hid hnm
     clear hnm
     have NR6:Hid (Row W6 w1.heap.size #[.int .u8 n.kind,.string n.space,.string n.name,.slice A3 n.attrs.length c3,.string n.text,.int .i64 n.many]):=Lib.hid N6.out
     have k0:W6.cell? ⟨w1.heap.size,0,none⟩=some _:=NR6.out.at' 0 rfl
     have k1:W6.cell? ⟨w1.heap.size,1,none⟩=some _:=NR6.out.at' 1 rfl
     have k2:W6.cell? ⟨w1.heap.size,2,none⟩=some _:=NR6.out.at' 2 rfl
     have k3:W6.cell? ⟨w1.heap.size,3,none⟩=some _:=NR6.out.at' 3 rfl
     have k4:W6.cell? ⟨w1.heap.size,4,none⟩=some _:=NR6.out.at' 4 rfl
     have k5:W6.cell? ⟨w1.heap.size,5,none⟩=some _:=NR6.out.at' 5 rfl
     go_wp2_with fail
     refine HF2.out.mono ?_
     rintro e w7 ⟨rfl,hb7⟩
     have X7:=Lib.hid (X6.out.trans (hb7.mono X6.out.size))
     have Z7:=Lib.hid (Z6.out.trans (hb7.mono Z6.out.size))
     have S7:=Lib.hid (SV.out.ext hb7)
     have Q7:=Lib.hid (Q6.out.ext hb7)
     clear hb7 a0 a1 a2 a3 a4 a5 a6 a7 a8 a9 a10 k0 k1 k2 k3 k4 k5 HF2 SV Q6 N6 NR6 X6 Z6
     have a0:w7.cell? ⟨g,0,none⟩=some _:=S7.out.at' 0 rfl
     have a1:w7.cell? ⟨g,1,none⟩=some _:=S7.out.at' 1 rfl
     have a2:w7.cell? ⟨g,2,none⟩=some _:=S7.out.at' 2 rfl
     have a3:w7.cell? ⟨g,3,none⟩=some _:=S7.out.at' 3 rfl
     have a4:w7.cell? ⟨g,4,none⟩=some _:=S7.out.at' 4 rfl
     have a5:w7.cell? ⟨g,5,none⟩=some _:=S7.out.at' 5 rfl
     have a6:w7.cell? ⟨g,6,none⟩=some _:=S7.out.at' 6 rfl
     have a7:w7.cell? ⟨g,7,none⟩=some _:=S7.out.at' 7 rfl
     have a8:w7.cell? ⟨g,8,none⟩=some _:=S7.out.at' 8 rfl
     have a9:w7.cell? ⟨g,9,none⟩=some _:=S7.out.at' 9 rfl
     have a10:w7.cell? ⟨g,10,none⟩=some _:=S7.out.at' 10 rfl
     have f0:w7.frozen? ⟨g,0,none⟩=false:=S7.out.fz 0
     have f1:w7.frozen? ⟨g,1,none⟩=false:=S7.out.fz 1
     have f2:w7.frozen? ⟨g,2,none⟩=false:=S7.out.fz 2
     have f3:w7.frozen? ⟨g,3,none⟩=false:=S7.out.fz 3
     have f4:w7.frozen? ⟨g,4,none⟩=false:=S7.out.fz 4
     have f5:w7.frozen? ⟨g,5,none⟩=false:=S7.out.fz 5
     have f6:w7.frozen? ⟨g,6,none⟩=false:=S7.out.fz 6
     have f7:w7.frozen? ⟨g,7,none⟩=false:=S7.out.fz 7
     have f8:w7.frozen? ⟨g,8,none⟩=false:=S7.out.fz 8
     have f9:w7.frozen? ⟨g,9,none⟩=false:=S7.out.fz 9
     have f10:w7.frozen? ⟨g,10,none⟩=false:=S7.out.fz 10
     obtain⟨W8,hW8⟩:∃W8,W8=w7.setCell ⟨g,3,none⟩ (.string nm):=⟨_,rfl⟩
     have S8:Hid (Row W8 g #[.int .u8 3,.string ⟨#[]⟩,.string jd,.string nm,.slice none 0 0,.bool false,.bool false,.bool false,.bool false,.bool false,.bool false]):=Lib.hid (by
      have h:=S7.out.set 3 (.string nm)
      simp only [List.setIfInBounds_toArray,List.set_cons_zero,List.set_cons_succ] at h
      rw [hW8];exact h)
     have Q8:Hid (Row W8 w.heap.size (cW emW none 0)):=Lib.hid (by rw [hW8];exact Q7.out.other hgn 3 (.string nm))
     have X8:Hid (Below w.heap.size w W8):=Lib.hid (by rw [hW8];exact X7.out.setCell (p:=⟨g,3,none⟩) (by show w.heap.size≤g;omega) _)
     have Z8:Hid (Below W2.heap.size W2 W8):=Lib.hid (by rw [hW8];exact Z7.out.setCell (p:=⟨g,3,none⟩) hg9 _)
     have Y8:=Lib.hid (Z2.out.trans (Z8.out.mono hz2))
     have HE2:=Lib.hid (refelems_any x (some ⟨b1,o1,none⟩) c' W8 hl' HXZ.out ((HA.out.below Y8.out (Nat.le_refl _)).more Y8.out.size) HXT.out)
     have HW8:=Lib.hid hW8
     unfold ElemsPost at HE2
     generalize hev2:elemsI x=eg at HE2
     have HEG:=Lib.hid hev2
     clear hW8 hev2
     have e0':=(Y8.out.cell (p:=⟨b,off,none⟩) hb).trans e0
     rw [HW8.out] at e0'
     go_wp2_with fail
     rw [←HW8.out]
     refine HE2.out.mono ?_
     rintro e w9 ⟨A8,c8,ts8,rfl,hl8,hm8,hrow8,hb9⟩
     have X9:=Lib.hid (X8.out.trans (hb9.mono X8.out.size))
     have S9:=Lib.hid (S8.out.ext hb9)
     have Q9:=Lib.hid (Q8.out.ext hb9)
     have R9:=Lib.hid hrow8
     have HM8:=Lib.hid hm8
     have hs9:=hb9.size
     have hg9':=S9.out.lt
     have hg8:=S8.out.lt
     have hl1:eg.length≤1000000000:=by
      have h:=(elems_szw HXZ.out HXT.out).1
      rw [HEG.out] at h;exact h
     have HGT:Hid (∀y∈eg,treeI y=true):=Lib.hid (by have h:=elems_tree HXT.out;rw [HEG.out] at h;exact h)
     have HGZ:Hid (∀y∈eg,SzV 1000000000 y):=Lib.hid (by have h:=(elems_szw HXZ.out HXT.out).2;rw [HEG.out] at h;exact h)
     have HWG:Hid (setW v=⟨3,emB,jd,nm,groupsW eg,false⟩):=Lib.hid (by unfold setW;rw [HGN.out,HXI.out,HN1.out,HJD.out,HNM.out,HEG.out];rfl)
     clear hb9 hrow8 hm8 HE2 HR0 HET HEZ HX0 HE
     go_wp2
     go_loopw [10] (fun s10 wr=>∃(k:Nat) (Aq:Option Addr) (cq:Nat),k≤eg.length∧s10=.int .i64 k∧Hid (Below w.heap.size w wr)∧Hid (wr.ownsRow w9.heap.size 9 1 (.slice Aq (groupsK eg k).length cq) (groupsK eg k).length (cellsS (groupsK eg k)))∧
      Hid (Row wr g #[.int .u8 3,.string ⟨#[]⟩,.string jd,.string nm,.slice Aq (groupsK eg k).length cq,.bool false,.bool false,.bool false,.bool false,.bool false,.bool false])∧Hid (Row wr w.heap.size (cW emW none 0))∧Hid (w9.heap.size≤wr.heap.size)∧Hid (∀b,b < w9.heap.size→b≠g→wr.heap[b]? = w9.heap[b]?)) (fun s10 _=>eg.length - (intOf s10).toNat)
     case atStart=>exact⟨0,none,0,Nat.zero_le _,rfl,X9,World.ownsRow_nil _ _ _ _,S9,Q9,Lib.hid (Nat.le_refl _),Lib.hid (fun _ _ _=>rfl)⟩
     case round=>
      obtain⟨k,Aq,cq,hk,rfl,HB,HO,HS,HQ,HSZ,HK⟩:=hrel
      by_cases hlt:k < eg.length
      ·obtain⟨y,hy⟩:∃y,eg[k]? = some y:=⟨_,List.getElem?_eq_getElem hlt⟩
       have hyt:=HGT.out y (List.mem_of_getElem? hy)
       have hyz:=HGZ.out y (List.mem_of_getElem? hy)
       have hy0:=(tree_parts hyt).1
       have hy0i:(0:Int) < (y.length:Int):=by omega
       have hre:=rdw_keep R9.out (by rw [←HM8.out,List.length_map]) hg8 HSZ.out HK.out
       rw [HM8.out] at hre
       obtain⟨b2,o2,rfl,hb2,hc2⟩:=hre (by omega)
       obtain⟨A4,c4,q0,hl4,hA4⟩:=hc2 k y hy
       have HA4:=Lib.hid hA4
       obtain⟨b3,o3,rfl,hb3,hc3⟩:=hA4 hy0
       obtain⟨r0,r1,r2,-⟩:=hc3 0 (nodeAt y 0) (node_get hy0)
       rw [Nat.zero_mul,Nat.add_zero] at r0 r1 r2
       have HIG:Box (isEl rosB (⟨#[103,114,111,117,112]⟩:ByteArray) y=(((nodeAt y 0).space.toList == [106,97,98,98,101,114,58,105,113,58,114,111,115,116,101,114]) && ((nodeAt y 0).name.toList == [103,114,111,117,112]))):=⟨by unfold isEl;rw [rosL,groupL]⟩
       generalize hn2:nodeAt y 0=n2 at *
       have HSC:=Lib.hid (groupsK_succ eg hy)
       have hel1:=hlt
       have HSD:=Lib.hid (fun W (hW:Ext wr.drew W)=>refsaid_any y (some ⟨b3,o3,none⟩) c4 W hl4 hyz ((HA4.out.below (ext_below hW) (Nat.le_refl _)).more (ext_below hW).size) hyt)
       clear hc2 hc3 hA4 hn2 hyt hyz hre
       cases i1:(n2.space.toList == [106,97,98,98,101,114,58,105,113,58,114,111,115,116,101,114])
       ·have HP:Hid (groupsK eg (k+1)=groupsK eg k):=Lib.hid (by rw [HSC.out,HIG.out,i1];rfl)
        go_wp2
        go_roundw
        case rel=>exact⟨k+1,Aq,cq,by omega,by go_num,HB,by rw [HP.out];exact HO,by rw [HP.out];exact HS,HQ,HSZ,HK⟩
        case measure=>simp [intOf];omega
       ·cases i2:(n2.name.toList == [103,114,111,117,112])
        ·have HP:Hid (groupsK eg (k+1)=groupsK eg k):=Lib.hid (by rw [HSC.out,HIG.out,i1,i2];rfl)
         go_wp2
         go_roundw
         case rel=>exact⟨k+1,Aq,cq,by omega,by go_num,HB,by rw [HP.out];exact HO,by rw [HP.out];exact HS,HQ,HSZ,HK⟩
         case measure=>simp [intOf];omega
        ·have HP:Hid (groupsK eg (k+1)=groupsK eg k++[saidI y]):=Lib.hid (by rw [HSC.out,HIG.out,i1,i2];rfl)
         have hgl:(groupsK eg k).length≤1000000000:=by
          unfold groupsK groupsW
          rw [List.length_map]
          have h1:=List.length_filter_le (isEl rosB (⟨#[103,114,111,117,112]⟩:ByteArray)) (eg.take k)
          rw [List.length_take] at h1
          omega
         have q4:=HS.out.at' 4 rfl
         have hgr:=HS.out.lt
         have ES:=Lib.hid (enters_of (P:=Tryz.prog) Tryz.func105 (by kernel_rfl) rfl)
         have G1:=Lib.hid (fun W (hW:Ext wr.drew W)=>((ext_below hW).cell (p:=⟨g,4,none⟩) hgr).trans q4)
         have G2:=Lib.hid (fun W (hW:Ext wr.drew W)=>((ext_below hW).cell (p:=⟨b2,o2+k,none⟩) hb2).trans q0)
         clear q4
         go_wp2_with fail
         refine wp_region_typed_tail 9 rfl (by kernel_rfl) (by kernel_rfl) (by kernel_rfl) ?_
         repeat (first|refine tw_ldL rfl rfl G1.out (wdA rfl) ?_|refine tw_ixW hlt hl1 rfl rfl rfl (wdA rfl) ?_|refine tw_ldV rfl rfl G2.out (wdA rfl) ?_|refine tw_fnB #[.slice (some ⟨b3,o3,none⟩) y.length c4,.int .i64 0] (.string (saidI y)) rfl (fun W=>ES.out _ W) rfl (wdA rfl) (fun W hW=>HSD.out W hW) ?_|refine tw_newS (saidI y) rfl rfl (wdA rfl) ?_|refine tw_skip (wd_no rfl rfl rfl) ?_|refine tw_mv (.inl rfl) rfl (wdA rfl) ?_|refine tw_mv (.inr rfl) rfl (wdA rfl) ?_|refine tw_pickL rfl rfl rfl (wdA rfl) ?_|refine tw_op1 _ rfl rfl (wdA rfl) (fun ρ W hW h1=>by simp only [execOp,h1];go_simp;first|done|rfl) ?_|refine tw_op2 _ rfl rfl rfl (wdA rfl) (fun ρ W hW h1 h2=>by simp only [execOp,h1,h2];go_simp;first|done|rfl) ?_)
         dsimp only [wpT,List.reverse,List.reverseAux,FinT,SlS1,List.take,List.drop]
         intro u9 W5 hW5 hu9
         obtain⟨g9,rfl,hg99⟩:=hu9.2
         simp only [Act.put,List.setIfInBounds_toArray,List.set_cons_zero,List.set_cons_succ]
         have hb5:Below wr.heap.size wr W5:=ext_below hW5
         have HO5:=Lib.hid (own_keep HO.out hb5)
         have HRD:=Lib.hid (rd_s1 (s:=saidI y) hg99)
         have HSZ5:Hid (w9.heap.size≤W5.heap.size):=Lib.hid (Nat.le_trans HSZ.out hb5.size)
         have HB5:=Lib.hid (HB.out.trans (hb5.mono HB.out.size))
         have HS5:=Lib.hid (HS.out.ext hb5)
         have HQ5:=Lib.hid (HQ.out.ext hb5)
         have HK5:Hid (∀b,b < w9.heap.size→b≠g→W5.heap[b]? = w9.heap[b]?):=Lib.hid (fun b hb1 hb2=>(hb5.block b (Nat.lt_of_lt_of_le hb1 HSZ.out)).trans (HK.out b hb1 hb2))
         have hwl:w.heap.size < w9.heap.size:=by omega
         clear hW5 hu9 hg99 hb5 G1 G2 HSD ES
         go_wp2_with (at_builtin;refine app_strs rfl _ _ rfl w9.heap.size _ (groupsK eg k).length (groupsK eg k) rfl HO5.out _ _ _ _ [saidI y] rfl HRD.out (by omega) HSZ5.out ?_)
         intro v2 w2 ow2 hg2 _
         obtain⟨A2,c2,rfl⟩:=own_form ow2
         have k2:=Lib.hid ((Below.refl w9.heap.size W5).grown hg2 HSZ5.out (fun q hq=>(HO5.out.lt q hq).1))
         have HO2:=Lib.hid ow2
         have HB2:Hid (Below w.heap.size w w2):=Lib.hid (HB5.out.trans (k2.out.mono (by omega)))
         have HS2:=Lib.hid (HS5.out.extB k2.out hg9')
         have HQ2:=Lib.hid (HQ5.out.extB k2.out hwl)
         have HSZ2:Hid (w9.heap.size≤w2.heap.size):=Lib.hid (Nat.le_trans HSZ5.out k2.out.size)
         have HK2:Hid (∀b,b < w9.heap.size→b≠g→w2.heap[b]? = w9.heap[b]?):=Lib.hid (fun b hb1 hb2=>(k2.out.block b hb1).trans (HK5.out b hb1 hb2))
         have e4:=HS2.out.at' 4 rfl
         have f4:=HS2.out.fz 4
         have HGE:Hid (w.heap.size≤g):=Lib.hid (by omega)
         clear ow2 hg2 k2 HO5 HRD
         go_wp2
         go_roundw
         case rel=>
          refine⟨k+1,A2,c2,by omega,by go_num,Lib.hid (HB2.out.setCell (p:=⟨g,4,none⟩) HGE.out _),Lib.hid ?_,Lib.hid ?_,Lib.hid (HQ2.out.other hgn 4 _),Lib.hid (by simpa [World.setCell] using HSZ2.out),Lib.hid (fun b hb1 hb2=>(heap_setCell_other w2 _ b _ hb2).trans (HK2.out b hb1 hb2))⟩
          ·rw [HP.out,List.length_append]
           exact own_set HO2.out (fun e=>by have:=(HO2.out.lt _ e).1;omega) _
          ·rw [HP.out,List.length_append]
           exact HS2.out.set 4 _
         case measure=>simp [intOf];omega
      ·obtain rfl:k=eg.length:=by omega
       have hgk:groupsK eg eg.length=groupsW eg:=by unfold groupsK;rw [List.take_length]
       rw [hgk] at HO HS
       have HO2:Hid (∀(w1:World),Below w.heap.size w w1→RdSB w.heap.size w1 Aq (groupsW eg)→SetPost v w (.returned (.tuple #[.agg #[.int .u8 3,.string ⟨#[]⟩,.string jd,.string nm,.slice Aq (groupsW eg).length cq,.bool false,.bool false,.bool false,.bool false,.bool false,.bool false],.bool true])) w1):=Lib.hid (fun w1 hb hrd=>by
        have e:setR v=⟨3,emB,jd,nm,groupsW eg,false⟩:=by rw [HSR.out,HO1.out,if_pos rfl];exact HWG.out
        unfold SetPost
        rw [e,HO1.out]
        exact⟨Aq,cq,rfl,own_le HO.out,hrd,hb⟩)
       have HLT:=Lib.hid (show w.heap.size < w9.heap.size by omega)
       generalize hgw2:groupsW eg=gs at *
       clear hgk hgw2 HWG
       have a0:wr.cell? ⟨g,0,none⟩=some _:=HS.out.at' 0 rfl
       have a1:wr.cell? ⟨g,1,none⟩=some _:=HS.out.at' 1 rfl
       have a2:wr.cell? ⟨g,2,none⟩=some _:=HS.out.at' 2 rfl
       have a3:wr.cell? ⟨g,3,none⟩=some _:=HS.out.at' 3 rfl
       have a4:wr.cell? ⟨g,4,none⟩=some _:=HS.out.at' 4 rfl
       have a5:wr.cell? ⟨g,5,none⟩=some _:=HS.out.at' 5 rfl
       have a6:wr.cell? ⟨g,6,none⟩=some _:=HS.out.at' 6 rfl
       have a7:wr.cell? ⟨g,7,none⟩=some _:=HS.out.at' 7 rfl
       have a8:wr.cell? ⟨g,8,none⟩=some _:=HS.out.at' 8 rfl
       have a9:wr.cell? ⟨g,9,none⟩=some _:=HS.out.at' 9 rfl
       have a10:wr.cell? ⟨g,10,none⟩=some _:=HS.out.at' 10 rfl
       have b0:wr.cell? ⟨w.heap.size,0,none⟩=some _:=HQ.out.at' 0 rfl
       have b1:wr.cell? ⟨w.heap.size,1,none⟩=some _:=HQ.out.at' 1 rfl
       have b2:wr.cell? ⟨w.heap.size,2,none⟩=some _:=HQ.out.at' 2 rfl
       have b3:wr.cell? ⟨w.heap.size,3,none⟩=some _:=HQ.out.at' 3 rfl
       have b4:wr.cell? ⟨w.heap.size,4,none⟩=some _:=HQ.out.at' 4 rfl
       have b5:wr.cell? ⟨w.heap.size,5,none⟩=some _:=HQ.out.at' 5 rfl
       have b6:wr.cell? ⟨w.heap.size,6,none⟩=some _:=HQ.out.at' 6 rfl
       have b7:wr.cell? ⟨w.heap.size,7,none⟩=some _:=HQ.out.at' 7 rfl
       have b8:wr.cell? ⟨w.heap.size,8,none⟩=some _:=HQ.out.at' 8 rfl
       have b9:wr.cell? ⟨w.heap.size,9,none⟩=some _:=HQ.out.at' 9 rfl
       have b10:wr.cell? ⟨w.heap.size,10,none⟩=some _:=HQ.out.at' 10 rfl
       have f0:wr.frozen? ⟨w.heap.size,0,none⟩=false:=HQ.out.fz 0
       have f1:wr.frozen? ⟨w.heap.size,1,none⟩=false:=HQ.out.fz 1
       have f2:wr.frozen? ⟨w.heap.size,2,none⟩=false:=HQ.out.fz 2
       have f3:wr.frozen? ⟨w.heap.size,3,none⟩=false:=HQ.out.fz 3
       have f4:wr.frozen? ⟨w.heap.size,4,none⟩=false:=HQ.out.fz 4
       have f5:wr.frozen? ⟨w.heap.size,5,none⟩=false:=HQ.out.fz 5
       have f6:wr.frozen? ⟨w.heap.size,6,none⟩=false:=HQ.out.fz 6
       have f7:wr.frozen? ⟨w.heap.size,7,none⟩=false:=HQ.out.fz 7
       have f8:wr.frozen? ⟨w.heap.size,8,none⟩=false:=HQ.out.fz 8
       have f9:wr.frozen? ⟨w.heap.size,9,none⟩=false:=HQ.out.fz 9
       have f10:wr.frozen? ⟨w.heap.size,10,none⟩=false:=HQ.out.fz 10
       go_wp2
       exact bodyPost_ret (v:=.tuple #[.agg #[.int .u8 3,.string ⟨#[]⟩,.string jd,.string nm,.slice Aq gs.length cq,.bool false,.bool false,.bool false,.bool false,.bool false,.bool false],.bool true])
        (by
         obtain⟨tt,hh⟩:=put11_row HQ.out (.int .u8 3) (.string ⟨#[]⟩) (.string jd) (.string nm) (.slice Aq gs.length cq) (.bool false) (.bool false) (.bool false) (.bool false) (.bool false) (.bool false)
         exact results_jid (fn:=Tryz.f112) (p:=2) (s:=3) (ty:=56) rfl _ _ w.heap.size _ _ _ _ rfl rfl hh Tryz.underlying56 (by kernel_rfl)) rfl
        (HO2.out _ (put11_below HB.out (Nat.le_refl _) _ _ _ _ _ _ _ _ _ _ _) ((rds_own (own_at HO.out (fun q hq1 hq2=>put11_other (by have:=HLT.out;omega) _ _ _ _ _ _ _ _ _ _ _)) rfl).mono (Nat.le_of_lt HLT.out)))
    ·have HO2:Hid (∀(w1:World),Below w.heap.size w w1→SetPost v w (.returned (.tuple #[encW (wantG jd true) none 0,.bool true])) w1):=Lib.hid (fun w1 hb=>by
      have e:setR v=wantG jd true:=by rw [HSR.out,HO1.out,if_pos rfl];unfold setW;rw [HGN.out,if_pos rfl,HXI.out,HN1.out,HJD.out];rfl
      unfold SetPost
      rw [e,HO1.out]
      exact⟨none,0,rfl,Nat.le_refl _,fun h0=>absurd h0 (Nat.lt_irrefl 0),hb⟩)
     have b0:W6.cell? ⟨w.heap.size,0,none⟩=some _:=Q6.out.at' 0 rfl
     have b1:W6.cell? ⟨w.heap.size,1,none⟩=some _:=Q6.out.at' 1 rfl
     have b2:W6.cell? ⟨w.heap.size,2,none⟩=some _:=Q6.out.at' 2 rfl
     have b3:W6.cell? ⟨w.heap.size,3,none⟩=some _:=Q6.out.at' 3 rfl
     have b4:W6.cell? ⟨w.heap.size,4,none⟩=some _:=Q6.out.at' 4 rfl
     have b5:W6.cell? ⟨w.heap.size,5,none⟩=some _:=Q6.out.at' 5 rfl
     have b6:W6.cell? ⟨w.heap.size,6,none⟩=some _:=Q6.out.at' 6 rfl
     have b7:W6.cell? ⟨w.heap.size,7,none⟩=some _:=Q6.out.at' 7 rfl
     have b8:W6.cell? ⟨w.heap.size,8,none⟩=some _:=Q6.out.at' 8 rfl
     have b9:W6.cell? ⟨w.heap.size,9,none⟩=some _:=Q6.out.at' 9 rfl
     have b10:W6.cell? ⟨w.heap.size,10,none⟩=some _:=Q6.out.at' 10 rfl
     have f0:W6.frozen? ⟨w.heap.size,0,none⟩=false:=Q6.out.fz 0
     have f1:W6.frozen? ⟨w.heap.size,1,none⟩=false:=Q6.out.fz 1
     have f2:W6.frozen? ⟨w.heap.size,2,none⟩=false:=Q6.out.fz 2
     have f3:W6.frozen? ⟨w.heap.size,3,none⟩=false:=Q6.out.fz 3
     have f4:W6.frozen? ⟨w.heap.size,4,none⟩=false:=Q6.out.fz 4
     have f5:W6.frozen? ⟨w.heap.size,5,none⟩=false:=Q6.out.fz 5
     have f6:W6.frozen? ⟨w.heap.size,6,none⟩=false:=Q6.out.fz 6
     have f7:W6.frozen? ⟨w.heap.size,7,none⟩=false:=Q6.out.fz 7
     have f8:W6.frozen? ⟨w.heap.size,8,none⟩=false:=Q6.out.fz 8
     have f9:W6.frozen? ⟨w.heap.size,9,none⟩=false:=Q6.out.fz 9
     have f10:W6.frozen? ⟨w.heap.size,10,none⟩=false:=Q6.out.fz 10
     go_wp2
     exact bodyPost_ret (v:=.tuple #[encW (wantG jd true) none 0,.bool true])
      (by
       obtain⟨tt,hh⟩:=put11_row Q6.out (.int .u8 3) (.string ⟨#[]⟩) (.string jd) (.string ⟨#[]⟩) (.slice none 0 0) (.bool false) (.bool false) (.bool false) (.bool false) (.bool false) (.bool true)
       exact results_jid (fn:=Tryz.f112) (p:=2) (s:=3) (ty:=56) rfl _ _ w.heap.size _ _ _ _ rfl rfl hh Tryz.underlying56 (by kernel_rfl)) rfl
      (HO2.out _ (put11_below X6.out (Nat.le_refl _) _ _ _ _ _ _ _ _ _ _ _))
 ·have hN:((ev.length:Int) != 1)=true:=by rw [bne_iff_ne];omega
  have HO1:=Lib.hid (HOW.out (by rw [HON.out,decide_eq_false h1];rfl))
  have a0:w1.cell? ⟨w.heap.size,0,none⟩=some _:=Q1.out.at' 0 rfl
  have a1:w1.cell? ⟨w.heap.size,1,none⟩=some _:=Q1.out.at' 1 rfl
  have a2:w1.cell? ⟨w.heap.size,2,none⟩=some _:=Q1.out.at' 2 rfl
  have a3:w1.cell? ⟨w.heap.size,3,none⟩=some _:=Q1.out.at' 3 rfl
  have a4:w1.cell? ⟨w.heap.size,4,none⟩=some _:=Q1.out.at' 4 rfl
  have a5:w1.cell? ⟨w.heap.size,5,none⟩=some _:=Q1.out.at' 5 rfl
  have a6:w1.cell? ⟨w.heap.size,6,none⟩=some _:=Q1.out.at' 6 rfl
  have a7:w1.cell? ⟨w.heap.size,7,none⟩=some _:=Q1.out.at' 7 rfl
  have a8:w1.cell? ⟨w.heap.size,8,none⟩=some _:=Q1.out.at' 8 rfl
  have a9:w1.cell? ⟨w.heap.size,9,none⟩=some _:=Q1.out.at' 9 rfl
  have a10:w1.cell? ⟨w.heap.size,10,none⟩=some _:=Q1.out.at' 10 rfl
  have f0:w1.frozen? ⟨w.heap.size,0,none⟩=false:=Q1.out.fz 0
  have f1:w1.frozen? ⟨w.heap.size,1,none⟩=false:=Q1.out.fz 1
  have f2:w1.frozen? ⟨w.heap.size,2,none⟩=false:=Q1.out.fz 2
  have f3:w1.frozen? ⟨w.heap.size,3,none⟩=false:=Q1.out.fz 3
  have f4:w1.frozen? ⟨w.heap.size,4,none⟩=false:=Q1.out.fz 4
  have f5:w1.frozen? ⟨w.heap.size,5,none⟩=false:=Q1.out.fz 5
  have f6:w1.frozen? ⟨w.heap.size,6,none⟩=false:=Q1.out.fz 6
  have f7:w1.frozen? ⟨w.heap.size,7,none⟩=false:=Q1.out.fz 7
  have f8:w1.frozen? ⟨w.heap.size,8,none⟩=false:=Q1.out.fz 8
  have f9:w1.frozen? ⟨w.heap.size,9,none⟩=false:=Q1.out.fz 9
  have f10:w1.frozen? ⟨w.heap.size,10,none⟩=false:=Q1.out.fz 10
  go_wp2
  exact bodyPost_ret (v:=.tuple #[encW emW none 0,.bool false])
   (by
    obtain⟨tt,hh⟩:=put11_row Q1.out (.int .u8 0) (.string ⟨#[]⟩) (.string ⟨#[]⟩) (.string ⟨#[]⟩) (.slice none 0 0) (.bool false) (.bool false) (.bool false) (.bool false) (.bool false) (.bool false)
    exact results_jid (fn:=Tryz.f112) (p:=2) (s:=3) (ty:=56) rfl _ _ w.heap.size _ _ _ _ rfl rfl hh Tryz.underlying56 (by kernel_rfl)) rfl
   (HO1.out _ (put11_below X1.out (Nat.le_refl _) _ _ _ _ _ _ _ _ _ _ _))
end Go.Proofs.YtnmnpnofdgdigaaGreatDoor
end
