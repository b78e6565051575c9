/- Part 25 of a proof laid in parts, one behind the other; no condition of its own. -/
import Derived.Test.YtnmnpnofdgdigaaGreatDoorZ24
import Derived.Test.YtnmnpnofdgdigaaGreatDoorZ09
import Derived.Deep.RegionHeld3
set_option linter.all false
section
namespace Go.Proofs.YtnmnpnofdgdigaaGreatDoor
open Go.RowKit
set_option linter.unusedSimpArgs false
set_option linter.unusedVariables false
set_option maxHeartbeats 4000000 in
set_option maxRecDepth 10000 in
theorem refput_node (n:NodeL) (A:Option Addr) (c:Nat) (l:List (List NodeL)) (Al:Option Addr) (cl:Nat) (w:World) (hn:SzN 1000000000 n) (hr:RdA w w.heap.size A n.attrs) (hc:n.attrs.length≤c) (hz:SzW l) (hl:RdW w w.heap.size Al l) :
  Calls Tryz.prog 95 #[encN n A c,.slice Al l.length cl] w (PutPost n l w):=by
 obtain⟨W1,hW1⟩:∃W1,W1=w.alloc (.cells #[.int .u8 n.kind,.string n.space,.string n.name,.slice A n.attrs.length c,.string n.text,.int .i64 0] 36):=⟨_,rfl⟩
 have hX1:Below w.heap.size w W1:=by rw [hW1];exact(Below.refl _ _).alloc (Nat.le_refl _) _
 have hs1:W1.heap.size=w.heap.size+1:=by rw [hW1];simp
 have hN1:W1.heap[w.heap.size]? = some (.cells #[.int .u8 n.kind,.string n.space,.string n.name,.slice A n.attrs.length c,.string n.text,.int .i64 0] 36 (0,0)):=by
  rw [hW1];exact heap_alloc_new w _
 obtain⟨W2,hW2⟩:∃W2,W2=W1.alloc (.cells #[.int .u8 n.kind,.string n.space,.string n.name,.slice A n.attrs.length c,.string n.text,.int .i64 0] 36):=⟨_,rfl⟩
 have hX2':Below W1.heap.size W1 W2:=by rw [hW2];exact(Below.refl _ _).alloc (Nat.le_refl _) _
 have hX2:Below w.heap.size w W2:=hX1.trans (hX2'.mono hX1.size)
 have hN2:W2.heap[w.heap.size]? = some (.cells #[.int .u8 n.kind,.string n.space,.string n.name,.slice A n.attrs.length c,.string n.text,.int .i64 0] 36 (0,0)):=heap_ext hN1 hX2'
 have hM2:W2.heap[w.heap.size+1]? = some (.cells #[.int .u8 n.kind,.string n.space,.string n.name,.slice A n.attrs.length c,.string n.text,.int .i64 0] 36 (0,0)):=by
  rw [hW2,←hs1];exact heap_alloc_new W1 _
 have hs2:W2.heap.size=w.heap.size+2:=by rw [hW2];simp [hs1]
 have hz1:SzV 1000000000 [manyM n 0]:=⟨by show 1≤_;omega,fun x hx=>by rw [List.mem_singleton.1 hx];exact manyM_sz hn (by omega) (by omega)⟩
 have H1:=Lib.hid (refmay10_any [manyM n 0] (some ⟨w.heap.size+1,0,none⟩) 1 W2 (Nat.le_refl _) hz1 (rdv_one (n:=manyM n 0) hM2 (by omega) ((hr.below hX2 (Nat.le_refl _)).more hX2.size) hc))
 have hL1:([manyM n 0]:List NodeL).length=1:=rfl
 try rw [hL1] at H1
 have HN2:=Lib.hid hN2
 have HX2:=Lib.hid hX2
 have HS2:=Lib.hid hs2
 have HW:=Lib.hid (show W2=_ from hW2.trans (by rw [hW1]))
 have HR:=Lib.hid hr
 have HRL:=Lib.hid hl
 have HZL:=Lib.hid hz
 have HZN:=Lib.hid hn
 have HC:=Lib.hid hc
 have hll:=hz.1
 clear hW1 hX1 hs1 hN1 hW2 hX2' hX2 hN2 hM2 hz1 hL1 hr hl hz hn hs2
 unfold encN
 cases htr:treeI [manyM n 0]
 ·rw [htr] at H1
  have HE:=Lib.hid (putE_0 (l:=l) htr)
  clear htr
  go_enter Tryz.func95,Tryz.ntmps95
  go_wp2_with fail
  rw [←HW.out]
  refine H1.out.mono ?_
  rintro e w1 ⟨rfl,hb⟩
  have X1:=Lib.hid (HX2.out.trans (hb.mono HX2.out.size))
  clear hb
  go_wp2
  go_ret2
  exact PutPost.no X1.out HE.out (by decide)
 ·rw [htr] at H1
  have HT:=Lib.hid htr
  clear htr
  go_enter Tryz.func95,Tryz.ntmps95
  go_wp2_with fail
  rw [←HW.out]
  refine H1.out.mono ?_
  rintro e w1 ⟨rfl,hb⟩
  have X1:=Lib.hid (HX2.out.trans (hb.mono HX2.out.size))
  have HN1:=Lib.hid (heap_ext HN2.out hb)
  have HN1X:=Lib.hid (show Below w1.heap.size w1 w1 from Below.refl _ _)
  clear hb
  go_wp2
  go_loopw [7,8] (fun s7 _ wr=>∃k:Nat,k≤l.length∧s7=.int .i64 k∧Hid (Below w1.heap.size w1 wr)∧Hid (∀(j:Nat) (y:List NodeL),j < k→l[j]? = some y→partOK y=true)) (fun s7 _ _=>l.length - (intOf s7).toNat)
  case atStart=>exact⟨0,Nat.zero_le _,rfl,HN1X,Lib.hid (fun j y hj=>absurd hj (by omega))⟩
  case round=>
   obtain⟨k,hk,rfl,HB1,HP⟩:=hrel
   have HB:=Lib.hid (X1.out.trans (HB1.out.mono X1.out.size))
   by_cases hlt:k < l.length
   ·obtain⟨v,hv⟩:∃v,l[k]? = some v:=⟨_,List.getElem?_eq_getElem hlt⟩
    have HV:=Lib.hid hv
    have hzv:=HZL.out.2 v (List.mem_of_getElem? hv)
    obtain⟨b,off,rfl,hb,hcc⟩:=HRL.out (by omega)
    obtain⟨A',c',d0,hl',hA'⟩:=hcc k v hv
    have e0:=(HB.out.cell (p:=⟨b,off+k,none⟩) hb).trans d0
    have HMAY:=Lib.hid (fun W (hW:Below w1.heap.size w1 W)=>refmay10_any v A' c' W hl' hzv ((hA'.below (X1.out.trans (hW.mono X1.out.size)) (Nat.le_refl _)).more (X1.out.trans (hW.mono X1.out.size)).size))
    have HOK:Box (partOK v=(textT v || treeI v)):=⟨rfl⟩
    have HNX:Hid (partOK v=true→∀(j:Nat) (y:List NodeL),j < k+1→l[j]? = some y→partOK y=true):=Lib.hid (fun h j y hj hy=>by
     rcases Nat.lt_or_ge j k with h1|h1
     ·exact HP.out j y h1 hy
     ·obtain rfl:j=k:=by omega
      rw [HV.out] at hy
      simp only [Option.some.injEq] at hy
      rw [←hy];exact h)
    have HNO:Hid (partOK v=false→putE n l=8):=Lib.hid (fun h=>putE_1 HT.out (List.any_eq_true.2 ⟨v,List.mem_of_getElem? HV.out,by rw [h];rfl⟩))
    have HTT:Box (textT v=(decide (v.length=1) && decide ((nodeAt v 0).kind=2) && nodeI (nodeAt v 0))):=⟨rfl⟩
    generalize partOK v=pv at *
    generalize textT v=xv at *
    generalize treeI v=tv at *
    clear hv hcc d0
    by_cases h1:v.length=1
    ·obtain⟨n1,rfl⟩:=one_of h1
     obtain⟨b1,o1,rfl,hb1,hc1⟩:=hA' (by simp)
     obtain⟨f0,f1,f2,⟨A2,c2,f3,hl2,hA2⟩,f4,f5⟩:=hc1 0 n1 rfl
     rw [Nat.zero_mul,Nat.add_zero] at f0 f1 f2 f3 f4 f5
     have g0:=(HB.out.cell (p:=⟨b1,o1,none⟩) hb1).trans f0
     have g1:=(HB.out.cell (p:=⟨b1,o1+1,none⟩) hb1).trans f1
     have g2:=(HB.out.cell (p:=⟨b1,o1+2,none⟩) hb1).trans f2
     have g3:=(HB.out.cell (p:=⟨b1,o1+3,none⟩) hb1).trans f3
     have g4:=(HB.out.cell (p:=⟨b1,o1+4,none⟩) hb1).trans f4
     have g5:=(HB.out.cell (p:=⟨b1,o1+5,none⟩) hb1).trans f5
     have HN1:=Lib.hid (refmay_node n1 A2 c2 wr ((hA2.below HB.out (Nat.le_refl _)).more HB.out.size) hl2 (hzv.2 n1 (List.mem_singleton.2 rfl)))
     have HTX:Box (xv=(decide (n1.kind=2) && nodeI n1)):=⟨by rw [HTT.out];unfold nodeAt;simp⟩
     unfold encN at HN1
     rw [show([n1]:List NodeL).length=1 from rfl] at e0 HMAY
     clear hc1 f0 f1 f2 f3 f4 f5 hA2 hl2 hzv hA' hl' HTT h1
     by_cases hk2:n1.kind=2
     ·have hk':(n1.kind == 2)=true:=by rw [beq_iff_eq];exact hk2
      cases hq:nodeI n1
      ·rw [hq] at HN1
       have HTF:Box (xv=false):=⟨by rw [HTX.out,hq,Bool.and_false]⟩
       clear hq hk2 HTX
       go_wp2_with fail
       refine HN1.out.mono ?_
       rintro e w3 ⟨rfl,hb3⟩
       have Y1:=Lib.hid (HB1.out.trans (hb3.mono HB1.out.size))
       have h0':=(hb3.cell (p:=⟨b,off+k,none⟩) (Nat.lt_of_lt_of_le hb HB.out.size)).trans e0
       clear hb3
       cases tv
       all_goals
        go_wp2_with fail
        refine(HMAY.out _ Y1.out).mono ?_
        rintro e w2 ⟨rfl,hb2⟩
        have X2:=Lib.hid (Y1.out.trans (hb2.mono Y1.out.size))
        clear hb2
       ·have HE:=Lib.hid (HNO.out (by rw [HOK.out,HTF.out];rfl))
        go_wp2
        go_ret2
        exact PutPost.no (X1.out.trans (X2.out.mono X1.out.size)) HE.out (by decide)
       ·have HNX2:=Lib.hid (HNX.out (by rw [HOK.out,HTF.out];rfl))
        go_wp2
        go_roundw
        case rel=>exact⟨k+1,by omega,by go_num,X2,HNX2⟩
        case measure=>simp [intOf];omega
      ·rw [hq] at HN1
       have HNX2:=Lib.hid (HNX.out (by rw [HOK.out,HTX.out,hq,decide_eq_true hk2];rfl))
       clear hq hk2 HTX
       go_wp2_with fail
       refine HN1.out.mono ?_
       rintro e w3 ⟨rfl,hb3⟩
       have Y1:=Lib.hid (HB1.out.trans (hb3.mono HB1.out.size))
       clear hb3
       go_wp2
       go_roundw
       case rel=>exact⟨k+1,by omega,by go_num,Y1,HNX2⟩
       case measure=>simp [intOf];omega
     ·have hk':(n1.kind == 2)=false:=by rw [beq_eq_false_iff_ne];exact hk2
      have HTF:Box (xv=false):=⟨by rw [HTX.out,decide_eq_false hk2,Bool.false_and]⟩
      clear hk2 HTX
      cases tv
      all_goals
       go_wp2_with fail
       refine(HMAY.out _ HB1.out).mono ?_
       rintro e w2 ⟨rfl,hb2⟩
       have X2:=Lib.hid (HB1.out.trans (hb2.mono HB1.out.size))
       clear hb2
      ·have HE:=Lib.hid (HNO.out (by rw [HOK.out,HTF.out];rfl))
       go_wp2
       go_ret2
       exact PutPost.no (X1.out.trans (X2.out.mono X1.out.size)) HE.out (by decide)
      ·have HNX2:=Lib.hid (HNX.out (by rw [HOK.out,HTF.out];rfl))
       go_wp2
       go_roundw
       case rel=>exact⟨k+1,by omega,by go_num,X2,HNX2⟩
       case measure=>simp [intOf];omega
    ·have h1':((v.length:Int) == 1)=false:=by rw [beq_eq_false_iff_ne];omega
     have HTF:Box (xv=false):=⟨by rw [HTT.out,decide_eq_false h1];rfl⟩
     clear h1 HTT hzv hA' hl'
     generalize v.length=N at *
     cases tv
     all_goals
      go_wp2_with fail
      refine(HMAY.out _ HB1.out).mono ?_
      rintro e w2 ⟨rfl,hb2⟩
      have X2:=Lib.hid (HB1.out.trans (hb2.mono HB1.out.size))
      clear hb2
     ·have HE:=Lib.hid (HNO.out (by rw [HOK.out,HTF.out];rfl))
      go_wp2
      go_ret2
      exact PutPost.no (X1.out.trans (X2.out.mono X1.out.size)) HE.out (by decide)
     ·have HNX2:=Lib.hid (HNX.out (by rw [HOK.out,HTF.out];rfl))
      go_wp2
      go_roundw
      case rel=>exact⟨k+1,by omega,by go_num,X2,HNX2⟩
      case measure=>simp [intOf];omega
   ·obtain rfl:k=l.length:=by omega
    have HA:Hid (l.any (fun v=>!partOK v)=false):=Lib.hid (List.any_eq_false.2 (fun v hv=>by
     obtain⟨i,hi,rfl⟩:=List.mem_iff_getElem.1 hv
     rw [HP.out i _ hi (List.getElem?_eq_getElem hi)]
     decide))
    go_wp2
    go_loop [6,9] (fun s6 s9=>∃k:Nat,k≤l.length∧s9=.int .i64 k∧s6=.int .i64 ((laidK n l k).length:Int)∧(laidK n l k).length≤1+k*1000000000) (fun _ s9=>l.length - (intOf s9).toNat)
    case atStart=>exact⟨0,Nat.zero_le _,rfl,rfl,by rw [laidK_zero];simp⟩
    case round=>
     obtain⟨k,hk,rfl,rfl,hsum⟩:=hrel
     by_cases hlt:k < l.length
     ·obtain⟨v,hv⟩:∃v,l[k]? = some v:=⟨_,List.getElem?_eq_getElem hlt⟩
      have hzv:=(HZL.out.2 v (List.mem_of_getElem? hv)).1
      obtain⟨b,off,rfl,hb,hcc⟩:=HRL.out (by omega)
      obtain⟨A',c',d0,hl',hA'⟩:=hcc k v hv
      have e0:=(HB.out.cell (p:=⟨b,off+k,none⟩) hb).trans d0
      have HQ:Hid ((laidK n l (k+1)).length=(laidK n l k).length+v.length):=Lib.hid (by rw [laidK_succ n l hv,List.length_append])
      clear hv hcc d0 hl' hA'
      generalize (laidK n l k).length=S at *
      generalize v.length=N at *
      go_wp2
      go_round
      case rel=>exact⟨k+1,by omega,by go_num,by rw [HQ.out];go_num,by rw [HQ.out];omega⟩
      case measure=>simp [intOf];omega
     ·obtain rfl:k=l.length:=by omega
      rw [laidK_all] at *
      by_cases h512:512 < (joinV n l).length
      ·have HE:=Lib.hid (putE_2 HT.out HA.out h512)
       generalize (joinV n l).length=S at *
       have h512':(512:Int) < (S:Int):=by omega
       go_wp2
       go_ret2
       exact PutPost.no HB.out HE.out (by decide)
      ·have HE3:=Lib.hid (putE_3 HT.out HA.out h512)
       have h512':¬(512:Int) < ((joinV n l).length:Int):=by omega
       have H512:=Lib.hid h512
       have HN4:=Lib.hid (heap_ext HN1.out HB1.out)
       have hlt4:w.heap.size < wr.heap.size:=(Array.getElem?_eq_some_iff.1 HN4.out).1
       have c0:wr.cell? ⟨w.heap.size,0,none⟩=some (.int .u8 n.kind):=by simp [World.cell?,HN4.out]
       have c1:wr.cell? ⟨w.heap.size,1,none⟩=some (.string n.space):=by simp [World.cell?,HN4.out]
       have c2:wr.cell? ⟨w.heap.size,2,none⟩=some (.string n.name):=by simp [World.cell?,HN4.out]
       have c3:wr.cell? ⟨w.heap.size,3,none⟩=some (.slice A n.attrs.length c):=by simp [World.cell?,HN4.out]
       have c4:wr.cell? ⟨w.heap.size,4,none⟩=some (.string n.text):=by simp [World.cell?,HN4.out]
       have c5:wr.cell? ⟨w.heap.size,5,none⟩=some (.int .i64 0):=by simp [World.cell?,HN4.out]
       have f5:=frozen_of_row wr w.heap.size 5 _ _ HN4.out
       obtain⟨W5,hW5⟩:∃W5,W5=wr.setCell ⟨w.heap.size,5,none⟩ (.int .i64 (l.length:Int)):=⟨_,rfl⟩
       obtain⟨W6,hW6⟩:∃W6,W6=W5.alloc (.cells #[.int .u8 n.kind,.string n.space,.string n.name,.slice A n.attrs.length c,.string n.text,.int .i64 (l.length:Int)] 36):=⟨_,rfl⟩
       have hs5:W5.heap.size=wr.heap.size:=by rw [hW5];simp [World.setCell]
       have hX5:Below w.heap.size w W5:=by rw [hW5];exact HB.out.setCell (p:=⟨w.heap.size,5,none⟩) (Nat.le_refl _) _
       have HX6:Hid (Below w.heap.size w W6):=by rw [hW6];exact Lib.hid (hX5.alloc hX5.size _)
       have HO6:Hid (W6.ownsRow w.heap.size 36 6 (.slice (some ⟨wr.heap.size,0,none⟩) 1 1) 1 (cellsN [(manyM n l.length,A,c)])):=by
        rw [hW6,←hs5]
        exact Lib.hid (World.ownsRow_lit W5 #[.int .u8 n.kind,.string n.space,.string n.name,.slice A n.attrs.length c,.string n.text,.int .i64 (l.length:Int)] 1 (by omega) (by decide) rfl)
       have HW6:=Lib.hid (hW6.trans (by rw [hW5]))
       clear hW5 hs5 hX5 hW6
       clear HP h512
       generalize (joinV n l).length=S at h512' hsum
       go_wp2
       rw [←HW6.out]
       go_loopw [10,11] (fun s10 s11 wr=>∃(k:Nat) (hs:List NodeH),k≤l.length∧s11=.int .i64 k∧Hid (Below w.heap.size w wr)∧Hid (wr.ownsRow w.heap.size 36 6 s10 hs.length (cellsN hs))∧Hid (hs.map (·.1)=laidK n l k)∧Hid (HeldA w w.heap.size hs)∧hs.length≤512) (fun _ s11 _=>l.length - (intOf s11).toNat)
       case atStart=>exact⟨0,[(manyM n l.length,A,c)],Nat.zero_le _,rfl,HX6,HO6,Lib.hid rfl,Lib.hid (fun i x hi=>by
        cases i with
        | succ i=>simp at hi
        | zero=>
         simp only [List.getElem?_cons_zero,Option.some.injEq] at hi
         subst hi
         exact⟨HC.out,HR.out⟩),by simp⟩
       case round=>
        obtain⟨k,hs,hk,rfl,HB,HO,HM,HH,hlen⟩:=hrel
        obtain⟨A7,c7,rfl⟩:=own_form HO.out
        by_cases hlt:k < l.length
        ·obtain⟨v,hv⟩:∃v,l[k]? = some v:=⟨_,List.getElem?_eq_getElem hlt⟩
         have HV:=Lib.hid hv
         have hzv:=(HZL.out.2 v (List.mem_of_getElem? hv)).1
         obtain⟨b,off,rfl,hb,hcc⟩:=HRL.out (by omega)
         obtain⟨A',c',d0,hl',hA'⟩:=hcc k v hv
         have e0:=(HB.out.cell (p:=⟨b,off+k,none⟩) hb).trans d0
         obtain⟨m,hm,hrd,hheld⟩:=rdv_rd hA'
         have HRD:=Lib.hid (hrd.below HB.out (Nat.le_refl _))
         have HHD:=Lib.hid hheld
         have HMM:=Lib.hid hm
         have hBs:=HB.out.size
         clear hv hcc d0 hl' hA' hm hrd hheld
         go_wp2_with (at_builtin;refine app_nodes rfl _ _ rfl w.heap.size _ hs.length hs rfl HO.out _ _ _ _ m rfl HRD.out (by omega) (by omega) ?_)
         intro v4 w4 hown4 hg4 hbk
         obtain⟨A8,c8,rfl⟩:=own_form hown4
         have HX8:Hid (Below w.heap.size w w4):=Lib.hid (HB.out.grown hg4 HB.out.size (fun q hq=>(HO.out.lt q hq).1))
         have HO8:=Lib.hid hown4
         clear hown4 hg4 hbk
         have HMV:Hid ((hs++m).map (·.1)=laidK n l (k+1)):=Lib.hid (by rw [List.map_append,HM.out,HMM.out,←laidK_succ n l HV.out])
         have HLE:Hid ((hs++m).length=hs.length+v.length):=Lib.hid (by rw [List.length_append,←HMM.out,List.length_map])
         have HL9:Hid ((hs++m).length≤512):=Lib.hid (by
          have h1:(hs++m).length=(laidK n l (k+1)).length:=by rw [←HMV.out,List.length_map]
          have h2:=laidK_le n l (k+1)
          have h3:=H512.out
          omega)
         have HO9:=HO8
         rw [←HLE.out] at HO9
         rw [←HLE.out]
         generalize hQ:(hs++m).length=M at *
         have HQ:=Lib.hid hQ
         clear hQ
         go_wp2
         go_roundw
         case rel=>exact⟨k+1,hs++m,by omega,by go_num,HX8,by rw [HQ.out];exact HO9,HMV,HHD.out |> fun h=>Lib.hid (HH.out.app h),by rw [HQ.out];exact HL9.out⟩
         case measure=>simp [intOf];omega
        ·obtain rfl:k=l.length:=by omega
         have hJ:hs.map (·.1)=joinV n l:=HM.out.trans (laidK_all n l)
         have hJL:(joinV n l).length=hs.length:=by rw [←hJ,List.length_map]
         have hrv:RdV wr wr.heap.size A7 (joinV n l):=by
          rw [←hJ]
          exact rd_rdv (Rd.of_own HO.out) ((HH.out.below HB.out (Nat.le_refl _)).more HB.out.size)
         have hle:hs.length≤c7:=own_le HO.out
         have hzj:SzV 1000000000 (joinV n l):=⟨by omega,joinV_sz HZN.out HZL.out.1 (fun v hv x hx=>(HZL.out.2 v hv).2 x hx)⟩
         have HCK:=Lib.hid (refmay10_any (joinV n l) A7 c7 wr (by omega) hzj hrv)
         have HTW:=Lib.hid (fun W (hW:Below wr.heap.size wr W)=>reftwin_any A7 c7 (joinV n l) W ((hrv.below hW (Nat.le_refl _)).more hW.size) hzj)
         unfold TwinPost at HTW
         have HVV:Hid (putE n l=0→putV n l=joinV n l):=Lib.hid (fun h=>by unfold putV;rw [if_pos h])
         have HJL:=Lib.hid hJL
         rw [hJL] at HCK HTW
         generalize hNN:hs.length=N at *
         clear hJ hJL hrv hle hzj hNN
         cases ht:treeI (joinV n l)
         all_goals
          rw [ht] at HCK HE3
          try simp only [Bool.false_eq_true,if_false] at HE3
          try simp only [if_true] at HE3
          clear ht
          go_wp2_with fail
          refine HCK.out.mono ?_
          rintro e w5 ⟨rfl,hb5⟩
          have HX5:=Lib.hid (HB.out.trans (hb5.mono HB.out.size))
          have HY5:=Lib.hid hb5
          clear hb5
         ·go_wp2
          go_ret2
          exact PutPost.no HX5.out HE3.out (by decide)
         ·go_wp2_with fail
          refine(HTW.out _ HY5.out).mono ?_
          rintro e w6 ⟨A9,c9,rfl,hl9,hn9,hb9⟩
          have HX9:=Lib.hid (HX5.out.trans (hb9.mono HX5.out.size))
          have HN9:=Lib.hid (hn9.mono HX5.out.size)
          have HL9:=Lib.hid hl9
          clear hb9 hn9 hl9
          go_wp2
          go_ret2
          unfold PutPost
          rw [HVV.out HE3.out,HE3.out,HJL.out]
          exact⟨A9,c9,rfl,HL9.out,HN9.out,HX9.out⟩
end Go.Proofs.YtnmnpnofdgdigaaGreatDoor
end
section
namespace Go.Proofs.YtnmnpnofdgdigaaGreatDoor
open Go.RowKit
set_option linter.unusedSimpArgs false
set_option linter.unusedVariables false
def withA (l:List AttrL) (name value:ByteArray):List AttrL:=if isEmp value then l else l++[⟨emB,name,value⟩]
theorem withA_len (l:List AttrL) (name value:ByteArray):(withA l name value).length≤l.length+1:=by unfold withA;split <;> simp
def attrsS (s:StL):List AttrL:=withA (withA (withA (withA [] (⟨#[116,121,112,101]⟩:ByteArray) s.typ) (⟨#[105,100]⟩:ByteArray) s.id) (⟨#[102,114,111,109]⟩:ByteArray) s.frm) (⟨#[116,111]⟩:ByteArray) s.to
def elemS (s:StL):NodeL:=⟨1,(⟨#[106,97,98,98,101,114,58,99,108,105,101,110,116]⟩:ByteArray),wordI s.kind,attrsS s,emB,0⟩
def WithPost (base:Nat) (l:List AttrL) (name value:ByteArray) (w:World) (e:Ending) (w':World):Prop:=
 ∃v',e=.returned v'∧w'.ownsRow base 75 3 v' (withA l name value).length (cellsA (withA l name value))∧Below base w w'
set_option maxHeartbeats 1000000 in
set_option maxRecDepth 10000 in
theorem with_any (base:Nat) (v:Value) (l:List AttrL) (name value:ByteArray) (w:World) (h:w.ownsRow base 75 3 v l.length (cellsA l)) (hb:base≤w.heap.size) (hl:l.length≤1000) :
  Calls Tryz.prog 94 #[v,.string name,.string value] w (WithPost base l name value w):=by
 have el:=emp_iff value
 have HD:Box (withA l name value=if isEmp value then l else l++[⟨emB,name,value⟩]):=⟨rfl⟩
 unfold WithPost
 generalize withA l name value=r at *
 cases he:isEmp value
 all_goals
  rw [he] at el HD
  have hd:=HD.out
  try simp only [Bool.false_eq_true,if_false] at hd
  try simp only [if_true] at hd
  subst hd
  clear HD he
  have HO:=Lib.hid h
  clear h
  go_enter Tryz.func94,Tryz.ntmps94
 ·have HO2:=Lib.hid (HO.out.alloc (.cells #[.string ⟨#[]⟩,.string name,.string value] 75))
  have HRD:Hid (Rd (w.alloc (.cells #[.string ⟨#[]⟩,.string name,.string value] 75)) (w.heap.size+1) 3 (some ⟨w.heap.size,0,none⟩) 1 (cellsA [⟨emB,name,value⟩])):=Lib.hid (Rd.new w 75 #[.string ⟨#[]⟩,.string name,.string value] (s:=3) (n:=1) rfl)
  go_wp2_with (at_builtin;refine app_attrs rfl _ _ rfl base _ l.length l rfl HO2.out _ _ _ _ [⟨emB,name,value⟩] rfl HRD.out (by omega) (by simp;omega) ?_)
  intro v2 w2 hown2 hg _
  have HO3:=Lib.hid hown2
  have HX:Hid (Below base w w2):=Lib.hid (((Below.refl base w).alloc hb _).grown hg (by simp;omega) (fun q hq=>(HO.out.lt q hq).1))
  clear hown2 hg
  go_wp2
  go_ret
  exact⟨_,rfl,by rw [List.length_append];exact HO3.out,HX.out⟩
 ·go_wp2
  go_ret
  exact⟨_,rfl,HO.out,Below.refl _ _⟩
theorem attrsS_len (s:StL):(attrsS s).length≤4:=by
 unfold attrsS
 have h1:=withA_len [] (⟨#[116,121,112,101]⟩:ByteArray) s.typ
 have h2:=withA_len (withA [] (⟨#[116,121,112,101]⟩:ByteArray) s.typ) (⟨#[105,100]⟩:ByteArray) s.id
 have h3:=withA_len (withA (withA [] (⟨#[116,121,112,101]⟩:ByteArray) s.typ) (⟨#[105,100]⟩:ByteArray) s.id) (⟨#[102,114,111,109]⟩:ByteArray) s.frm
 have h4:=withA_len (withA (withA (withA [] (⟨#[116,121,112,101]⟩:ByteArray) s.typ) (⟨#[105,100]⟩:ByteArray) s.id) (⟨#[102,114,111,109]⟩:ByteArray) s.frm) (⟨#[116,111]⟩:ByteArray) s.to
 simp only [List.length_nil] at h1
 omega
theorem withA_sz {l:List AttrL} {name value:ByteArray} {M:Nat} (h:∀a∈l,SzA M a) (h1:name.size≤M) (h2:value.size≤M):∀a∈withA l name value,SzA M a:=fun a ha=>by
 unfold withA at ha
 split at ha
 ·exact h a ha
 ·rcases List.mem_append.1 ha with h3|h3
  ·exact h a h3
  ·rw [List.mem_singleton.1 h3]
   exact⟨Nat.zero_le _,h1,h2⟩
theorem wordI_sz (k:Int):(wordI k).size≤8:=by unfold wordI;split <;> (try split) <;> (try split) <;> decide
theorem elemS_sz {s:StL} (h:SzS s):SzN 1000000000 (elemS s):=by
 obtain⟨h0,h1,h2,h3,h4,h5⟩:=h
 have hl:=attrsS_len s
 have hw:=wordI_sz s.kind
 refine⟨⟨by show(0:Int)≤1;omega,by show(1:Int) < 256;omega⟩,by show(13:Nat)≤_;omega,by show(wordI s.kind).size≤_;omega,⟨by show(attrsS s).length≤_;omega,?_⟩,Nat.zero_le _,by show(_:Int)≤0;omega,by show(0:Int)≤_;omega⟩
 exact withA_sz (withA_sz (withA_sz (withA_sz (fun a ha=>by cases ha) (by decide) h1) (by decide) h2) (by decide) h3) (by decide) h4
def ElemPut (s:StL) (w:World) (e:Ending) (w':World):Prop:=PutPost (elemS s) s.load w e w'
set_option maxHeartbeats 4000000 in
set_option maxRecDepth 10000 in
theorem refelem_any (s:StL) (A:Option Addr) (c:Nat) (w:World) (hz:SzS s) (hr:RdW w w.heap.size A s.load) :
  Calls Tryz.prog 41 #[encS s A c] w (ElemPut s w):=by
 obtain⟨W0,hW0⟩:∃W0,W0=w.alloc (.cells #[.int .u8 s.kind,.string s.typ,.string s.id,.string s.frm,.string s.to,.slice A s.load.length c] 27):=⟨_,rfl⟩
 have hX0:Below w.heap.size w W0:=by rw [hW0];exact(Below.refl _ _).alloc (Nat.le_refl _) _
 have hS0:SAt W0 w.heap.size s A c:=by rw [hW0];exact SAt.new _ _ _ _ _
 have hs0:W0.heap.size=w.heap.size+1:=by rw [hW0];simp
 have HK:=Lib.hid (fun W (hW:Below (w.heap.size+1) W0.drew W)=>((⟨(hW.cell (p:=⟨w.heap.size,1,none⟩) (Nat.lt_succ_self _)).trans hS0.c1,(hW.cell (p:=⟨w.heap.size,2,none⟩) (Nat.lt_succ_self _)).trans hS0.c2,(hW.cell (p:=⟨w.heap.size,3,none⟩) (Nat.lt_succ_self _)).trans hS0.c3,(hW.cell (p:=⟨w.heap.size,4,none⟩) (Nat.lt_succ_self _)).trans hS0.c4⟩:W.cell? ⟨w.heap.size,1,none⟩=some (.string s.typ)∧W.cell? ⟨w.heap.size,2,none⟩=some (.string s.id)∧W.cell? ⟨w.heap.size,3,none⟩=some (.string s.frm)∧W.cell? ⟨w.heap.size,4,none⟩=some (.string s.to))))
 have HS:=Lib.hid hS0
 have HX0:=Lib.hid hX0
 have HR:=Lib.hid hr
 have HZ:=Lib.hid hz
 have a1:=hS0.c1
 have a2:=hS0.c2
 have a3:=hS0.c3
 have a4:=hS0.c4
 rw [hW0] at a1 a2 a3 a4
 have HWE:=Lib.hid hW0
 have HS0:=Lib.hid hs0
 have l1:=withA_len [] (⟨#[116,121,112,101]⟩:ByteArray) s.typ
 have l2:=withA_len (withA [] (⟨#[116,121,112,101]⟩:ByteArray) s.typ) (⟨#[105,100]⟩:ByteArray) s.id
 have l3:=withA_len (withA (withA [] (⟨#[116,121,112,101]⟩:ByteArray) s.typ) (⟨#[105,100]⟩:ByteArray) s.id) (⟨#[102,114,111,109]⟩:ByteArray) s.frm
 simp only [List.length_nil] at l1
 have L1:=Lib.hid (show(withA [] (⟨#[116,121,112,101]⟩:ByteArray) s.typ).length≤1000 by omega)
 have L2:=Lib.hid (show(withA (withA [] (⟨#[116,121,112,101]⟩:ByteArray) s.typ) (⟨#[105,100]⟩:ByteArray) s.id).length≤1000 by omega)
 have L3:=Lib.hid (show(withA (withA (withA [] (⟨#[116,121,112,101]⟩:ByteArray) s.typ) (⟨#[105,100]⟩:ByteArray) s.id) (⟨#[102,114,111,109]⟩:ByteArray) s.frm).length≤1000 by omega)
 have L0:=Lib.hid (show w.heap.size+1≤W0.drew.heap.size by show _≤W0.heap.size;omega)
 clear hW0 hX0 hS0 hr hz hs0 l1 l2 l3
 unfold encS
 go_enter Tryz.func41,Tryz.ntmps41
 go_wp2_with fail
 rw [←HWE.out] at *
 go_region_held3 (fun w'=>w'.cell? ⟨w.heap.size,1,none⟩=some (.string s.typ)∧w'.cell? ⟨w.heap.size,2,none⟩=some (.string s.id)∧w'.cell? ⟨w.heap.size,3,none⟩=some (.string s.frm)∧w'.cell? ⟨w.heap.size,4,none⟩=some (.string s.to))
  (first|exact HK.out _ k4.out|exact HK.out _ k3.out|exact HK.out _ k2.out|exact HK.out _ k1.out|exact HK.out _ (Below.refl _ _))
  (first
   | (go_at_call 94;(with_reducible refine(with_any (w.heap.size+1) u3 _ (⟨#[116,111]⟩:ByteArray) s.to _ o3.out (Nat.le_trans L0.out k3.out.size) L3.out).mono ?_);rintro e q4 ⟨u4,rfl,o4',b4'⟩;have o4:=Lib.hid o4';have k4:=Lib.hid (k3.out.trans b4');clear o4' b4')
   | (go_at_call 94;(with_reducible refine(with_any (w.heap.size+1) u2 _ (⟨#[102,114,111,109]⟩:ByteArray) s.frm _ o2.out (Nat.le_trans L0.out k2.out.size) L2.out).mono ?_);rintro e q3 ⟨u3,rfl,o3',b3'⟩;have o3:=Lib.hid o3';have k3:=Lib.hid (k2.out.trans b3');clear o3' b3')
   | (go_at_call 94;(with_reducible refine(with_any (w.heap.size+1) u1 _ (⟨#[105,100]⟩:ByteArray) s.id _ o1.out (Nat.le_trans L0.out k1.out.size) L1.out).mono ?_);rintro e q2 ⟨u2,rfl,o2',b2'⟩;have o2:=Lib.hid o2';have k2:=Lib.hid (k1.out.trans b2');clear o2' b2')
   | (go_at_call 94;(with_reducible refine(with_any (w.heap.size+1) (.slice none 0 0) [] (⟨#[116,121,112,101]⟩:ByteArray) s.typ _ (World.ownsRow_nil _ _ _ _) L0.out (by decide)).mono ?_);rintro e q1 ⟨u1,rfl,o1',b1'⟩;have o1:=Lib.hid o1';have k1:Hid (Below (w.heap.size+1) W0.drew q1):=Lib.hid b1';clear o1' b1'))
 obtain⟨A4,c4,rfl⟩:=own_form o4.out
 have HRA:=Lib.hid (show RdA q4.drew q4.drew.heap.size A4 (elemS s).attrs from rd_rda (Rd.of_own o4.out))
 have HLE:=Lib.hid (own_le o4.out)
 have S4:=Lib.hid (show SAt q4.drew w.heap.size s A c by
  obtain⟨t,h⟩:=HS.out
  exact⟨t,(k4.out.block w.heap.size (Nat.lt_succ_self _)).trans h⟩)
 have X4:Hid (Below w.heap.size w q4.drew):=Lib.hid (HX0.out.drew.trans (k4.out.mono (Nat.le_succ _))).drew
 have HSN:=Lib.hid (elemS_sz HZ.out)
 have HKK:=Lib.hid (fun W (hW:Below q4.drew.heap.size q4.drew W)=>((⟨(S4.out.ext hW).c0,(S4.out.ext hW).c5⟩:W.cell? ⟨w.heap.size,0,none⟩=some (.int .u8 s.kind)∧W.cell? ⟨w.heap.size,5,none⟩=some (.slice A s.load.length c))))
 have HPUT:=Lib.hid (fun W (hW:Below q4.drew.heap.size q4.drew W)=>show Calls Tryz.prog 95 #[.agg #[.int .u8 1,.string (⟨#[106,97,98,98,101,114,58,99,108,105,101,110,116]⟩:ByteArray),.string (wordI s.kind),.slice A4 (withA (withA (withA (withA [] (⟨#[116,121,112,101]⟩:ByteArray) s.typ) (⟨#[105,100]⟩:ByteArray) s.id) (⟨#[102,114,111,109]⟩:ByteArray) s.frm) (⟨#[116,111]⟩:ByteArray) s.to).length c4,.string ⟨#[]⟩,.int .i64 0],.slice A s.load.length c] W (PutPost (elemS s) s.load W) from refput_node (elemS s) A4 c4 s.load A c W HSN.out ((HRA.out.below hW (Nat.le_refl _)).more hW.size) HLE.out HZ.out.2.2.2.2.2 (RdW.ext HR.out (X4.out.trans (hW.mono X4.out.size))))
 have HWD:=Lib.hid (fun W=>word_any s.kind W HZ.out.1.1 HZ.out.1.2)
 generalize (withA (withA (withA (withA [] (⟨#[116,121,112,101]⟩:ByteArray) s.typ) (⟨#[105,100]⟩:ByteArray) s.id) (⟨#[102,114,111,109]⟩:ByteArray) s.frm) (⟨#[116,111]⟩:ByteArray) s.to).length=N at *
 clear o1 o2 o3 o4 k1 k2 k3 HK HS L0 L1 L2 L3
 unfold PutPost at HPUT
 go_wp2_with fail
 go_region_held3 (fun w'=>w'.cell? ⟨w.heap.size,0,none⟩=some (.int .u8 s.kind)∧w'.cell? ⟨w.heap.size,5,none⟩=some (.slice A s.load.length c))
  (first|exact HKK.out _ (Below.refl _ _)|exact HKK.out _ b9.out)
  (first
   | (go_at_call 85;(with_reducible refine(HWD.out _).mono ?_);rintro e q8 ⟨rfl,rfl⟩)
   | (go_at_call 95;(with_reducible refine(HPUT.out _ (Below.refl _ _)).mono ?_);rintro e q9 ⟨A9,c9,rfl,hl9,hn9,hb9⟩;have b9:=Lib.hid hb9;have n9:=Lib.hid hn9;have l9:=Lib.hid hl9;clear hb9 hn9 hl9))
 have X9:=Lib.hid (X4.out.trans (b9.out.mono X4.out.size))
 clear b9 HKK HPUT HWD S4 HRA
 go_wp2
 go_ret2
 exact⟨A9,c9,rfl,l9.out,n9.out.mono X4.out.size,X9.out⟩
end Go.Proofs.YtnmnpnofdgdigaaGreatDoor
end
