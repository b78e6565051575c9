/- Part 7 of a proof laid in parts, one behind the other; no condition of its own. -/
import Derived.Test.YtnfokaecobddkaaGreatDoorV06
import Derived.Test.YtnfokaecobddkaaGreatDoorV04
import Derived.Test.YtnfokaecobddkaaGreatDoorV05
import Derived.Laws.EntriesVeiled
import Derived.MapKept
import Derived.Carry
set_option linter.all false
section
namespace Go.Proofs.YtnfokaecobddkaaGreatDoor
open Go.RowKit
set_option linter.unusedSimpArgs false
set_option linter.unusedVariables false
def emJ:JidL:=⟨emB,emB,emB⟩
def parsedJ (s:ByteArray):JidL:=(parseI s).getD emJ
def parseE (s:ByteArray):Int:=if (parseI s).isSome then 0 else 190
theorem readJ_sz (s:ByteArray):(readJ s).loc.size≤s.size∧(readJ s).dom.size≤s.size∧(readJ s).res.size≤s.size:=by
 have h1:=cut_sz s 47
 have h2:=cut_sz (lowI (cutI s 47).1) 64
 rw [lowI_size] at h2
 have h0:emB.size=0:=rfl
 unfold readJ
 split
 ·exact⟨by dsimp only;omega,by dsimp only;omega,by dsimp only;omega⟩
 ·exact⟨by dsimp only;omega,by dsimp only;rw [lowI_size];omega,by dsimp only;omega⟩
def ParsePost (s:ByteArray) (w:World) (e:Ending) (w':World):Prop:=e=.returned (.tuple #[encJ (parsedJ s),.int .i64 (parseE s)])∧Below w.heap.size w w'
set_option maxHeartbeats 8000000 in
set_option maxRecDepth 10000 in
theorem jparse9_any (s:ByteArray) (w:World) (hs:s.size≤9223372036854775807) (hg:Glb w):Calls Tryz.prog 78 #[.string s] w (ParsePost s w):=by
 have hz1:=cut_sz s 47
 have hz2:=cut_sz (lowI (cutI s 47).1) 64
 have hz3:=lowI_size (cutI s 47).1
 have hz4:=readJ_sz s
 have H1:=Lib.hid (fun W=>scut9_any s 47 W hs)
 have H2:=Lib.hid (fun W=>lower9_any (cutI s 47).1 W (by omega))
 have H3:=Lib.hid (fun W=>scut9_any (lowI (cutI s 47).1) 64 W (by omega))
 have H4:=Lib.hid (fun W (hW:Glb W)=>jcheckn_any (readJ s) W hW)
 rw [show(((47:UInt8).toNat:Nat):Int)=47 from rfl] at H1
 rw [show(((64:UInt8).toNat:Nat):Int)=64 from rfl] at H3
 unfold CutPost at H1 H3
 have HP:Box (parseI s=if (hasL s && isEmp (readJ s).loc || hasR s && isEmp (readJ s).res || !jidI (readJ s)) then none else some (readJ s)):=⟨rfl⟩
 have HR:Box (readJ s=if hasL s then⟨(cutI (lowI (cutI s 47).1) 64).1,(cutI (lowI (cutI s 47).1) 64).2.1,(cutI s 47).2.1⟩ else⟨emB,lowI (cutI s 47).1,(cutI s 47).2.1⟩):=⟨rfl⟩
 have HL:Box ((cutI (lowI (cutI s 47).1) 64).2.2=hasL s):=⟨rfl⟩
 have HB:Box ((cutI s 47).2.2=hasR s):=⟨rfl⟩
 rw [HB.out] at H1
 rw [HL.out] at H3
 have HV:Box (ParsePost s w=fun e w'=>e=.returned (.tuple #[encJ (parsedJ s),.int .i64 (parseE s)])∧Below w.heap.size w w'):=⟨rfl⟩
 have HD:Box (parsedJ s=(parseI s).getD emJ∧parseE s=if (parseI s).isSome then 0 else 190):=⟨⟨rfl,rfl⟩⟩
 rw [HV.out]
 have HG:=Lib.hid hg
 have HE:Box (jidErr (readJ s)=if jidI (readJ s) then 0 else 8):=⟨rfl⟩
 have hgl:=hg.lt
 generalize parsedJ s=pj at *
 generalize parseE s=pe at *
 generalize parseI s=pi at *
 generalize hasL s=bL at *
 generalize hasR s=bR at *
 generalize readJ s=j at *
 generalize (cutI (lowI (cutI s 47).1) 64).1=q1 at *
 generalize (cutI (lowI (cutI s 47).1) 64).2.1=q2 at *
 generalize lowI (cutI s 47).1=L at *
 generalize (cutI s 47).1=p1 at *
 generalize (cutI s 47).2.1=p2 at *
 generalize jidErr j=je at *
 clear hz1 hz2 hz3 hz4 HV HL HB hg
 have e2:=emp_iff p2
 have eq1:=emp_iff q1
 obtain⟨W0,hW0⟩:∃W0,W0=w.alloc (.cells #[.string ⟨#[]⟩,.string ⟨#[]⟩,.string ⟨#[]⟩] 97):=⟨_,rfl⟩
 have hX0:Below w.heap.size w W0:=by rw [hW0];exact(Below.refl _ _).alloc (Nat.le_refl _) _
 have hJ0:JAt W0 w.heap.size emB emB emB:=by rw [hW0];exact JAt.new _ _ _ _ _
 have HJ0:=Lib.hid hJ0
 have HX0:=Lib.hid hX0
 rw [hW0] at HX0 HJ0
 clear hW0 hX0 hJ0
 cases bL
 ·have hj:j=⟨emB,L,p2⟩:=by rw [HR.out];rfl
  subst hj
  clear HR
  unfold encJ emB at H4
  cases bR
  ·have HPJ:Box (pi=if (!jidI ⟨emB,L,p2⟩) then none else some ⟨emB,L,p2⟩):=⟨by rw [HP.out];simp⟩
   clear HP
   cases hjj:jidI ⟨emB,L,p2⟩
   all_goals
    rw [hjj] at HPJ HE
    have hje:=HE.out
    try simp only [Bool.false_eq_true,if_false] at hje
    try simp only [if_true] at hje
    clear HE hjj
    subst hje
   ·have HD1:Box (pj=emJ):=⟨by rw [HD.out.1,HPJ.out];rfl⟩
    have HD2:Box (pe=190):=⟨by rw [HD.out.2,HPJ.out];rfl⟩
    go_enter Tryz.func78,Tryz.ntmps78
    go_wp2_with fail
    refine(H1.out _).mono ?_
    rintro e w1 ⟨rfl,hb1⟩
    have J1:=Lib.hid (HJ0.out.ext hb1)
    have X1:=Lib.hid (HX0.out.trans (hb1.mono HX0.out.size))
    clear hb1
    go_wp2_with fail
    refine(H2.out _).mono ?_
    rintro e w2 ⟨rfl,hb2⟩
    have J2:=Lib.hid (J1.out.ext hb2)
    have X2:=Lib.hid (X1.out.trans (hb2.mono X1.out.size))
    clear hb2
    go_wp2_with fail
    refine(H3.out _).mono ?_
    rintro e w3 ⟨rfl,hb3⟩
    have J3:=Lib.hid (J2.out.ext hb3)
    have X3:=Lib.hid (X2.out.trans (hb3.mono X2.out.size))
    clear hb3 J1 J2 X1 X2
    have c0:=J3.out.c0
    have c1:=J3.out.c1
    have c2:=J3.out.c2
    have f0:=J3.out.fz 0
    have f1:=J3.out.fz 1
    have f2:=J3.out.fz 2
    go_wp2_with fail
    have X4:=Lib.hid (((X3.out.setCell (p:=⟨w.heap.size,0,none⟩) (Nat.le_refl _) (.string ⟨#[]⟩)).setCell (p:=⟨w.heap.size,1,none⟩) (Nat.le_refl _) (.string L)).setCell (p:=⟨w.heap.size,2,none⟩) (Nat.le_refl _) (.string p2))
    refine(H4.out _ (HG.out.below X4.out)).mono ?_
    rintro e w4 ⟨rfl,hb4⟩
    have J4:=Lib.hid ((((J3.out.set0 emB).set1 L).set2 p2).ext hb4)
    have X5:=Lib.hid (X4.out.trans (hb4.mono X4.out.size))
    clear hb4 c0 c1 c2 f0 f1 f2
    have c0:=J4.out.c0
    have c1:=J4.out.c1
    have c2:=J4.out.c2
    have f0:=J4.out.fz 0
    have f1:=J4.out.fz 1
    have f2:=J4.out.fz 2
    go_wp2
    have JZ:=((J4.out.set0 emB).set1 emB).set2 emB
    have XZ:=((X5.out.setCell (p:=⟨w.heap.size,0,none⟩) (Nat.le_refl _) (.string ⟨#[]⟩)).setCell (p:=⟨w.heap.size,1,none⟩) (Nat.le_refl _) (.string ⟨#[]⟩)).setCell (p:=⟨w.heap.size,2,none⟩) (Nat.le_refl _) (.string ⟨#[]⟩)
    obtain⟨tt,hh⟩:=JZ
    exact bodyPost_ret (v:=.tuple #[encJ emJ,.int .i64 190])
     (results_jid (fn:=Tryz.f78) (p:=2) (s:=3) (ty:=97) rfl _ _ w.heap.size _ _ _ _ rfl rfl hh Tryz.underlying97 (by kernel_rfl)) rfl ⟨by rw [HD1.out,HD2.out],XZ⟩
   ·have HD1:Box (pj=⟨emB,L,p2⟩):=⟨by rw [HD.out.1,HPJ.out];rfl⟩
    have HD2:Box (pe=0):=⟨by rw [HD.out.2,HPJ.out];rfl⟩
    go_enter Tryz.func78,Tryz.ntmps78
    go_wp2_with fail
    refine(H1.out _).mono ?_
    rintro e w1 ⟨rfl,hb1⟩
    have J1:=Lib.hid (HJ0.out.ext hb1)
    have X1:=Lib.hid (HX0.out.trans (hb1.mono HX0.out.size))
    clear hb1
    go_wp2_with fail
    refine(H2.out _).mono ?_
    rintro e w2 ⟨rfl,hb2⟩
    have J2:=Lib.hid (J1.out.ext hb2)
    have X2:=Lib.hid (X1.out.trans (hb2.mono X1.out.size))
    clear hb2
    go_wp2_with fail
    refine(H3.out _).mono ?_
    rintro e w3 ⟨rfl,hb3⟩
    have J3:=Lib.hid (J2.out.ext hb3)
    have X3:=Lib.hid (X2.out.trans (hb3.mono X2.out.size))
    clear hb3 J1 J2 X1 X2
    have c0:=J3.out.c0
    have c1:=J3.out.c1
    have c2:=J3.out.c2
    have f0:=J3.out.fz 0
    have f1:=J3.out.fz 1
    have f2:=J3.out.fz 2
    go_wp2_with fail
    have X4:=Lib.hid (((X3.out.setCell (p:=⟨w.heap.size,0,none⟩) (Nat.le_refl _) (.string ⟨#[]⟩)).setCell (p:=⟨w.heap.size,1,none⟩) (Nat.le_refl _) (.string L)).setCell (p:=⟨w.heap.size,2,none⟩) (Nat.le_refl _) (.string p2))
    refine(H4.out _ (HG.out.below X4.out)).mono ?_
    rintro e w4 ⟨rfl,hb4⟩
    have J4:=Lib.hid ((((J3.out.set0 emB).set1 L).set2 p2).ext hb4)
    have X5:=Lib.hid (X4.out.trans (hb4.mono X4.out.size))
    clear hb4 c0 c1 c2 f0 f1 f2
    have c0:=J4.out.c0
    have c1:=J4.out.c1
    have c2:=J4.out.c2
    have f0:=J4.out.fz 0
    have f1:=J4.out.fz 1
    have f2:=J4.out.fz 2
    go_wp2
    have JZ:=((J4.out.set0 emB).set1 L).set2 p2
    have XZ:=((X5.out.setCell (p:=⟨w.heap.size,0,none⟩) (Nat.le_refl _) (.string ⟨#[]⟩)).setCell (p:=⟨w.heap.size,1,none⟩) (Nat.le_refl _) (.string L)).setCell (p:=⟨w.heap.size,2,none⟩) (Nat.le_refl _) (.string p2)
    obtain⟨tt,hh⟩:=JZ
    exact bodyPost_ret (v:=.tuple #[encJ ⟨emB,L,p2⟩,.int .i64 0])
     (results_jid (fn:=Tryz.f78) (p:=2) (s:=3) (ty:=97) rfl _ _ w.heap.size _ _ _ _ rfl rfl hh Tryz.underlying97 (by kernel_rfl)) rfl ⟨by rw [HD1.out,HD2.out],XZ⟩
  ·cases he2:isEmp p2
   all_goals
    rw [he2] at e2
    rw [show isEmp (JidL.mk emB L p2).res=isEmp p2 from rfl,he2] at HP
    clear he2
   ·have HPJ:Box (pi=if (!jidI ⟨emB,L,p2⟩) then none else some ⟨emB,L,p2⟩):=⟨by rw [HP.out];simp⟩
    clear HP
    cases hjj:jidI ⟨emB,L,p2⟩
    all_goals
     rw [hjj] at HPJ HE
     have hje:=HE.out
     try simp only [Bool.false_eq_true,if_false] at hje
     try simp only [if_true] at hje
     clear HE hjj
     subst hje
    ·have HD1:Box (pj=emJ):=⟨by rw [HD.out.1,HPJ.out];rfl⟩
     have HD2:Box (pe=190):=⟨by rw [HD.out.2,HPJ.out];rfl⟩
     go_enter Tryz.func78,Tryz.ntmps78
     go_wp2_with fail
     refine(H1.out _).mono ?_
     rintro e w1 ⟨rfl,hb1⟩
     have J1:=Lib.hid (HJ0.out.ext hb1)
     have X1:=Lib.hid (HX0.out.trans (hb1.mono HX0.out.size))
     clear hb1
     go_wp2_with fail
     refine(H2.out _).mono ?_
     rintro e w2 ⟨rfl,hb2⟩
     have J2:=Lib.hid (J1.out.ext hb2)
     have X2:=Lib.hid (X1.out.trans (hb2.mono X1.out.size))
     clear hb2
     go_wp2_with fail
     refine(H3.out _).mono ?_
     rintro e w3 ⟨rfl,hb3⟩
     have J3:=Lib.hid (J2.out.ext hb3)
     have X3:=Lib.hid (X2.out.trans (hb3.mono X2.out.size))
     clear hb3 J1 J2 X1 X2
     have c0:=J3.out.c0
     have c1:=J3.out.c1
     have c2:=J3.out.c2
     have f0:=J3.out.fz 0
     have f1:=J3.out.fz 1
     have f2:=J3.out.fz 2
     go_wp2_with fail
     have X4:=Lib.hid (((X3.out.setCell (p:=⟨w.heap.size,0,none⟩) (Nat.le_refl _) (.string ⟨#[]⟩)).setCell (p:=⟨w.heap.size,1,none⟩) (Nat.le_refl _) (.string L)).setCell (p:=⟨w.heap.size,2,none⟩) (Nat.le_refl _) (.string p2))
     refine(H4.out _ (HG.out.below X4.out)).mono ?_
     rintro e w4 ⟨rfl,hb4⟩
     have J4:=Lib.hid ((((J3.out.set0 emB).set1 L).set2 p2).ext hb4)
     have X5:=Lib.hid (X4.out.trans (hb4.mono X4.out.size))
     clear hb4 c0 c1 c2 f0 f1 f2
     have c0:=J4.out.c0
     have c1:=J4.out.c1
     have c2:=J4.out.c2
     have f0:=J4.out.fz 0
     have f1:=J4.out.fz 1
     have f2:=J4.out.fz 2
     go_wp2
     have JZ:=((J4.out.set0 emB).set1 emB).set2 emB
     have XZ:=((X5.out.setCell (p:=⟨w.heap.size,0,none⟩) (Nat.le_refl _) (.string ⟨#[]⟩)).setCell (p:=⟨w.heap.size,1,none⟩) (Nat.le_refl _) (.string ⟨#[]⟩)).setCell (p:=⟨w.heap.size,2,none⟩) (Nat.le_refl _) (.string ⟨#[]⟩)
     obtain⟨tt,hh⟩:=JZ
     exact bodyPost_ret (v:=.tuple #[encJ emJ,.int .i64 190])
      (results_jid (fn:=Tryz.f78) (p:=2) (s:=3) (ty:=97) rfl _ _ w.heap.size _ _ _ _ rfl rfl hh Tryz.underlying97 (by kernel_rfl)) rfl ⟨by rw [HD1.out,HD2.out],XZ⟩
    ·have HD1:Box (pj=⟨emB,L,p2⟩):=⟨by rw [HD.out.1,HPJ.out];rfl⟩
     have HD2:Box (pe=0):=⟨by rw [HD.out.2,HPJ.out];rfl⟩
     go_enter Tryz.func78,Tryz.ntmps78
     go_wp2_with fail
     refine(H1.out _).mono ?_
     rintro e w1 ⟨rfl,hb1⟩
     have J1:=Lib.hid (HJ0.out.ext hb1)
     have X1:=Lib.hid (HX0.out.trans (hb1.mono HX0.out.size))
     clear hb1
     go_wp2_with fail
     refine(H2.out _).mono ?_
     rintro e w2 ⟨rfl,hb2⟩
     have J2:=Lib.hid (J1.out.ext hb2)
     have X2:=Lib.hid (X1.out.trans (hb2.mono X1.out.size))
     clear hb2
     go_wp2_with fail
     refine(H3.out _).mono ?_
     rintro e w3 ⟨rfl,hb3⟩
     have J3:=Lib.hid (J2.out.ext hb3)
     have X3:=Lib.hid (X2.out.trans (hb3.mono X2.out.size))
     clear hb3 J1 J2 X1 X2
     have c0:=J3.out.c0
     have c1:=J3.out.c1
     have c2:=J3.out.c2
     have f0:=J3.out.fz 0
     have f1:=J3.out.fz 1
     have f2:=J3.out.fz 2
     go_wp2_with fail
     have X4:=Lib.hid (((X3.out.setCell (p:=⟨w.heap.size,0,none⟩) (Nat.le_refl _) (.string ⟨#[]⟩)).setCell (p:=⟨w.heap.size,1,none⟩) (Nat.le_refl _) (.string L)).setCell (p:=⟨w.heap.size,2,none⟩) (Nat.le_refl _) (.string p2))
     refine(H4.out _ (HG.out.below X4.out)).mono ?_
     rintro e w4 ⟨rfl,hb4⟩
     have J4:=Lib.hid ((((J3.out.set0 emB).set1 L).set2 p2).ext hb4)
     have X5:=Lib.hid (X4.out.trans (hb4.mono X4.out.size))
     clear hb4 c0 c1 c2 f0 f1 f2
     have c0:=J4.out.c0
     have c1:=J4.out.c1
     have c2:=J4.out.c2
     have f0:=J4.out.fz 0
     have f1:=J4.out.fz 1
     have f2:=J4.out.fz 2
     go_wp2
     have JZ:=((J4.out.set0 emB).set1 L).set2 p2
     have XZ:=((X5.out.setCell (p:=⟨w.heap.size,0,none⟩) (Nat.le_refl _) (.string ⟨#[]⟩)).setCell (p:=⟨w.heap.size,1,none⟩) (Nat.le_refl _) (.string L)).setCell (p:=⟨w.heap.size,2,none⟩) (Nat.le_refl _) (.string p2)
     obtain⟨tt,hh⟩:=JZ
     exact bodyPost_ret (v:=.tuple #[encJ ⟨emB,L,p2⟩,.int .i64 0])
      (results_jid (fn:=Tryz.f78) (p:=2) (s:=3) (ty:=97) rfl _ _ w.heap.size _ _ _ _ rfl rfl hh Tryz.underlying97 (by kernel_rfl)) rfl ⟨by rw [HD1.out,HD2.out],XZ⟩
   ·have HD1:Box (pj=emJ):=⟨by rw [HD.out.1,HP.out];simp⟩
    have HD2:Box (pe=190):=⟨by rw [HD.out.2,HP.out];simp⟩
    go_enter Tryz.func78,Tryz.ntmps78
    go_wp2_with fail
    refine(H1.out _).mono ?_
    rintro e w1 ⟨rfl,hb1⟩
    have J1:=Lib.hid (HJ0.out.ext hb1)
    have X1:=Lib.hid (HX0.out.trans (hb1.mono HX0.out.size))
    clear hb1
    go_wp2_with fail
    refine(H2.out _).mono ?_
    rintro e w2 ⟨rfl,hb2⟩
    have J2:=Lib.hid (J1.out.ext hb2)
    have X2:=Lib.hid (X1.out.trans (hb2.mono X1.out.size))
    clear hb2
    go_wp2_with fail
    refine(H3.out _).mono ?_
    rintro e w3 ⟨rfl,hb3⟩
    have J3:=Lib.hid (J2.out.ext hb3)
    have X3:=Lib.hid (X2.out.trans (hb3.mono X2.out.size))
    clear hb3 J1 J2 X1 X2
    have c0:=J3.out.c0
    have c1:=J3.out.c1
    have c2:=J3.out.c2
    have f0:=J3.out.fz 0
    have f1:=J3.out.fz 1
    have f2:=J3.out.fz 2
    go_wp2
    have JZ:=(((((J3.out.set0 emB).set1 L).set2 p2).set0 emB).set1 emB).set2 emB
    have XZ:=(((((X3.out.setCell (p:=⟨w.heap.size,0,none⟩) (Nat.le_refl _) (.string ⟨#[]⟩)).setCell (p:=⟨w.heap.size,1,none⟩) (Nat.le_refl _) (.string L)).setCell (p:=⟨w.heap.size,2,none⟩) (Nat.le_refl _) (.string p2)).setCell (p:=⟨w.heap.size,0,none⟩) (Nat.le_refl _) (.string ⟨#[]⟩)).setCell (p:=⟨w.heap.size,1,none⟩) (Nat.le_refl _) (.string ⟨#[]⟩)).setCell (p:=⟨w.heap.size,2,none⟩) (Nat.le_refl _) (.string ⟨#[]⟩)
    obtain⟨tt,hh⟩:=JZ
    exact bodyPost_ret (v:=.tuple #[encJ emJ,.int .i64 190])
     (results_jid (fn:=Tryz.f78) (p:=2) (s:=3) (ty:=97) rfl _ _ w.heap.size _ _ _ _ rfl rfl hh Tryz.underlying97 (by kernel_rfl)) rfl ⟨by rw [HD1.out,HD2.out],XZ⟩
 ·have hj:j=⟨q1,q2,p2⟩:=by rw [HR.out];rfl
  subst hj
  clear HR
  unfold encJ at H4
  cases he1:isEmp q1
  all_goals
   rw [he1] at eq1
   rw [show isEmp (JidL.mk q1 q2 p2).loc=isEmp q1 from rfl,he1] at HP
   clear he1
  ·cases bR
   ·have HPJ:Box (pi=if (!jidI ⟨q1,q2,p2⟩) then none else some ⟨q1,q2,p2⟩):=⟨by rw [HP.out];simp⟩
    clear HP
    cases hjj:jidI ⟨q1,q2,p2⟩
    all_goals
     rw [hjj] at HPJ HE
     have hje:=HE.out
     try simp only [Bool.false_eq_true,if_false] at hje
     try simp only [if_true] at hje
     clear HE hjj
     subst hje
    ·have HD1:Box (pj=emJ):=⟨by rw [HD.out.1,HPJ.out];rfl⟩
     have HD2:Box (pe=190):=⟨by rw [HD.out.2,HPJ.out];rfl⟩
     go_enter Tryz.func78,Tryz.ntmps78
     go_wp2_with fail
     refine(H1.out _).mono ?_
     rintro e w1 ⟨rfl,hb1⟩
     have J1:=Lib.hid (HJ0.out.ext hb1)
     have X1:=Lib.hid (HX0.out.trans (hb1.mono HX0.out.size))
     clear hb1
     go_wp2_with fail
     refine(H2.out _).mono ?_
     rintro e w2 ⟨rfl,hb2⟩
     have J2:=Lib.hid (J1.out.ext hb2)
     have X2:=Lib.hid (X1.out.trans (hb2.mono X1.out.size))
     clear hb2
     go_wp2_with fail
     refine(H3.out _).mono ?_
     rintro e w3 ⟨rfl,hb3⟩
     have J3:=Lib.hid (J2.out.ext hb3)
     have X3:=Lib.hid (X2.out.trans (hb3.mono X2.out.size))
     clear hb3 J1 J2 X1 X2
     have c0:=J3.out.c0
     have c1:=J3.out.c1
     have c2:=J3.out.c2
     have f0:=J3.out.fz 0
     have f1:=J3.out.fz 1
     have f2:=J3.out.fz 2
     go_wp2_with fail
     have X4:=Lib.hid (((X3.out.setCell (p:=⟨w.heap.size,0,none⟩) (Nat.le_refl _) (.string q1)).setCell (p:=⟨w.heap.size,1,none⟩) (Nat.le_refl _) (.string q2)).setCell (p:=⟨w.heap.size,2,none⟩) (Nat.le_refl _) (.string p2))
     refine(H4.out _ (HG.out.below X4.out)).mono ?_
     rintro e w4 ⟨rfl,hb4⟩
     have J4:=Lib.hid ((((J3.out.set0 q1).set1 q2).set2 p2).ext hb4)
     have X5:=Lib.hid (X4.out.trans (hb4.mono X4.out.size))
     clear hb4 c0 c1 c2 f0 f1 f2
     have c0:=J4.out.c0
     have c1:=J4.out.c1
     have c2:=J4.out.c2
     have f0:=J4.out.fz 0
     have f1:=J4.out.fz 1
     have f2:=J4.out.fz 2
     go_wp2
     have JZ:=((J4.out.set0 emB).set1 emB).set2 emB
     have XZ:=((X5.out.setCell (p:=⟨w.heap.size,0,none⟩) (Nat.le_refl _) (.string ⟨#[]⟩)).setCell (p:=⟨w.heap.size,1,none⟩) (Nat.le_refl _) (.string ⟨#[]⟩)).setCell (p:=⟨w.heap.size,2,none⟩) (Nat.le_refl _) (.string ⟨#[]⟩)
     obtain⟨tt,hh⟩:=JZ
     exact bodyPost_ret (v:=.tuple #[encJ emJ,.int .i64 190])
      (results_jid (fn:=Tryz.f78) (p:=2) (s:=3) (ty:=97) rfl _ _ w.heap.size _ _ _ _ rfl rfl hh Tryz.underlying97 (by kernel_rfl)) rfl ⟨by rw [HD1.out,HD2.out],XZ⟩
    ·have HD1:Box (pj=⟨q1,q2,p2⟩):=⟨by rw [HD.out.1,HPJ.out];rfl⟩
     have HD2:Box (pe=0):=⟨by rw [HD.out.2,HPJ.out];rfl⟩
     go_enter Tryz.func78,Tryz.ntmps78
     go_wp2_with fail
     refine(H1.out _).mono ?_
     rintro e w1 ⟨rfl,hb1⟩
     have J1:=Lib.hid (HJ0.out.ext hb1)
     have X1:=Lib.hid (HX0.out.trans (hb1.mono HX0.out.size))
     clear hb1
     go_wp2_with fail
     refine(H2.out _).mono ?_
     rintro e w2 ⟨rfl,hb2⟩
     have J2:=Lib.hid (J1.out.ext hb2)
     have X2:=Lib.hid (X1.out.trans (hb2.mono X1.out.size))
     clear hb2
     go_wp2_with fail
     refine(H3.out _).mono ?_
     rintro e w3 ⟨rfl,hb3⟩
     have J3:=Lib.hid (J2.out.ext hb3)
     have X3:=Lib.hid (X2.out.trans (hb3.mono X2.out.size))
     clear hb3 J1 J2 X1 X2
     have c0:=J3.out.c0
     have c1:=J3.out.c1
     have c2:=J3.out.c2
     have f0:=J3.out.fz 0
     have f1:=J3.out.fz 1
     have f2:=J3.out.fz 2
     go_wp2_with fail
     have X4:=Lib.hid (((X3.out.setCell (p:=⟨w.heap.size,0,none⟩) (Nat.le_refl _) (.string q1)).setCell (p:=⟨w.heap.size,1,none⟩) (Nat.le_refl _) (.string q2)).setCell (p:=⟨w.heap.size,2,none⟩) (Nat.le_refl _) (.string p2))
     refine(H4.out _ (HG.out.below X4.out)).mono ?_
     rintro e w4 ⟨rfl,hb4⟩
     have J4:=Lib.hid ((((J3.out.set0 q1).set1 q2).set2 p2).ext hb4)
     have X5:=Lib.hid (X4.out.trans (hb4.mono X4.out.size))
     clear hb4 c0 c1 c2 f0 f1 f2
     have c0:=J4.out.c0
     have c1:=J4.out.c1
     have c2:=J4.out.c2
     have f0:=J4.out.fz 0
     have f1:=J4.out.fz 1
     have f2:=J4.out.fz 2
     go_wp2
     have JZ:=((J4.out.set0 q1).set1 q2).set2 p2
     have XZ:=((X5.out.setCell (p:=⟨w.heap.size,0,none⟩) (Nat.le_refl _) (.string q1)).setCell (p:=⟨w.heap.size,1,none⟩) (Nat.le_refl _) (.string q2)).setCell (p:=⟨w.heap.size,2,none⟩) (Nat.le_refl _) (.string p2)
     obtain⟨tt,hh⟩:=JZ
     exact bodyPost_ret (v:=.tuple #[encJ ⟨q1,q2,p2⟩,.int .i64 0])
      (results_jid (fn:=Tryz.f78) (p:=2) (s:=3) (ty:=97) rfl _ _ w.heap.size _ _ _ _ rfl rfl hh Tryz.underlying97 (by kernel_rfl)) rfl ⟨by rw [HD1.out,HD2.out],XZ⟩
   ·cases he2:isEmp p2
    all_goals
     rw [he2] at e2
     rw [show isEmp (JidL.mk q1 q2 p2).res=isEmp p2 from rfl,he2] at HP
     clear he2
    ·have HPJ:Box (pi=if (!jidI ⟨q1,q2,p2⟩) then none else some ⟨q1,q2,p2⟩):=⟨by rw [HP.out];simp⟩
     clear HP
     cases hjj:jidI ⟨q1,q2,p2⟩
     all_goals
      rw [hjj] at HPJ HE
      have hje:=HE.out
      try simp only [Bool.false_eq_true,if_false] at hje
      try simp only [if_true] at hje
      clear HE hjj
      subst hje
     ·have HD1:Box (pj=emJ):=⟨by rw [HD.out.1,HPJ.out];rfl⟩
      have HD2:Box (pe=190):=⟨by rw [HD.out.2,HPJ.out];rfl⟩
      go_enter Tryz.func78,Tryz.ntmps78
      go_wp2_with fail
      refine(H1.out _).mono ?_
      rintro e w1 ⟨rfl,hb1⟩
      have J1:=Lib.hid (HJ0.out.ext hb1)
      have X1:=Lib.hid (HX0.out.trans (hb1.mono HX0.out.size))
      clear hb1
      go_wp2_with fail
      refine(H2.out _).mono ?_
      rintro e w2 ⟨rfl,hb2⟩
      have J2:=Lib.hid (J1.out.ext hb2)
      have X2:=Lib.hid (X1.out.trans (hb2.mono X1.out.size))
      clear hb2
      go_wp2_with fail
      refine(H3.out _).mono ?_
      rintro e w3 ⟨rfl,hb3⟩
      have J3:=Lib.hid (J2.out.ext hb3)
      have X3:=Lib.hid (X2.out.trans (hb3.mono X2.out.size))
      clear hb3 J1 J2 X1 X2
      have c0:=J3.out.c0
      have c1:=J3.out.c1
      have c2:=J3.out.c2
      have f0:=J3.out.fz 0
      have f1:=J3.out.fz 1
      have f2:=J3.out.fz 2
      go_wp2_with fail
      have X4:=Lib.hid (((X3.out.setCell (p:=⟨w.heap.size,0,none⟩) (Nat.le_refl _) (.string q1)).setCell (p:=⟨w.heap.size,1,none⟩) (Nat.le_refl _) (.string q2)).setCell (p:=⟨w.heap.size,2,none⟩) (Nat.le_refl _) (.string p2))
      refine(H4.out _ (HG.out.below X4.out)).mono ?_
      rintro e w4 ⟨rfl,hb4⟩
      have J4:=Lib.hid ((((J3.out.set0 q1).set1 q2).set2 p2).ext hb4)
      have X5:=Lib.hid (X4.out.trans (hb4.mono X4.out.size))
      clear hb4 c0 c1 c2 f0 f1 f2
      have c0:=J4.out.c0
      have c1:=J4.out.c1
      have c2:=J4.out.c2
      have f0:=J4.out.fz 0
      have f1:=J4.out.fz 1
      have f2:=J4.out.fz 2
      go_wp2
      have JZ:=((J4.out.set0 emB).set1 emB).set2 emB
      have XZ:=((X5.out.setCell (p:=⟨w.heap.size,0,none⟩) (Nat.le_refl _) (.string ⟨#[]⟩)).setCell (p:=⟨w.heap.size,1,none⟩) (Nat.le_refl _) (.string ⟨#[]⟩)).setCell (p:=⟨w.heap.size,2,none⟩) (Nat.le_refl _) (.string ⟨#[]⟩)
      obtain⟨tt,hh⟩:=JZ
      exact bodyPost_ret (v:=.tuple #[encJ emJ,.int .i64 190])
       (results_jid (fn:=Tryz.f78) (p:=2) (s:=3) (ty:=97) rfl _ _ w.heap.size _ _ _ _ rfl rfl hh Tryz.underlying97 (by kernel_rfl)) rfl ⟨by rw [HD1.out,HD2.out],XZ⟩
     ·have HD1:Box (pj=⟨q1,q2,p2⟩):=⟨by rw [HD.out.1,HPJ.out];rfl⟩
      have HD2:Box (pe=0):=⟨by rw [HD.out.2,HPJ.out];rfl⟩
      go_enter Tryz.func78,Tryz.ntmps78
      go_wp2_with fail
      refine(H1.out _).mono ?_
      rintro e w1 ⟨rfl,hb1⟩
      have J1:=Lib.hid (HJ0.out.ext hb1)
      have X1:=Lib.hid (HX0.out.trans (hb1.mono HX0.out.size))
      clear hb1
      go_wp2_with fail
      refine(H2.out _).mono ?_
      rintro e w2 ⟨rfl,hb2⟩
      have J2:=Lib.hid (J1.out.ext hb2)
      have X2:=Lib.hid (X1.out.trans (hb2.mono X1.out.size))
      clear hb2
      go_wp2_with fail
      refine(H3.out _).mono ?_
      rintro e w3 ⟨rfl,hb3⟩
      have J3:=Lib.hid (J2.out.ext hb3)
      have X3:=Lib.hid (X2.out.trans (hb3.mono X2.out.size))
      clear hb3 J1 J2 X1 X2
      have c0:=J3.out.c0
      have c1:=J3.out.c1
      have c2:=J3.out.c2
      have f0:=J3.out.fz 0
      have f1:=J3.out.fz 1
      have f2:=J3.out.fz 2
      go_wp2_with fail
      have X4:=Lib.hid (((X3.out.setCell (p:=⟨w.heap.size,0,none⟩) (Nat.le_refl _) (.string q1)).setCell (p:=⟨w.heap.size,1,none⟩) (Nat.le_refl _) (.string q2)).setCell (p:=⟨w.heap.size,2,none⟩) (Nat.le_refl _) (.string p2))
      refine(H4.out _ (HG.out.below X4.out)).mono ?_
      rintro e w4 ⟨rfl,hb4⟩
      have J4:=Lib.hid ((((J3.out.set0 q1).set1 q2).set2 p2).ext hb4)
      have X5:=Lib.hid (X4.out.trans (hb4.mono X4.out.size))
      clear hb4 c0 c1 c2 f0 f1 f2
      have c0:=J4.out.c0
      have c1:=J4.out.c1
      have c2:=J4.out.c2
      have f0:=J4.out.fz 0
      have f1:=J4.out.fz 1
      have f2:=J4.out.fz 2
      go_wp2
      have JZ:=((J4.out.set0 q1).set1 q2).set2 p2
      have XZ:=((X5.out.setCell (p:=⟨w.heap.size,0,none⟩) (Nat.le_refl _) (.string q1)).setCell (p:=⟨w.heap.size,1,none⟩) (Nat.le_refl _) (.string q2)).setCell (p:=⟨w.heap.size,2,none⟩) (Nat.le_refl _) (.string p2)
      obtain⟨tt,hh⟩:=JZ
      exact bodyPost_ret (v:=.tuple #[encJ ⟨q1,q2,p2⟩,.int .i64 0])
       (results_jid (fn:=Tryz.f78) (p:=2) (s:=3) (ty:=97) rfl _ _ w.heap.size _ _ _ _ rfl rfl hh Tryz.underlying97 (by kernel_rfl)) rfl ⟨by rw [HD1.out,HD2.out],XZ⟩
    ·have HD1:Box (pj=emJ):=⟨by rw [HD.out.1,HP.out];simp⟩
     have HD2:Box (pe=190):=⟨by rw [HD.out.2,HP.out];simp⟩
     go_enter Tryz.func78,Tryz.ntmps78
     go_wp2_with fail
     refine(H1.out _).mono ?_
     rintro e w1 ⟨rfl,hb1⟩
     have J1:=Lib.hid (HJ0.out.ext hb1)
     have X1:=Lib.hid (HX0.out.trans (hb1.mono HX0.out.size))
     clear hb1
     go_wp2_with fail
     refine(H2.out _).mono ?_
     rintro e w2 ⟨rfl,hb2⟩
     have J2:=Lib.hid (J1.out.ext hb2)
     have X2:=Lib.hid (X1.out.trans (hb2.mono X1.out.size))
     clear hb2
     go_wp2_with fail
     refine(H3.out _).mono ?_
     rintro e w3 ⟨rfl,hb3⟩
     have J3:=Lib.hid (J2.out.ext hb3)
     have X3:=Lib.hid (X2.out.trans (hb3.mono X2.out.size))
     clear hb3 J1 J2 X1 X2
     have c0:=J3.out.c0
     have c1:=J3.out.c1
     have c2:=J3.out.c2
     have f0:=J3.out.fz 0
     have f1:=J3.out.fz 1
     have f2:=J3.out.fz 2
     go_wp2
     have JZ:=(((((J3.out.set0 q1).set1 q2).set2 p2).set0 emB).set1 emB).set2 emB
     have XZ:=(((((X3.out.setCell (p:=⟨w.heap.size,0,none⟩) (Nat.le_refl _) (.string q1)).setCell (p:=⟨w.heap.size,1,none⟩) (Nat.le_refl _) (.string q2)).setCell (p:=⟨w.heap.size,2,none⟩) (Nat.le_refl _) (.string p2)).setCell (p:=⟨w.heap.size,0,none⟩) (Nat.le_refl _) (.string ⟨#[]⟩)).setCell (p:=⟨w.heap.size,1,none⟩) (Nat.le_refl _) (.string ⟨#[]⟩)).setCell (p:=⟨w.heap.size,2,none⟩) (Nat.le_refl _) (.string ⟨#[]⟩)
     obtain⟨tt,hh⟩:=JZ
     exact bodyPost_ret (v:=.tuple #[encJ emJ,.int .i64 190])
      (results_jid (fn:=Tryz.f78) (p:=2) (s:=3) (ty:=97) rfl _ _ w.heap.size _ _ _ _ rfl rfl hh Tryz.underlying97 (by kernel_rfl)) rfl ⟨by rw [HD1.out,HD2.out],XZ⟩
  ·have HD1:Box (pj=emJ):=⟨by rw [HD.out.1,HP.out];simp⟩
   have HD2:Box (pe=190):=⟨by rw [HD.out.2,HP.out];simp⟩
   go_enter Tryz.func78,Tryz.ntmps78
   go_wp2_with fail
   refine(H1.out _).mono ?_
   rintro e w1 ⟨rfl,hb1⟩
   have J1:=Lib.hid (HJ0.out.ext hb1)
   have X1:=Lib.hid (HX0.out.trans (hb1.mono HX0.out.size))
   clear hb1
   go_wp2_with fail
   refine(H2.out _).mono ?_
   rintro e w2 ⟨rfl,hb2⟩
   have J2:=Lib.hid (J1.out.ext hb2)
   have X2:=Lib.hid (X1.out.trans (hb2.mono X1.out.size))
   clear hb2
   go_wp2_with fail
   refine(H3.out _).mono ?_
   rintro e w3 ⟨rfl,hb3⟩
   have J3:=Lib.hid (J2.out.ext hb3)
   have X3:=Lib.hid (X2.out.trans (hb3.mono X2.out.size))
   clear hb3 J1 J2 X1 X2
   have c0:=J3.out.c0
   have c1:=J3.out.c1
   have c2:=J3.out.c2
   have f0:=J3.out.fz 0
   have f1:=J3.out.fz 1
   have f2:=J3.out.fz 2
   go_wp2
   have JZ:=(((((J3.out.set0 q1).set1 q2).set2 p2).set0 emB).set1 emB).set2 emB
   have XZ:=(((((X3.out.setCell (p:=⟨w.heap.size,0,none⟩) (Nat.le_refl _) (.string q1)).setCell (p:=⟨w.heap.size,1,none⟩) (Nat.le_refl _) (.string q2)).setCell (p:=⟨w.heap.size,2,none⟩) (Nat.le_refl _) (.string p2)).setCell (p:=⟨w.heap.size,0,none⟩) (Nat.le_refl _) (.string ⟨#[]⟩)).setCell (p:=⟨w.heap.size,1,none⟩) (Nat.le_refl _) (.string ⟨#[]⟩)).setCell (p:=⟨w.heap.size,2,none⟩) (Nat.le_refl _) (.string ⟨#[]⟩)
   obtain⟨tt,hh⟩:=JZ
   exact bodyPost_ret (v:=.tuple #[encJ emJ,.int .i64 190])
    (results_jid (fn:=Tryz.f78) (p:=2) (s:=3) (ty:=97) rfl _ _ w.heap.size _ _ _ _ rfl rfl hh Tryz.underlying97 (by kernel_rfl)) rfl ⟨by rw [HD1.out,HD2.out],XZ⟩
theorem jparse_any (s:ByteArray) (w:World) (hs:s.size≤1000000000) (hg:Glb w):Calls Tryz.prog 78 #[.string s] w (ParsePost s w):=jparse9_any s w (by omega) hg
end Go.Proofs.YtnfokaecobddkaaGreatDoor
end
section
namespace Go.Proofs.YtnfokaecobddkaaGreatDoor
open Go.RowKit
set_option linter.unusedSimpArgs false
set_option linter.unusedVariables false
end Go.Proofs.YtnfokaecobddkaaGreatDoor
end
section
namespace Go.Proofs.YtnfokaecobddkaaGreatDoor
open Go.RowKit
set_option linter.unusedSimpArgs false
set_option linter.unusedVariables false
def addressI (s:ByteArray):Bool:=isEmp s || ((parseI s).isSome && eqS (textJ (parsedJ s)) s)
theorem parse_jid (s:ByteArray):jidI (parsedJ s)=(parseI s).isSome:=by
 unfold parsedJ
 have h0:jidI emJ=false:=by rfl
 unfold parseI
 split
 ·rw [Option.getD_none,h0];rfl
 ·rename_i h
  rw [Option.getD_some]
  simp only [Bool.or_eq_true,Bool.not_eq_true',not_or,Bool.not_eq_false] at h
  rw [h.2];rfl
theorem parsed_sz (s:ByteArray):(parsedJ s).loc.size≤s.size∧(parsedJ s).dom.size≤s.size∧(parsedJ s).res.size≤s.size:=by
 have h0:emB.size=0:=rfl
 have h1:=readJ_sz s
 unfold parsedJ parseI
 split
 ·rw [Option.getD_none]
  exact⟨by show emB.size≤_;omega,by show emB.size≤_;omega,by show emB.size≤_;omega⟩
 ·rw [Option.getD_some];exact h1
set_option maxHeartbeats 4000000 in
set_option maxRecDepth 10000 in
theorem address9_any (s:ByteArray) (w:World) (hs:s.size≤9223372036854775807) (hg:Glb w):Calls Tryz.prog 35 #[.string s] w fun e w'=>e=.returned (.bool (addressI s))∧Below w.heap.size w w':=by
 have hz:=parsed_sz s
 have H1:=Lib.hid (jparse9_any s w hs hg)
 have H2:=Lib.hid (fun W (hW:Glb W)=>writen_any (parsedJ s) W hW)
 unfold ParsePost at H1
 have HA:Box (addressI s=(isEmp s || ((parseI s).isSome && eqS (textJ (parsedJ s)) s))):=⟨rfl⟩
 have HPJ:=Box.mk (parse_jid s)
 have HJE:Box (jidErr (parsedJ s)=if jidI (parsedJ s) then 0 else 8):=⟨rfl⟩
 rw [HPJ.out] at HJE H2
 have HG:=Lib.hid hg
 have el:=emp_iff s
 unfold eqS at HA
 clear HPJ hz hg
 generalize addressI s=q at *
 generalize (parseI s).isSome=ok at *
 generalize parseE s=pe at *
 generalize textJ (parsedJ s)=T at *
 generalize jidErr (parsedJ s)=je at *
 generalize parsedJ s=j at *
 obtain⟨l,d,r⟩:=j
 unfold encJ at H1 H2
 cases ok
 all_goals
  have hje:=HJE.out
  try simp only [Bool.false_eq_true,if_false] at hje H2
  try simp only [if_true] at hje H2
  subst hje
  clear HJE
  cases he:isEmp s
  all_goals
   rw [he] at el HA
   clear he
   go_enter Tryz.func35,Tryz.ntmps35
   go_wp2_with fail
   refine H1.out.mono ?_
   rintro e w1 ⟨rfl,hb1⟩
   have X1:=Lib.hid hb1
   have XA:Hid (Below w.heap.size w (w1.alloc (.cells #[.string l,.string d,.string r] 97))):=hb1.alloc hb1.size _
   clear hb1
   go_wp2_with fail
   refine(H2.out _ (HG.out.below XA.out)).mono ?_
   rintro e w2 ⟨rfl,hb2⟩
   have X2:=Lib.hid (XA.out.trans (hb2.mono XA.out.size))
   clear hb2
   go_wp2
   go_ret
   exact⟨(ret_bool (by first|(rw [HA.out];done)|(rw [HA.out];simp_all;done))),X2.out⟩
end Go.Proofs.YtnfokaecobddkaaGreatDoor
end
section
namespace Go.Proofs.YtnfokaecobddkaaGreatDoor
def idI (k:Int) (s:ByteArray):Bool:=decide (s.size≤64) && decide (textErr s=0) && (!decide (k=3) || !isEmp s)
def stnI (s:StL):Bool:=typedI s.kind s.typ && idI s.kind s.id && addressI s.frm && addressI s.to && !decide (16 < s.load.length) && s.load.all spaceI
def stnErr (s:StL):Int:=if stnI s then 0 else 8
def SzW (l:List (List NodeL)):Prop:=l.length≤1000000000∧∀v∈l,SzV 1000000000 v
def SzS (s:StL):Prop:=(0≤s.kind∧s.kind < 256)∧s.typ.size≤1000000000∧s.id.size≤1000000000∧s.frm.size≤1000000000∧s.to.size≤1000000000∧SzW s.load
def SzB (s:StL):Prop:=(0≤s.kind∧s.kind < 256)∧s.typ.size≤9223372036854775807∧s.id.size≤9223372036854775807∧s.frm.size≤9223372036854775807∧s.to.size≤9223372036854775807∧SzW s.load
theorem SzS.b {s:StL} (h:SzS s):SzB s:=by
 obtain⟨h0,h1,h2,h3,h4,h5⟩:=h
 exact⟨h0,by omega,by omega,by omega,by omega,h5⟩
end Go.Proofs.YtnfokaecobddkaaGreatDoor
end
section
namespace Go.Proofs.YtnfokaecobddkaaGreatDoor
open Go.RowKit
set_option linter.unusedSimpArgs false
set_option linter.unusedVariables false
theorem ret_strA {a b:ByteArray} (h:a=b):Ending.returned (.string a)=.returned (.string b):=by rw [h]
theorem find1_any (a:AttrL) (name:ByteArray) (B:Nat) (w:World) (hB:w.cell? ⟨B,0,none⟩=some (.string name)) :
  Calls Tryz.prog 85 (#[encA a]++#[.pointer (some ⟨B,0,none⟩)]) w fun e w'=>e=.returned (.bool (isAttr name a))∧Below w.heap.size w w':=by
 have hBl:=World.block_lt_of_cell? w _ hB
 have hne:B≠w.heap.size:=by simp only [] at hBl;omega
 have HX:=Lib.hid ((Below.refl w.heap.size w).alloc (Nat.le_refl _) (.cells #[.string a.space,.string a.name,.string a.value] 80))
 have HG:Box (isAttr name a=(a.space.toList.isEmpty && (a.name.toList == name.toList))):=⟨rfl⟩
 generalize isAttr name a=r at *
 unfold encA
 rw [List.append_toArray,List.singleton_append]
 cases h0:a.space.toList.isEmpty
 all_goals
  rw [h0] at HG
  go_enter Tryz.func85,Tryz.ntmps85
  go_wp2
  go_ret
  exact⟨(ret_bool (by first|(rw [HG.out];done)|(rw [HG.out];simp_all;done))),HX.out⟩
set_option maxHeartbeats 1000000 in
set_option maxRecDepth 10000 in
theorem find_any (n:NodeL) (A:Option Addr) (c:Nat) (name:ByteArray) (w:World) (hr:RdA w w.heap.size A n.attrs) (hc:n.attrs.length≤c) (hn:n.attrs.length≤1000000000) :
  Calls Tryz.prog 39 #[encN n A c,.string name] w fun e w'=>e=.returned (.string (findI n name))∧Below w.heap.size w w':=by
 obtain⟨W0,hW0⟩:∃W0,W0=(w.alloc (.cells #[.int .u8 n.kind,.string n.space,.string n.name,.slice A n.attrs.length c,.string n.text,.int .i64 n.many] 69)).alloc (.cells #[.string name] 9):=⟨_,rfl⟩
 have hX0:Below w.heap.size w W0:=by rw [hW0];exact((Below.refl _ _).alloc (Nat.le_refl _) _).alloc (by simp) _
 have hN0:W0.heap[w.heap.size]? = some (.cells #[.int .u8 n.kind,.string n.space,.string n.name,.slice A n.attrs.length c,.string n.text,.int .i64 n.many] 69 (0,0)):=by
  rw [hW0];exact heap_ext (heap_alloc_new w _) ((Below.refl _ _).alloc (Nat.le_refl _) _)
 have hB0:W0.heap[w.heap.size+1]? = some (.cells #[.string name] 9 (0,0)):=by
  rw [hW0]
  have h:=heap_alloc_new (w.alloc (.cells #[.int .u8 n.kind,.string n.space,.string n.name,.slice A n.attrs.length c,.string n.text,.int .i64 n.many] 69)) (.cells #[.string name] 9)
  simpa using h
 have eg:=enters_of (P:=Tryz.prog) Tryz.func85 (by kernel_rfl) rfl
 have H:=Lib.hid (idxA_any 85 #[.pointer (some ⟨w.heap.size+1,0,none⟩)] A c n.attrs (isAttr name) W0 ((hr.below hX0 (Nat.le_refl _)).more hX0.size) hn eg
  (fun W i x hW hx=>(find1_any x name (w.heap.size+1) W (by simp [World.cell?,heap_ext hB0 hW])).mono fun e w' h=>⟨h.1,hW.trans (h.2.mono hW.size)⟩))
 have HF:Box (findI n name=valAt n.attrs (fstP (isAttr name) n.attrs)):=⟨rfl⟩
 have HX0:=Lib.hid hX0
 have HC3:Hid (∀W,Below W0.heap.size W0 W→W.cell? ⟨w.heap.size,3,none⟩=some (.slice A n.attrs.length c)):=Lib.hid (fun W hW=>by simp [World.cell?,heap_ext hN0 hW])
 have HR:=Lib.hid hr
 rw [hW0] at H HX0 HC3
 clear hW0 hX0 hN0 hB0 eg hr
 generalize findI n name=r at *
 unfold encN
 cases ho:fstP (isAttr name) n.attrs with
 | none=>
  rw [ho] at H HF
  unfold placeI at H
  unfold valAt at HF
  clear ho
  go_enter Tryz.func39,Tryz.ntmps39
  go_wp2_with fail
  refine H.out.mono ?_
  rintro e w1 ⟨rfl,hb1⟩
  go_wp2
  go_ret
  exact⟨ret_strA (by rw [HF.out];rfl),HX0.out.trans (hb1.mono HX0.out.size)⟩
 | some i=>
  obtain⟨x,hx,-,-⟩:=fstP_some ho
  have hil:=(List.getElem?_eq_some_iff.1 hx).1
  rw [ho] at H HF
  unfold placeI at H
  have HF:Box (r=x.value):=⟨by
   rw [HF.out]
   show(match n.attrs[i]? with|some a=>a.value|none=>emB)=_
   rw [hx]⟩
  obtain⟨b,off,rfl,hb,hcc⟩:=HR.out (by omega)
  have hv:=(hcc i x hx).2.2
  have HV:=Lib.hid hv
  have hi0:¬(i:Int) < 0:=by omega
  clear ho hcc hx hv
  go_enter Tryz.func39,Tryz.ntmps39
  go_wp2_with fail
  refine H.out.mono ?_
  rintro e w1 ⟨rfl,hb1⟩
  have X1:=Lib.hid (HX0.out.trans (hb1.mono HX0.out.size))
  have c3:=HC3.out _ hb1
  have cv:=(X1.out.cell (p:=⟨b,off+i*3+2,none⟩) hb).trans HV.out
  clear hb1
  go_wp2
  go_ret
  exact⟨ret_strA HF.out.symm,X1.out⟩
end Go.Proofs.YtnfokaecobddkaaGreatDoor
end
section
namespace Go.Proofs.YtnfokaecobddkaaGreatDoor
open Go.RowKit
set_option linter.unusedSimpArgs false
set_option linter.unusedVariables false
def RdS (w:World) (A:Option Addr) (l:List ByteArray):Prop:=0 < l.length→∃b off,A=some ⟨b,off,none⟩∧b < w.heap.size∧∀(i:Nat) (s:ByteArray),l[i]? = some s→w.cell? ⟨b,off+i,none⟩=some (.string s)
theorem RdS.ext {w w':World} {A:Option Addr} {l:List ByteArray} (h:RdS w A l) (hb:Below w.heap.size w w'):RdS w' A l:=fun h0=>by
 obtain⟨b,off,h1,h2,h3⟩:=h h0
 exact⟨b,off,h1,Nat.lt_of_lt_of_le h2 hb.size,fun i s hi=>(hb.cell (p:=⟨b,off+i,none⟩) h2).trans (h3 i s hi)⟩
theorem RdS.new (w:World) (t:TypeId) (l:List ByteArray):RdS (w.alloc (.cells (l.map Value.string).toArray t)) (some ⟨w.heap.size,0,none⟩) l:=fun _=>
 ⟨w.heap.size,0,rfl,by simp,fun i s hi=>by simp [hi]⟩
def eqT (s x:ByteArray):Bool:=s.toList == x.toList
theorem index_any (A:Option Addr) (c:Nat) (l:List ByteArray) (s:ByteArray) (w:World) (hr:RdS w A l) (hn:l.length≤1000) :
  Calls Tryz.prog 38 #[.slice A l.length c,.string s] w fun e w'=>e=.returned (.int .i64 (placeI (fstP (eqT s) l)))∧w=w':=by
 have HR:=Lib.hid hr
 clear hr
 go_enter Tryz.func38,Tryz.ntmps38
 go_wp2
 go_loop [5,8] (fun _ s8=>∃k:Nat,k≤l.length∧s8=.int .i64 k∧Hid (∀(j:Nat) (y:ByteArray),j < k→l[j]? = some y→eqT s y=false)) (fun _ s8=>l.length - (intOf s8).toNat)
 case atStart=>exact⟨0,Nat.zero_le _,rfl,Lib.hid (fun j y hj=>absurd hj (by omega))⟩
 case round=>
  obtain⟨k,hk,rfl,HN⟩:=hrel
  by_cases hlt:k < l.length
  ·obtain⟨x,hx⟩:∃x,l[k]? = some x:=⟨_,List.getElem?_eq_getElem hlt⟩
   have HX:=Lib.hid hx
   obtain⟨b,off,rfl,hb,hcc⟩:=HR.out (by omega)
   have c0:=hcc k x hx
   clear hx hcc
   cases hq:eqT s x with
   | true=>
    have HF:Hid (fstP (eqT s) l=some k):=fstP_is HX.out hq HN.out
    unfold eqT at hq
    generalize l.length=n at *
    go_wp2
    go_ret
    exact⟨ret_int (by rw [HF.out];rfl),rfl⟩
   | false=>
    have HF:Hid (∀(j:Nat) (y:ByteArray),j < k+1→l[j]? = some y→eqT s y=false):=Lib.hid (fun j y hj hy=>by
     rcases Nat.lt_or_ge j k with h1|h1
     ·exact HN.out j y h1 hy
     ·obtain rfl:j=k:=by omega
      rw [HX.out] at hy
      simp only [Option.some.injEq] at hy
      rw [←hy];exact hq)
    unfold eqT at hq
    generalize l.length=n at *
    go_wp2
    go_round
    case rel=>exact⟨k+1,by omega,by go_num,HF⟩
    case measure=>simp [intOf];omega
  ·have HF:Hid (fstP (eqT s) l=none):=fstP_not (fun j y hy=>HN.out j y (by have:=(List.getElem?_eq_some_iff.1 hy).1;omega) hy)
   generalize l.length=n at *
   go_wp2
   go_ret
   exact⟨ret_int (by rw [HF.out];rfl),rfl⟩
theorem has_eq (l:List ByteArray) (s:ByteArray):hasS l s=l.any (eqT s):=by
 unfold hasS eqT
 congr 1
 funext x
 rw [Bool.eq_iff_iff,beq_iff_eq,beq_iff_eq]
 exact⟨Eq.symm,Eq.symm⟩
theorem contains_any (A:Option Addr) (c:Nat) (l:List ByteArray) (s:ByteArray) (w:World) (hr:RdS w A l) (hn:l.length≤1000) :
  Calls Tryz.prog 33 #[.slice A l.length c,.string s] w fun e w'=>e=.returned (.bool (hasS l s))∧w=w':=by
 have H:=Lib.hid (index_any A c l s w hr hn)
 have HX:Box (hasS l s=decide (0≤placeI (fstP (eqT s) l))):=⟨by rw [placeI_ge,has_eq,fstP_any]⟩
 generalize placeI (fstP (eqT s) l)=r at *
 generalize hasS l s=q at *
 generalize l.length=n at *
 clear hr
 go_enter Tryz.func33,Tryz.ntmps33
 go_wp2_with fail
 refine H.out.mono ?_
 rintro e w1 ⟨rfl,rfl⟩
 go_wp2
 go_ret
 exact⟨ret_bool HX.out.symm,rfl⟩
def wordI (k:Int):ByteArray:=if k=1 then(⟨#[109,101,115,115,97,103,101]⟩:ByteArray) else if k=2 then(⟨#[112,114,101,115,101,110,99,101]⟩:ByteArray) else if k=3 then(⟨#[105,113]⟩:ByteArray) else emB
end Go.Proofs.YtnfokaecobddkaaGreatDoor
end
section
namespace Go.Proofs.YtnfokaecobddkaaGreatDoor
open Go.RowKit
set_option maxRecDepth 10000
set_option linter.unusedSimpArgs false
set_option linter.unusedVariables false
theorem check_u8 (em:Bool) (n:Nat) (a:Int) (w:World):(Instr.checkKey em (n+1) 5 (.int .u8 a)).run Tryz.prog w=.ok () w:=by
 simp [Instr.checkKey,run_underlying Tryz.underlying5]
theorem put_u8 (w:World) (b:Nat) (es:Array MapEntry) (clock:Nat) (a:Int) (v:Value) (hb:w.heap[b]? = some (.map es clock)) (hf:Instr.findNow (.int .u8) (.int .u8 a) es.toList 0=some none) :
  (Instr.mapUpdate 76 (.map (some b)) (.int .u8 a) v).run Tryz.prog w=.ok () { w with heap:=w.heap.setIfInBounds b (.map (es.push { key:=.int .u8 a,val:=v,born:=clock}) (clock+1))}:=by
 have hc:=check_u8 false 9999 a w
 simp only [Nat.reduceAdd] at hc
 simp [Instr.mapUpdate,run_underlying Tryz.underlying76,run_underlying Tryz.underlying5,MapKept.run_getObj_map hb,hc,Instr.findKey,hf,MapKept.run_setObj_map _ hb]
theorem get_u8 (w:World) (b:Nat) (es:Array MapEntry) (clock:Nat) (a:Int) (o:Option (Nat×Value)) (hb:w.heap[b]? = some (.map es clock)) (hf:Instr.findNow (.int .u8) (.int .u8 a) es.toList 0=some o) :
  (Instr.lookup 76 (.map (some b)) (.int .u8 a) false).run Tryz.prog w=.ok (match o with|some x=>x.2|none=>.slice none 0 0) w:=by
 have hc:=fun em=>check_u8 em 9999 a w
 simp only [Nat.reduceAdd] at hc
 cases o with
 | none=>simp [Instr.lookup,run_underlying Tryz.underlying76,run_underlying Tryz.underlying5,MapKept.run_getObj_map hb,hc,Instr.findKey,hf,Tryz.zeroValue44]
 | some x=>simp [Instr.lookup,run_underlying Tryz.underlying76,run_underlying Tryz.underlying5,MapKept.run_getObj_map hb,hc,Instr.findKey,hf]
theorem same_u8 (a b:Int):Instr.sameNow (.int .u8) (.int .u8 a) (.int .u8 b)=some (a == b):=by simp [Instr.sameNow]
theorem find_3 (a:Int) (v1 v2 v3:Value):Instr.findNow (.int .u8) (.int .u8 a) [⟨.int .u8 1,v1,0⟩,⟨.int .u8 2,v2,1⟩,⟨.int .u8 3,v3,2⟩] 0=some (if a=1 then some (0,v1) else if a=2 then some (1,v2) else if a=3 then some (2,v3) else none):=by
 unfold Instr.findNow
 simp only [same_u8]
 by_cases h1:a=1
 ·subst h1;rfl
 ·rw [if_neg h1,show(a == 1)=false by simpa using h1]
  simp only []
  unfold Instr.findNow
  simp only [same_u8]
  by_cases h2:a=2
  ·subst h2;rfl
  ·rw [if_neg h2,show(a == 2)=false by simpa using h2]
   simp only []
   unfold Instr.findNow
   simp only [same_u8]
   by_cases h3:a=3
   ·subst h3;rfl
   ·rw [if_neg h3,show(a == 3)=false by simpa using h3]
    rfl
def MapT (u:Value) (W:World):Prop:=∃b A1 A2 A3 ck,u=.map (some b)∧W.heap[b]? = some (.map #[⟨.int .u8 1,.slice A1 6 6,0⟩,⟨.int .u8 2,.slice A2 8 8,1⟩,⟨.int .u8 3,.slice A3 4 4,2⟩] ck)∧RdS W A1 msgTypes∧RdS W A2 preTypes∧RdS W A3 iqTypes
theorem MapT.ext {u:Value} {W W':World} (h:MapT u W) (hb:Below W.heap.size W W'):MapT u W':=by
 obtain⟨b,A1,A2,A3,ck,h1,h2,h3,h4,h5⟩:=h
 exact⟨b,A1,A2,A3,ck,h1,(hb.block b (Array.getElem?_eq_some_iff.1 h2).1).trans h2,h3.ext hb,h4.ext hb,h5.ext hb⟩
theorem MapT.get {u:Value} {W:World} (h:MapT u W) (k:Int):∃b A c,u=.map (some b)∧(Instr.lookup 76 (.map (some b)) (.int .u8 k) false).run Tryz.prog W=.ok (.slice A (typesOf k).length c) W∧RdS W A (typesOf k):=by
 obtain⟨b,A1,A2,A3,ck,h1,h2,h3,h4,h5⟩:=h
 have hg:=fun o=>get_u8 W b _ ck k o h2
 have hf:=find_3 k (.slice A1 6 6) (.slice A2 8 8) (.slice A3 4 4)
 by_cases k1:k=1
 ·subst k1
  exact⟨b,A1,6,h1,hg _ hf,h3⟩
 ·by_cases k2:k=2
  ·subst k2
   exact⟨b,A2,8,h1,hg _ hf,h4⟩
  ·by_cases k3:k=3
   ·subst k3
    exact⟨b,A3,4,h1,hg _ hf,h5⟩
   ·have e:typesOf k=[]:=by unfold typesOf;rw [if_neg k1,if_neg k2,if_neg k3]
    rw [if_neg k1,if_neg k2,if_neg k3] at hf
    have hl:=hg _ hf
    refine⟨b,none,0,h1,?_,fun h0=>?_⟩
    ·rw [e];exact hl
    ·rw [e] at h0;cases h0
theorem set_keep {W:World} {b k:Nat} {o:Obj} (h:k≠b):({ W with heap:=W.heap.setIfInBounds b o}:World).heap[k]? = W.heap[k]?:=by
 show(W.heap.setIfInBounds b o)[k]? = _
 rw [Array.getElem?_setIfInBounds_ne (by omega)]
theorem set_at' {W:World} {b:Nat} {o:Obj} (h:b < W.heap.size):({ W with heap:=W.heap.setIfInBounds b o}:World).heap[b]? = some o:=by
 show(W.heap.setIfInBounds b o)[b]? = _
 rw [Array.getElem?_setIfInBounds_self_of_lt h]
theorem below_set {B b:Nat} {w W:World} {o:Obj} (h:Below B w W) (hb:B≤b):Below B w { W with heap:=W.heap.setIfInBounds b o}:=
 h.trans ⟨rfl,rfl,rfl,by simp,fun k hk=>set_keep (by omega)⟩
def RowS (W:World) (g:Nat) (l:List ByteArray):Prop:=∃t,W.heap[g]? = some (.cells (l.map Value.string).toArray t (0,0))
theorem RowS.rds {W:World} {g:Nat} {l:List ByteArray} (h:RowS W g l):RdS W (some ⟨g,0,none⟩) l:=fun _=>by
 obtain⟨t,h⟩:=h
 exact⟨g,0,rfl,(Array.getElem?_eq_some_iff.1 h).1,fun i s hi=>by simp [World.cell?,h,hi]⟩
theorem RowS.set {W:World} {g b:Nat} {l:List ByteArray} {o:Obj} (h:RowS W g l) (hne:g≠b):RowS { W with heap:=W.heap.setIfInBounds b o} g l:=by
 obtain⟨t,h⟩:=h
 exact⟨t,(set_keep hne).trans h⟩
theorem RowS.alloc {W:World} {g:Nat} {l:List ByteArray} (h:RowS W g l) (o:Obj):RowS (W.alloc o) g l:=by
 obtain⟨t,h⟩:=h
 exact⟨t,heap_ext h ((Below.refl _ _).alloc (Nat.le_refl _) _)⟩
theorem RowS.new (W:World) (g:Nat) (t:TypeId) (l:List ByteArray) (hg:g=W.heap.size):RowS (W.alloc (.cells (l.map Value.string).toArray t)) g l:=by
 subst hg
 exact⟨t,heap_alloc_new W _⟩
set_option maxHeartbeats 4000000 in
theorem types_any (w:World):Calls Tryz.prog 34 #[] w fun e w'=>∃u,e=.returned u∧MapT u w'∧Below w.heap.size w w':=by
 have hm:=fun W=>run_makeMap (P:=Tryz.prog) 76 W
 have hM0:(w.alloc (.map #[] 0)).heap[w.heap.size]? = some (.map #[] 0):=heap_alloc_new w _
 have hS0:(w.alloc (.map #[] 0)).heap.size=w.heap.size+1:=by simp
 have hB0:Below w.heap.size w (w.alloc (.map #[] 0)):=(Below.refl _ _).alloc (Nat.le_refl _) _
 have hR1:RowS ((w.alloc (.map #[] 0)).alloc (.cells #[.string (⟨#[]⟩:ByteArray),.string (⟨#[99,104,97,116]⟩:ByteArray),.string (⟨#[101,114,114,111,114]⟩:ByteArray),.string (⟨#[103,114,111,117,112,99,104,97,116]⟩:ByteArray),.string (⟨#[104,101,97,100,108,105,110,101]⟩:ByteArray),.string (⟨#[110,111,114,109,97,108]⟩:ByteArray)] 9)) (w.heap.size+1) msgTypes:=RowS.new _ _ _ msgTypes (by rw [hS0])
 have hA1:((w.alloc (.map #[] 0)).alloc (.cells #[.string (⟨#[]⟩:ByteArray),.string (⟨#[99,104,97,116]⟩:ByteArray),.string (⟨#[101,114,114,111,114]⟩:ByteArray),.string (⟨#[103,114,111,117,112,99,104,97,116]⟩:ByteArray),.string (⟨#[104,101,97,100,108,105,110,101]⟩:ByteArray),.string (⟨#[110,111,114,109,97,108]⟩:ByteArray)] 9)).heap[w.heap.size]? = some (.map #[] 0):=heap_ext hM0 ((Below.refl _ _).alloc (Nat.le_refl _) _)
 have hC1:Below w.heap.size w ((w.alloc (.map #[] 0)).alloc (.cells #[.string (⟨#[]⟩:ByteArray),.string (⟨#[99,104,97,116]⟩:ByteArray),.string (⟨#[101,114,114,111,114]⟩:ByteArray),.string (⟨#[103,114,111,117,112,99,104,97,116]⟩:ByteArray),.string (⟨#[104,101,97,100,108,105,110,101]⟩:ByteArray),.string (⟨#[110,111,114,109,97,108]⟩:ByteArray)] 9)):=hB0.alloc hB0.size _
 have hp1:=put_u8 ((w.alloc (.map #[] 0)).alloc (.cells #[.string (⟨#[]⟩:ByteArray),.string (⟨#[99,104,97,116]⟩:ByteArray),.string (⟨#[101,114,114,111,114]⟩:ByteArray),.string (⟨#[103,114,111,117,112,99,104,97,116]⟩:ByteArray),.string (⟨#[104,101,97,100,108,105,110,101]⟩:ByteArray),.string (⟨#[110,111,114,109,97,108]⟩:ByteArray)] 9)) w.heap.size #[] 0 1 (.slice (some ⟨w.heap.size+1,0,none⟩) 6 6) hA1 rfl
 obtain⟨W1,hW1⟩:∃W1,W1=({ ((w.alloc (.map #[] 0)).alloc (.cells #[.string (⟨#[]⟩:ByteArray),.string (⟨#[99,104,97,116]⟩:ByteArray),.string (⟨#[101,114,114,111,114]⟩:ByteArray),.string (⟨#[103,114,111,117,112,99,104,97,116]⟩:ByteArray),.string (⟨#[104,101,97,100,108,105,110,101]⟩:ByteArray),.string (⟨#[110,111,114,109,97,108]⟩:ByteArray)] 9)) with heap:=((w.alloc (.map #[] 0)).alloc (.cells #[.string (⟨#[]⟩:ByteArray),.string (⟨#[99,104,97,116]⟩:ByteArray),.string (⟨#[101,114,114,111,114]⟩:ByteArray),.string (⟨#[103,114,111,117,112,99,104,97,116]⟩:ByteArray),.string (⟨#[104,101,97,100,108,105,110,101]⟩:ByteArray),.string (⟨#[110,111,114,109,97,108]⟩:ByteArray)] 9)).heap.setIfInBounds w.heap.size (.map (#[].push { key:=.int .u8 1,val:=.slice (some ⟨w.heap.size+1,0,none⟩) 6 6,born:=0}) (0+1))}:World):=⟨_,rfl⟩
 rw [←hW1] at hp1
 have hM1:W1.heap[w.heap.size]? = some (.map #[⟨.int .u8 1,.slice (some ⟨w.heap.size+1,0,none⟩) 6 6,0⟩] 1):=by rw [hW1];exact set_at' (by have:=hC1.size;have:=(Array.getElem?_eq_some_iff.1 hA1).1;omega)
 have hS1:W1.heap.size=w.heap.size+1+1:=by rw [hW1];show(Array.setIfInBounds _ _ _).size=_;simp [hS0]
 have hB1:Below w.heap.size w W1:=by rw [hW1];exact below_set hC1 (Nat.le_refl _)
 have hR1':RowS W1 (w.heap.size+1) msgTypes:=by rw [hW1];exact RowS.set hR1 (by omega)
 clear hW1
 have hR2:RowS (W1.alloc (.cells #[.string (⟨#[]⟩:ByteArray),.string (⟨#[117,110,97,118,97,105,108,97,98,108,101]⟩:ByteArray),.string (⟨#[115,117,98,115,99,114,105,98,101]⟩:ByteArray),.string (⟨#[115,117,98,115,99,114,105,98,101,100]⟩:ByteArray),.string (⟨#[117,110,115,117,98,115,99,114,105,98,101]⟩:ByteArray),.string (⟨#[117,110,115,117,98,115,99,114,105,98,101,100]⟩:ByteArray),.string (⟨#[112,114,111,98,101]⟩:ByteArray),.string (⟨#[101,114,114,111,114]⟩:ByteArray)] 9)) (w.heap.size+1+1) preTypes:=RowS.new _ _ _ preTypes (by rw [hS1])
 have hr11:RowS (W1.alloc (.cells #[.string (⟨#[]⟩:ByteArray),.string (⟨#[117,110,97,118,97,105,108,97,98,108,101]⟩:ByteArray),.string (⟨#[115,117,98,115,99,114,105,98,101]⟩:ByteArray),.string (⟨#[115,117,98,115,99,114,105,98,101,100]⟩:ByteArray),.string (⟨#[117,110,115,117,98,115,99,114,105,98,101]⟩:ByteArray),.string (⟨#[117,110,115,117,98,115,99,114,105,98,101,100]⟩:ByteArray),.string (⟨#[112,114,111,98,101]⟩:ByteArray),.string (⟨#[101,114,114,111,114]⟩:ByteArray)] 9)) (w.heap.size+1) msgTypes:=RowS.alloc hR1' _
 have hA2:(W1.alloc (.cells #[.string (⟨#[]⟩:ByteArray),.string (⟨#[117,110,97,118,97,105,108,97,98,108,101]⟩:ByteArray),.string (⟨#[115,117,98,115,99,114,105,98,101]⟩:ByteArray),.string (⟨#[115,117,98,115,99,114,105,98,101,100]⟩:ByteArray),.string (⟨#[117,110,115,117,98,115,99,114,105,98,101]⟩:ByteArray),.string (⟨#[117,110,115,117,98,115,99,114,105,98,101,100]⟩:ByteArray),.string (⟨#[112,114,111,98,101]⟩:ByteArray),.string (⟨#[101,114,114,111,114]⟩:ByteArray)] 9)).heap[w.heap.size]? = some (.map #[⟨.int .u8 1,.slice (some ⟨w.heap.size+1,0,none⟩) 6 6,0⟩] 1):=heap_ext hM1 ((Below.refl _ _).alloc (Nat.le_refl _) _)
 have hC2:Below w.heap.size w (W1.alloc (.cells #[.string (⟨#[]⟩:ByteArray),.string (⟨#[117,110,97,118,97,105,108,97,98,108,101]⟩:ByteArray),.string (⟨#[115,117,98,115,99,114,105,98,101]⟩:ByteArray),.string (⟨#[115,117,98,115,99,114,105,98,101,100]⟩:ByteArray),.string (⟨#[117,110,115,117,98,115,99,114,105,98,101]⟩:ByteArray),.string (⟨#[117,110,115,117,98,115,99,114,105,98,101,100]⟩:ByteArray),.string (⟨#[112,114,111,98,101]⟩:ByteArray),.string (⟨#[101,114,114,111,114]⟩:ByteArray)] 9)):=hB1.alloc hB1.size _
 have hp2:=put_u8 (W1.alloc (.cells #[.string (⟨#[]⟩:ByteArray),.string (⟨#[117,110,97,118,97,105,108,97,98,108,101]⟩:ByteArray),.string (⟨#[115,117,98,115,99,114,105,98,101]⟩:ByteArray),.string (⟨#[115,117,98,115,99,114,105,98,101,100]⟩:ByteArray),.string (⟨#[117,110,115,117,98,115,99,114,105,98,101]⟩:ByteArray),.string (⟨#[117,110,115,117,98,115,99,114,105,98,101,100]⟩:ByteArray),.string (⟨#[112,114,111,98,101]⟩:ByteArray),.string (⟨#[101,114,114,111,114]⟩:ByteArray)] 9)) w.heap.size #[⟨.int .u8 1,.slice (some ⟨w.heap.size+1,0,none⟩) 6 6,0⟩] 1 2 (.slice (some ⟨w.heap.size+1+1,0,none⟩) 8 8) hA2 rfl
 obtain⟨W2,hW2⟩:∃W2,W2=({ (W1.alloc (.cells #[.string (⟨#[]⟩:ByteArray),.string (⟨#[117,110,97,118,97,105,108,97,98,108,101]⟩:ByteArray),.string (⟨#[115,117,98,115,99,114,105,98,101]⟩:ByteArray),.string (⟨#[115,117,98,115,99,114,105,98,101,100]⟩:ByteArray),.string (⟨#[117,110,115,117,98,115,99,114,105,98,101]⟩:ByteArray),.string (⟨#[117,110,115,117,98,115,99,114,105,98,101,100]⟩:ByteArray),.string (⟨#[112,114,111,98,101]⟩:ByteArray),.string (⟨#[101,114,114,111,114]⟩:ByteArray)] 9)) with heap:=(W1.alloc (.cells #[.string (⟨#[]⟩:ByteArray),.string (⟨#[117,110,97,118,97,105,108,97,98,108,101]⟩:ByteArray),.string (⟨#[115,117,98,115,99,114,105,98,101]⟩:ByteArray),.string (⟨#[115,117,98,115,99,114,105,98,101,100]⟩:ByteArray),.string (⟨#[117,110,115,117,98,115,99,114,105,98,101]⟩:ByteArray),.string (⟨#[117,110,115,117,98,115,99,114,105,98,101,100]⟩:ByteArray),.string (⟨#[112,114,111,98,101]⟩:ByteArray),.string (⟨#[101,114,114,111,114]⟩:ByteArray)] 9)).heap.setIfInBounds w.heap.size (.map (#[⟨.int .u8 1,.slice (some ⟨w.heap.size+1,0,none⟩) 6 6,0⟩].push { key:=.int .u8 2,val:=.slice (some ⟨w.heap.size+1+1,0,none⟩) 8 8,born:=1}) (1+1))}:World):=⟨_,rfl⟩
 rw [←hW2] at hp2
 have hM2:W2.heap[w.heap.size]? = some (.map #[⟨.int .u8 1,.slice (some ⟨w.heap.size+1,0,none⟩) 6 6,0⟩,⟨.int .u8 2,.slice (some ⟨w.heap.size+1+1,0,none⟩) 8 8,1⟩] 2):=by rw [hW2];exact set_at' (by have:=hC2.size;have:=(Array.getElem?_eq_some_iff.1 hA2).1;omega)
 have hS2:W2.heap.size=w.heap.size+1+1+1:=by rw [hW2];show(Array.setIfInBounds _ _ _).size=_;simp [hS1]
 have hB2:Below w.heap.size w W2:=by rw [hW2];exact below_set hC2 (Nat.le_refl _)
 have hR1'':RowS W2 (w.heap.size+1) msgTypes:=by rw [hW2];exact RowS.set hr11 (by omega)
 have hR2':RowS W2 (w.heap.size+1+1) preTypes:=by rw [hW2];exact RowS.set hR2 (by omega)
 clear hW2
 have hR3:RowS (W2.alloc (.cells #[.string (⟨#[103,101,116]⟩:ByteArray),.string (⟨#[115,101,116]⟩:ByteArray),.string (⟨#[114,101,115,117,108,116]⟩:ByteArray),.string (⟨#[101,114,114,111,114]⟩:ByteArray)] 9)) (w.heap.size+1+1+1) iqTypes:=RowS.new _ _ _ iqTypes (by rw [hS2])
 have hr12:RowS (W2.alloc (.cells #[.string (⟨#[103,101,116]⟩:ByteArray),.string (⟨#[115,101,116]⟩:ByteArray),.string (⟨#[114,101,115,117,108,116]⟩:ByteArray),.string (⟨#[101,114,114,111,114]⟩:ByteArray)] 9)) (w.heap.size+1) msgTypes:=RowS.alloc hR1'' _
 have hr22:RowS (W2.alloc (.cells #[.string (⟨#[103,101,116]⟩:ByteArray),.string (⟨#[115,101,116]⟩:ByteArray),.string (⟨#[114,101,115,117,108,116]⟩:ByteArray),.string (⟨#[101,114,114,111,114]⟩:ByteArray)] 9)) (w.heap.size+1+1) preTypes:=RowS.alloc hR2' _
 have hA3:(W2.alloc (.cells #[.string (⟨#[103,101,116]⟩:ByteArray),.string (⟨#[115,101,116]⟩:ByteArray),.string (⟨#[114,101,115,117,108,116]⟩:ByteArray),.string (⟨#[101,114,114,111,114]⟩:ByteArray)] 9)).heap[w.heap.size]? = some (.map #[⟨.int .u8 1,.slice (some ⟨w.heap.size+1,0,none⟩) 6 6,0⟩,⟨.int .u8 2,.slice (some ⟨w.heap.size+1+1,0,none⟩) 8 8,1⟩] 2):=heap_ext hM2 ((Below.refl _ _).alloc (Nat.le_refl _) _)
 have hC3:Below w.heap.size w (W2.alloc (.cells #[.string (⟨#[103,101,116]⟩:ByteArray),.string (⟨#[115,101,116]⟩:ByteArray),.string (⟨#[114,101,115,117,108,116]⟩:ByteArray),.string (⟨#[101,114,114,111,114]⟩:ByteArray)] 9)):=hB2.alloc hB2.size _
 have hp3:=put_u8 (W2.alloc (.cells #[.string (⟨#[103,101,116]⟩:ByteArray),.string (⟨#[115,101,116]⟩:ByteArray),.string (⟨#[114,101,115,117,108,116]⟩:ByteArray),.string (⟨#[101,114,114,111,114]⟩:ByteArray)] 9)) w.heap.size #[⟨.int .u8 1,.slice (some ⟨w.heap.size+1,0,none⟩) 6 6,0⟩,⟨.int .u8 2,.slice (some ⟨w.heap.size+1+1,0,none⟩) 8 8,1⟩] 2 3 (.slice (some ⟨w.heap.size+1+1+1,0,none⟩) 4 4) hA3 rfl
 obtain⟨W3,hW3⟩:∃W3,W3=({ (W2.alloc (.cells #[.string (⟨#[103,101,116]⟩:ByteArray),.string (⟨#[115,101,116]⟩:ByteArray),.string (⟨#[114,101,115,117,108,116]⟩:ByteArray),.string (⟨#[101,114,114,111,114]⟩:ByteArray)] 9)) with heap:=(W2.alloc (.cells #[.string (⟨#[103,101,116]⟩:ByteArray),.string (⟨#[115,101,116]⟩:ByteArray),.string (⟨#[114,101,115,117,108,116]⟩:ByteArray),.string (⟨#[101,114,114,111,114]⟩:ByteArray)] 9)).heap.setIfInBounds w.heap.size (.map (#[⟨.int .u8 1,.slice (some ⟨w.heap.size+1,0,none⟩) 6 6,0⟩,⟨.int .u8 2,.slice (some ⟨w.heap.size+1+1,0,none⟩) 8 8,1⟩].push { key:=.int .u8 3,val:=.slice (some ⟨w.heap.size+1+1+1,0,none⟩) 4 4,born:=2}) (2+1))}:World):=⟨_,rfl⟩
 rw [←hW3] at hp3
 have hM3:W3.heap[w.heap.size]? = some (.map #[⟨.int .u8 1,.slice (some ⟨w.heap.size+1,0,none⟩) 6 6,0⟩,⟨.int .u8 2,.slice (some ⟨w.heap.size+1+1,0,none⟩) 8 8,1⟩,⟨.int .u8 3,.slice (some ⟨w.heap.size+1+1+1,0,none⟩) 4 4,2⟩] 3):=by rw [hW3];exact set_at' (by have:=hC3.size;have:=(Array.getElem?_eq_some_iff.1 hA3).1;omega)
 have hS3:W3.heap.size=w.heap.size+1+1+1+1:=by rw [hW3];show(Array.setIfInBounds _ _ _).size=_;simp [hS2]
 have hB3:Below w.heap.size w W3:=by rw [hW3];exact below_set hC3 (Nat.le_refl _)
 have hR1''':RowS W3 (w.heap.size+1) msgTypes:=by rw [hW3];exact RowS.set hr12 (by omega)
 have hR2'':RowS W3 (w.heap.size+1+1) preTypes:=by rw [hW3];exact RowS.set hr22 (by omega)
 have hR3':RowS W3 (w.heap.size+1+1+1) iqTypes:=by rw [hW3];exact RowS.set hR3 (by omega)
 clear hW3
 have HM:=Lib.hid hM3
 have HB:=Lib.hid hB3
 have H1:=Lib.hid hR1'''
 have H2:=Lib.hid hR2''
 have H3:=Lib.hid hR3'
 clear hM0 hM1 hM2 hM3 hB0 hB1 hB2 hB3 hR1 hR2 hR3 hR1' hR1'' hR1''' hR2' hR2'' hR3' hr11 hr12 hr22 hA1 hA2 hA3 hC1 hC2 hC3 hS0 hS3
 go_enter Tryz.func34,Tryz.ntmps34
 go_wp2
 go_ret
 exact⟨_,rfl,⟨w.heap.size,_,_,_,3,rfl,HM.out,H1.out.rds,H2.out.rds,H3.out.rds⟩,HB.out⟩
end Go.Proofs.YtnfokaecobddkaaGreatDoor
end
section
namespace Go.Proofs.YtnfokaecobddkaaGreatDoor
open Go.RowKit
set_option linter.unusedSimpArgs false
set_option linter.unusedVariables false
theorem size_attrs (W:World):(sizeOf (Tryz.prog.elem 67)).run Tryz.prog W=.ok 3 W:=by kernel_rfl
theorem front_attrs (A:Option Addr) (m c K:Nat) (hK:K≤m) (hc:m≤c):∃A',(∀W,(Instr.slice 67 (.slice A m c) none (some (.int .i64 (K:Int))) none).run Tryz.prog W=.ok (.slice A' K c) W)∧
  ∀W B (l:List AttrL),l.length=m→RdA W B A l→RdA W B A' (l.take K):=by
 refine⟨if c=0 then A else A.map (·.add (0*3)),fun W=>?_,fun W B l hl h=>?_⟩
 ·rw [run_slice_h W 67 A m c (by kernel_rfl) .i64 K (by omega) (by omega),size_attrs]
  rfl
 ·intro h0
  rw [List.length_take] at h0
  obtain⟨b,off,rfl,hb,hcell⟩:=h (by omega)
  rw [if_neg (by omega)]
  refine⟨b,off,by simp [Addr.add],hb,fun i a hi=>hcell i a ?_⟩
  rw [List.getElem?_take] at hi
  split at hi
  ·exact hi
  ·cases hi
theorem cell_lt {w:World} {b o:Nat} {v:Value} (h:w.cell? ⟨b,o,none⟩=some v):b < w.heap.size:=World.block_lt_of_cell? w _ h
set_option maxHeartbeats 1000000 in
theorem attrs1_any (a b:AttrL) (B:Nat) (w:World) (c0:w.cell? ⟨B,0,none⟩=some (.string a.space)) (c1:w.cell? ⟨B,1,none⟩=some (.string a.name)) :
  Calls Tryz.prog 173 #[encA b,.pointer (some ⟨B,0,none⟩)] w fun e w'=>e=.returned (.bool (dupA a b))∧Below w.heap.size w w':=by
 have hB:=cell_lt c0
 have hne:B≠w.heap.size:=by omega
 have hX:=Lib.hid ((Below.refl w.heap.size w).alloc (Nat.le_refl _) (.cells #[.string b.space,.string b.name,.string b.value] 80))
 have HD:Box (dupA a b=(eqS a.space b.space && eqS a.name b.name)):=⟨rfl⟩
 unfold eqS at HD
 generalize dupA a b=r at *
 cases hq:a.space.toList == b.space.toList with
 | false=>
  rw [hq] at HD
  unfold encA
  go_enter Tryz.func173,Tryz.ntmps173
  go_wp2
  go_ret
  exact⟨ret_bool (by rw [HD.out];rfl),hX.out⟩
 | true=>
  rw [hq] at HD
  unfold encA
  go_enter Tryz.func173,Tryz.ntmps173
  go_wp2
  go_ret
  exact⟨ret_bool (by rw [HD.out];rfl),hX.out⟩
end Go.Proofs.YtnfokaecobddkaaGreatDoor
end
