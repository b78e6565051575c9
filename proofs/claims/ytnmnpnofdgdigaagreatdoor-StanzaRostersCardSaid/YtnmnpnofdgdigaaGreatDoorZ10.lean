/- Part 10 of a proof laid in parts, one behind the other; no condition of its own. -/
import Derived.Test.YtnmnpnofdgdigaaGreatDoorZ09
set_option linter.all false
section
namespace Go.Proofs.YtnmnpnofdgdigaaGreatDoor
open Go.RowKit
set_option linter.unusedSimpArgs false
set_option linter.unusedVariables false
def emJ:JidL:=⟨emB,emB,emB⟩
def parsedJ (s:ByteArray):JidL:=(parseI s).getD emJ
def parseE (s:ByteArray):Int:=if (parseI s).isSome then 0 else 190
theorem readJ_sz (s:ByteArray):(readJ s).loc.size≤s.size∧(readJ s).dom.size≤s.size∧(readJ s).res.size≤s.size:=by
 have h1:=cut_sz s 47
 have h2:=cut_sz (lowI (cutI s 47).1) 64
 rw [lowI_size] at h2
 have h0:emB.size=0:=rfl
 unfold readJ
 split
 ·exact⟨by dsimp only;omega,by dsimp only;omega,by dsimp only;omega⟩
 ·exact⟨by dsimp only;omega,by dsimp only;rw [lowI_size];omega,by dsimp only;omega⟩
def ParsePost (s:ByteArray) (w:World) (e:Ending) (w':World):Prop:=e=.returned (.tuple #[encJ (parsedJ s),.int .i64 (parseE s)])∧Below w.heap.size w w'
set_option maxHeartbeats 8000000 in
set_option maxRecDepth 10000 in
theorem jparse_any (s:ByteArray) (w:World) (hs:s.size≤1000000000) (hg:Glb w):Calls Tryz.prog 115 #[.string s] w (ParsePost s w):=by
 have hz1:=cut_sz s 47
 have hz2:=cut_sz (lowI (cutI s 47).1) 64
 have hz3:=lowI_size (cutI s 47).1
 have hz4:=readJ_sz s
 have H1:=Lib.hid (fun W=>scut_any s 47 W hs)
 have H2:=Lib.hid (fun W=>lower_any (cutI s 47).1 W (by omega))
 have H3:=Lib.hid (fun W=>scut_any (lowI (cutI s 47).1) 64 W (by omega))
 have H4:=Lib.hid (fun W (hW:Glb W)=>jcheck_any (readJ s) W ⟨by omega,by omega,by omega⟩ hW)
 rw [show(((47:UInt8).toNat:Nat):Int)=47 from rfl] at H1
 rw [show(((64:UInt8).toNat:Nat):Int)=64 from rfl] at H3
 unfold CutPost at H1 H3
 have HP:Box (parseI s=if (hasL s && isEmp (readJ s).loc || hasR s && isEmp (readJ s).res || !jidI (readJ s)) then none else some (readJ s)):=⟨rfl⟩
 have HR:Box (readJ s=if hasL s then⟨(cutI (lowI (cutI s 47).1) 64).1,(cutI (lowI (cutI s 47).1) 64).2.1,(cutI s 47).2.1⟩ else⟨emB,lowI (cutI s 47).1,(cutI s 47).2.1⟩):=⟨rfl⟩
 have HL:Box ((cutI (lowI (cutI s 47).1) 64).2.2=hasL s):=⟨rfl⟩
 have HB:Box ((cutI s 47).2.2=hasR s):=⟨rfl⟩
 rw [HB.out] at H1
 rw [HL.out] at H3
 have HV:Box (ParsePost s w=fun e w'=>e=.returned (.tuple #[encJ (parsedJ s),.int .i64 (parseE s)])∧Below w.heap.size w w'):=⟨rfl⟩
 have HD:Box (parsedJ s=(parseI s).getD emJ∧parseE s=if (parseI s).isSome then 0 else 190):=⟨⟨rfl,rfl⟩⟩
 rw [HV.out]
 have HG:=Lib.hid hg
 have HE:Box (jidErr (readJ s)=if jidI (readJ s) then 0 else 8):=⟨rfl⟩
 have hgl:=hg.lt
 generalize parsedJ s=pj at *
 generalize parseE s=pe at *
 generalize parseI s=pi at *
 generalize hasL s=bL at *
 generalize hasR s=bR at *
 generalize readJ s=j at *
 generalize (cutI (lowI (cutI s 47).1) 64).1=q1 at *
 generalize (cutI (lowI (cutI s 47).1) 64).2.1=q2 at *
 generalize lowI (cutI s 47).1=L at *
 generalize (cutI s 47).1=p1 at *
 generalize (cutI s 47).2.1=p2 at *
 generalize jidErr j=je at *
 clear hz1 hz2 hz3 hz4 HV HL HB hg
 have e2:=emp_iff p2
 have eq1:=emp_iff q1
 obtain⟨W0,hW0⟩:∃W0,W0=w.alloc (.cells #[.string ⟨#[]⟩,.string ⟨#[]⟩,.string ⟨#[]⟩] 102):=⟨_,rfl⟩
 have hX0:Below w.heap.size w W0:=by rw [hW0];exact(Below.refl _ _).alloc (Nat.le_refl _) _
 have hJ0:JAt W0 w.heap.size emB emB emB:=by rw [hW0];exact JAt.new _ _ _ _ _
 have HJ0:=Lib.hid hJ0
 have HX0:=Lib.hid hX0
 rw [hW0] at HX0 HJ0
 clear hW0 hX0 hJ0
 cases bL
 ·have hj:j=⟨emB,L,p2⟩:=by rw [HR.out];rfl
  subst hj
  clear HR
  unfold encJ emB at H4
  cases bR
  ·have HPJ:Box (pi=if (!jidI ⟨emB,L,p2⟩) then none else some ⟨emB,L,p2⟩):=⟨by rw [HP.out];simp⟩
   clear HP
   cases hjj:jidI ⟨emB,L,p2⟩
   all_goals
    rw [hjj] at HPJ HE
    have hje:=HE.out
    try simp only [Bool.false_eq_true,if_false] at hje
    try simp only [if_true] at hje
    clear HE hjj
    subst hje
   ·have HD1:Box (pj=emJ):=⟨by rw [HD.out.1,HPJ.out];rfl⟩
    have HD2:Box (pe=190):=⟨by rw [HD.out.2,HPJ.out];rfl⟩
    go_enter Tryz.func115,Tryz.ntmps115
    go_wp2_with fail
    refine(H1.out _).mono ?_
    rintro e w1 ⟨rfl,hb1⟩
    have J1:=Lib.hid (HJ0.out.ext hb1)
    have X1:=Lib.hid (HX0.out.trans (hb1.mono HX0.out.size))
    clear hb1
    go_wp2_with fail
    refine(H2.out _).mono ?_
    rintro e w2 ⟨rfl,hb2⟩
    have J2:=Lib.hid (J1.out.ext hb2)
    have X2:=Lib.hid (X1.out.trans (hb2.mono X1.out.size))
    clear hb2
    go_wp2_with fail
    refine(H3.out _).mono ?_
    rintro e w3 ⟨rfl,hb3⟩
    have J3:=Lib.hid (J2.out.ext hb3)
    have X3:=Lib.hid (X2.out.trans (hb3.mono X2.out.size))
    clear hb3 J1 J2 X1 X2
    have c0:=J3.out.c0
    have c1:=J3.out.c1
    have c2:=J3.out.c2
    have f0:=J3.out.fz 0
    have f1:=J3.out.fz 1
    have f2:=J3.out.fz 2
    go_wp2_with fail
    have X4:=Lib.hid (((X3.out.setCell (p:=⟨w.heap.size,0,none⟩) (Nat.le_refl _) (.string ⟨#[]⟩)).setCell (p:=⟨w.heap.size,1,none⟩) (Nat.le_refl _) (.string L)).setCell (p:=⟨w.heap.size,2,none⟩) (Nat.le_refl _) (.string p2))
    refine(H4.out _ (HG.out.below X4.out)).mono ?_
    rintro e w4 ⟨rfl,hb4⟩
    have J4:=Lib.hid ((((J3.out.set0 emB).set1 L).set2 p2).ext hb4)
    have X5:=Lib.hid (X4.out.trans (hb4.mono X4.out.size))
    clear hb4 c0 c1 c2 f0 f1 f2
    have c0:=J4.out.c0
    have c1:=J4.out.c1
    have c2:=J4.out.c2
    have f0:=J4.out.fz 0
    have f1:=J4.out.fz 1
    have f2:=J4.out.fz 2
    go_wp2
    have JZ:=((J4.out.set0 emB).set1 emB).set2 emB
    have XZ:=((X5.out.setCell (p:=⟨w.heap.size,0,none⟩) (Nat.le_refl _) (.string ⟨#[]⟩)).setCell (p:=⟨w.heap.size,1,none⟩) (Nat.le_refl _) (.string ⟨#[]⟩)).setCell (p:=⟨w.heap.size,2,none⟩) (Nat.le_refl _) (.string ⟨#[]⟩)
    obtain⟨tt,hh⟩:=JZ
    exact bodyPost_ret (v:=.tuple #[encJ emJ,.int .i64 190])
     (results_jid (fn:=Tryz.f115) (p:=2) (s:=3) (ty:=102) rfl _ _ w.heap.size _ _ _ _ rfl rfl hh Tryz.underlying102 (by kernel_rfl)) rfl ⟨by rw [HD1.out,HD2.out],XZ⟩
   ·have HD1:Box (pj=⟨emB,L,p2⟩):=⟨by rw [HD.out.1,HPJ.out];rfl⟩
    have HD2:Box (pe=0):=⟨by rw [HD.out.2,HPJ.out];rfl⟩
    go_enter Tryz.func115,Tryz.ntmps115
    go_wp2_with fail
    refine(H1.out _).mono ?_
    rintro e w1 ⟨rfl,hb1⟩
    have J1:=Lib.hid (HJ0.out.ext hb1)
    have X1:=Lib.hid (HX0.out.trans (hb1.mono HX0.out.size))
    clear hb1
    go_wp2_with fail
    refine(H2.out _).mono ?_
    rintro e w2 ⟨rfl,hb2⟩
    have J2:=Lib.hid (J1.out.ext hb2)
    have X2:=Lib.hid (X1.out.trans (hb2.mono X1.out.size))
    clear hb2
    go_wp2_with fail
    refine(H3.out _).mono ?_
    rintro e w3 ⟨rfl,hb3⟩
    have J3:=Lib.hid (J2.out.ext hb3)
    have X3:=Lib.hid (X2.out.trans (hb3.mono X2.out.size))
    clear hb3 J1 J2 X1 X2
    have c0:=J3.out.c0
    have c1:=J3.out.c1
    have c2:=J3.out.c2
    have f0:=J3.out.fz 0
    have f1:=J3.out.fz 1
    have f2:=J3.out.fz 2
    go_wp2_with fail
    have X4:=Lib.hid (((X3.out.setCell (p:=⟨w.heap.size,0,none⟩) (Nat.le_refl _) (.string ⟨#[]⟩)).setCell (p:=⟨w.heap.size,1,none⟩) (Nat.le_refl _) (.string L)).setCell (p:=⟨w.heap.size,2,none⟩) (Nat.le_refl _) (.string p2))
    refine(H4.out _ (HG.out.below X4.out)).mono ?_
    rintro e w4 ⟨rfl,hb4⟩
    have J4:=Lib.hid ((((J3.out.set0 emB).set1 L).set2 p2).ext hb4)
    have X5:=Lib.hid (X4.out.trans (hb4.mono X4.out.size))
    clear hb4 c0 c1 c2 f0 f1 f2
    have c0:=J4.out.c0
    have c1:=J4.out.c1
    have c2:=J4.out.c2
    have f0:=J4.out.fz 0
    have f1:=J4.out.fz 1
    have f2:=J4.out.fz 2
    go_wp2
    have JZ:=((J4.out.set0 emB).set1 L).set2 p2
    have XZ:=((X5.out.setCell (p:=⟨w.heap.size,0,none⟩) (Nat.le_refl _) (.string ⟨#[]⟩)).setCell (p:=⟨w.heap.size,1,none⟩) (Nat.le_refl _) (.string L)).setCell (p:=⟨w.heap.size,2,none⟩) (Nat.le_refl _) (.string p2)
    obtain⟨tt,hh⟩:=JZ
    exact bodyPost_ret (v:=.tuple #[encJ ⟨emB,L,p2⟩,.int .i64 0])
     (results_jid (fn:=Tryz.f115) (p:=2) (s:=3) (ty:=102) rfl _ _ w.heap.size _ _ _ _ rfl rfl hh Tryz.underlying102 (by kernel_rfl)) rfl ⟨by rw [HD1.out,HD2.out],XZ⟩
  ·cases he2:isEmp p2
   all_goals
    rw [he2] at e2
    rw [show isEmp (JidL.mk emB L p2).res=isEmp p2 from rfl,he2] at HP
    clear he2
   ·have HPJ:Box (pi=if (!jidI ⟨emB,L,p2⟩) then none else some ⟨emB,L,p2⟩):=⟨by rw [HP.out];simp⟩
    clear HP
    cases hjj:jidI ⟨emB,L,p2⟩
    all_goals
     rw [hjj] at HPJ HE
     have hje:=HE.out
     try simp only [Bool.false_eq_true,if_false] at hje
     try simp only [if_true] at hje
     clear HE hjj
     subst hje
    ·have HD1:Box (pj=emJ):=⟨by rw [HD.out.1,HPJ.out];rfl⟩
     have HD2:Box (pe=190):=⟨by rw [HD.out.2,HPJ.out];rfl⟩
     go_enter Tryz.func115,Tryz.ntmps115
     go_wp2_with fail
     refine(H1.out _).mono ?_
     rintro e w1 ⟨rfl,hb1⟩
     have J1:=Lib.hid (HJ0.out.ext hb1)
     have X1:=Lib.hid (HX0.out.trans (hb1.mono HX0.out.size))
     clear hb1
     go_wp2_with fail
     refine(H2.out _).mono ?_
     rintro e w2 ⟨rfl,hb2⟩
     have J2:=Lib.hid (J1.out.ext hb2)
     have X2:=Lib.hid (X1.out.trans (hb2.mono X1.out.size))
     clear hb2
     go_wp2_with fail
     refine(H3.out _).mono ?_
     rintro e w3 ⟨rfl,hb3⟩
     have J3:=Lib.hid (J2.out.ext hb3)
     have X3:=Lib.hid (X2.out.trans (hb3.mono X2.out.size))
     clear hb3 J1 J2 X1 X2
     have c0:=J3.out.c0
     have c1:=J3.out.c1
     have c2:=J3.out.c2
     have f0:=J3.out.fz 0
     have f1:=J3.out.fz 1
     have f2:=J3.out.fz 2
     go_wp2_with fail
     have X4:=Lib.hid (((X3.out.setCell (p:=⟨w.heap.size,0,none⟩) (Nat.le_refl _) (.string ⟨#[]⟩)).setCell (p:=⟨w.heap.size,1,none⟩) (Nat.le_refl _) (.string L)).setCell (p:=⟨w.heap.size,2,none⟩) (Nat.le_refl _) (.string p2))
     refine(H4.out _ (HG.out.below X4.out)).mono ?_
     rintro e w4 ⟨rfl,hb4⟩
     have J4:=Lib.hid ((((J3.out.set0 emB).set1 L).set2 p2).ext hb4)
     have X5:=Lib.hid (X4.out.trans (hb4.mono X4.out.size))
     clear hb4 c0 c1 c2 f0 f1 f2
     have c0:=J4.out.c0
     have c1:=J4.out.c1
     have c2:=J4.out.c2
     have f0:=J4.out.fz 0
     have f1:=J4.out.fz 1
     have f2:=J4.out.fz 2
     go_wp2
     have JZ:=((J4.out.set0 emB).set1 emB).set2 emB
     have XZ:=((X5.out.setCell (p:=⟨w.heap.size,0,none⟩) (Nat.le_refl _) (.string ⟨#[]⟩)).setCell (p:=⟨w.heap.size,1,none⟩) (Nat.le_refl _) (.string ⟨#[]⟩)).setCell (p:=⟨w.heap.size,2,none⟩) (Nat.le_refl _) (.string ⟨#[]⟩)
     obtain⟨tt,hh⟩:=JZ
     exact bodyPost_ret (v:=.tuple #[encJ emJ,.int .i64 190])
      (results_jid (fn:=Tryz.f115) (p:=2) (s:=3) (ty:=102) rfl _ _ w.heap.size _ _ _ _ rfl rfl hh Tryz.underlying102 (by kernel_rfl)) rfl ⟨by rw [HD1.out,HD2.out],XZ⟩
    ·have HD1:Box (pj=⟨emB,L,p2⟩):=⟨by rw [HD.out.1,HPJ.out];rfl⟩
     have HD2:Box (pe=0):=⟨by rw [HD.out.2,HPJ.out];rfl⟩
     go_enter Tryz.func115,Tryz.ntmps115
     go_wp2_with fail
     refine(H1.out _).mono ?_
     rintro e w1 ⟨rfl,hb1⟩
     have J1:=Lib.hid (HJ0.out.ext hb1)
     have X1:=Lib.hid (HX0.out.trans (hb1.mono HX0.out.size))
     clear hb1
     go_wp2_with fail
     refine(H2.out _).mono ?_
     rintro e w2 ⟨rfl,hb2⟩
     have J2:=Lib.hid (J1.out.ext hb2)
     have X2:=Lib.hid (X1.out.trans (hb2.mono X1.out.size))
     clear hb2
     go_wp2_with fail
     refine(H3.out _).mono ?_
     rintro e w3 ⟨rfl,hb3⟩
     have J3:=Lib.hid (J2.out.ext hb3)
     have X3:=Lib.hid (X2.out.trans (hb3.mono X2.out.size))
     clear hb3 J1 J2 X1 X2
     have c0:=J3.out.c0
     have c1:=J3.out.c1
     have c2:=J3.out.c2
     have f0:=J3.out.fz 0
     have f1:=J3.out.fz 1
     have f2:=J3.out.fz 2
     go_wp2_with fail
     have X4:=Lib.hid (((X3.out.setCell (p:=⟨w.heap.size,0,none⟩) (Nat.le_refl _) (.string ⟨#[]⟩)).setCell (p:=⟨w.heap.size,1,none⟩) (Nat.le_refl _) (.string L)).setCell (p:=⟨w.heap.size,2,none⟩) (Nat.le_refl _) (.string p2))
     refine(H4.out _ (HG.out.below X4.out)).mono ?_
     rintro e w4 ⟨rfl,hb4⟩
     have J4:=Lib.hid ((((J3.out.set0 emB).set1 L).set2 p2).ext hb4)
     have X5:=Lib.hid (X4.out.trans (hb4.mono X4.out.size))
     clear hb4 c0 c1 c2 f0 f1 f2
     have c0:=J4.out.c0
     have c1:=J4.out.c1
     have c2:=J4.out.c2
     have f0:=J4.out.fz 0
     have f1:=J4.out.fz 1
     have f2:=J4.out.fz 2
     go_wp2
     have JZ:=((J4.out.set0 emB).set1 L).set2 p2
     have XZ:=((X5.out.setCell (p:=⟨w.heap.size,0,none⟩) (Nat.le_refl _) (.string ⟨#[]⟩)).setCell (p:=⟨w.heap.size,1,none⟩) (Nat.le_refl _) (.string L)).setCell (p:=⟨w.heap.size,2,none⟩) (Nat.le_refl _) (.string p2)
     obtain⟨tt,hh⟩:=JZ
     exact bodyPost_ret (v:=.tuple #[encJ ⟨emB,L,p2⟩,.int .i64 0])
      (results_jid (fn:=Tryz.f115) (p:=2) (s:=3) (ty:=102) rfl _ _ w.heap.size _ _ _ _ rfl rfl hh Tryz.underlying102 (by kernel_rfl)) rfl ⟨by rw [HD1.out,HD2.out],XZ⟩
   ·have HD1:Box (pj=emJ):=⟨by rw [HD.out.1,HP.out];simp⟩
    have HD2:Box (pe=190):=⟨by rw [HD.out.2,HP.out];simp⟩
    go_enter Tryz.func115,Tryz.ntmps115
    go_wp2_with fail
    refine(H1.out _).mono ?_
    rintro e w1 ⟨rfl,hb1⟩
    have J1:=Lib.hid (HJ0.out.ext hb1)
    have X1:=Lib.hid (HX0.out.trans (hb1.mono HX0.out.size))
    clear hb1
    go_wp2_with fail
    refine(H2.out _).mono ?_
    rintro e w2 ⟨rfl,hb2⟩
    have J2:=Lib.hid (J1.out.ext hb2)
    have X2:=Lib.hid (X1.out.trans (hb2.mono X1.out.size))
    clear hb2
    go_wp2_with fail
    refine(H3.out _).mono ?_
    rintro e w3 ⟨rfl,hb3⟩
    have J3:=Lib.hid (J2.out.ext hb3)
    have X3:=Lib.hid (X2.out.trans (hb3.mono X2.out.size))
    clear hb3 J1 J2 X1 X2
    have c0:=J3.out.c0
    have c1:=J3.out.c1
    have c2:=J3.out.c2
    have f0:=J3.out.fz 0
    have f1:=J3.out.fz 1
    have f2:=J3.out.fz 2
    go_wp2
    have JZ:=(((((J3.out.set0 emB).set1 L).set2 p2).set0 emB).set1 emB).set2 emB
    have XZ:=(((((X3.out.setCell (p:=⟨w.heap.size,0,none⟩) (Nat.le_refl _) (.string ⟨#[]⟩)).setCell (p:=⟨w.heap.size,1,none⟩) (Nat.le_refl _) (.string L)).setCell (p:=⟨w.heap.size,2,none⟩) (Nat.le_refl _) (.string p2)).setCell (p:=⟨w.heap.size,0,none⟩) (Nat.le_refl _) (.string ⟨#[]⟩)).setCell (p:=⟨w.heap.size,1,none⟩) (Nat.le_refl _) (.string ⟨#[]⟩)).setCell (p:=⟨w.heap.size,2,none⟩) (Nat.le_refl _) (.string ⟨#[]⟩)
    obtain⟨tt,hh⟩:=JZ
    exact bodyPost_ret (v:=.tuple #[encJ emJ,.int .i64 190])
     (results_jid (fn:=Tryz.f115) (p:=2) (s:=3) (ty:=102) rfl _ _ w.heap.size _ _ _ _ rfl rfl hh Tryz.underlying102 (by kernel_rfl)) rfl ⟨by rw [HD1.out,HD2.out],XZ⟩
 ·have hj:j=⟨q1,q2,p2⟩:=by rw [HR.out];rfl
  subst hj
  clear HR
  unfold encJ at H4
  cases he1:isEmp q1
  all_goals
   rw [he1] at eq1
   rw [show isEmp (JidL.mk q1 q2 p2).loc=isEmp q1 from rfl,he1] at HP
   clear he1
  ·cases bR
   ·have HPJ:Box (pi=if (!jidI ⟨q1,q2,p2⟩) then none else some ⟨q1,q2,p2⟩):=⟨by rw [HP.out];simp⟩
    clear HP
    cases hjj:jidI ⟨q1,q2,p2⟩
    all_goals
     rw [hjj] at HPJ HE
     have hje:=HE.out
     try simp only [Bool.false_eq_true,if_false] at hje
     try simp only [if_true] at hje
     clear HE hjj
     subst hje
    ·have HD1:Box (pj=emJ):=⟨by rw [HD.out.1,HPJ.out];rfl⟩
     have HD2:Box (pe=190):=⟨by rw [HD.out.2,HPJ.out];rfl⟩
     go_enter Tryz.func115,Tryz.ntmps115
     go_wp2_with fail
     refine(H1.out _).mono ?_
     rintro e w1 ⟨rfl,hb1⟩
     have J1:=Lib.hid (HJ0.out.ext hb1)
     have X1:=Lib.hid (HX0.out.trans (hb1.mono HX0.out.size))
     clear hb1
     go_wp2_with fail
     refine(H2.out _).mono ?_
     rintro e w2 ⟨rfl,hb2⟩
     have J2:=Lib.hid (J1.out.ext hb2)
     have X2:=Lib.hid (X1.out.trans (hb2.mono X1.out.size))
     clear hb2
     go_wp2_with fail
     refine(H3.out _).mono ?_
     rintro e w3 ⟨rfl,hb3⟩
     have J3:=Lib.hid (J2.out.ext hb3)
     have X3:=Lib.hid (X2.out.trans (hb3.mono X2.out.size))
     clear hb3 J1 J2 X1 X2
     have c0:=J3.out.c0
     have c1:=J3.out.c1
     have c2:=J3.out.c2
     have f0:=J3.out.fz 0
     have f1:=J3.out.fz 1
     have f2:=J3.out.fz 2
     go_wp2_with fail
     have X4:=Lib.hid (((X3.out.setCell (p:=⟨w.heap.size,0,none⟩) (Nat.le_refl _) (.string q1)).setCell (p:=⟨w.heap.size,1,none⟩) (Nat.le_refl _) (.string q2)).setCell (p:=⟨w.heap.size,2,none⟩) (Nat.le_refl _) (.string p2))
     refine(H4.out _ (HG.out.below X4.out)).mono ?_
     rintro e w4 ⟨rfl,hb4⟩
     have J4:=Lib.hid ((((J3.out.set0 q1).set1 q2).set2 p2).ext hb4)
     have X5:=Lib.hid (X4.out.trans (hb4.mono X4.out.size))
     clear hb4 c0 c1 c2 f0 f1 f2
     have c0:=J4.out.c0
     have c1:=J4.out.c1
     have c2:=J4.out.c2
     have f0:=J4.out.fz 0
     have f1:=J4.out.fz 1
     have f2:=J4.out.fz 2
     go_wp2
     have JZ:=((J4.out.set0 emB).set1 emB).set2 emB
     have XZ:=((X5.out.setCell (p:=⟨w.heap.size,0,none⟩) (Nat.le_refl _) (.string ⟨#[]⟩)).setCell (p:=⟨w.heap.size,1,none⟩) (Nat.le_refl _) (.string ⟨#[]⟩)).setCell (p:=⟨w.heap.size,2,none⟩) (Nat.le_refl _) (.string ⟨#[]⟩)
     obtain⟨tt,hh⟩:=JZ
     exact bodyPost_ret (v:=.tuple #[encJ emJ,.int .i64 190])
      (results_jid (fn:=Tryz.f115) (p:=2) (s:=3) (ty:=102) rfl _ _ w.heap.size _ _ _ _ rfl rfl hh Tryz.underlying102 (by kernel_rfl)) rfl ⟨by rw [HD1.out,HD2.out],XZ⟩
    ·have HD1:Box (pj=⟨q1,q2,p2⟩):=⟨by rw [HD.out.1,HPJ.out];rfl⟩
     have HD2:Box (pe=0):=⟨by rw [HD.out.2,HPJ.out];rfl⟩
     go_enter Tryz.func115,Tryz.ntmps115
     go_wp2_with fail
     refine(H1.out _).mono ?_
     rintro e w1 ⟨rfl,hb1⟩
     have J1:=Lib.hid (HJ0.out.ext hb1)
     have X1:=Lib.hid (HX0.out.trans (hb1.mono HX0.out.size))
     clear hb1
     go_wp2_with fail
     refine(H2.out _).mono ?_
     rintro e w2 ⟨rfl,hb2⟩
     have J2:=Lib.hid (J1.out.ext hb2)
     have X2:=Lib.hid (X1.out.trans (hb2.mono X1.out.size))
     clear hb2
     go_wp2_with fail
     refine(H3.out _).mono ?_
     rintro e w3 ⟨rfl,hb3⟩
     have J3:=Lib.hid (J2.out.ext hb3)
     have X3:=Lib.hid (X2.out.trans (hb3.mono X2.out.size))
     clear hb3 J1 J2 X1 X2
     have c0:=J3.out.c0
     have c1:=J3.out.c1
     have c2:=J3.out.c2
     have f0:=J3.out.fz 0
     have f1:=J3.out.fz 1
     have f2:=J3.out.fz 2
     go_wp2_with fail
     have X4:=Lib.hid (((X3.out.setCell (p:=⟨w.heap.size,0,none⟩) (Nat.le_refl _) (.string q1)).setCell (p:=⟨w.heap.size,1,none⟩) (Nat.le_refl _) (.string q2)).setCell (p:=⟨w.heap.size,2,none⟩) (Nat.le_refl _) (.string p2))
     refine(H4.out _ (HG.out.below X4.out)).mono ?_
     rintro e w4 ⟨rfl,hb4⟩
     have J4:=Lib.hid ((((J3.out.set0 q1).set1 q2).set2 p2).ext hb4)
     have X5:=Lib.hid (X4.out.trans (hb4.mono X4.out.size))
     clear hb4 c0 c1 c2 f0 f1 f2
     have c0:=J4.out.c0
     have c1:=J4.out.c1
     have c2:=J4.out.c2
     have f0:=J4.out.fz 0
     have f1:=J4.out.fz 1
     have f2:=J4.out.fz 2
     go_wp2
     have JZ:=((J4.out.set0 q1).set1 q2).set2 p2
     have XZ:=((X5.out.setCell (p:=⟨w.heap.size,0,none⟩) (Nat.le_refl _) (.string q1)).setCell (p:=⟨w.heap.size,1,none⟩) (Nat.le_refl _) (.string q2)).setCell (p:=⟨w.heap.size,2,none⟩) (Nat.le_refl _) (.string p2)
     obtain⟨tt,hh⟩:=JZ
     exact bodyPost_ret (v:=.tuple #[encJ ⟨q1,q2,p2⟩,.int .i64 0])
      (results_jid (fn:=Tryz.f115) (p:=2) (s:=3) (ty:=102) rfl _ _ w.heap.size _ _ _ _ rfl rfl hh Tryz.underlying102 (by kernel_rfl)) rfl ⟨by rw [HD1.out,HD2.out],XZ⟩
   ·cases he2:isEmp p2
    all_goals
     rw [he2] at e2
     rw [show isEmp (JidL.mk q1 q2 p2).res=isEmp p2 from rfl,he2] at HP
     clear he2
    ·have HPJ:Box (pi=if (!jidI ⟨q1,q2,p2⟩) then none else some ⟨q1,q2,p2⟩):=⟨by rw [HP.out];simp⟩
     clear HP
     cases hjj:jidI ⟨q1,q2,p2⟩
     all_goals
      rw [hjj] at HPJ HE
      have hje:=HE.out
      try simp only [Bool.false_eq_true,if_false] at hje
      try simp only [if_true] at hje
      clear HE hjj
      subst hje
     ·have HD1:Box (pj=emJ):=⟨by rw [HD.out.1,HPJ.out];rfl⟩
      have HD2:Box (pe=190):=⟨by rw [HD.out.2,HPJ.out];rfl⟩
      go_enter Tryz.func115,Tryz.ntmps115
      go_wp2_with fail
      refine(H1.out _).mono ?_
      rintro e w1 ⟨rfl,hb1⟩
      have J1:=Lib.hid (HJ0.out.ext hb1)
      have X1:=Lib.hid (HX0.out.trans (hb1.mono HX0.out.size))
      clear hb1
      go_wp2_with fail
      refine(H2.out _).mono ?_
      rintro e w2 ⟨rfl,hb2⟩
      have J2:=Lib.hid (J1.out.ext hb2)
      have X2:=Lib.hid (X1.out.trans (hb2.mono X1.out.size))
      clear hb2
      go_wp2_with fail
      refine(H3.out _).mono ?_
      rintro e w3 ⟨rfl,hb3⟩
      have J3:=Lib.hid (J2.out.ext hb3)
      have X3:=Lib.hid (X2.out.trans (hb3.mono X2.out.size))
      clear hb3 J1 J2 X1 X2
      have c0:=J3.out.c0
      have c1:=J3.out.c1
      have c2:=J3.out.c2
      have f0:=J3.out.fz 0
      have f1:=J3.out.fz 1
      have f2:=J3.out.fz 2
      go_wp2_with fail
      have X4:=Lib.hid (((X3.out.setCell (p:=⟨w.heap.size,0,none⟩) (Nat.le_refl _) (.string q1)).setCell (p:=⟨w.heap.size,1,none⟩) (Nat.le_refl _) (.string q2)).setCell (p:=⟨w.heap.size,2,none⟩) (Nat.le_refl _) (.string p2))
      refine(H4.out _ (HG.out.below X4.out)).mono ?_
      rintro e w4 ⟨rfl,hb4⟩
      have J4:=Lib.hid ((((J3.out.set0 q1).set1 q2).set2 p2).ext hb4)
      have X5:=Lib.hid (X4.out.trans (hb4.mono X4.out.size))
      clear hb4 c0 c1 c2 f0 f1 f2
      have c0:=J4.out.c0
      have c1:=J4.out.c1
      have c2:=J4.out.c2
      have f0:=J4.out.fz 0
      have f1:=J4.out.fz 1
      have f2:=J4.out.fz 2
      go_wp2
      have JZ:=((J4.out.set0 emB).set1 emB).set2 emB
      have XZ:=((X5.out.setCell (p:=⟨w.heap.size,0,none⟩) (Nat.le_refl _) (.string ⟨#[]⟩)).setCell (p:=⟨w.heap.size,1,none⟩) (Nat.le_refl _) (.string ⟨#[]⟩)).setCell (p:=⟨w.heap.size,2,none⟩) (Nat.le_refl _) (.string ⟨#[]⟩)
      obtain⟨tt,hh⟩:=JZ
      exact bodyPost_ret (v:=.tuple #[encJ emJ,.int .i64 190])
       (results_jid (fn:=Tryz.f115) (p:=2) (s:=3) (ty:=102) rfl _ _ w.heap.size _ _ _ _ rfl rfl hh Tryz.underlying102 (by kernel_rfl)) rfl ⟨by rw [HD1.out,HD2.out],XZ⟩
     ·have HD1:Box (pj=⟨q1,q2,p2⟩):=⟨by rw [HD.out.1,HPJ.out];rfl⟩
      have HD2:Box (pe=0):=⟨by rw [HD.out.2,HPJ.out];rfl⟩
      go_enter Tryz.func115,Tryz.ntmps115
      go_wp2_with fail
      refine(H1.out _).mono ?_
      rintro e w1 ⟨rfl,hb1⟩
      have J1:=Lib.hid (HJ0.out.ext hb1)
      have X1:=Lib.hid (HX0.out.trans (hb1.mono HX0.out.size))
      clear hb1
      go_wp2_with fail
      refine(H2.out _).mono ?_
      rintro e w2 ⟨rfl,hb2⟩
      have J2:=Lib.hid (J1.out.ext hb2)
      have X2:=Lib.hid (X1.out.trans (hb2.mono X1.out.size))
      clear hb2
      go_wp2_with fail
      refine(H3.out _).mono ?_
      rintro e w3 ⟨rfl,hb3⟩
      have J3:=Lib.hid (J2.out.ext hb3)
      have X3:=Lib.hid (X2.out.trans (hb3.mono X2.out.size))
      clear hb3 J1 J2 X1 X2
      have c0:=J3.out.c0
      have c1:=J3.out.c1
      have c2:=J3.out.c2
      have f0:=J3.out.fz 0
      have f1:=J3.out.fz 1
      have f2:=J3.out.fz 2
      go_wp2_with fail
      have X4:=Lib.hid (((X3.out.setCell (p:=⟨w.heap.size,0,none⟩) (Nat.le_refl _) (.string q1)).setCell (p:=⟨w.heap.size,1,none⟩) (Nat.le_refl _) (.string q2)).setCell (p:=⟨w.heap.size,2,none⟩) (Nat.le_refl _) (.string p2))
      refine(H4.out _ (HG.out.below X4.out)).mono ?_
      rintro e w4 ⟨rfl,hb4⟩
      have J4:=Lib.hid ((((J3.out.set0 q1).set1 q2).set2 p2).ext hb4)
      have X5:=Lib.hid (X4.out.trans (hb4.mono X4.out.size))
      clear hb4 c0 c1 c2 f0 f1 f2
      have c0:=J4.out.c0
      have c1:=J4.out.c1
      have c2:=J4.out.c2
      have f0:=J4.out.fz 0
      have f1:=J4.out.fz 1
      have f2:=J4.out.fz 2
      go_wp2
      have JZ:=((J4.out.set0 q1).set1 q2).set2 p2
      have XZ:=((X5.out.setCell (p:=⟨w.heap.size,0,none⟩) (Nat.le_refl _) (.string q1)).setCell (p:=⟨w.heap.size,1,none⟩) (Nat.le_refl _) (.string q2)).setCell (p:=⟨w.heap.size,2,none⟩) (Nat.le_refl _) (.string p2)
      obtain⟨tt,hh⟩:=JZ
      exact bodyPost_ret (v:=.tuple #[encJ ⟨q1,q2,p2⟩,.int .i64 0])
       (results_jid (fn:=Tryz.f115) (p:=2) (s:=3) (ty:=102) rfl _ _ w.heap.size _ _ _ _ rfl rfl hh Tryz.underlying102 (by kernel_rfl)) rfl ⟨by rw [HD1.out,HD2.out],XZ⟩
    ·have HD1:Box (pj=emJ):=⟨by rw [HD.out.1,HP.out];simp⟩
     have HD2:Box (pe=190):=⟨by rw [HD.out.2,HP.out];simp⟩
     go_enter Tryz.func115,Tryz.ntmps115
     go_wp2_with fail
     refine(H1.out _).mono ?_
     rintro e w1 ⟨rfl,hb1⟩
     have J1:=Lib.hid (HJ0.out.ext hb1)
     have X1:=Lib.hid (HX0.out.trans (hb1.mono HX0.out.size))
     clear hb1
     go_wp2_with fail
     refine(H2.out _).mono ?_
     rintro e w2 ⟨rfl,hb2⟩
     have J2:=Lib.hid (J1.out.ext hb2)
     have X2:=Lib.hid (X1.out.trans (hb2.mono X1.out.size))
     clear hb2
     go_wp2_with fail
     refine(H3.out _).mono ?_
     rintro e w3 ⟨rfl,hb3⟩
     have J3:=Lib.hid (J2.out.ext hb3)
     have X3:=Lib.hid (X2.out.trans (hb3.mono X2.out.size))
     clear hb3 J1 J2 X1 X2
     have c0:=J3.out.c0
     have c1:=J3.out.c1
     have c2:=J3.out.c2
     have f0:=J3.out.fz 0
     have f1:=J3.out.fz 1
     have f2:=J3.out.fz 2
     go_wp2
     have JZ:=(((((J3.out.set0 q1).set1 q2).set2 p2).set0 emB).set1 emB).set2 emB
     have XZ:=(((((X3.out.setCell (p:=⟨w.heap.size,0,none⟩) (Nat.le_refl _) (.string q1)).setCell (p:=⟨w.heap.size,1,none⟩) (Nat.le_refl _) (.string q2)).setCell (p:=⟨w.heap.size,2,none⟩) (Nat.le_refl _) (.string p2)).setCell (p:=⟨w.heap.size,0,none⟩) (Nat.le_refl _) (.string ⟨#[]⟩)).setCell (p:=⟨w.heap.size,1,none⟩) (Nat.le_refl _) (.string ⟨#[]⟩)).setCell (p:=⟨w.heap.size,2,none⟩) (Nat.le_refl _) (.string ⟨#[]⟩)
     obtain⟨tt,hh⟩:=JZ
     exact bodyPost_ret (v:=.tuple #[encJ emJ,.int .i64 190])
      (results_jid (fn:=Tryz.f115) (p:=2) (s:=3) (ty:=102) rfl _ _ w.heap.size _ _ _ _ rfl rfl hh Tryz.underlying102 (by kernel_rfl)) rfl ⟨by rw [HD1.out,HD2.out],XZ⟩
  ·have HD1:Box (pj=emJ):=⟨by rw [HD.out.1,HP.out];simp⟩
   have HD2:Box (pe=190):=⟨by rw [HD.out.2,HP.out];simp⟩
   go_enter Tryz.func115,Tryz.ntmps115
   go_wp2_with fail
   refine(H1.out _).mono ?_
   rintro e w1 ⟨rfl,hb1⟩
   have J1:=Lib.hid (HJ0.out.ext hb1)
   have X1:=Lib.hid (HX0.out.trans (hb1.mono HX0.out.size))
   clear hb1
   go_wp2_with fail
   refine(H2.out _).mono ?_
   rintro e w2 ⟨rfl,hb2⟩
   have J2:=Lib.hid (J1.out.ext hb2)
   have X2:=Lib.hid (X1.out.trans (hb2.mono X1.out.size))
   clear hb2
   go_wp2_with fail
   refine(H3.out _).mono ?_
   rintro e w3 ⟨rfl,hb3⟩
   have J3:=Lib.hid (J2.out.ext hb3)
   have X3:=Lib.hid (X2.out.trans (hb3.mono X2.out.size))
   clear hb3 J1 J2 X1 X2
   have c0:=J3.out.c0
   have c1:=J3.out.c1
   have c2:=J3.out.c2
   have f0:=J3.out.fz 0
   have f1:=J3.out.fz 1
   have f2:=J3.out.fz 2
   go_wp2
   have JZ:=(((((J3.out.set0 q1).set1 q2).set2 p2).set0 emB).set1 emB).set2 emB
   have XZ:=(((((X3.out.setCell (p:=⟨w.heap.size,0,none⟩) (Nat.le_refl _) (.string q1)).setCell (p:=⟨w.heap.size,1,none⟩) (Nat.le_refl _) (.string q2)).setCell (p:=⟨w.heap.size,2,none⟩) (Nat.le_refl _) (.string p2)).setCell (p:=⟨w.heap.size,0,none⟩) (Nat.le_refl _) (.string ⟨#[]⟩)).setCell (p:=⟨w.heap.size,1,none⟩) (Nat.le_refl _) (.string ⟨#[]⟩)).setCell (p:=⟨w.heap.size,2,none⟩) (Nat.le_refl _) (.string ⟨#[]⟩)
   obtain⟨tt,hh⟩:=JZ
   exact bodyPost_ret (v:=.tuple #[encJ emJ,.int .i64 190])
    (results_jid (fn:=Tryz.f115) (p:=2) (s:=3) (ty:=102) rfl _ _ w.heap.size _ _ _ _ rfl rfl hh Tryz.underlying102 (by kernel_rfl)) rfl ⟨by rw [HD1.out,HD2.out],XZ⟩
end Go.Proofs.YtnmnpnofdgdigaaGreatDoor
end
