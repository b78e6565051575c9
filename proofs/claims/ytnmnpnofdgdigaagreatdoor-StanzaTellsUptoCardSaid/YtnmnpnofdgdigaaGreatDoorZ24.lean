/- Part 24 of a proof laid in parts, one behind the other; no condition of its own. -/
import Derived.Test.YtnmnpnofdgdigaaGreatDoorZ23
import Derived.Test.YtnmnpnofdgdigaaGreatDoorZ20
import Derived.Test.YtnmnpnofdgdigaaGreatDoorZ21
import Derived.Test.YtnmnpnofdgdigaaGreatDoorZ16
import Derived.Test.YtnmnpnofdgdigaaGreatDoorZ17
import Derived.Test.YtnmnpnofdgdigaaGreatDoorZ07
import Derived.Test.YtnmnpnofdgdigaaGreatDoorZ15
import Derived.Test.YtnmnpnofdgdigaaGreatDoorZ12
set_option linter.all false
section
namespace Go.Proofs.YtnmnpnofdgdigaaGreatDoor
open Go.RowKit
set_option linter.unusedSimpArgs false
set_option linter.unusedVariables false
set_option maxHeartbeats 16000000 in
set_option maxRecDepth 10000 in
theorem refsmay_any (s:StL) (A:Option Addr) (c:Nat) (w:World) (hz:SzS s) (hr:RdW w w.heap.size A s.load) :
  Calls Tryz.prog 40 #[encS s A c] w fun e w'=>e=.returned (.bool (stnI s))∧Below w.heap.size w w':=by
 obtain⟨⟨zk0,zk1⟩,z1,z2,z3,z4,z5,z6⟩:=hz
 obtain⟨W0,hW0⟩:∃W0,W0=w.alloc (.cells #[.int .u8 s.kind,.string s.typ,.string s.id,.string s.frm,.string s.to,.slice A s.load.length c] 27):=⟨_,rfl⟩
 have hX0:Below w.heap.size w W0:=by rw [hW0];exact(Below.refl _ _).alloc (Nat.le_refl _) _
 have hS0:SAt W0 w.heap.size s A c:=by rw [hW0];exact SAt.new _ _ _ _ _
 have HS:=Lib.hid hS0
 have HX0:=Lib.hid hX0
 have HR:=Lib.hid (RdW.ext hr hX0)
 have HZ:=Lib.hid z6
 have H0:=Lib.hid (fun W=>typed_any s.kind s.typ W zk0 zk1)
 have H1:=Lib.hid (fun W=>refis5_any s.id W z2)
 have H2:=Lib.hid (fun W=>refaddress_any s.frm W z3)
 have H3:=Lib.hid (fun W=>refaddress_any s.to W z4)
 have HE:Box (stnI s=(typedI s.kind s.typ && idI s.kind s.id && addressI s.frm && addressI s.to && !decide (16 < s.load.length) && s.load.all spaceI)):=⟨rfl⟩
 have HID:Box (idI s.kind s.id=(decide (s.id.size≤64) && decide (textErr s.id=0) && (!decide (s.kind=3) || !isEmp s.id))):=⟨rfl⟩
 have HTE:Hid (s.id.size≤64→decide (textErr s.id=0)=textOK s.id):=Lib.hid (fun h=>by
  unfold textErr
  rw [if_neg (by omega)]
  cases textOK s.id <;> rfl)
 have ei:=emp_iff s.id
 have HWE:=Lib.hid hW0
 clear hW0 hX0 hS0 hr z1 z2 z3 z4 z6
 generalize stnI s=r at *
 generalize idI s.kind s.id=bi at *
 generalize typedI s.kind s.typ=bt at *
 generalize addressI s.frm=a1 at *
 generalize addressI s.to=a2 at *
 generalize textOK s.id=tk at *
 generalize isEmp s.id=ie at *
 unfold encS
 have hcase:bt=false∨(bt=true∧(s.kind == 3)=true∧ie=true∧bi=false)∨(bt=true∧((s.kind == 3)=false∨((s.kind == 3)=true∧ie=false))∧decide ((64:Int) < (s.id.size:Int))=true∧bi=false)∨
   (bt=true∧((s.kind == 3)=false∨((s.kind == 3)=true∧ie=false))∧decide ((64:Int) < (s.id.size:Int))=false∧((tk=false∧bi=false)∨(tk=true∧bi=true))):=by
  cases bt with
  | false=>left;rfl
  | true=>
   right
   by_cases hk:s.kind=3
   ·have hkq:(s.kind == 3)=true:=by simpa using hk
    cases ie with
    | true=>left;exact⟨rfl,hkq,rfl,by rw [HID.out,decide_eq_true hk];simp⟩
    | false=>
     right
     by_cases h64:s.id.size≤64
     ·right
      refine⟨rfl,.inr ⟨hkq,rfl⟩,decide_eq_false (by omega),?_⟩
      rw [HID.out,decide_eq_true h64,decide_eq_true hk,HTE.out h64]
      cases tk <;> simp
     ·left
      exact⟨rfl,.inr ⟨hkq,rfl⟩,decide_eq_true (by omega),by rw [HID.out,decide_eq_false h64];rfl⟩
   ·have hkq:(s.kind == 3)=false:=by simpa using hk
    right
    by_cases h64:s.id.size≤64
    ·right
     refine⟨rfl,.inl hkq,decide_eq_false (by omega),?_⟩
     rw [HID.out,decide_eq_true h64,decide_eq_false hk,HTE.out h64]
     cases tk <;> simp
    ·left
     exact⟨rfl,.inl hkq,decide_eq_true (by omega),by rw [HID.out,decide_eq_false h64];rfl⟩
 clear HID HTE
 rcases hcase with rfl|⟨rfl,hkq,rfl,rfl⟩|⟨rfl,hkq,h64,rfl⟩|⟨rfl,hkq,h64,htk⟩
 ·have HIT:=Box.mk (show true=true from rfl)
  go_enter Tryz.func40,Tryz.ntmps40
  go_wp2_with fail
  rw [←HWE.out]
  refine(H0.out _).mono ?_
  rintro e w1 ⟨rfl,hb1⟩
  have XC:=Lib.hid hb1
  have c0:=(HS.out.ext XC.out).c0
  have c2:=(HS.out.ext XC.out).c2
  have c3:=(HS.out.ext XC.out).c3
  have c4:=(HS.out.ext XC.out).c4
  clear hb1
  go_wp2
  go_ret
  exact⟨ret_bool (by rw [HE.out];simp_all),HX0.out.trans (XC.out.mono HX0.out.size)⟩
 ·have hemp:s.id.toList=[]:=List.isEmpty_iff.1 ei
  go_enter Tryz.func40,Tryz.ntmps40
  go_wp2_with fail
  rw [←HWE.out]
  refine(H0.out _).mono ?_
  rintro e w1 ⟨rfl,hb1⟩
  have XC:=Lib.hid hb1
  have c0:=(HS.out.ext XC.out).c0
  have c2:=(HS.out.ext XC.out).c2
  have c3:=(HS.out.ext XC.out).c3
  have c4:=(HS.out.ext XC.out).c4
  clear hb1
  go_wp2
  go_ret
  exact⟨ret_bool (by rw [HE.out];simp_all),HX0.out.trans (XC.out.mono HX0.out.size)⟩
 ·rcases hkq with hkq|⟨hkq,rfl⟩
  all_goals
   go_enter Tryz.func40,Tryz.ntmps40
   go_wp2_with fail
   rw [←HWE.out]
   refine(H0.out _).mono ?_
   rintro e w1 ⟨rfl,hb1⟩
   have XC:=Lib.hid hb1
   have c0:=(HS.out.ext XC.out).c0
   have c2:=(HS.out.ext XC.out).c2
   have c3:=(HS.out.ext XC.out).c3
   have c4:=(HS.out.ext XC.out).c4
   clear hb1
   go_wp2
   go_ret
   exact⟨ret_bool (by rw [HE.out];simp_all),HX0.out.trans (XC.out.mono HX0.out.size)⟩
 ·rcases htk with ⟨rfl,rfl⟩|⟨rfl,rfl⟩
  ·rcases hkq with hkq|⟨hkq,rfl⟩
   all_goals
    go_enter Tryz.func40,Tryz.ntmps40
    go_wp2_with fail
    rw [←HWE.out]
    refine(H0.out _).mono ?_
    rintro e w1 ⟨rfl,hb1⟩
    have XC:=Lib.hid hb1
    have c0:=(HS.out.ext XC.out).c0
    have c2:=(HS.out.ext XC.out).c2
    have c3:=(HS.out.ext XC.out).c3
    have c4:=(HS.out.ext XC.out).c4
    clear hb1
    go_wp2_with fail
    refine(H1.out _).mono ?_
    rintro e w2 ⟨rfl,hb1⟩
    have XC2:=Lib.hid (XC.out.trans (hb1.mono XC.out.size))
    clear hb1
    clear c0 c2 c3 c4
    have c0:=(HS.out.ext XC2.out).c0
    have c2:=(HS.out.ext XC2.out).c2
    have c3:=(HS.out.ext XC2.out).c3
    have c4:=(HS.out.ext XC2.out).c4
    go_wp2
    go_ret
    exact⟨ret_bool (by rw [HE.out];simp_all),HX0.out.trans (XC2.out.mono HX0.out.size)⟩
  ·cases a1
   ·rcases hkq with hkq|⟨hkq,rfl⟩
    all_goals
     go_enter Tryz.func40,Tryz.ntmps40
     go_wp2_with fail
     rw [←HWE.out]
     refine(H0.out _).mono ?_
     rintro e w1 ⟨rfl,hb1⟩
     have XC:=Lib.hid hb1
     have c0:=(HS.out.ext XC.out).c0
     have c2:=(HS.out.ext XC.out).c2
     have c3:=(HS.out.ext XC.out).c3
     have c4:=(HS.out.ext XC.out).c4
     clear hb1
     go_wp2_with fail
     refine(H1.out _).mono ?_
     rintro e w2 ⟨rfl,hb1⟩
     have XC2:=Lib.hid (XC.out.trans (hb1.mono XC.out.size))
     clear hb1
     clear c0 c2 c3 c4
     have c0:=(HS.out.ext XC2.out).c0
     have c2:=(HS.out.ext XC2.out).c2
     have c3:=(HS.out.ext XC2.out).c3
     have c4:=(HS.out.ext XC2.out).c4
     go_wp2_with fail
     refine(H2.out _).mono ?_
     rintro e w3 ⟨rfl,hb1⟩
     have XC3:=Lib.hid (XC2.out.trans (hb1.mono XC2.out.size))
     clear hb1
     clear c0 c2 c3 c4
     have c0:=(HS.out.ext XC3.out).c0
     have c2:=(HS.out.ext XC3.out).c2
     have c3:=(HS.out.ext XC3.out).c3
     have c4:=(HS.out.ext XC3.out).c4
     go_wp2
     go_ret
     exact⟨ret_bool (by rw [HE.out];simp_all),HX0.out.trans (XC3.out.mono HX0.out.size)⟩
   ·cases a2
    ·rcases hkq with hkq|⟨hkq,rfl⟩
     all_goals
      go_enter Tryz.func40,Tryz.ntmps40
      go_wp2_with fail
      rw [←HWE.out]
      refine(H0.out _).mono ?_
      rintro e w1 ⟨rfl,hb1⟩
      have XC:=Lib.hid hb1
      have c0:=(HS.out.ext XC.out).c0
      have c2:=(HS.out.ext XC.out).c2
      have c3:=(HS.out.ext XC.out).c3
      have c4:=(HS.out.ext XC.out).c4
      clear hb1
      go_wp2_with fail
      refine(H1.out _).mono ?_
      rintro e w2 ⟨rfl,hb1⟩
      have XC2:=Lib.hid (XC.out.trans (hb1.mono XC.out.size))
      clear hb1
      clear c0 c2 c3 c4
      have c0:=(HS.out.ext XC2.out).c0
      have c2:=(HS.out.ext XC2.out).c2
      have c3:=(HS.out.ext XC2.out).c3
      have c4:=(HS.out.ext XC2.out).c4
      go_wp2_with fail
      refine(H2.out _).mono ?_
      rintro e w3 ⟨rfl,hb1⟩
      have XC3:=Lib.hid (XC2.out.trans (hb1.mono XC2.out.size))
      clear hb1
      clear c0 c2 c3 c4
      have c0:=(HS.out.ext XC3.out).c0
      have c2:=(HS.out.ext XC3.out).c2
      have c3:=(HS.out.ext XC3.out).c3
      have c4:=(HS.out.ext XC3.out).c4
      go_wp2_with fail
      refine(H3.out _).mono ?_
      rintro e w4 ⟨rfl,hb1⟩
      have XC4:=Lib.hid (XC3.out.trans (hb1.mono XC3.out.size))
      clear hb1
      clear c0 c2 c3 c4
      have c0:=(HS.out.ext XC4.out).c0
      have c2:=(HS.out.ext XC4.out).c2
      have c3:=(HS.out.ext XC4.out).c3
      have c4:=(HS.out.ext XC4.out).c4
      go_wp2
      go_ret
      exact⟨ret_bool (by rw [HE.out];simp_all),HX0.out.trans (XC4.out.mono HX0.out.size)⟩
    ·have HIT:Box (true=true):=⟨rfl⟩
     rcases hkq with hkq|⟨hkq,rfl⟩
     all_goals
      go_enter Tryz.func40,Tryz.ntmps40
      go_wp2_with fail
      rw [←HWE.out]
      refine(H0.out _).mono ?_
      rintro e w1 ⟨rfl,hb1⟩
      have XC:=Lib.hid hb1
      have c0:=(HS.out.ext XC.out).c0
      have c2:=(HS.out.ext XC.out).c2
      have c3:=(HS.out.ext XC.out).c3
      have c4:=(HS.out.ext XC.out).c4
      clear hb1
      go_wp2_with fail
      refine(H1.out _).mono ?_
      rintro e w2 ⟨rfl,hb1⟩
      have XC2:=Lib.hid (XC.out.trans (hb1.mono XC.out.size))
      clear hb1
      clear c0 c2 c3 c4
      have c0:=(HS.out.ext XC2.out).c0
      have c2:=(HS.out.ext XC2.out).c2
      have c3:=(HS.out.ext XC2.out).c3
      have c4:=(HS.out.ext XC2.out).c4
      go_wp2_with fail
      refine(H2.out _).mono ?_
      rintro e w3 ⟨rfl,hb1⟩
      have XC3:=Lib.hid (XC2.out.trans (hb1.mono XC2.out.size))
      clear hb1
      clear c0 c2 c3 c4
      have c0:=(HS.out.ext XC3.out).c0
      have c2:=(HS.out.ext XC3.out).c2
      have c3:=(HS.out.ext XC3.out).c3
      have c4:=(HS.out.ext XC3.out).c4
      go_wp2_with fail
      refine(H3.out _).mono ?_
      rintro e w4 ⟨rfl,hb1⟩
      have XC4:=Lib.hid (XC3.out.trans (hb1.mono XC3.out.size))
      clear hb1
      clear c0 c2 c3 c4
      have c0:=(HS.out.ext XC4.out).c0
      have c2:=(HS.out.ext XC4.out).c2
      have c3:=(HS.out.ext XC4.out).c3
      have c4:=(HS.out.ext XC4.out).c4
      go_wp2
      go_loopw [3] (fun s3 wr=>∃k:Nat,k≤s.load.length∧s3=.int .i64 k∧Hid (Below W0.heap.size W0 wr)∧Hid ((s.load.take k).all spaceI=true)) (fun s3 _=>s.load.length - (intOf s3).toNat)
      case atStart=>exact⟨0,Nat.zero_le _,rfl,XC4,rfl⟩
      case round=>
       obtain⟨k,hk',rfl,HB,HN⟩:=hrel
       clear c0 c2 c3 c4
       have c5:=(HS.out.ext HB.out).c5
       by_cases hlt:k < s.load.length
       ·obtain⟨v,hv⟩:∃v,s.load[k]? = some v:=⟨_,List.getElem?_eq_getElem hlt⟩
        have HV:=Lib.hid hv
        obtain⟨b,off,rfl,hb,hcc⟩:=(RdW.ext HR.out HB.out) (by omega)
        obtain⟨A',c',d0,hl2,hA2⟩:=hcc k v hv
        have HM:=Lib.hid (refsp_any v A' c' wr hl2 (HZ.out v (List.mem_of_getElem? hv)) hA2)
        clear hv hcc hA2
        cases hsp:spaceI v with
        | true=>
         have HN2:Hid ((s.load.take (k+1)).all spaceI=true):=by show _=_;rw [List.take_add_one,HV.out,List.all_append,HN.out];simp [hsp]
         rw [hsp] at HM
         clear hsp
         go_wp2_with fail
         refine HM.out.mono ?_
         rintro e w6 ⟨rfl,hb6⟩
         have X6:=Lib.hid (HB.out.trans (hb6.mono HB.out.size))
         clear hb6
         go_wp2
         go_roundw
         case rel=>exact⟨k+1,by omega,by go_num,X6,HN2⟩
         case measure=>simp [intOf];omega
        | false=>
         have HLF:Box (s.load.all spaceI=false):=⟨by rw [List.all_eq_false];exact⟨v,List.mem_of_getElem? HV.out,by rw [hsp];simp⟩⟩
         rw [hsp] at HM
         clear hsp
         go_wp2_with fail
         refine HM.out.mono ?_
         rintro e w6 ⟨rfl,hb6⟩
         have X6:=Lib.hid (HB.out.trans (hb6.mono HB.out.size))
         clear hb6
         go_wp2
         go_ret
         exact⟨ret_bool (by rw [HE.out,HLF.out,Bool.and_false]),HX0.out.trans (X6.out.mono HX0.out.size)⟩
       ·obtain rfl:k=s.load.length:=by omega
        have HLT:Box (s.load.all spaceI=true):=⟨by have:=HN.out;rwa [List.take_length] at this⟩
        have HEN:Box (r=decide ((s.load.length:Int)≤16)):=⟨by
         rw [HE.out,HLT.out]
         simp only [Bool.true_and,Bool.and_true]
         rw [←decide_not]
         exact decide_eq_decide.2 (by omega)⟩
        clear HE
        go_wp2
        go_ret
        exact⟨ret_bool HEN.out.symm,HX0.out.trans (HB.out.mono HX0.out.size)⟩
end Go.Proofs.YtnmnpnofdgdigaaGreatDoor
end
section
namespace Go.Proofs.YtnmnpnofdgdigaaGreatDoor
def emS:StL:=⟨0,emB,emB,emB,emB,[]⟩
end Go.Proofs.YtnmnpnofdgdigaaGreatDoor
end
section
namespace Go.Proofs.YtnmnpnofdgdigaaGreatDoor
open Go.RowKit
set_option linter.unusedSimpArgs false
set_option linter.unusedVariables false
abbrev put6 (w:World) (g:Nat) (a b c d e f:Value):World:=
 (((((w.setCell ⟨g,0,none⟩ a).setCell ⟨g,1,none⟩ b).setCell ⟨g,2,none⟩ c).setCell ⟨g,3,none⟩ d).setCell ⟨g,4,none⟩ e).setCell ⟨g,5,none⟩ f
theorem put6_heap {w:World} {g:Nat} {a0 b0 c0 d0 e0 f0:Value} {t:TypeId} (h:w.heap[g]? = some (.cells #[a0,b0,c0,d0,e0,f0] t (0,0))) (a b c d e f:Value) :
  (put6 w g a b c d e f).heap[g]? = some (.cells #[a,b,c,d,e,f] t (0,0)):=
 heap_setCell_same _ g 5 _ _ _ (heap_setCell_same _ g 4 _ _ _ (heap_setCell_same _ g 3 _ _ _ (heap_setCell_same _ g 2 _ _ _ (heap_setCell_same _ g 1 _ _ _ (heap_setCell_same _ g 0 _ _ _ h)))))
theorem put6_other {w:World} {g k:Nat} (hne:k≠g) (a b c d e f:Value):(put6 w g a b c d e f).heap[k]? = w.heap[k]?:=by
 unfold put6
 rw [heap_setCell_other _ _ k _ hne,heap_setCell_other _ _ k _ hne,heap_setCell_other _ _ k _ hne,heap_setCell_other _ _ k _ hne,heap_setCell_other _ _ k _ hne,heap_setCell_other _ _ k _ hne]
theorem put6_below {B:Nat} {w w':World} (h:Below B w w') {g:Nat} (hg:B≤g) (a b c d e f:Value):Below B w (put6 w' g a b c d e f):=
 (((((h.setCell (p:=⟨g,0,none⟩) hg a).setCell (p:=⟨g,1,none⟩) hg b).setCell (p:=⟨g,2,none⟩) hg c).setCell (p:=⟨g,3,none⟩) hg d).setCell (p:=⟨g,4,none⟩) hg e).setCell (p:=⟨g,5,none⟩) hg f
theorem SAt.put {w:World} {g:Nat} {s:StL} {A:Option Addr} {c:Nat} (h:SAt w g s A c) (s':StL) (A':Option Addr) (c':Nat) :
  SAt (put6 w g (.int .u8 s'.kind) (.string s'.typ) (.string s'.id) (.string s'.frm) (.string s'.to) (.slice A' s'.load.length c')) g s' A' c':=by
 obtain⟨t,h⟩:=h
 exact⟨t,put6_heap h _ _ _ _ _ _⟩
theorem SAt.extB {B:Nat} {w w':World} {g:Nat} {s:StL} {A:Option Addr} {c:Nat} (h:SAt w g s A c) (hb:Below B w w') (hg:g < B):SAt w' g s A c:=by
 obtain⟨t,h⟩:=h
 exact⟨t,(hb.block g hg).trans h⟩
def NRow (w:World) (g:Nat) (n:NodeL) (A:Option Addr) (c:Nat):Prop:=∃t,w.heap[g]? = some (.cells #[.int .u8 n.kind,.string n.space,.string n.name,.slice A n.attrs.length c,.string n.text,.int .i64 n.many] t (0,0))
section
variable {w w':World} {g:Nat} {n:NodeL} {A:Option Addr} {c:Nat}
theorem NRow.c0 (h:NRow w g n A c):w.cell? ⟨g,0,none⟩=some (.int .u8 n.kind):=by obtain⟨t,h⟩:=h;simp [World.cell?,h]
theorem NRow.c1 (h:NRow w g n A c):w.cell? ⟨g,1,none⟩=some (.string n.space):=by obtain⟨t,h⟩:=h;simp [World.cell?,h]
theorem NRow.c2 (h:NRow w g n A c):w.cell? ⟨g,2,none⟩=some (.string n.name):=by obtain⟨t,h⟩:=h;simp [World.cell?,h]
theorem NRow.lt (h:NRow w g n A c):g < w.heap.size:=by obtain⟨t,h⟩:=h;exact(Array.getElem?_eq_some_iff.1 h).1
theorem NRow.ext (h:NRow w g n A c) (hb:Below w.heap.size w w'):NRow w' g n A c:=by obtain⟨t,h⟩:=h;exact⟨t,heap_ext h hb⟩
theorem NRow.new (w:World) (t:TypeId) (n:NodeL) (A:Option Addr) (c:Nat):NRow (w.alloc (.cells #[.int .u8 n.kind,.string n.space,.string n.name,.slice A n.attrs.length c,.string n.text,.int .i64 n.many] t)) w.heap.size n A c:=⟨t,heap_alloc_new w _⟩
end
section
variable {ops:Array Oper} {w0:World} {Fin:List Ty→Prop} {rest:List Oper} {E:Env} {Ts:List Ty} {o:Oper}
theorem tw_names {ts:Array TypeId} (hop:o.op=.call { callee:=.value (.func 33),args:=#[],argTypes:=ts}) (hw:Wd ops o E true)
  (hr:wpT Tryz.prog ops w0 Fin rest (E.put o.dst (SlS kindNames)) (SlS kindNames :: Ts)):wpT Tryz.prog ops w0 Fin (o :: rest) E Ts:=
 tw_fn #[] (SlS kindNames) (stable_sls _) hop (fun W=>enters_of (P:=Tryz.prog) Tryz.func33 (by kernel_rfl) rfl _ W) rfl hw
  (fun W _=>(names_any W).mono fun e w' h=>⟨_,h.1,h.2.2,_,_,rfl,h.2.1⟩) hr
set_option maxRecDepth 10000 in
theorem tw_ldN {x:Operand} {g:Nat} {n:NodeL} {A:Option Addr} {c:Nat} (hop:o.op=.load 36 x) (hE:evalE E x=some (.pointer (some ⟨g,0,none⟩))) (hc:∀W,Ext w0 W→NRow W g n A c) (hw:Wd ops o E true)
  (hr:wpT Tryz.prog ops w0 Fin rest (E.put o.dst (.inl (encN n A c))) (.inl (encN n A c) :: Ts)):wpT Tryz.prog ops w0 Fin (o :: rest) E Ts:=
 tw_pure (encN n A c) hw (fun a W hW hs=>by
  have h1:a.eval x=.pointer (some ⟨g,0,none⟩):=evalE_of hE (by rw [hop];simp [Op.operands]) hs
  obtain⟨t,h2⟩:=hc W hW
  have h3:=run_loadVar_row (P:=Tryz.prog) W g t 36 _ (0,0) _ h2 Tryz.underlying36 rfl (by kernel_rfl)
  unfold execOp
  have h4:(Instr.sureAddr (.pointer (some ⟨g,0,none⟩))).run Tryz.prog W=.ok ⟨g,0,none⟩ W:=by first|rfl|(go_simp;done)|(simp [Instr.sureAddr,asAddr];done)
  simp only [hop,h1,Instr.loadAt,Sem.run_bind,Sem.run_pure,Result.andThen_ok,h4,h3]
  rfl) hr
end
end Go.Proofs.YtnmnpnofdgdigaaGreatDoor
end
section
namespace Go.Proofs.YtnmnpnofdgdigaaGreatDoor
open Go.RowKit
set_option linter.unusedSimpArgs false
set_option linter.unusedVariables false
set_option maxHeartbeats 4000000 in
set_option maxRecDepth 10000 in
theorem refscheck_any (s:StL) (A:Option Addr) (c:Nat) (w:World) (hz:SzS s) (hr:RdW w w.heap.size A s.load) :
  Calls Tryz.prog 23 #[encS s A c] w fun e w'=>e=.returned (.int .i64 (stnErr s))∧Below w.heap.size w w':=by
 obtain⟨W0,hW0⟩:∃W0,W0=w.alloc (.cells #[.int .u8 s.kind,.string s.typ,.string s.id,.string s.frm,.string s.to,.slice A s.load.length c] 27):=⟨_,rfl⟩
 have hX0:Below w.heap.size w W0:=by rw [hW0];exact(Below.refl _ _).alloc (Nat.le_refl _) _
 have hS0:SAt W0 w.heap.size s A c:=by rw [hW0];exact SAt.new _ _ _ _ _
 have HM:=Lib.hid (refsmay_any s A c W0 hz (RdW.ext hr hX0))
 have HE:Box (stnErr s=if stnI s then 0 else 8):=⟨rfl⟩
 have HX0:=Lib.hid hX0
 have a0:=hS0.c0
 have a1:=hS0.c1
 have a2:=hS0.c2
 have a3:=hS0.c3
 have a4:=hS0.c4
 have a5:=hS0.c5
 rw [hW0] at a0 a1 a2 a3 a4 a5
 have HW0:=Lib.hid hW0
 clear hW0 hX0 hS0 hr hz
 unfold encS at *
 generalize stnErr s=r at *
 cases hst:stnI s
 all_goals
  rw [hst] at HM HE
  have he:=HE.out
  try simp only [Bool.false_eq_true,if_false] at he
  try simp only [if_true] at he
  subst he
  clear hst HE
  go_enter Tryz.func23,Tryz.ntmps23
  go_wp2_with fail
  rw [←HW0.out]
  refine HM.out.mono ?_
  rintro e w1 ⟨rfl,hb1⟩
  have X1:=Lib.hid (HX0.out.trans (hb1.mono HX0.out.size))
  clear hb1 a0 a1 a2 a3 a4 a5
  go_wp2
  go_ret
  exact⟨rfl,X1.out⟩
end Go.Proofs.YtnmnpnofdgdigaaGreatDoor
end
section
namespace Go.Proofs.YtnmnpnofdgdigaaGreatDoor
def manyM (n:NodeL) (k:Int):NodeL:=⟨n.kind,n.space,n.name,n.attrs,n.text,k⟩
def textT (v:List NodeL):Bool:=decide (v.length=1) && decide ((nodeAt v 0).kind=2) && nodeI (nodeAt v 0)
def partOK (v:List NodeL):Bool:=textT v || treeI v
def joinV (n:NodeL) (l:List (List NodeL)):List NodeL:=manyM n l.length :: l.flatten
def putE (n:NodeL) (l:List (List NodeL)):Int:=
 if treeI [manyM n 0] then(if l.any (fun v=>!partOK v) then 8 else if 512 < (joinV n l).length then 4 else if treeI (joinV n l) then 0 else 8) else 8
def putV (n:NodeL) (l:List (List NodeL)):List NodeL:=if putE n l=0 then joinV n l else []
theorem manyM_sz {n:NodeL} {M:Nat} {k:Int} (h:SzN M n) (h0:-9223372036854775808≤k) (h1:k≤9223372036854775807):SzN M (manyM n k):=⟨h.1,h.2.1,h.2.2.1,h.2.2.2.1,h.2.2.2.2.1,h0,h1⟩
theorem putE_ne (n:NodeL) (l:List (List NodeL)) (h:putE n l≠0):putV n l=[]:=by unfold putV;rw [if_neg h]
theorem putE_0 {n:NodeL} {l:List (List NodeL)} (h:treeI [manyM n 0]=false):putE n l=8:=by unfold putE;rw [h];rfl
theorem putE_1 {n:NodeL} {l:List (List NodeL)} (h:treeI [manyM n 0]=true) (h1:l.any (fun v=>!partOK v)=true):putE n l=8:=by unfold putE;rw [h,h1];rfl
theorem putE_2 {n:NodeL} {l:List (List NodeL)} (h:treeI [manyM n 0]=true) (h1:l.any (fun v=>!partOK v)=false) (h2:512 < (joinV n l).length):putE n l=4:=by unfold putE;rw [h,h1,if_pos rfl,if_neg (by decide),if_pos h2]
theorem putE_3 {n:NodeL} {l:List (List NodeL)} (h:treeI [manyM n 0]=true) (h1:l.any (fun v=>!partOK v)=false) (h2:¬512 < (joinV n l).length):putE n l=if treeI (joinV n l) then 0 else 8:=by unfold putE;rw [h,h1,if_pos rfl,if_neg (by decide),if_neg h2]
theorem joinV_len (n:NodeL) (l:List (List NodeL)):(joinV n l).length=1+l.flatten.length:=by unfold joinV;rw [List.length_cons];omega
def laidK (n:NodeL) (l:List (List NodeL)) (k:Nat):List NodeL:=manyM n l.length :: (l.take k).flatten
theorem laidK_len (n:NodeL) (l:List (List NodeL)) (k:Nat):(laidK n l k).length=1+(l.take k).flatten.length:=by unfold laidK;rw [List.length_cons];omega
theorem laidK_succ (n:NodeL) (l:List (List NodeL)) {k:Nat} {v:List NodeL} (h:l[k]? = some v):laidK n l (k+1)=laidK n l k++v:=by
 unfold laidK
 rw [List.take_add_one,h,Option.toList_some,List.flatten_append,List.flatten_cons,List.flatten_nil,List.append_nil,List.cons_append]
theorem laidK_zero (n:NodeL) (l:List (List NodeL)):laidK n l 0=[manyM n l.length]:=rfl
theorem laidK_all (n:NodeL) (l:List (List NodeL)):laidK n l l.length=joinV n l:=by unfold laidK joinV;rw [List.take_length]
theorem laidK_le (n:NodeL) (l:List (List NodeL)) (k:Nat):(laidK n l k).length≤(joinV n l).length:=by
 rw [laidK_len,joinV_len]
 have h:l.flatten.length=(l.take k).flatten.length+(l.drop k).flatten.length:=by rw [←List.length_append,←List.flatten_append,List.take_append_drop]
 omega
theorem joinV_sz {n:NodeL} {l:List (List NodeL)} (hn:SzN 1000000000 n) (hl:l.length≤1000000000) (hv:∀v∈l,∀x∈v,SzN 1000000000 x):∀x∈joinV n l,SzN 1000000000 x:=fun x hx=>by
 unfold joinV at hx
 rcases List.mem_cons.1 hx with rfl|hx
 ·exact manyM_sz hn (by omega) (by omega)
 ·obtain⟨v,h1,h2⟩:=List.mem_flatten.1 hx
  exact hv v h1 x h2
end Go.Proofs.YtnmnpnofdgdigaaGreatDoor
end
section
namespace Go.Proofs.YtnmnpnofdgdigaaGreatDoor
open Go.RowKit
set_option linter.unusedSimpArgs false
set_option linter.unusedVariables false
theorem one_of {v:List NodeL} (h:v.length=1):∃n,v=[n]:=by
 cases v with
 | nil=>simp at h
 | cons n t=>cases t with
  | nil=>exact⟨n,rfl⟩
  | cons _ _=>simp at h
set_option maxHeartbeats 1000000 in
set_option maxRecDepth 10000 in
theorem put1_any (v:List NodeL) (A:Option Addr) (c:Nat) (w:World) (hz:SzV 1000000000 v) (hr:RdV w w.heap.size A v) :
  Calls Tryz.prog 87 (#[.slice A v.length c]++#[]) w fun e w'=>e=.returned (.bool (textT v))∧Below w.heap.size w w':=by
 rw [Array.append_empty]
 by_cases h1:v.length=1
 ·obtain⟨n,rfl⟩:=one_of h1
  have HT:Box (textT [n]=(decide (n.kind=2) && nodeI n)):=⟨by unfold textT nodeAt;simp⟩
  have HM:=Lib.hid (fun A' c' W h1 h2=>may_node n A' c' W h1 h2 (hz.2 n (List.mem_singleton.2 rfl)))
  obtain⟨b,off,rfl,hb,hcc⟩:=hr (by simp)
  obtain⟨d0,d1,d2,⟨A',c',d3,hl,hA⟩,d4,d5⟩:=hcc 0 n rfl
  rw [Nat.zero_mul,Nat.add_zero] at d0 d1 d2 d3 d4 d5
  have HM:=Lib.hid (HM.out A' c' w hA hl)
  clear hcc hz hr hl hA
  generalize textT [n]=r at *
  generalize nodeI n=q at *
  unfold encN at HM
  rw [h1]
  by_cases hk:n.kind=2
  ·have hk':(n.kind == 2)=true:=by rw [beq_iff_eq];exact hk
   have HR:Box (r=q):=⟨by rw [HT.out,decide_eq_true hk,Bool.true_and]⟩
   clear hk HT
   go_enter Tryz.func87,Tryz.ntmps87
   go_wp2_with fail
   refine HM.out.mono ?_
   rintro e w1 ⟨rfl,hb1⟩
   go_wp2
   go_ret
   exact⟨ret_bool HR.out.symm,hb1⟩
  ·have hk':(n.kind == 2)=false:=by rw [beq_eq_false_iff_ne];exact hk
   have HR:Box (r=false):=⟨by rw [HT.out,decide_eq_false hk,Bool.false_and]⟩
   clear hk HT
   go_enter Tryz.func87,Tryz.ntmps87
   go_wp2
   go_ret
   exact⟨ret_bool HR.out.symm,Below.refl _ _⟩
 ·have HT:Box (textT v=false):=⟨by unfold textT;rw [decide_eq_false h1];rfl⟩
  have h1':((v.length:Int) == 1)=false:=by rw [beq_eq_false_iff_ne];omega
  generalize textT v=r at *
  generalize v.length=N at *
  clear hr hz h1
  go_enter Tryz.func87,Tryz.ntmps87
  go_wp2
  go_ret
  exact⟨ret_bool HT.out.symm,Below.refl _ _⟩
set_option maxHeartbeats 1000000 in
set_option maxRecDepth 10000 in
theorem put2_any (v:List NodeL) (A:Option Addr) (c B:Nat) (w:World) (hc:v.length≤c) (hz:SzV 1000000000 v) (hr:RdV w w.heap.size A v) (hB:w.cell? ⟨B,0,none⟩=some (.func (.func 87) #[] #[])) :
  Calls Tryz.prog 89 (#[.slice A v.length c]++#[.pointer (some ⟨B,0,none⟩)]) w fun e w'=>e=.returned (.bool (!partOK v))∧Below w.heap.size w w':=by
 have HP:Box (partOK v=(textT v || treeI v)):=⟨rfl⟩
 have H1:=Lib.hid (put1_any v A c w hz hr)
 have H2:=Lib.hid (fun W (hW:Below w.heap.size w W)=>behind_any v A c W hc hz ((hr.below hW (Nat.le_refl _)).more hW.size))
 have hq:=fun W a n m=>eql_nil (P:=Tryz.prog) W 121 3 a n m Tryz.underlying121
 have eg:=enters_of (P:=Tryz.prog) Tryz.func87 (by kernel_rfl) rfl
 unfold BehPost at H2
 clear hr hz hc
 generalize partOK v=r at *
 generalize treeI v=t at *
 rw [Array.append_empty] at H1
 rw [List.append_toArray,List.singleton_append]
 cases hx:textT v
 ·rw [hx] at H1 HP
  clear hx
  generalize v.length=N at *
  go_enter Tryz.func89,Tryz.ntmps89
  go_wp2_with fail
  refine H1.out.mono ?_
  rintro e w1 ⟨rfl,hb1⟩
  have X1:=Lib.hid hb1
  clear hb1
  go_wp2_with fail
  refine(H2.out w1 X1.out).mono ?_
  rintro e w2 ⟨hb,⟨ht,rfl⟩|⟨ht,g,es,rfl,-⟩⟩
  all_goals
   have X:=Lib.hid (X1.out.trans (hb.mono X1.out.size))
   have HT:=Lib.hid ht
   clear hb ht
   go_wp2
   go_ret
   exact⟨ret_bool (by rw [HP.out,HT.out];rfl),X.out⟩
 ·rw [hx] at H1 HP
  clear hx
  generalize v.length=N at *
  go_enter Tryz.func89,Tryz.ntmps89
  go_wp2_with fail
  refine H1.out.mono ?_
  rintro e w1 ⟨rfl,hb1⟩
  have X1:=Lib.hid hb1
  clear hb1
  go_wp2
  go_ret
  exact⟨ret_bool (by rw [HP.out];rfl),X1.out⟩
end Go.Proofs.YtnmnpnofdgdigaaGreatDoor
end
section
namespace Go.Proofs.YtnmnpnofdgdigaaGreatDoor
open Go.RowKit
set_option linter.unusedSimpArgs false
set_option linter.unusedVariables false
theorem rdv_one {W:World} {n:NodeL} {A:Option Addr} {c g B:Nat} {t:TypeId} (h:W.heap[g]? = some (.cells #[.int .u8 n.kind,.string n.space,.string n.name,.slice A n.attrs.length c,.string n.text,.int .i64 n.many] t (0,0))) (hg:g < B) (hA:RdA W B A n.attrs) (hc:n.attrs.length≤c):RdV W B (some ⟨g,0,none⟩) [n]:=fun _=>by
 refine⟨g,0,rfl,hg,fun i m hi=>?_⟩
 cases i with
 | succ i=>simp at hi
 | zero=>
  simp only [List.getElem?_cons_zero,Option.some.injEq] at hi
  subst hi
  rw [Nat.zero_mul,Nat.add_zero]
  refine⟨?_,?_,?_,⟨A,c,?_,hc,hA⟩,?_,?_⟩ <;> simp [World.cell?,h]
def PutPost (n:NodeL) (l:List (List NodeL)) (w:World) (e:Ending) (w':World):Prop:=
 ∃A c,e=.returned (.tuple #[.slice A (putV n l).length c,.int .i64 (putE n l)])∧(putV n l).length≤c∧NewV w.heap.size w' A c (putV n l)∧Below w.heap.size w w'
theorem NewV.nil (base:Nat) (w:World):NewV base w none 0 []:=⟨[],rfl,World.ownsRow_nil _ _ _ _,fun i x hi=>by simp at hi⟩
theorem PutPost.no {n:NodeL} {l:List (List NodeL)} {w w':World} {q:Int} (h:Below w.heap.size w w') (he:putE n l=q) (hq:q≠0):PutPost n l w (.returned (.tuple #[.slice none 0 0,.int .i64 q])) w':=by
 have hv:putV n l=[]:=putE_ne n l (by omega)
 unfold PutPost
 rw [hv,he]
 exact⟨none,0,rfl,Nat.le_refl _,NewV.nil _ _,h⟩
theorem HeldA.below {w w':World} {B C:Nat} {l:List NodeH} (h:HeldA w B l) (hb:Below C w w') (hC:B≤C):HeldA w' B l:=fun i x hi=>⟨(h i x hi).1,(h i x hi).2.below hb hC⟩
theorem HeldA.more {w:World} {B B':Nat} {l:List NodeH} (h:HeldA w B l) (hB:B≤B'):HeldA w B' l:=fun i x hi=>⟨(h i x hi).1,(h i x hi).2.more hB⟩
theorem HeldA.app {w:World} {B:Nat} {l m:List NodeH} (h:HeldA w B l) (k:HeldA w B m):HeldA w B (l++m):=fun i x hi=>by
 rcases Nat.lt_or_ge i l.length with h1|h1
 ·rw [List.getElem?_append_left h1] at hi;exact h i x hi
 ·rw [List.getElem?_append_right h1] at hi;exact k _ x hi
set_option maxHeartbeats 4000000 in
set_option maxRecDepth 10000 in
theorem put_node (n:NodeL) (A:Option Addr) (c:Nat) (l:List (List NodeL)) (Al:Option Addr) (cl:Nat) (w:World) (hn:SzN 1000000000 n) (hr:RdA w w.heap.size A n.attrs) (hc:n.attrs.length≤c) (hz:SzW l) (hl:RdW w w.heap.size Al l) :
  Calls Tryz.prog 38 #[encN n A c,.slice Al l.length cl] w (PutPost n l w):=by
 obtain⟨W1,hW1⟩:∃W1,W1=w.alloc (.cells #[.int .u8 n.kind,.string n.space,.string n.name,.slice A n.attrs.length c,.string n.text,.int .i64 0] 36):=⟨_,rfl⟩
 have hX1:Below w.heap.size w W1:=by rw [hW1];exact(Below.refl _ _).alloc (Nat.le_refl _) _
 have hs1:W1.heap.size=w.heap.size+1:=by rw [hW1];simp
 have hN1:W1.heap[w.heap.size]? = some (.cells #[.int .u8 n.kind,.string n.space,.string n.name,.slice A n.attrs.length c,.string n.text,.int .i64 0] 36 (0,0)):=by
  rw [hW1];exact heap_alloc_new w _
 obtain⟨W2,hW2⟩:∃W2,W2=W1.alloc (.cells #[.int .u8 n.kind,.string n.space,.string n.name,.slice A n.attrs.length c,.string n.text,.int .i64 0] 36):=⟨_,rfl⟩
 have hX2':Below W1.heap.size W1 W2:=by rw [hW2];exact(Below.refl _ _).alloc (Nat.le_refl _) _
 have hX2:Below w.heap.size w W2:=hX1.trans (hX2'.mono hX1.size)
 have hN2:W2.heap[w.heap.size]? = some (.cells #[.int .u8 n.kind,.string n.space,.string n.name,.slice A n.attrs.length c,.string n.text,.int .i64 0] 36 (0,0)):=heap_ext hN1 hX2'
 have hM2:W2.heap[w.heap.size+1]? = some (.cells #[.int .u8 n.kind,.string n.space,.string n.name,.slice A n.attrs.length c,.string n.text,.int .i64 0] 36 (0,0)):=by
  rw [hW2,←hs1];exact heap_alloc_new W1 _
 have hs2:W2.heap.size=w.heap.size+2:=by rw [hW2];simp [hs1]
 have hz1:SzV 1000000000 [manyM n 0]:=⟨by show 1≤_;omega,fun x hx=>by rw [List.mem_singleton.1 hx];exact manyM_sz hn (by omega) (by omega)⟩
 have H1:=Lib.hid (behind_any [manyM n 0] (some ⟨w.heap.size+1,0,none⟩) 1 W2 (Nat.le_refl _) hz1 (rdv_one (n:=manyM n 0) hM2 (by omega) ((hr.below hX2 (Nat.le_refl _)).more hX2.size) hc))
 unfold BehPost at H1
 have hL1:([manyM n 0]:List NodeL).length=1:=rfl
 rw [hL1] at H1
 have hq:=fun W a n m=>eql_nil (P:=Tryz.prog) W 121 3 a n m Tryz.underlying121
 have HN2:=Lib.hid hN2
 have HX2:=Lib.hid hX2
 have HS2:=Lib.hid hs2
 have HW:=Lib.hid (show W2=_ from hW2.trans (by rw [hW1]))
 have HR:=Lib.hid hr
 have HRL:=Lib.hid hl
 have HZL:=Lib.hid hz
 have HZN:=Lib.hid hn
 have HC:=Lib.hid hc
 have hll:=hz.1
 clear hW1 hX1 hs1 hN1 hW2 hX2' hX2 hN2 hM2 hz1 hL1 hr hl hz hn hs2
 unfold encN
 go_enter Tryz.func38,Tryz.ntmps38
 go_wp2_with fail
 rw [←HW.out]
 refine H1.out.mono ?_
 rintro e w1 ⟨hb,⟨ht,rfl⟩|⟨ht,g,es,rfl,-⟩⟩
 ·have X1:=Lib.hid (HX2.out.trans (hb.mono HX2.out.size))
  have HE:=Lib.hid (putE_0 (l:=l) ht)
  clear hb ht
  go_wp2
  go_ret2
  exact PutPost.no X1.out HE.out (by decide)
 ·have X1:=Lib.hid (HX2.out.trans (hb.mono HX2.out.size))
  have HT:=Lib.hid ht
  have HS1:=Lib.hid hb.size
  have HN1:=Lib.hid (heap_ext HN2.out hb)
  obtain⟨W3,hW3⟩:∃W3,W3=w1.alloc (.cells #[.func (.func 87) #[] #[]] 38):=⟨_,rfl⟩
  have hX3':Below w1.heap.size w1 W3:=by rw [hW3];exact(Below.refl _ _).alloc (Nat.le_refl _) _
  have hX3:Below w.heap.size w W3:=X1.out.trans (hX3'.mono X1.out.size)
  have hB3:W3.heap[w1.heap.size]? = some (.cells #[.func (.func 87) #[] #[]] 38 (0,0)):=by rw [hW3];exact heap_alloc_new w1 _
  have eg:=enters_of (P:=Tryz.prog) Tryz.func89 (by kernel_rfl) rfl
  have H2:=Lib.hid (hasT_any 89 #[.pointer (some ⟨w1.heap.size,0,none⟩)] Al cl l (fun v=>!partOK v) W3 (RdW.ext HRL.out hX3) HZL.out.1 eg
   (fun W i x A' c' hW hx hl' hA'=>(put2_any x A' c' w1.heap.size W hl' (HZL.out.2 x (List.mem_of_getElem? hx)) ((hA'.below hW (Nat.le_refl _)).more hW.size) (by simp [World.cell?,heap_ext hB3 hW])).mono fun e w' h=>⟨h.1,hW.trans (h.2.mono hW.size)⟩))
  have HX3:=Lib.hid hX3
  have HN3:=Lib.hid (heap_ext HN1.out hX3')
  have HW3:=Lib.hid hW3
  clear hb ht hX3' hX3 hB3 eg hW3
  cases hany:l.any (fun v=>!partOK v)
  ·rw [hany] at H2
   have HA:=Lib.hid hany
   clear hany
   go_wp2_with fail
   rw [←HW3.out]
   refine H2.out.mono ?_
   rintro e w2 ⟨rfl,hb2⟩
   have HX4:=Lib.hid (HX3.out.trans (hb2.mono HX3.out.size))
   have HN4:=Lib.hid (heap_ext HN3.out hb2)
   have hlt4:w.heap.size < w2.heap.size:=(Array.getElem?_eq_some_iff.1 HN4.out).1
   clear hb2
   have c0:w2.cell? ⟨w.heap.size,0,none⟩=some (.int .u8 n.kind):=by simp [World.cell?,HN4.out]
   have c1:w2.cell? ⟨w.heap.size,1,none⟩=some (.string n.space):=by simp [World.cell?,HN4.out]
   have c2:w2.cell? ⟨w.heap.size,2,none⟩=some (.string n.name):=by simp [World.cell?,HN4.out]
   have c3:w2.cell? ⟨w.heap.size,3,none⟩=some (.slice A n.attrs.length c):=by simp [World.cell?,HN4.out]
   have c4:w2.cell? ⟨w.heap.size,4,none⟩=some (.string n.text):=by simp [World.cell?,HN4.out]
   have c5:w2.cell? ⟨w.heap.size,5,none⟩=some (.int .i64 0):=by simp [World.cell?,HN4.out]
   have f5:=frozen_of_row w2 w.heap.size 5 _ _ HN4.out
   obtain⟨W5,hW5⟩:∃W5,W5=w2.setCell ⟨w.heap.size,5,none⟩ (.int .i64 (l.length:Int)):=⟨_,rfl⟩
   obtain⟨W6,hW6⟩:∃W6,W6=W5.alloc (.cells #[.int .u8 n.kind,.string n.space,.string n.name,.slice A n.attrs.length c,.string n.text,.int .i64 (l.length:Int)] 36):=⟨_,rfl⟩
   have hs5:W5.heap.size=w2.heap.size:=by rw [hW5];simp [World.setCell]
   have hX5:Below w.heap.size w W5:=by rw [hW5];exact HX4.out.setCell (p:=⟨w.heap.size,5,none⟩) (Nat.le_refl _) _
   have HX6:Hid (Below w.heap.size w W6):=by rw [hW6];exact Lib.hid (hX5.alloc hX5.size _)
   have HO6:Hid (W6.ownsRow w.heap.size 36 6 (.slice (some ⟨w2.heap.size,0,none⟩) 1 1) 1 (cellsN [(manyM n l.length,A,c)])):=by
    rw [hW6,←hs5]
    exact Lib.hid (World.ownsRow_lit W5 #[.int .u8 n.kind,.string n.space,.string n.name,.slice A n.attrs.length c,.string n.text,.int .i64 (l.length:Int)] 1 (by omega) (by decide) rfl)
   have HW6:=Lib.hid (hW6.trans (by rw [hW5]))
   clear hW5 hs5 hX5 hW6
   go_wp2
   rw [←HW6.out]
   go_loopw [7,9,26] (fun s7 _ s26 wr=>∃(k:Nat) (hs:List NodeH),k≤l.length∧s26=.int .i64 k∧Hid (Below w.heap.size w wr)∧Hid (wr.ownsRow w.heap.size 36 6 s7 hs.length (cellsN hs))∧Hid (hs.map (·.1)=laidK n l k)∧Hid (HeldA w w.heap.size hs)∧hs.length≤512) (fun _ _ s26 _=>l.length - (intOf s26).toNat)
   case atStart=>exact⟨0,[(manyM n l.length,A,c)],Nat.zero_le _,rfl,HX6,HO6,Lib.hid rfl,Lib.hid (fun i x hi=>by
    cases i with
    | succ i=>simp at hi
    | zero=>
     simp only [List.getElem?_cons_zero,Option.some.injEq] at hi
     subst hi
     exact⟨HC.out,HR.out⟩),by simp⟩
   case round=>
    obtain⟨k,hs,hk,rfl,HB,HO,HM,HH,hlen⟩:=hrel
    obtain⟨A7,c7,rfl⟩:=own_form HO.out
    by_cases hlt:k < l.length
    ·obtain⟨v,hv⟩:∃v,l[k]? = some v:=⟨_,List.getElem?_eq_getElem hlt⟩
     have HV:=Lib.hid hv
     have hzv:=(HZL.out.2 v (List.mem_of_getElem? hv)).1
     obtain⟨b,off,rfl,hb,hcc⟩:=HRL.out (by omega)
     obtain⟨A',c',d0,hl',hA'⟩:=hcc k v hv
     have e0:=(HB.out.cell (p:=⟨b,off+k,none⟩) hb).trans d0
     obtain⟨m,hm,hrd,hheld⟩:=rdv_rd hA'
     have HRD:=Lib.hid (hrd.below HB.out (Nat.le_refl _))
     have HHD:=Lib.hid hheld
     have HMM:=Lib.hid hm
     have hBs:=HB.out.size
     clear hv hcc d0 hl' hA' hm hrd hheld
     go_wp2_with (at_builtin;refine app_nodes rfl _ _ rfl w.heap.size _ hs.length hs rfl HO.out _ _ _ _ m rfl HRD.out (by omega) (by omega) ?_)
     intro v4 w4 hown4 hg4 hbk
     obtain⟨A8,c8,rfl⟩:=own_form hown4
     have HX8:Hid (Below w.heap.size w w4):=Lib.hid (HB.out.grown hg4 HB.out.size (fun q hq=>(HO.out.lt q hq).1))
     have HO8:=Lib.hid hown4
     clear hown4 hg4 hbk
     have HMV:Hid ((hs++m).map (·.1)=laidK n l (k+1)):=Lib.hid (by rw [List.map_append,HM.out,HMM.out,←laidK_succ n l HV.out])
     have HLE:Hid ((hs++m).length=hs.length+v.length):=Lib.hid (by rw [List.length_append,←HMM.out,List.length_map])
     by_cases h512:512 < hs.length+v.length
     ·have HE:=Lib.hid (putE_2 HT.out HA.out (Nat.lt_of_lt_of_le (by rw [←HMV.out,List.length_map,HLE.out];exact h512) (laidK_le n l (k+1))))
      generalize hs.length+v.length=M at *
      have h512':(512:Int) < (M:Int):=by omega
      go_wp2
      go_ret2
      exact PutPost.no HX8.out HE.out (by decide)
     ·have HO9:=HO8
      rw [←HLE.out] at HO9
      have HL9:Hid ((hs++m).length≤512):=Lib.hid (by rw [HLE.out];omega)
      have h512':¬(512:Int) < ((hs.length+v.length:Nat):Int):=by omega
      rw [←HLE.out] at h512'
      rw [←HLE.out]
      generalize hQ:(hs++m).length=M at *
      have HQ:=Lib.hid hQ
      clear hQ
      go_wp2
      go_roundw
      case rel=>exact⟨k+1,hs++m,by omega,by go_num,HX8,by rw [HQ.out];exact HO9,HMV,HHD.out |> fun h=>Lib.hid (HH.out.app h),by rw [HQ.out];exact HL9.out⟩
      case measure=>simp [intOf];omega
    ·obtain rfl:k=l.length:=by omega
     have hJ:hs.map (·.1)=joinV n l:=HM.out.trans (laidK_all n l)
     have hJL:(joinV n l).length=hs.length:=by rw [←hJ,List.length_map]
     have hrv:RdV wr wr.heap.size A7 (joinV n l):=by
      rw [←hJ]
      exact rd_rdv (Rd.of_own HO.out) ((HH.out.below HB.out (Nat.le_refl _)).more HB.out.size)
     have hle:hs.length≤c7:=own_le HO.out
     have hzj:SzV 1000000000 (joinV n l):=⟨by omega,joinV_sz HZN.out HZL.out.1 (fun v hv x hx=>(HZL.out.2 v hv).2 x hx)⟩
     have HCK:=Lib.hid (tcheck_any (joinV n l) A7 c7 wr (by omega) hzj hrv)
     have HTW:=Lib.hid (fun W (hW:Below wr.heap.size wr W)=>twin_any A7 c7 (joinV n l) W ((hrv.below hW (Nat.le_refl _)).more hW.size) hzj)
     have HE3:=Lib.hid (putE_3 HT.out HA.out (show ¬512 < (joinV n l).length by omega))
     have HTE:Box (treeErr (joinV n l)=if treeI (joinV n l) then 0 else 8):=⟨rfl⟩
     unfold TwinPost at HTW
     have HVV:Hid (putE n l=0→putV n l=joinV n l):=Lib.hid (fun h=>by unfold putV;rw [if_pos h])
     have HJL:=Lib.hid hJL
     rw [hJL] at HCK HTW
     generalize hNN:hs.length=N at *
     clear hJ hJL hrv hle hzj hNN
     generalize treeErr (joinV n l)=q at *
     cases ht:treeI (joinV n l)
     all_goals
      rw [ht] at HTE HE3
      have hte:=HTE.out
      try simp only [Bool.false_eq_true,if_false] at hte HE3
      try simp only [if_true] at hte HE3
      subst hte
      clear HTE ht
      go_wp2_with fail
      refine HCK.out.mono ?_
      rintro e w5 ⟨rfl,hb5⟩
      have HX5:=Lib.hid (HB.out.trans (hb5.mono HB.out.size))
      have HY5:=Lib.hid hb5
      clear hb5
     ·go_wp2
      go_ret2
      exact PutPost.no HX5.out HE3.out (by decide)
     ·go_wp2_with fail
      refine(HTW.out _ HY5.out).mono ?_
      rintro e w6 ⟨A9,c9,rfl,hl9,hn9,hb9⟩
      have HX9:=Lib.hid (HX5.out.trans (hb9.mono HX5.out.size))
      have HN9:=Lib.hid (hn9.mono HX5.out.size)
      have HL9:=Lib.hid hl9
      clear hb9 hn9 hl9
      go_wp2
      go_ret2
      unfold PutPost
      rw [HVV.out HE3.out,HE3.out,HJL.out]
      exact⟨A9,c9,rfl,HL9.out,HN9.out,HX9.out⟩
  ·rw [hany] at H2
   have HE:=Lib.hid (putE_1 HT.out hany)
   clear hany
   go_wp2_with fail
   rw [←HW3.out]
   refine H2.out.mono ?_
   rintro e w2 ⟨rfl,hb2⟩
   have HX4:=Lib.hid (HX3.out.trans (hb2.mono HX3.out.size))
   clear hb2
   go_wp2
   go_ret2
   exact PutPost.no HX4.out HE.out (by decide)
end Go.Proofs.YtnmnpnofdgdigaaGreatDoor
end
