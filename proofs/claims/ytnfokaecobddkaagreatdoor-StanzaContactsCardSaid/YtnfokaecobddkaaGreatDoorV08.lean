/- Part 8 of a proof laid in parts, one behind the other; no condition of its own. -/
import Derived.Test.YtnfokaecobddkaaGreatDoorV07
import Derived.Test.YtnfokaecobddkaaGreatDoorV06
import Derived.Test.YtnfokaecobddkaaGreatDoorV05
set_option linter.all false
section
namespace Go.Proofs.YtnfokaecobddkaaGreatDoor
open Go.RowKit
set_option linter.unusedSimpArgs false
set_option linter.unusedVariables false
theorem sz_get {l:List AttrL} {M:Nat} (h:∀a∈l,SzA M a) {k:Nat} {x:AttrL} (hx:l[k]? = some x):SzA M x:=h x (List.mem_of_getElem? hx)
set_option maxHeartbeats 4000000 in
set_option maxRecDepth 10000 in
theorem attrs_any (A:Option Addr) (c:Nat) (l:List AttrL) (w:World) (hr:RdA w w.heap.size A l) (hc:l.length≤c) (hn:l.length≤1000000000) (hz:∀a∈l,SzA 1000000000 a) :
  Calls Tryz.prog 120 #[.slice A l.length c] w fun e w'=>e=.returned (.bool (attrsI l))∧Below w.heap.size w w':=by
 have HR:=Lib.hid hr
 have HZ:=Lib.hid hz
 have HI:Box (attrsI l=(attrsT l l.length && decide (l.length≤16))):=⟨rfl⟩
 clear hr hz
 generalize attrsI l=ri at *
 go_enter Tryz.func120,Tryz.ntmps120
 go_wp2
 go_loopw [3,4,5,8] (fun _ _ _ s8 wr=>∃k:Nat,k≤l.length∧s8=.int .i64 k∧Hid (Below w.heap.size w wr)∧Hid (attrsT l k=true)) (fun _ _ _ s8 _=>l.length - (intOf s8).toNat)
 case atStart=>exact⟨0,Nat.zero_le _,rfl,Lib.hid (Below.refl _ _),rfl⟩
 case round=>
  obtain⟨k,hk,rfl,HB,HN⟩:=hrel
  by_cases hlt:k < l.length
  ·obtain⟨x,hx⟩:∃x,l[k]? = some x:=⟨_,List.getElem?_eq_getElem hlt⟩
   have HX:=Lib.hid hx
   obtain⟨b,off,rfl,hb,hcc⟩:=HR.out (by omega)
   obtain⟨c0,c1,c2⟩:=(hcc k x hx).keep (w':=wr) hb (fun q hq=>HB.out.cell hq)
   obtain⟨z0,z1,z2⟩:=sz_get HZ.out hx
   have hsz:=HB.out.size
   obtain⟨A',hA',hAr⟩:=front_attrs (some ⟨b,off,none⟩) l.length c k hk hc
   have eg:=enters_of (P:=Tryz.prog) Tryz.func173 (by kernel_rfl) rfl
   have hlk:(l.take k).length=k:=by rw [List.length_take];omega
   have HX0:Hid (Below w.heap.size w (wr.alloc (.cells #[.string x.space,.string x.name,.string x.value] 80))):=HB.out.alloc hsz _
   obtain⟨W0,hW0⟩:∃W0,W0=wr.alloc (.cells #[.string x.space,.string x.name,.string x.value] 80):=⟨_,rfl⟩
   have hs0:wr.heap.size < W0.heap.size:=by rw [hW0];simp
   have HD0:Hid (∀W,Below W0.heap.size W0 W→W.cell? ⟨wr.heap.size,0,none⟩=some (.string x.space)):=Lib.hid (fun W hW=>(hW.cell hs0).trans (by rw [hW0];simp))
   have HD1:Hid (∀W,Below W0.heap.size W0 W→W.cell? ⟨wr.heap.size,1,none⟩=some (.string x.name)):=Lib.hid (fun W hW=>(hW.cell hs0).trans (by rw [hW0];simp))
   have HD2:Hid (∀W,Below W0.heap.size W0 W→W.cell? ⟨wr.heap.size,2,none⟩=some (.string x.value)):=Lib.hid (fun W hW=>(hW.cell hs0).trans (by rw [hW0];simp))
   rw [←hW0] at HX0
   have hcall:=hasA_any 173 #[.pointer (some ⟨wr.heap.size,0,none⟩)] A' c (l.take k) (dupA x) W0 (((hAr w w.heap.size l rfl HR.out).below HX0.out (Nat.le_refl _)).more HX0.out.size) (by omega) eg
    (fun W i y hW hy=>(attrs1_any x y wr.heap.size W (HD0.out W hW) (HD1.out W hW)).mono fun e w' h=>⟨h.1,hW.trans (h.2.mono hW.size)⟩)
   rw [hlk] at hcall
   have HC:=Lib.hid hcall
   have HT:Box (attrsT l (k+1)=(!(l.take k).any (dupA x) && (fullI x.name && decide (textErr x.value=0) && decide (textErr x.space=0)))):=⟨by rw [attrsT_succ l k x hx,HN.out];rfl⟩
   have HNO:=Lib.hid (attrsT_no l (k+1) l.length hlt)
   have H1:=Lib.hid (fun W=>full_any x.name W z1)
   have H2:=Lib.hid (fun W=>check5_any x.value W z2)
   have H3:=Lib.hid (fun W=>check5_any x.space W z0)
   have hWE:=hW0
   clear hx hcc hAr hcall hlk eg
   generalize (l.take k).any (dupA x)=q0 at *
   generalize fullI x.name=q1 at *
   generalize textErr x.value=t2 at *
   generalize textErr x.space=t3 at *
   cases q0 with
   | true=>
    go_wp2_with fail
    rw [←hWE]
    refine HC.out.mono ?_
    rintro e w1 ⟨rfl,hb1⟩
    have X1:=Lib.hid (HX0.out.trans (hb1.mono HX0.out.size))
    clear hb1 hWE hW0
    go_wp2
    go_ret
    exact⟨ret_bool (by rw [HI.out,HNO.out (by rw [HT.out];rfl)];rfl),X1.out⟩
   | false=>
    cases q1 with
    | false=>
     go_wp2_with fail
     rw [←hWE]
     refine HC.out.mono ?_
     rintro e w1 ⟨rfl,hb1⟩
     clear hWE hW0
     have X1:Hid (Below W0.heap.size W0 w1):=Lib.hid (ext_step (Below.refl W0.heap.size W0) (by first|exact e0A|exact e1A|exact e2A|exact e3A|exact e4A|exact e5A) hb1 (Below.refl W0.heap.size W0).size)
     clear hb1
     try clear d0 d1 d2
     have d0:=HD0.out _ X1.out
     have d1:=HD1.out _ X1.out
     have d2:=HD2.out _ X1.out
     go_wp2_with fail
     refine(H1.out _).mono ?_
     rintro e w2 ⟨rfl,hb2⟩
     have X2:Hid (Below W0.heap.size W0 w2):=Lib.hid (ext_step (X1.out) (by first|exact e0A|exact e1A|exact e2A|exact e3A|exact e4A|exact e5A) hb2 (X1.out).size)
     clear hb2
     try clear d0 d1 d2
     have d0:=HD0.out _ X2.out
     have d1:=HD1.out _ X2.out
     have d2:=HD2.out _ X2.out
     go_wp2
     go_ret
     exact⟨ret_bool (by rw [HI.out,HNO.out (by rw [HT.out];rfl)];rfl),HX0.out.trans (X2.out.mono HX0.out.size)⟩
    | true=>
     by_cases e2:t2=0
     ·subst e2
      by_cases e3:t3=0
      ·subst e3
       go_wp2_with fail
       rw [←hWE]
       refine HC.out.mono ?_
       rintro e w1 ⟨rfl,hb1⟩
       clear hWE hW0
       have X1:Hid (Below W0.heap.size W0 w1):=Lib.hid (ext_step (Below.refl W0.heap.size W0) (by first|exact e0A|exact e1A|exact e2A|exact e3A|exact e4A|exact e5A) hb1 (Below.refl W0.heap.size W0).size)
       clear hb1
       try clear d0 d1 d2
       have d0:=HD0.out _ X1.out
       have d1:=HD1.out _ X1.out
       have d2:=HD2.out _ X1.out
       go_wp2_with fail
       refine(H1.out _).mono ?_
       rintro e w2 ⟨rfl,hb2⟩
       have X2:Hid (Below W0.heap.size W0 w2):=Lib.hid (ext_step (X1.out) (by first|exact e0A|exact e1A|exact e2A|exact e3A|exact e4A|exact e5A) hb2 (X1.out).size)
       clear hb2
       try clear d0 d1 d2
       have d0:=HD0.out _ X2.out
       have d1:=HD1.out _ X2.out
       have d2:=HD2.out _ X2.out
       go_wp2_with fail
       refine(H2.out _).mono ?_
       rintro e w3 ⟨rfl,hb3⟩
       have X3:Hid (Below W0.heap.size W0 w3):=Lib.hid (ext_step (X2.out) (by first|exact e0A|exact e1A|exact e2A|exact e3A|exact e4A|exact e5A) hb3 (X2.out).size)
       clear hb3
       try clear d0 d1 d2
       have d0:=HD0.out _ X3.out
       have d1:=HD1.out _ X3.out
       have d2:=HD2.out _ X3.out
       go_wp2_with fail
       refine(H3.out _).mono ?_
       rintro e w4 ⟨rfl,hb4⟩
       have X4:Hid (Below W0.heap.size W0 w4):=Lib.hid (ext_step (X3.out) (by first|exact e0A|exact e1A|exact e2A|exact e3A|exact e4A|exact e5A) hb4 (X3.out).size)
       clear hb4
       go_wp2
       go_roundw
       case rel=>exact⟨k+1,by omega,by go_num,Lib.hid (HX0.out.trans (X4.out.mono HX0.out.size)),HT.out⟩
       case measure=>simp [intOf];omega
      ·have hq3:(t3 != 0)=true:=by simpa using e3
       have HQ3:Box (decide (t3=0)=false):=⟨decide_eq_false e3⟩
       clear e3
       go_wp2_with fail
       rw [←hWE]
       refine HC.out.mono ?_
       rintro e w1 ⟨rfl,hb1⟩
       clear hWE hW0
       have X1:Hid (Below W0.heap.size W0 w1):=Lib.hid (ext_step (Below.refl W0.heap.size W0) (by first|exact e0A|exact e1A|exact e2A|exact e3A|exact e4A|exact e5A) hb1 (Below.refl W0.heap.size W0).size)
       clear hb1
       try clear d0 d1 d2
       have d0:=HD0.out _ X1.out
       have d1:=HD1.out _ X1.out
       have d2:=HD2.out _ X1.out
       go_wp2_with fail
       refine(H1.out _).mono ?_
       rintro e w2 ⟨rfl,hb2⟩
       have X2:Hid (Below W0.heap.size W0 w2):=Lib.hid (ext_step (X1.out) (by first|exact e0A|exact e1A|exact e2A|exact e3A|exact e4A|exact e5A) hb2 (X1.out).size)
       clear hb2
       try clear d0 d1 d2
       have d0:=HD0.out _ X2.out
       have d1:=HD1.out _ X2.out
       have d2:=HD2.out _ X2.out
       go_wp2_with fail
       refine(H2.out _).mono ?_
       rintro e w3 ⟨rfl,hb3⟩
       have X3:Hid (Below W0.heap.size W0 w3):=Lib.hid (ext_step (X2.out) (by first|exact e0A|exact e1A|exact e2A|exact e3A|exact e4A|exact e5A) hb3 (X2.out).size)
       clear hb3
       try clear d0 d1 d2
       have d0:=HD0.out _ X3.out
       have d1:=HD1.out _ X3.out
       have d2:=HD2.out _ X3.out
       go_wp2_with fail
       refine(H3.out _).mono ?_
       rintro e w4 ⟨rfl,hb4⟩
       have X4:Hid (Below W0.heap.size W0 w4):=Lib.hid (ext_step (X3.out) (by first|exact e0A|exact e1A|exact e2A|exact e3A|exact e4A|exact e5A) hb4 (X3.out).size)
       clear hb4
       go_wp2
       go_ret
       exact⟨ret_bool (by rw [HI.out,HNO.out (by rw [HT.out,HQ3.out];rfl)];rfl),HX0.out.trans (X4.out.mono HX0.out.size)⟩
     ·have hq2:(t2 != 0)=true:=by simpa using e2
      have HQ2:Box (decide (t2=0)=false):=⟨decide_eq_false e2⟩
      clear e2
      go_wp2_with fail
      rw [←hWE]
      refine HC.out.mono ?_
      rintro e w1 ⟨rfl,hb1⟩
      clear hWE hW0
      have X1:Hid (Below W0.heap.size W0 w1):=Lib.hid (ext_step (Below.refl W0.heap.size W0) (by first|exact e0A|exact e1A|exact e2A|exact e3A|exact e4A|exact e5A) hb1 (Below.refl W0.heap.size W0).size)
      clear hb1
      try clear d0 d1 d2
      have d0:=HD0.out _ X1.out
      have d1:=HD1.out _ X1.out
      have d2:=HD2.out _ X1.out
      go_wp2_with fail
      refine(H1.out _).mono ?_
      rintro e w2 ⟨rfl,hb2⟩
      have X2:Hid (Below W0.heap.size W0 w2):=Lib.hid (ext_step (X1.out) (by first|exact e0A|exact e1A|exact e2A|exact e3A|exact e4A|exact e5A) hb2 (X1.out).size)
      clear hb2
      try clear d0 d1 d2
      have d0:=HD0.out _ X2.out
      have d1:=HD1.out _ X2.out
      have d2:=HD2.out _ X2.out
      go_wp2_with fail
      refine(H2.out _).mono ?_
      rintro e w3 ⟨rfl,hb3⟩
      have X3:Hid (Below W0.heap.size W0 w3):=Lib.hid (ext_step (X2.out) (by first|exact e0A|exact e1A|exact e2A|exact e3A|exact e4A|exact e5A) hb3 (X2.out).size)
      clear hb3
      go_wp2
      go_ret
      exact⟨ret_bool (by rw [HI.out,HNO.out (by rw [HT.out,HQ2.out];rfl)];rfl),HX0.out.trans (X3.out.mono HX0.out.size)⟩
  ·obtain rfl:k=l.length:=by omega
   have HT:=Box.mk HN.out
   have HB2:=HB
   by_cases h16:l.length≤16
   ·have h16':(l.length:Int)≤16:=by omega
    go_wp2
    go_ret
    exact⟨ret_bool (by rw [HI.out,HT.out,decide_eq_true h16];rfl),HB2.out⟩
   ·have h16':¬(l.length:Int)≤16:=by omega
    go_wp2
    go_ret
    exact⟨ret_bool (by rw [HI.out,HT.out,decide_eq_false h16];rfl),HB2.out⟩
end Go.Proofs.YtnfokaecobddkaaGreatDoor
end
section
namespace Go.Proofs.YtnfokaecobddkaaGreatDoor
open Go.RowKit
set_option linter.unusedSimpArgs false
set_option linter.unusedVariables false
end Go.Proofs.YtnfokaecobddkaaGreatDoor
end
section
namespace Go.Proofs.YtnfokaecobddkaaGreatDoor
open Go.RowKit
set_option linter.unusedSimpArgs false
set_option linter.unusedVariables false
theorem emp_is (s:ByteArray):s.toList.isEmpty=isEmp s:=by
 unfold isEmp
 rcases Nat.eq_zero_or_pos s.size with h|h
 ·rw [str_em s h,decide_eq_true h]
 ·rw [str_ne s h,decide_eq_false (by omega)]
set_option maxHeartbeats 4000000 in
set_option maxRecDepth 10000 in
theorem may_node (n:NodeL) (A:Option Addr) (c:Nat) (w:World) (hr:RdA w w.heap.size A n.attrs) (hc:n.attrs.length≤c) (hz:SzN 1000000000 n) :
  Calls Tryz.prog 68 #[encN n A c] w fun e w'=>e=.returned (.bool (nodeI n))∧Below w.heap.size w w':=by
 obtain⟨⟨k0,k1⟩,z1,z2,⟨z3,zA⟩,z4,m0,m1⟩:=hz
 have HXA:Hid (Below w.heap.size w (w.alloc (.cells #[.int .u8 n.kind,.string n.space,.string n.name,.slice A n.attrs.length c,.string n.text,.int .i64 n.many] 69))):=(Below.refl _ w).alloc (Nat.le_refl _) _
 obtain⟨W0,hW0⟩:∃W0,W0=w.alloc (.cells #[.int .u8 n.kind,.string n.space,.string n.name,.slice A n.attrs.length c,.string n.text,.int .i64 n.many] 69):=⟨_,rfl⟩
 have HX0:=HXA
 rw [←hW0] at HX0
 have hs0:w.heap.size < W0.heap.size:=by rw [hW0];simp
 have HD0:Hid (∀W,Below W0.heap.size W0 W→W.cell? ⟨w.heap.size,0,none⟩=some (.int .u8 n.kind)):=Lib.hid (fun W hW=>(hW.cell hs0).trans (by rw [hW0];simp))
 have HD1:Hid (∀W,Below W0.heap.size W0 W→W.cell? ⟨w.heap.size,1,none⟩=some (.string n.space)):=Lib.hid (fun W hW=>(hW.cell hs0).trans (by rw [hW0];simp))
 have HD2:Hid (∀W,Below W0.heap.size W0 W→W.cell? ⟨w.heap.size,2,none⟩=some (.string n.name)):=Lib.hid (fun W hW=>(hW.cell hs0).trans (by rw [hW0];simp))
 have HD3:Hid (∀W,Below W0.heap.size W0 W→W.cell? ⟨w.heap.size,3,none⟩=some (.slice A n.attrs.length c)):=Lib.hid (fun W hW=>(hW.cell hs0).trans (by rw [hW0];simp))
 have HD4:Hid (∀W,Below W0.heap.size W0 W→W.cell? ⟨w.heap.size,4,none⟩=some (.string n.text)):=Lib.hid (fun W hW=>(hW.cell hs0).trans (by rw [hW0];simp))
 have HD5:Hid (∀W,Below W0.heap.size W0 W→W.cell? ⟨w.heap.size,5,none⟩=some (.int .i64 n.many)):=Lib.hid (fun W hW=>(hW.cell hs0).trans (by rw [hW0];simp))
 have HRA:=Lib.hid (fun W (hW:Below w.heap.size w W)=>((hr.below hW (Nat.le_refl _)).more hW.size))
 have HT:=Lib.hid (fun W=>check5_any n.text W z4)
 have HS:=Lib.hid (fun W=>check5_any n.space W z1)
 have HF:=Lib.hid (fun W=>full_any n.name W z2)
 have HA0:=Lib.hid (fun W (hW:Below w.heap.size w W)=>attrs_any A c n.attrs W (HRA.out W hW) hc z3 zA)
 clear hr hc z1 z2 z3 zA z4
 unfold encN
 by_cases hk:n.kind=2
 ·have hk':(n.kind == 2)=true:=by rw [beq_iff_eq];exact hk
  have HI:Box (nodeI n=((isEmp n.name) && (isEmp n.space) && (decide (n.attrs.length=0)) && (decide (n.many=0)) && (!isEmp n.text) && (decide (textErr n.text=0)))):=⟨by unfold nodeI;rw [if_pos hk]⟩
  generalize nodeI n=ri at *
  generalize textErr n.text=t6 at *
  obtain⟨q1,hqq1⟩:∃q,(isEmp n.name)=q:=⟨_,rfl⟩
  rw [hqq1] at HI
  obtain⟨q2,hqq2⟩:∃q,(isEmp n.space)=q:=⟨_,rfl⟩
  rw [hqq2] at HI
  obtain⟨q3,hqq3⟩:∃q,(decide (n.attrs.length=0))=q:=⟨_,rfl⟩
  rw [hqq3] at HI
  obtain⟨q4,hqq4⟩:∃q,(decide (n.many=0))=q:=⟨_,rfl⟩
  rw [hqq4] at HI
  obtain⟨q5,hqq5⟩:∃q,(!isEmp n.text)=q:=⟨_,rfl⟩
  rw [hqq5] at HI
  obtain⟨q6,hqq6⟩:∃q,(decide (t6=0))=q:=⟨_,rfl⟩
  rw [hqq6] at HI
  rw [hk] at HD0 hW0 HXA
  rw [hk]
  cases q1 with
  | false=>
   have fq1:n.name.toList.isEmpty=false:=(emp_is n.name).trans hqq1
   go_enter Tryz.func68,Tryz.ntmps68
   go_wp2
   go_ret
   exact⟨ret_bool (by rw [HI.out];rfl),HXA.out⟩
  | true=>
   have fq1:n.name.toList.isEmpty=true:=(emp_is n.name).trans hqq1
   cases q2 with
   | false=>
    have fq2:n.space.toList.isEmpty=false:=(emp_is n.space).trans hqq2
    go_enter Tryz.func68,Tryz.ntmps68
    go_wp2
    go_ret
    exact⟨ret_bool (by rw [HI.out];rfl),HXA.out⟩
   | true=>
    have fq2:n.space.toList.isEmpty=true:=(emp_is n.space).trans hqq2
    cases q3 with
    | false=>
     have fq3:((n.attrs.length:Int) == 0)=false:=by have:=of_decide_eq_false hqq3;rw [beq_eq_false_iff_ne];omega
     go_enter Tryz.func68,Tryz.ntmps68
     go_wp2
     go_ret
     exact⟨ret_bool (by rw [HI.out];rfl),HXA.out⟩
    | true=>
     have fq3:(n.attrs.length:Int)=0:=by have:=of_decide_eq_true hqq3;omega
     cases q4 with
     | false=>
      have fq4:(n.many == 0)=false:=by have:=of_decide_eq_false hqq4;rw [beq_eq_false_iff_ne];omega
      go_enter Tryz.func68,Tryz.ntmps68
      go_wp2
      go_ret
      exact⟨ret_bool (by rw [HI.out];rfl),HXA.out⟩
     | true=>
      have fq4:n.many=0:=by have:=of_decide_eq_true hqq4;omega
      rw [fq4] at HD5 hW0 HXA
      cases q5 with
      | false=>
       have fq5:n.text.toList.isEmpty=true:=(emp_is n.text).trans (by rw [←Bool.not_not (isEmp n.text),hqq5];rfl)
       go_enter Tryz.func68,Tryz.ntmps68
       go_wp2
       go_ret
       exact⟨ret_bool (by rw [HI.out];rfl),HXA.out⟩
      | true=>
       have fq5:n.text.toList.isEmpty=false:=(emp_is n.text).trans (by rw [←Bool.not_not (isEmp n.text),hqq5];rfl)
       cases q6 with
       | false=>
        have fq6:(t6 == 0)=false:=by rw [beq_eq_false_iff_ne];exact of_decide_eq_false hqq6
        go_enter Tryz.func68,Tryz.ntmps68
        go_wp2_with fail
        rw [←hW0]
        refine(HT.out _).mono ?_
        rintro e w1 ⟨rfl,hb1⟩
        have X1:Hid (Below W0.heap.size W0 w1):=Lib.hid (ext_step (Below.refl W0.heap.size W0) (by first|exact e0A|exact e1A|exact e2A|exact e3A|exact e4A|exact e5A) hb1 (Below.refl W0.heap.size W0).size)
        clear hb1
        try clear d0 d1 d2 d3 d4 d5
        have d0:=HD0.out _ X1.out
        have d1:=HD1.out _ X1.out
        have d2:=HD2.out _ X1.out
        have d3:=HD3.out _ X1.out
        have d4:=HD4.out _ X1.out
        have d5:=HD5.out _ X1.out
        go_wp2
        go_ret
        exact⟨ret_bool (by rw [HI.out];rfl),HX0.out.trans (X1.out.mono HX0.out.size)⟩
       | true=>
        have fq6:t6=0:=of_decide_eq_true hqq6
        subst fq6
        go_enter Tryz.func68,Tryz.ntmps68
        go_wp2_with fail
        rw [←hW0]
        refine(HT.out _).mono ?_
        rintro e w1 ⟨rfl,hb1⟩
        have X1:Hid (Below W0.heap.size W0 w1):=Lib.hid (ext_step (Below.refl W0.heap.size W0) (by first|exact e0A|exact e1A|exact e2A|exact e3A|exact e4A|exact e5A) hb1 (Below.refl W0.heap.size W0).size)
        clear hb1
        try clear d0 d1 d2 d3 d4 d5
        have d0:=HD0.out _ X1.out
        have d1:=HD1.out _ X1.out
        have d2:=HD2.out _ X1.out
        have d3:=HD3.out _ X1.out
        have d4:=HD4.out _ X1.out
        have d5:=HD5.out _ X1.out
        go_wp2
        go_ret
        exact⟨ret_bool (by rw [HI.out];rfl),HX0.out.trans (X1.out.mono HX0.out.size)⟩
 ·have hk':(n.kind == 2)=false:=by rw [beq_eq_false_iff_ne];exact hk
  have HI:Box (nodeI n=((decide (n.kind=1)) && (isEmp n.text) && (fullI n.name) && (decide (textErr n.space=0)) && (attrsI n.attrs))):=⟨by unfold nodeI;rw [if_neg hk]⟩
  generalize nodeI n=ri at *
  generalize fullI n.name=p2 at *
  generalize textErr n.space=t3 at *
  generalize attrsI n.attrs=p4 at *
  obtain⟨p0,hqp0⟩:∃q,(decide (n.kind=1))=q:=⟨_,rfl⟩
  rw [hqp0] at HI
  obtain⟨p1,hqp1⟩:∃q,(isEmp n.text)=q:=⟨_,rfl⟩
  rw [hqp1] at HI
  obtain⟨p3,hqp3⟩:∃q,(decide (t3=0))=q:=⟨_,rfl⟩
  rw [hqp3] at HI
  cases p0 with
  | false=>
   have fp0:(n.kind == 1)=false:=by rw [beq_eq_false_iff_ne];exact of_decide_eq_false hqp0
   go_enter Tryz.func68,Tryz.ntmps68
   go_wp2
   go_ret
   exact⟨ret_bool (by rw [HI.out];rfl),HXA.out⟩
  | true=>
   have fp0:n.kind=1:=of_decide_eq_true hqp0
   rw [fp0] at HD0 hW0 HXA
   rw [fp0]
   cases p1 with
   | false=>
    have fp1:n.text.toList.isEmpty=false:=(emp_is n.text).trans hqp1
    go_enter Tryz.func68,Tryz.ntmps68
    go_wp2
    go_ret
    exact⟨ret_bool (by rw [HI.out];rfl),HXA.out⟩
   | true=>
    have fp1:n.text.toList.isEmpty=true:=(emp_is n.text).trans hqp1
    cases p2 with
    | false=>
     go_enter Tryz.func68,Tryz.ntmps68
     go_wp2_with fail
     rw [←hW0]
     refine(HF.out _).mono ?_
     rintro e w1 ⟨rfl,hb1⟩
     have X1:Hid (Below W0.heap.size W0 w1):=Lib.hid (ext_step (Below.refl W0.heap.size W0) (by first|exact e0A|exact e1A|exact e2A|exact e3A|exact e4A|exact e5A) hb1 (Below.refl W0.heap.size W0).size)
     clear hb1
     try clear d0 d1 d2 d3 d4 d5
     have d0:=HD0.out _ X1.out
     have d1:=HD1.out _ X1.out
     have d2:=HD2.out _ X1.out
     have d3:=HD3.out _ X1.out
     have d4:=HD4.out _ X1.out
     have d5:=HD5.out _ X1.out
     go_wp2
     go_ret
     exact⟨ret_bool (by rw [HI.out];rfl),HX0.out.trans (X1.out.mono HX0.out.size)⟩
    | true=>
     cases p3 with
     | false=>
      have fp3:(t3 == 0)=false:=by rw [beq_eq_false_iff_ne];exact of_decide_eq_false hqp3
      go_enter Tryz.func68,Tryz.ntmps68
      go_wp2_with fail
      rw [←hW0]
      refine(HF.out _).mono ?_
      rintro e w1 ⟨rfl,hb1⟩
      have X1:Hid (Below W0.heap.size W0 w1):=Lib.hid (ext_step (Below.refl W0.heap.size W0) (by first|exact e0A|exact e1A|exact e2A|exact e3A|exact e4A|exact e5A) hb1 (Below.refl W0.heap.size W0).size)
      clear hb1
      try clear d0 d1 d2 d3 d4 d5
      have d0:=HD0.out _ X1.out
      have d1:=HD1.out _ X1.out
      have d2:=HD2.out _ X1.out
      have d3:=HD3.out _ X1.out
      have d4:=HD4.out _ X1.out
      have d5:=HD5.out _ X1.out
      go_wp2_with fail
      refine(HS.out _).mono ?_
      rintro e w2 ⟨rfl,hb2⟩
      have X2:Hid (Below W0.heap.size W0 w2):=Lib.hid (ext_step (X1.out) (by first|exact e0A|exact e1A|exact e2A|exact e3A|exact e4A|exact e5A) hb2 (X1.out).size)
      clear hb2
      try clear d0 d1 d2 d3 d4 d5
      have d0:=HD0.out _ X2.out
      have d1:=HD1.out _ X2.out
      have d2:=HD2.out _ X2.out
      have d3:=HD3.out _ X2.out
      have d4:=HD4.out _ X2.out
      have d5:=HD5.out _ X2.out
      go_wp2
      go_ret
      exact⟨ret_bool (by rw [HI.out];rfl),HX0.out.trans (X2.out.mono HX0.out.size)⟩
     | true=>
      have fp3:t3=0:=of_decide_eq_true hqp3
      subst fp3
      cases p4 with
      | false=>
       go_enter Tryz.func68,Tryz.ntmps68
       go_wp2_with fail
       rw [←hW0]
       refine(HF.out _).mono ?_
       rintro e w1 ⟨rfl,hb1⟩
       have X1:Hid (Below W0.heap.size W0 w1):=Lib.hid (ext_step (Below.refl W0.heap.size W0) (by first|exact e0A|exact e1A|exact e2A|exact e3A|exact e4A|exact e5A) hb1 (Below.refl W0.heap.size W0).size)
       clear hb1
       try clear d0 d1 d2 d3 d4 d5
       have d0:=HD0.out _ X1.out
       have d1:=HD1.out _ X1.out
       have d2:=HD2.out _ X1.out
       have d3:=HD3.out _ X1.out
       have d4:=HD4.out _ X1.out
       have d5:=HD5.out _ X1.out
       go_wp2_with fail
       refine(HS.out _).mono ?_
       rintro e w2 ⟨rfl,hb2⟩
       have X2:Hid (Below W0.heap.size W0 w2):=Lib.hid (ext_step (X1.out) (by first|exact e0A|exact e1A|exact e2A|exact e3A|exact e4A|exact e5A) hb2 (X1.out).size)
       clear hb2
       try clear d0 d1 d2 d3 d4 d5
       have d0:=HD0.out _ X2.out
       have d1:=HD1.out _ X2.out
       have d2:=HD2.out _ X2.out
       have d3:=HD3.out _ X2.out
       have d4:=HD4.out _ X2.out
       have d5:=HD5.out _ X2.out
       go_wp2_with fail
       refine(HA0.out _ (HX0.out.trans (X2.out.mono HX0.out.size))).mono ?_
       rintro e w3 ⟨rfl,hb3⟩
       have X3:Hid (Below W0.heap.size W0 w3):=Lib.hid (ext_step (X2.out) (by first|exact e0A|exact e1A|exact e2A|exact e3A|exact e4A|exact e5A) hb3 (X2.out).size)
       clear hb3
       try clear d0 d1 d2 d3 d4 d5
       have d0:=HD0.out _ X3.out
       have d1:=HD1.out _ X3.out
       have d2:=HD2.out _ X3.out
       have d3:=HD3.out _ X3.out
       have d4:=HD4.out _ X3.out
       have d5:=HD5.out _ X3.out
       go_wp2
       go_ret
       exact⟨ret_bool (by rw [HI.out];rfl),HX0.out.trans (X3.out.mono HX0.out.size)⟩
      | true=>
       go_enter Tryz.func68,Tryz.ntmps68
       go_wp2_with fail
       rw [←hW0]
       refine(HF.out _).mono ?_
       rintro e w1 ⟨rfl,hb1⟩
       have X1:Hid (Below W0.heap.size W0 w1):=Lib.hid (ext_step (Below.refl W0.heap.size W0) (by first|exact e0A|exact e1A|exact e2A|exact e3A|exact e4A|exact e5A) hb1 (Below.refl W0.heap.size W0).size)
       clear hb1
       try clear d0 d1 d2 d3 d4 d5
       have d0:=HD0.out _ X1.out
       have d1:=HD1.out _ X1.out
       have d2:=HD2.out _ X1.out
       have d3:=HD3.out _ X1.out
       have d4:=HD4.out _ X1.out
       have d5:=HD5.out _ X1.out
       go_wp2_with fail
       refine(HS.out _).mono ?_
       rintro e w2 ⟨rfl,hb2⟩
       have X2:Hid (Below W0.heap.size W0 w2):=Lib.hid (ext_step (X1.out) (by first|exact e0A|exact e1A|exact e2A|exact e3A|exact e4A|exact e5A) hb2 (X1.out).size)
       clear hb2
       try clear d0 d1 d2 d3 d4 d5
       have d0:=HD0.out _ X2.out
       have d1:=HD1.out _ X2.out
       have d2:=HD2.out _ X2.out
       have d3:=HD3.out _ X2.out
       have d4:=HD4.out _ X2.out
       have d5:=HD5.out _ X2.out
       go_wp2_with fail
       refine(HA0.out _ (HX0.out.trans (X2.out.mono HX0.out.size))).mono ?_
       rintro e w3 ⟨rfl,hb3⟩
       have X3:Hid (Below W0.heap.size W0 w3):=Lib.hid (ext_step (X2.out) (by first|exact e0A|exact e1A|exact e2A|exact e3A|exact e4A|exact e5A) hb3 (X2.out).size)
       clear hb3
       try clear d0 d1 d2 d3 d4 d5
       have d0:=HD0.out _ X3.out
       have d1:=HD1.out _ X3.out
       have d2:=HD2.out _ X3.out
       have d3:=HD3.out _ X3.out
       have d4:=HD4.out _ X3.out
       have d5:=HD5.out _ X3.out
       go_wp2
       go_ret
       exact⟨ret_bool (by rw [HI.out];rfl),HX0.out.trans (X3.out.mono HX0.out.size)⟩
end Go.Proofs.YtnfokaecobddkaaGreatDoor
end
section
namespace Go.Proofs.YtnfokaecobddkaaGreatDoor
open Go.RowKit
set_option linter.unusedSimpArgs false
set_option linter.unusedVariables false
theorem endN_out {v:List NodeL} {i:Nat} (h:v.length≤i):∀d,endN v d i=none
 | 0=>by rw [endN,List.getElem?_eq_none h]
 | d+1=>by rw [endN,List.getElem?_eq_none h]
theorem endN_not {v:List NodeL} {i:Nat} {n:NodeL} (hn:v[i]? = some n) (h:nodeI n=false):∀d,endN v d i=none
 | 0=>by rw [endN,hn];simp [h]
 | d+1=>by rw [endN,hn];simp [h]
theorem endN_neg {v:List NodeL} {i:Nat} {n:NodeL} (hn:v[i]? = some n) (h:n.many < 0):∀d,endN v d i=none
 | 0=>by
  rw [endN,hn]
  simp only
  rw [if_neg]
  rintro ⟨h1,h2⟩
  have:=node_text h1 h2
  omega
 | d+1=>by
  rw [endN,hn]
  simp only
  rw [if_neg]
  omega
theorem endN_deep {v:List NodeL} {i:Nat} {n:NodeL} (hn:v[i]? = some n) (h:n.kind=1):endN v 0 i=none:=by
 rw [endN,hn]
 simp only
 rw [if_neg]
 omega
theorem endN_kids {v:List NodeL} {i d:Nat} {n:NodeL} (hn:v[i]? = some n) (h:nodeI n=true) (h0:0≤n.many):endN v (d+1) i=endK (endN v d) v n.many.toNat (i+1) false:=by
 rw [endN,hn]
 simp only
 rw [if_pos ⟨h,h0⟩]
theorem endN_words {v:List NodeL} {i:Nat} {n:NodeL} (hn:v[i]? = some n) (h:nodeI n=true) (h2:n.kind=2):∀d,endN v d i=some (i+1)
 | 0=>by rw [endN,hn];simp [h,h2]
 | d+1=>by rw [endN_kids hn h (by rw [node_text h h2];exact Int.le_refl _),node_text h h2];rfl
def NdIn (w:World) (b o:Nat) (n:NodeL) (A:Option Addr) (c:Nat):Prop:=
 ∀W,Below w.heap.size w W→W.cell? ⟨b,o,none⟩=some (.int .u8 n.kind)∧W.cell? ⟨b,o+1,none⟩=some (.string n.space)∧W.cell? ⟨b,o+2,none⟩=some (.string n.name)∧W.cell? ⟨b,o+3,none⟩=some (.slice A n.attrs.length c)∧
  W.cell? ⟨b,o+4,none⟩=some (.string n.text)∧W.cell? ⟨b,o+5,none⟩=some (.int .i64 n.many)∧RdA W W.heap.size A n.attrs
theorem nd_in {w:World} {B b o:Nat} {n:NodeL} (h:NdAt w B b o n) (hb:b < B) (hB:B≤w.heap.size):∃A c,NdIn w b o n A c∧n.attrs.length≤c:=by
 obtain⟨h0,h1,h2,⟨A,c,h3,hl,hA⟩,h4,h5⟩:=h
 have hb':b < w.heap.size:=by omega
 refine⟨A,c,fun W hW=>?_,hl⟩
 exact⟨(hW.cell (p:=⟨b,o,none⟩) hb').trans h0,(hW.cell (p:=⟨b,o+1,none⟩) hb').trans h1,(hW.cell (p:=⟨b,o+2,none⟩) hb').trans h2,(hW.cell (p:=⟨b,o+3,none⟩) hb').trans h3,
  (hW.cell (p:=⟨b,o+4,none⟩) hb').trans h4,(hW.cell (p:=⟨b,o+5,none⟩) hb').trans h5,(hA.below hW hB).more (Nat.le_trans hB hW.size)⟩
theorem szv_get {v:List NodeL} {M:Nat} (h:SzV M v) {k:Nat} {x:NodeL} (hx:v[k]? = some x):SzN M x:=h.2 x (List.mem_of_getElem? hx)
def BehindPost (v:List NodeL) (d i:Nat) (w:World) (e:Ending) (w':World):Prop:=e=.returned (.int .i64 (placeI (endN v d i)))∧Below w.heap.size w w'
theorem BehindPost.no {v:List NodeL} {d i:Nat} {w w':World} (h:endN v d i=none) (hb:Below w.heap.size w w'):BehindPost v d i w (.returned (.int .i64 (-1))) w':=⟨by rw [h];rfl,hb⟩
theorem endK_bad {f:Nat→Option Nat} {v:List NodeL} {k nx:Nat} {t:Bool} (h:f nx=none):endK f v (k+1) nx t=none:=by
 rw [endK]
 split
 ·rfl
 ·split
  ·rfl
  ·rw [h]
theorem endK_two {f:Nat→Option Nat} {v:List NodeL} {k nx:Nat} {m:NodeL} (hm:v[nx]? = some m) (h:m.kind=2):endK f v (k+1) nx true=none:=by
 rw [endK,hm]
 simp [h]
theorem endK_go {f:Nat→Option Nat} {v:List NodeL} {k nx e:Nat} {t:Bool} {m:NodeL} (hm:v[nx]? = some m) (ht:(t && decide (m.kind=2))=false) (h:f nx=some e):endK f v (k+1) nx t=endK f v k e (decide (m.kind=2)):=by
 rw [endK,hm]
 simp only
 rw [if_neg (by rw [ht];simp),h]
end Go.Proofs.YtnfokaecobddkaaGreatDoor
end
section
namespace Go.Proofs.YtnfokaecobddkaaGreatDoor
open Go.RowKit
set_option linter.unusedSimpArgs false
set_option linter.unusedVariables false
def VarE (w:World) (g:Nat) (v:Value):Prop:=∃t,w.heap[g]? = some (.cells #[v] t (0,0))
theorem row_lt {w:World} {g:Nat} {x:Obj} (h:w.heap[g]? = some x):g < w.heap.size:=(Array.getElem?_eq_some_iff.1 h).1
theorem VarE.cell {w:World} {g:Nat} {v:Value} (h:VarE w g v):w.cell? ⟨g,0,none⟩=some v:=by
 obtain⟨t,h⟩:=h
 simp [World.cell?,h]
theorem VarE.ext {w w':World} {g:Nat} {v:Value} (h:VarE w g v) (hx:Below w.heap.size w w'):VarE w' g v:=by
 obtain⟨t,h⟩:=h
 exact⟨t,(hx.block g (row_lt h)).trans h⟩
theorem VarE.other {w:World} {g g' o:Nat} {v:Value} (h:VarE w g v) (hne:g≠g') (u:Value):VarE (w.setCell ⟨g',o,none⟩ u) g v:=by
 obtain⟨t,h⟩:=h
 exact⟨t,(heap_setCell_other w _ g _ hne).trans h⟩
def RowI (w:World) (g:Nat) (es:List Int):Prop:=∃t,w.heap[g]? = some (.cells (ints .i64 es).toArray t (0,0))
theorem RowI.cell {w:World} {g i:Nat} {es:List Int} {x:Int} (h:RowI w g es) (hx:es[i]? = some x):w.cell? ⟨g,i,none⟩=some (.int .i64 x):=by
 obtain⟨t,h⟩:=h
 simp [World.cell?,h,ints,hx]
theorem RowI.frozen {w:World} {g:Nat} {es:List Int} (h:RowI w g es) (i:Nat):w.frozen? ⟨g,i,none⟩=false:=by
 obtain⟨t,h⟩:=h
 exact frozen_of_row w g i _ _ h
theorem RowI.ext {w w':World} {g:Nat} {es:List Int} (h:RowI w g es) (hx:Below w.heap.size w w'):RowI w' g es:=by
 obtain⟨t,h⟩:=h
 exact⟨t,(hx.block g (row_lt h)).trans h⟩
theorem RowI.set {w:World} {g i:Nat} {es:List Int} (h:RowI w g es) (y:Int):RowI (w.setCell ⟨g,i,none⟩ (.int .i64 y)) g (es.set i y):=by
 obtain⟨t,h⟩:=h
 refine⟨t,?_⟩
 rw [heap_setCell_same w g i _ t _ h]
 simp [ints,List.map_set]
structure Cl (w0:World) (Bv Bw Be G N c:Nat) (A:Option Addr) (W:World):Prop where
 low:Below w0.heap.size w0 W
 cv:VarE W Bv (.slice A N c)
 cw:VarE W Bw (.func (.func 118) #[] #[.pointer (some ⟨Bv,0,none⟩),.pointer (some ⟨Bw,0,none⟩),.pointer (some ⟨Be,0,none⟩)])
 ce:VarE W Be (.slice (some ⟨G,0,none⟩) N N)
 h0:w0.heap.size≤G
 h1:Bv≠G
 h2:Bw≠G
 h3:Be≠G
theorem Cl.ext {w0:World} {Bv Bw Be G N c:Nat} {A:Option Addr} {W W':World} (h:Cl w0 Bv Bw Be G N c A W) (hx:Below W.heap.size W W'):Cl w0 Bv Bw Be G N c A W':=
 ⟨h.low.trans (hx.mono h.low.size),h.cv.ext hx,h.cw.ext hx,h.ce.ext hx,h.h0,h.h1,h.h2,h.h3⟩
theorem Cl.set {w0:World} {Bv Bw Be G N c o:Nat} {A:Option Addr} {W:World} (h:Cl w0 Bv Bw Be G N c A W) (u:Value):Cl w0 Bv Bw Be G N c A (W.setCell ⟨G,o,none⟩ u):=
 ⟨h.low.setCell (p:=⟨G,o,none⟩) h.h0 u,h.cv.other h.h1 u,h.cw.other h.h2 u,h.ce.other h.h3 u,h.h0,h.h1,h.h2,h.h3⟩
def Filled (v:List NodeL) (es:List Int) (lo hi:Nat):Prop:=∀k:Nat,lo≤k→k < hi→∃x:Nat,es[k]? = some (x:Int)∧endN v 12 k=some x
def EndPost (v:List NodeL) (w0:World) (Bv Bw Be G N c:Nat) (A:Option Addr) (es:List Int) (d i:Nat) (e:Ending) (w':World):Prop:=
 e=.returned (.int .i64 (placeI (endN v d i)))∧Cl w0 Bv Bw Be G N c A w'∧∃es',RowI w' G es'∧es'.length=N∧(∀k:Nat,k < i→es'[k]? = es[k]?)∧∀e,endN v d i=some e→Filled v es' i e
theorem EndPost.no {v:List NodeL} {w0:World} {Bv Bw Be G N c:Nat} {A:Option Addr} {es es':List Int} {d i:Nat} {w':World} (h:endN v d i=none) (hc:Cl w0 Bv Bw Be G N c A w') (hr:RowI w' G es') (hl:es'.length=N) (hp:∀k:Nat,k < i→es'[k]? = es[k]?) :
  EndPost v w0 Bv Bw Be G N c A es d i (.returned (.int .i64 (-1))) w':=⟨by rw [h];rfl,hc,es',hr,hl,hp,by rw [h];intro e he;cases he⟩
theorem Filled.put {v:List NodeL} {es:List Int} {i e:Nat} (h:Filled v es (i+1) e) (hi:i < es.length) (he:endN v 12 i=some e):Filled v (es.set i (e:Int)) i e:=fun k h1 h2=>by
 rcases Nat.eq_or_lt_of_le h1 with rfl|h1
 ·exact⟨e,by rw [List.getElem?_set_self hi],he⟩
 ·obtain⟨x,h3,h4⟩:=h k h1 h2
  exact⟨x,by rw [List.getElem?_set_ne (by omega)];exact h3,h4⟩
theorem set_ahead {es:List Int} {i k:Nat} {y:Int} (h:k < i):(es.set i y)[k]? = es[k]?:=List.getElem?_set_ne (by omega)
set_option maxHeartbeats 4000000 in
set_option maxRecDepth 10000 in
theorem behind1_bad (v:List NodeL) (A:Option Addr) (c:Nat) (hc:v.length≤c) (hz:SzV 1000000000 v) (w0:World) (Bv Bw Be G:Nat) (hr:RdV w0 w0.heap.size A v) (d:Nat) (D:Int) (i:Nat) (w:World) (es:List Int) (hcl:Cl w0 Bv Bw Be G v.length c A w) (hrow:RowI w G es) (hel:es.length=v.length) (hi:i≤v.length) (hbad:i=v.length∨∃n,v[i]? = some n∧(nodeI n=false∨n.many < 0)) :
  Calls Tryz.prog 118 #[.int .i64 (i:Int),.int .i64 D,.pointer (some ⟨Bv,0,none⟩),.pointer (some ⟨Bw,0,none⟩),.pointer (some ⟨Be,0,none⟩)] w (EndPost v w0 Bv Bw Be G v.length c A es d i):=by
 have HZ:=Lib.hid hz
 have HR:=Lib.hid hr
 have hlen:=hz.1
 have HCL:=Lib.hid hcl
 have HROW:=Lib.hid hrow
 have HEL:=Lib.hid hel
 have cv:=hcl.cv.cell
 have HLOW:=Lib.hid hcl.low
 clear hz hr hcl hrow hel
 have HBAD:=Lib.hid hbad
 clear hbad
 by_cases hlt:i < v.length
 ·obtain⟨n,hn⟩:∃n,v[i]? = some n:=⟨_,List.getElem?_eq_getElem hlt⟩
  have HN:=Lib.hid hn
  obtain⟨b,off,rfl,hb,hcc⟩:=HR.out (by omega)
  obtain⟨A',c',hND,hac⟩:=nd_in (hcc i n hn) hb (Nat.le_refl _)
  have hzn:=szv_get HZ.out hn
  have HM:=Lib.hid (fun W (hW:Below w0.heap.size w0 W)=>may_node n A' c' W (hND W hW).2.2.2.2.2.2 hac hzn)
  have HD0:=Lib.hid (fun W hW=>(hND W hW).1)
  have HD5:=Lib.hid (fun W hW=>(hND W hW).2.2.2.2.2.1)
  obtain⟨e0,e1,e2,e3,e4,e5,-⟩:=hND w HLOW.out
  have hmr:=hzn.2.2.2.2.2
  have HCC:=Lib.hid hcc
  have hge:¬v.length≤i:=by omega
  have hdl:decide (v.length≤i)=false:=decide_eq_false hge
  have hi0:¬(i:Int) < 0:=by omega
  clear hn hcc hND hzn
  unfold encN at HM
  cases hnd:nodeI n with
  | false=>
   have HE:Hid (endN v d i=none):=endN_not HN.out hnd _
   rw [hnd] at HM
   clear HBAD
   go_enter Tryz.func118,Tryz.ntmps118
   go_wp2_with fail
   refine(HM.out _ HLOW.out).mono ?_
   rintro e w1 ⟨rfl,hb1⟩
   have HCL1:=Lib.hid (HCL.out.ext hb1)
   have HROW1:=Lib.hid (HROW.out.ext hb1)
   clear hb1 cv e0 e1 e2 e3 e4 e5
   have cv:=HCL1.out.cv.cell
   have d0:=HD0.out _ HCL1.out.low
   have d5:=HD5.out _ HCL1.out.low
   go_wp2
   go_ret
   exact EndPost.no HE.out HCL1.out HROW1.out HEL.out (fun k hk=>rfl)
  | true=>
   rw [hnd] at HM
   have hneg:n.many < 0:=by
    rcases HBAD.out with h|⟨n',h1,h⟩
    ·omega
    ·rw [HN.out] at h1
     simp only [Option.some.injEq] at h1
     subst h1
     rcases h with h|h
     ·rw [hnd] at h;cases h
     ·exact h
   have HE:Hid (endN v d i=none):=endN_neg HN.out hneg _
   clear HBAD
   go_enter Tryz.func118,Tryz.ntmps118
   go_wp2_with fail
   refine(HM.out _ HLOW.out).mono ?_
   rintro e w1 ⟨rfl,hb1⟩
   have HCL1:=Lib.hid (HCL.out.ext hb1)
   have HROW1:=Lib.hid (HROW.out.ext hb1)
   clear hb1 cv e0 e1 e2 e3 e4 e5
   have cv:=HCL1.out.cv.cell
   have d0:=HD0.out _ HCL1.out.low
   have d5:=HD5.out _ HCL1.out.low
   go_wp2
   go_ret
   exact EndPost.no HE.out HCL1.out HROW1.out HEL.out (fun k hk=>rfl)
 ·have HE:Hid (endN v d i=none):=endN_out (by omega) _
  obtain rfl:i=v.length:=by omega
  clear HBAD
  go_enter Tryz.func118,Tryz.ntmps118
  go_wp2
  go_ret
  exact EndPost.no HE.out HCL.out HROW.out HEL.out (fun k hk=>rfl)
set_option maxHeartbeats 4000000 in
set_option maxRecDepth 10000 in
theorem behind1_deep (v:List NodeL) (A:Option Addr) (c:Nat) (hc:v.length≤c) (hz:SzV 1000000000 v) (w0:World) (Bv Bw Be G:Nat) (hr:RdV w0 w0.heap.size A v) (D:Int) (i:Nat) (w:World) (es:List Int) (hcl:Cl w0 Bv Bw Be G v.length c A w) (hrow:RowI w G es) (hel:es.length=v.length) (hD:D=0) (n:NodeL) (hn:v[i]? = some n) (hnd:nodeI n=true) (h0:0≤n.many) (hk:n.kind=1) :
  Calls Tryz.prog 118 #[.int .i64 (i:Int),.int .i64 D,.pointer (some ⟨Bv,0,none⟩),.pointer (some ⟨Bw,0,none⟩),.pointer (some ⟨Be,0,none⟩)] w (EndPost v w0 Bv Bw Be G v.length c A es 0 i):=by
 have HZ:=Lib.hid hz
 have HR:=Lib.hid hr
 have hlen:=hz.1
 have HCL:=Lib.hid hcl
 have HROW:=Lib.hid hrow
 have HEL:=Lib.hid hel
 have cv:=hcl.cv.cell
 have HLOW:=Lib.hid hcl.low
 clear hz hr hcl hrow hel
 have hlt:i < v.length:=(List.getElem?_eq_some_iff.1 hn).1
 have HN:=Lib.hid hn
 obtain⟨b,off,rfl,hb,hcc⟩:=HR.out (by omega)
 obtain⟨A',c',hND,hac⟩:=nd_in (hcc i n hn) hb (Nat.le_refl _)
 have hzn:=szv_get HZ.out hn
 have HM:=Lib.hid (fun W (hW:Below w0.heap.size w0 W)=>may_node n A' c' W (hND W hW).2.2.2.2.2.2 hac hzn)
 have HD0:=Lib.hid (fun W hW=>(hND W hW).1)
 have HD5:=Lib.hid (fun W hW=>(hND W hW).2.2.2.2.2.1)
 obtain⟨e0,e1,e2,e3,e4,e5,-⟩:=hND w HLOW.out
 have hmr:=hzn.2.2.2.2.2
 have HCC:=Lib.hid hcc
 have hge:¬v.length≤i:=by omega
 have hdl:decide (v.length≤i)=false:=decide_eq_false hge
 have hi0:¬(i:Int) < 0:=by omega
 clear hn hcc hND hzn
 unfold encN at HM
 rw [hnd] at HM
 have hneg:¬n.many < 0:=by omega
 have HE:Hid (endN v 0 i=none):=endN_deep HN.out hk
 subst hD
 rw [hk] at HD0 HM e0
 clear hmr h0
 go_enter Tryz.func118,Tryz.ntmps118
 go_wp2_with fail
 refine(HM.out _ HLOW.out).mono ?_
 rintro e w1 ⟨rfl,hb1⟩
 have HCL1:=Lib.hid (HCL.out.ext hb1)
 have HROW1:=Lib.hid (HROW.out.ext hb1)
 clear hb1 cv e0 e1 e2 e3 e4 e5
 have cv:=HCL1.out.cv.cell
 have d0:=HD0.out _ HCL1.out.low
 have d5:=HD5.out _ HCL1.out.low
 go_wp2
 go_ret
 exact EndPost.no HE.out HCL1.out HROW1.out HEL.out (fun k hk=>rfl)
set_option maxHeartbeats 4000000 in
set_option maxRecDepth 10000 in
theorem behind1_words (v:List NodeL) (A:Option Addr) (c:Nat) (hc:v.length≤c) (hz:SzV 1000000000 v) (w0:World) (Bv Bw Be G:Nat) (hr:RdV w0 w0.heap.size A v) (d:Nat) (hd:d≤12) (D:Int) (i:Nat) (w:World) (es:List Int) (hcl:Cl w0 Bv Bw Be G v.length c A w) (hrow:RowI w G es) (hel:es.length=v.length) (n:NodeL) (hn:v[i]? = some n) (hnd:nodeI n=true) (hk:n.kind=2) :
  Calls Tryz.prog 118 #[.int .i64 (i:Int),.int .i64 D,.pointer (some ⟨Bv,0,none⟩),.pointer (some ⟨Bw,0,none⟩),.pointer (some ⟨Be,0,none⟩)] w (EndPost v w0 Bv Bw Be G v.length c A es d i):=by
 have HZ:=Lib.hid hz
 have HR:=Lib.hid hr
 have hlen:=hz.1
 have HCL:=Lib.hid hcl
 have HROW:=Lib.hid hrow
 have HEL:=Lib.hid hel
 have cv:=hcl.cv.cell
 have HLOW:=Lib.hid hcl.low
 clear hz hr hcl hrow hel
 have hlt:i < v.length:=(List.getElem?_eq_some_iff.1 hn).1
 have HN:=Lib.hid hn
 obtain⟨b,off,rfl,hb,hcc⟩:=HR.out (by omega)
 obtain⟨A',c',hND,hac⟩:=nd_in (hcc i n hn) hb (Nat.le_refl _)
 have hzn:=szv_get HZ.out hn
 have HM:=Lib.hid (fun W (hW:Below w0.heap.size w0 W)=>may_node n A' c' W (hND W hW).2.2.2.2.2.2 hac hzn)
 have HD0:=Lib.hid (fun W hW=>(hND W hW).1)
 have HD5:=Lib.hid (fun W hW=>(hND W hW).2.2.2.2.2.1)
 obtain⟨e0,e1,e2,e3,e4,e5,-⟩:=hND w HLOW.out
 have hmr:=hzn.2.2.2.2.2
 have HCC:=Lib.hid hcc
 have hge:¬v.length≤i:=by omega
 have hdl:decide (v.length≤i)=false:=decide_eq_false hge
 have hi0:¬(i:Int) < 0:=by omega
 clear hn hcc hND hzn
 unfold encN at HM
 rw [hnd] at HM
 have HE:Hid (endN v d i=some (i+1)):=endN_words HN.out hnd hk d
 have hm0:=node_text hnd hk
 rw [hk] at HD0 HM e0
 rw [hm0] at HD5 HM e5
 clear hmr
 go_enter Tryz.func118,Tryz.ntmps118
 go_wp2_with fail
 refine(HM.out _ HLOW.out).mono ?_
 rintro e w1 ⟨rfl,hb1⟩
 have HCL1:=Lib.hid (HCL.out.ext hb1)
 have HROW1:=Lib.hid (HROW.out.ext hb1)
 clear hb1 cv e0 e1 e2 e3 e4 e5
 have cv:=HCL1.out.cv.cell
 have d0:=HD0.out _ HCL1.out.low
 have d5:=HD5.out _ HCL1.out.low
 have hsz:=HCL1.out.low.size
 go_wp2
 go_loopw [8,9,53] (fun s8 _ s53 wr=>s8=.int .i64 ((i:Int)+1)∧s53=.int .i64 0∧Hid (Cl w0 Bv Bw Be G v.length c (some ⟨b,off,none⟩) wr)∧Hid (RowI wr G es)) (fun _ _ _ _=>0)
 case atStart=>exact⟨by go_num,rfl,HCL1,HROW1⟩
 case round=>
  obtain⟨rfl,rfl,HC,HRW⟩:=hrel
  have hlr:∃q,es[i]? = some q:=⟨_,List.getElem?_eq_getElem (by rw [HEL.out];omega)⟩
  obtain⟨q,hq⟩:=hlr
  have cg:=HRW.out.cell hq
  have fg:=HRW.out.frozen i
  have ce:=HC.out.ce.cell
  have HDONE:=Lib.hid (HC.out.set (o:=i) (.int .i64 ((i+1:Nat):Int)))
  have HDROW:=Lib.hid (HRW.out.set (i:=i) ((i+1:Nat):Int))
  go_wp2
  go_ret
  exact⟨by rw [HE.out];rfl,HDONE.out,_,HDROW.out,by rw [List.length_set];exact HEL.out,fun k hk=>(set_ahead hk).trans ((fun k hk=>rfl) k hk),fun e he=>by
   rw [HE.out] at he
   simp only [Option.some.injEq] at he
   subst he
   exact Filled.put (fun k h1 h2=>absurd h1 (by omega)) (by rw [HEL.out];exact hlt) (endN_more v hd HE.out)⟩
set_option maxHeartbeats 16000000 in
set_option maxRecDepth 10000 in
theorem behind1_elem (v:List NodeL) (A:Option Addr) (c:Nat) (hc:v.length≤c) (hz:SzV 1000000000 v) (w0:World) (Bv Bw Be G:Nat) (hr:RdV w0 w0.heap.size A v) (d:Nat) (ih:∀(D:Int) (i:Nat) (w:World) (es:List Int),D=d→i≤v.length→Cl w0 Bv Bw Be G v.length c A w→RowI w G es→es.length=v.length→Calls Tryz.prog 118 #[.int .i64 (i:Int),.int .i64 D,.pointer (some ⟨Bv,0,none⟩),.pointer (some ⟨Bw,0,none⟩),.pointer (some ⟨Be,0,none⟩)] w (EndPost v w0 Bv Bw Be G v.length c A es d i))
  (D:Int) (i:Nat) (w:World) (es:List Int) (hcl:Cl w0 Bv Bw Be G v.length c A w) (hrow:RowI w G es) (hel:es.length=v.length) (hD:D=(d+1:Nat)) (hd:d+1≤12) (n:NodeL) (hn:v[i]? = some n) (hnd:nodeI n=true) (h0:0≤n.many) (hk:n.kind=1) :
  Calls Tryz.prog 118 #[.int .i64 (i:Int),.int .i64 D,.pointer (some ⟨Bv,0,none⟩),.pointer (some ⟨Bw,0,none⟩),.pointer (some ⟨Be,0,none⟩)] w (EndPost v w0 Bv Bw Be G v.length c A es (d+1) i):=by
 have HIH:=Lib.hid ih
 clear ih
 have HZ:=Lib.hid hz
 have HR:=Lib.hid hr
 have hlen:=hz.1
 have HCL:=Lib.hid hcl
 have HROW:=Lib.hid hrow
 have HEL:=Lib.hid hel
 have cv:=hcl.cv.cell
 have HLOW:=Lib.hid hcl.low
 clear hz hr hcl hrow hel
 have hlt:i < v.length:=(List.getElem?_eq_some_iff.1 hn).1
 have HN:=Lib.hid hn
 obtain⟨b,off,rfl,hb,hcc⟩:=HR.out (by omega)
 obtain⟨A',c',hND,hac⟩:=nd_in (hcc i n hn) hb (Nat.le_refl _)
 have hzn:=szv_get HZ.out hn
 have HM:=Lib.hid (fun W (hW:Below w0.heap.size w0 W)=>may_node n A' c' W (hND W hW).2.2.2.2.2.2 hac hzn)
 have HD0:=Lib.hid (fun W hW=>(hND W hW).1)
 have HD5:=Lib.hid (fun W hW=>(hND W hW).2.2.2.2.2.1)
 obtain⟨e0,e1,e2,e3,e4,e5,-⟩:=hND w HLOW.out
 have hmr:=hzn.2.2.2.2.2
 have HCC:=Lib.hid hcc
 have hge:¬v.length≤i:=by omega
 have hdl:decide (v.length≤i)=false:=decide_eq_false hge
 have hi0:¬(i:Int) < 0:=by omega
 clear hn hcc hND hzn
 unfold encN at HM
 rw [hnd] at HM
 have HE:Hid (endN v (d+1) i=endK (endN v d) v n.many.toNat (i+1) false):=endN_kids HN.out hnd (by omega)
 obtain⟨m,hm⟩:∃m:Nat,n.many=(m:Int):=⟨n.many.toNat,by omega⟩
 have hml:m≤9223372036854775807:=by omega
 rw [hm] at HD5 HE HM e5
 rw [show((m:Int)).toNat=m by omega] at HE
 rw [hk] at HD0 HM e0
 have hD0:(D == 0)=false:=by rw [beq_eq_false_iff_ne];omega
 have hmn:¬(m:Int) < 0:=by omega
 have hDb:1≤D:=by omega
 have hDc:D≤12:=by omega
 have HD:=Lib.hid hD
 clear hmr h0 hD
 go_enter Tryz.func118,Tryz.ntmps118
 go_wp2_with fail
 refine(HM.out _ HLOW.out).mono ?_
 rintro e w1 ⟨rfl,hb1⟩
 have HCL1:=Lib.hid (HCL.out.ext hb1)
 have HROW1:=Lib.hid (HROW.out.ext hb1)
 clear hb1 cv e0 e1 e2 e3 e4 e5
 have cv:=HCL1.out.cv.cell
 have d0:=HD0.out _ HCL1.out.low
 have d5:=HD5.out _ HCL1.out.low
 go_wp2
 go_loopw [8,9,53] (fun s8 s9 s53 wr=>∃(j:Nat) (es':List Int),j≤m∧s53=.int .i64 j∧Hid (Cl w0 Bv Bw Be G v.length c (some ⟨b,off,none⟩) wr)∧Hid (RowI wr G es')∧Hid (es'.length=v.length)∧Hid (∀k:Nat,k < i+1→es'[k]? = es[k]?)∧
   ((s8=.int .i64 (-1)∧Hid (endN v (d+1) i=none))∨∃(nx:Nat) (t:Bool),nx≤v.length∧i+1≤nx∧s8=.int .i64 nx∧s9=.int .u8 (if t then 2 else 1)∧Hid (Filled v es' (i+1) nx)∧Hid (endN v (d+1) i=endK (endN v d) v (m - j) nx t))) (fun _ _ s53 _=>m - (intOf s53).toNat)
 case atStart=>exact⟨0,es,by omega,rfl,HCL1,HROW1,HEL,Lib.hid (fun k hk=>rfl),.inr ⟨i+1,false,by omega,by omega,by go_num,rfl,Lib.hid (fun k h1 h2=>absurd h1 (by omega)),HE⟩⟩
 case round=>
  obtain⟨j,es',hj,rfl,HC,HRW,HLN,HPR,hst⟩:=hrel
  clear cv d0 d5
  have cv:=HC.out.cv.cell
  have cw:=HC.out.cw.cell
  have HPR2:Hid (∀k:Nat,k < i→es'[k]? = es[k]?):=Lib.hid (fun k hk=>HPR.out k (by omega))
  rcases hst with ⟨rfl,HE2⟩|⟨nx,t,hnx,hnx1,rfl,rfl,HFI,HK⟩
  ·by_cases hjm:j < m
   ·go_wp2
    go_ret
    exact EndPost.no HE2.out HC.out HRW.out HLN.out HPR2.out
   ·obtain rfl:j=m:=by omega
    go_wp2
    go_ret
    exact EndPost.no HE2.out HC.out HRW.out HLN.out HPR2.out
  ·have hnx0:¬(nx:Int) < 0:=by omega
   by_cases hjm:j < m
   ·have hmj:m - j=(m - (j+1))+1:=by omega
    rw [hmj] at HK
    clear hmj
    by_cases hnl:nx < v.length
    ·obtain⟨x,hx⟩:∃x,v[nx]? = some x:=⟨_,List.getElem?_eq_getElem hnl⟩
     have HX:=Lib.hid hx
     have hgx:¬v.length≤nx:=by omega
     have hdx:decide (v.length≤nx)=false:=decide_eq_false hgx
     have HDK:Hid (∀W,Below w0.heap.size w0 W→W.cell? ⟨b,off+nx*6,none⟩=some (.int .u8 x.kind)):=Lib.hid (fun W hW=>(hW.cell (p:=⟨b,off+nx*6,none⟩) hb).trans (HCC.out nx x hx).1)
     have HCALL:=Lib.hid (HIH.out (D - 1) nx wr es' (by have:=HD.out;omega) hnx HC.out HRW.out HLN.out)
     clear hx
     by_cases htwo:t=true∧x.kind=2
     ·obtain⟨rfl,hk2⟩:=htwo
      rw [hk2] at HDK
      have dk:=HDK.out _ HC.out.low
      have HE2:Hid (endN v (d+1) i=none):=Lib.hid (by rw [HK.out];exact endK_two HX.out hk2)
      rw [if_pos rfl]
      go_wp2
      go_ret
      exact EndPost.no HE2.out HC.out HRW.out HLN.out HPR2.out
     ·have HTW:Hid ((t && decide (x.kind=2))=false):=by
       show _=_
       cases t <;> simp_all
      have dk:=HDK.out _ HC.out.low
      have hsame:t=true→(x.kind == 2)=false:=fun h=>by
       rw [beq_eq_false_iff_ne]
       exact fun h2=>htwo ⟨h,h2⟩
      clear htwo
      cases hf:endN v d nx with
      | none=>
       have HE2:Hid (endN v (d+1) i=none):=Lib.hid (by rw [HK.out];exact endK_bad hf)
       unfold EndPost at HCALL
       rw [hf] at HCALL
       unfold placeI at HCALL
       cases t
       all_goals
        try (rw [if_pos rfl];have hs2:=hsame rfl)
        try rw [if_neg (by decide)]
        clear hsame
        go_wp2_with fail
        refine HCALL.out.mono ?_
        rintro e2 w2 ⟨rfl,hC2,es2,hR2,hL2,hP2,-⟩
        have HC2:=Lib.hid hC2
        have HR2:=Lib.hid hR2
        have HL2:=Lib.hid hL2
        have HP2:Hid (∀k:Nat,k < i+1→es2[k]? = es[k]?):=Lib.hid (fun k hk=>(hP2 k (by omega)).trans (HPR.out k hk))
        clear hC2 hR2 hL2 hP2
        go_wp2
        go_roundw
        case rel=>exact⟨j+1,es2,by omega,by go_num,HC2,HR2,HL2,HP2,.inl ⟨rfl,HE2⟩⟩
        case measure=>simp [intOf];omega
      | some e=>
       obtain⟨hel1,hel2⟩:=endN_le v d nx e hf
       have HF:=Lib.hid hf
       have hne:¬(e:Int) < 0:=by omega
       have HE2:Hid (endN v (d+1) i=endK (endN v d) v (m - (j+1)) e (decide (x.kind=2))):=Lib.hid (by rw [HK.out,endK_go HX.out HTW.out HF.out])
       have HKX:Hid ((Value.int .u8 x.kind)=.int .u8 (if decide (x.kind=2) then 2 else 1)):=by
        show _=_
        have h1:nodeI x=true:=by
         cases hni:nodeI x with
         | true=>rfl
         | false=>rw [endN_not HX.out hni] at hf;cases hf
        rcases node_kind h1 with h2|h2 <;> rw [h2] <;> rfl
       unfold EndPost at HCALL
       rw [hf] at HCALL
       unfold placeI at HCALL
       clear hf
       cases t
       all_goals
        try (rw [if_pos rfl];have hs2:=hsame rfl)
        try rw [if_neg (by decide)]
        clear hsame
        go_wp2_with fail
        refine HCALL.out.mono ?_
        rintro e2 w2 ⟨rfl,hC2,es2,hR2,hL2,hP2,hF2⟩
        have HC2:=Lib.hid hC2
        have HR2:=Lib.hid hR2
        have HL2:=Lib.hid hL2
        have HP2:Hid (∀k:Nat,k < i+1→es2[k]? = es[k]?):=Lib.hid (fun k hk=>(hP2 k (by omega)).trans (HPR.out k hk))
        have HF2:Hid (Filled v es2 (i+1) e):=Lib.hid (fun k h1 h2=>by
         rcases Nat.lt_or_ge k nx with h3|h3
         ·rw [hP2 k h3];exact HFI.out k h1 h3
         ·exact hF2 e rfl k h3 h2)
        clear hC2 hR2 hL2 hP2 hF2
        go_wp2
        go_roundw
        case rel=>exact⟨j+1,es2,by omega,by go_num,HC2,HR2,HL2,HP2,.inr ⟨e,decide (x.kind=2),hel2,by omega,rfl,HKX.out,HF2,HE2⟩⟩
        case measure=>simp [intOf];omega
    ·have HE2:Hid (endN v (d+1) i=none):=Lib.hid (by rw [HK.out];exact endK_bad (endN_out (by omega) _))
     obtain rfl:nx=v.length:=by omega
     cases t
     all_goals
      try rw [if_pos rfl]
      try rw [if_neg (by decide)]
      go_wp2
      go_ret
      exact EndPost.no HE2.out HC.out HRW.out HLN.out HPR2.out
   ·obtain rfl:j=m:=by omega
    have HE:Hid (endN v (d+1) i=some nx):=Lib.hid (by rw [HK.out,Nat.sub_self];rfl)
    have hlr:∃q,es'[i]? = some q:=⟨_,List.getElem?_eq_getElem (by rw [HLN.out];omega)⟩
    obtain⟨q,hq⟩:=hlr
    have cg:=HRW.out.cell hq
    have fg:=HRW.out.frozen i
    have ce:=HC.out.ce.cell
    have HDONE:=Lib.hid (HC.out.set (o:=i) (.int .i64 (nx:Int)))
    have HDROW:=Lib.hid (HRW.out.set (i:=i) (nx:Int))
    cases t
    all_goals
     try rw [if_pos rfl]
     try rw [if_neg (by decide)]
     go_wp2
     go_ret
     exact⟨by rw [HE.out];rfl,HDONE.out,_,HDROW.out,by rw [List.length_set];exact HLN.out,fun k hk=>(set_ahead hk).trans (HPR2.out k hk),fun e he=>by
      rw [HE.out] at he
      simp only [Option.some.injEq] at he
      subst he
      exact Filled.put HFI.out (by rw [HLN.out];exact hlt) (endN_more v hd HE.out)⟩
theorem behind1_any (v:List NodeL) (A:Option Addr) (c:Nat) (hc:v.length≤c) (hz:SzV 1000000000 v) (w0:World) (Bv Bw Be G:Nat) (hr:RdV w0 w0.heap.size A v):∀(d:Nat) (D:Int) (i:Nat) (w:World) (es:List Int),d≤12→D=d→i≤v.length→Cl w0 Bv Bw Be G v.length c A w→RowI w G es→es.length=v.length→
  Calls Tryz.prog 118 #[.int .i64 (i:Int),.int .i64 D,.pointer (some ⟨Bv,0,none⟩),.pointer (some ⟨Bw,0,none⟩),.pointer (some ⟨Be,0,none⟩)] w (EndPost v w0 Bv Bw Be G v.length c A es d i):=by
 have key:∀i:Nat,i≤v.length→(i=v.length∨∃n,v[i]? = some n∧(nodeI n=false∨n.many < 0))∨(∃n,v[i]? = some n∧nodeI n=true∧0≤n.many):=by
  intro i hi
  by_cases h:i=v.length
  ·exact .inl (.inl h)
  ·have hn:v[i]? = some (v[i]'(by omega)):=List.getElem?_eq_getElem (by omega)
   generalize v[i]'(by omega)=n at hn
   cases hnd:nodeI n with
   | false=>exact .inl (.inr ⟨n,hn,.inl hnd⟩)
   | true=>
    by_cases h1:n.many < 0
    ·exact .inl (.inr ⟨n,hn,.inr h1⟩)
    ·exact .inr ⟨n,hn,hnd,by omega⟩
 intro d
 induction d with
 | zero=>
  intro D i w es hd hD hi hcl hrow hel
  rcases key i hi with h|⟨n,hn,hnd,h0⟩
  ·exact behind1_bad v A c hc hz w0 Bv Bw Be G hr 0 D i w es hcl hrow hel hi h
  ·rcases node_kind hnd with hk|hk
   ·exact behind1_deep v A c hc hz w0 Bv Bw Be G hr D i w es hcl hrow hel hD n hn hnd h0 hk
   ·exact behind1_words v A c hc hz w0 Bv Bw Be G hr 0 hd D i w es hcl hrow hel n hn hnd hk
 | succ d ih=>
  intro D i w es hd hD hi hcl hrow hel
  rcases key i hi with h|⟨n,hn,hnd,h0⟩
  ·exact behind1_bad v A c hc hz w0 Bv Bw Be G hr (d+1) D i w es hcl hrow hel hi h
  ·rcases node_kind hnd with hk|hk
   ·exact behind1_elem v A c hc hz w0 Bv Bw Be G hr d (fun D i w es h1 h2 h3 h4 h5=>ih D i w es (by omega) h1 h2 h3 h4 h5) D i w es hcl hrow hel hD hd n hn hnd h0 hk
   ·exact behind1_words v A c hc hz w0 Bv Bw Be G hr (d+1) hd D i w es hcl hrow hel n hn hnd hk
end Go.Proofs.YtnfokaecobddkaaGreatDoor
end
