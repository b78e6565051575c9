/- Part 30 of a proof laid in parts, one behind the other; no condition of its own. -/
import Derived.Test.YtnmnpnofdgdigaaGreatDoorZ20
import Derived.Test.YtnmnpnofdgdigaaGreatDoorZ29
import Derived.Test.YtnmnpnofdgdigaaGreatDoorZ07
import Derived.Test.YtnmnpnofdgdigaaGreatDoorZ24
import Derived.Test.YtnmnpnofdgdigaaGreatDoorZ15
import Derived.Laws.StructEq
set_option linter.all false
section
namespace Go.Proofs.YtnmnpnofdgdigaaGreatDoor
open Go.RowKit
set_option linter.unusedSimpArgs false
set_option linter.unusedVariables false
def prioV (s:StL):List NodeL:=firstV (⟨#[106,97,98,98,101,114,58,99,108,105,101,110,116]⟩:ByteArray) (⟨#[112,114,105,111,114,105,116,121]⟩:ByteArray) s.load
def prioB (s:StL):Bool:=firstB (⟨#[106,97,98,98,101,114,58,99,108,105,101,110,116]⟩:ByteArray) (⟨#[112,114,105,111,114,105,116,121]⟩:ByteArray) s.load
def lvV (s:StL):Int:=if prioB s then levV (saidI (prioV s)) else 0
def lvB (s:StL):Bool:=!prioB s || levOK (saidI (prioV s))
def prV (s:StL):Int:=if stnI s && decide (s.kind=2) && lvB s then lvV s else 0
def prE (s:StL):Int:=if stnI s then(if s.kind=2 then(if lvB s then 0 else 220) else 2) else 8
def PrioPost (s:StL) (w:World) (e:Ending) (w':World):Prop:=e=.returned (.tuple #[.int .i64 (prV s),.int .i64 (prE s)])∧Below w.heap.size w w'
theorem PrioPost.bad {s:StL} {w w':World} (h:stnI s=false) (hb:Below w.heap.size w w'):PrioPost s w (.returned (.tuple #[.int .i64 0,.int .i64 8])) w':=by
 unfold PrioPost prV prE
 rw [h]
 exact⟨rfl,hb⟩
theorem PrioPost.kind {s:StL} {w w':World} (h:stnI s=true) (hk:¬s.kind=2) (hb:Below w.heap.size w w'):PrioPost s w (.returned (.tuple #[.int .i64 0,.int .i64 2])) w':=by
 unfold PrioPost prV prE
 rw [h,decide_eq_false hk,if_pos rfl,if_neg hk]
 exact⟨rfl,hb⟩
theorem PrioPost.none {s:StL} {w w':World} (h:stnI s=true) (hk:s.kind=2) (hp:prioB s=false) (hb:Below w.heap.size w w'):PrioPost s w (.returned (.tuple #[.int .i64 0,.int .i64 0])) w':=by
 unfold PrioPost prV prE lvB lvV
 rw [h,decide_eq_true hk,if_pos rfl,if_pos hk,hp]
 exact⟨rfl,hb⟩
theorem PrioPost.no {s:StL} {w w':World} (h:stnI s=true) (hk:s.kind=2) (hp:prioB s=true) (hl:levOK (saidI (prioV s))=false) (hb:Below w.heap.size w w'):PrioPost s w (.returned (.tuple #[.int .i64 0,.int .i64 220])) w':=by
 unfold PrioPost prV prE lvB lvV
 rw [h,decide_eq_true hk,if_pos rfl,if_pos hk,hp,hl]
 exact⟨rfl,hb⟩
theorem PrioPost.yes {s:StL} {w w':World} {v:Int} (h:stnI s=true) (hk:s.kind=2) (hp:prioB s=true) (hl:levOK (saidI (prioV s))=true) (hv:v=levV (saidI (prioV s))) (hb:Below w.heap.size w w'):PrioPost s w (.returned (.tuple #[.int .i64 v,.int .i64 0])) w':=by
 unfold PrioPost prV prE lvB lvV
 rw [h,decide_eq_true hk,if_pos rfl,if_pos hk,hp,hl,hv]
 exact⟨rfl,hb⟩
theorem stn_trees {s:StL} (h:stnI s=true):∀v∈s.load,treeI v=true:=fun v hv=>by
 unfold stnI at h
 simp only [Bool.and_eq_true,List.all_eq_true] at h
 have h1:=h.2 v hv
 unfold spaceI at h1
 simp only [Bool.and_eq_true] at h1
 exact h1.2
theorem stn_pos {s:StL} (h:stnI s=true):∀v∈s.load,0 < v.length:=fun v hv=>(tree_parts (stn_trees h v hv)).1
theorem first_in {space name:ByteArray} {l:List (List NodeL)} (h:firstB space name l=true):firstV space name l∈l:=by
 unfold firstB at h
 unfold firstV
 cases hf:fstP (isEl space name) l with
 | none=>rw [hf] at h;cases h
 | some i=>
  obtain⟨x,hx,-,-⟩:=fstP_some hf
  simp only
  rw [List.getD_eq_getElem?_getD,hx]
  exact List.mem_of_getElem? hx
set_option maxHeartbeats 4000000 in
set_option maxRecDepth 10000 in
theorem sprio_any (s:StL) (A:Option Addr) (c:Nat) (w:World) (hz:SzS s) (hr:RdW w w.heap.size A s.load) (hg:Glb w) (hsm:stnI s=true→∀v∈s.load,(saidI v).size≤1000000000) :
  Calls Tryz.prog 17 #[encS s A c] w (PrioPost s w):=by
 obtain⟨W0,hW0⟩:∃W0,W0=w.alloc (.cells #[.int .u8 s.kind,.string s.typ,.string s.id,.string s.frm,.string s.to,.slice A s.load.length c] 27):=⟨_,rfl⟩
 have hX0:Below w.heap.size w W0:=by rw [hW0];exact(Below.refl _ _).alloc (Nat.le_refl _) _
 have hS0:SAt W0 w.heap.size s A c:=by rw [hW0];exact SAt.new _ _ _ _ _
 have HM:=Lib.hid (scheck_any s A c W0 hz (RdW.ext hr hX0) (hg.below hX0))
 have HEE:Box (stnErr s=if stnI s then 0 else 8):=⟨rfl⟩
 have HFI:=Lib.hid (fun(h:stnI s=true) W (hW:Below w.heap.size w W)=>first_any s.load A c (⟨#[106,97,98,98,101,114,58,99,108,105,101,110,116]⟩:ByteArray) (⟨#[112,114,105,111,114,105,116,121]⟩:ByteArray) W (RdW.ext hr hW) hz.2.2.2.2.2.1 (stn_pos h))
 have HZ:=Lib.hid hz
 have HSM:=Lib.hid hsm
 have HX0:=Lib.hid hX0
 have HS:=Lib.hid hS0
 have a0:=HS.out.c0
 have a1:=HS.out.c1
 have a2:=HS.out.c2
 have a3:=HS.out.c3
 have a4:=HS.out.c4
 have a5:=HS.out.c5
 rw [hW0] at a0 a1 a2 a3 a4 a5
 have HW0:=Lib.hid hW0
 clear hW0 hX0 hS0 hr hz hg hsm
 unfold encS at *
 generalize stnErr s=q at *
 cases hst:stnI s
 all_goals
  rw [hst] at HEE
  have he:=HEE.out
  try simp only [Bool.false_eq_true,if_false] at he
  try simp only [if_true] at he
  subst he
  have HST:=Lib.hid hst
  clear hst HEE
 ·go_enter Tryz.func17,Tryz.ntmps17
  go_wp2_with fail
  rw [←HW0.out]
  refine HM.out.mono ?_
  rintro e w1 ⟨rfl,hb1⟩
  have X1:=Lib.hid (HX0.out.trans (hb1.mono HX0.out.size))
  clear hb1
  clear a0 a1 a2 a3 a4 a5
  go_wp2
  go_ret2
  exact PrioPost.bad HST.out X1.out
 ·by_cases hk:s.kind=2
  ·have hk':(s.kind != 2)=false:=by simp [hk]
   have HK:=Lib.hid hk
   clear hk
   have HFJ:=Lib.hid (HFI.out HST.out)
   unfold FirstPost at HFJ
   cases hp:prioB s
   ·have HP:=Lib.hid hp
    have HFB:Hid (firstB (⟨#[106,97,98,98,101,114,58,99,108,105,101,110,116]⟩:ByteArray) (⟨#[112,114,105,111,114,105,116,121]⟩:ByteArray) s.load=false):=Lib.hid hp
    rw [HFB.out] at HFJ
    clear hp
    go_enter Tryz.func17,Tryz.ntmps17
    go_wp2_with fail
    rw [←HW0.out]
    refine HM.out.mono ?_
    rintro e w1 ⟨rfl,hb1⟩
    have X1:=Lib.hid (HX0.out.trans (hb1.mono HX0.out.size))
    have S1:=Lib.hid (HS.out.ext hb1)
    clear hb1
    clear a0 a1 a2 a3 a4 a5
    have a0:=S1.out.c0
    have a1:=S1.out.c1
    have a2:=S1.out.c2
    have a3:=S1.out.c3
    have a4:=S1.out.c4
    have a5:=S1.out.c5
    go_wp2_with fail
    refine(HFJ.out w1 X1.out).mono ?_
    rintro e w2 ⟨A2,c2,rfl,hl2,hr2,hb2⟩
    have X2:=Lib.hid (X1.out.trans (hb2.mono X1.out.size))
    clear hl2 hr2 hb2
    clear a0 a1 a2 a3 a4 a5
    go_wp2
    go_ret2
    exact PrioPost.none HST.out HK.out HP.out X2.out
   ·have HP:=Lib.hid hp
    have HFB:Hid (firstB (⟨#[106,97,98,98,101,114,58,99,108,105,101,110,116]⟩:ByteArray) (⟨#[112,114,105,111,114,105,116,121]⟩:ByteArray) s.load=true):=Lib.hid hp
    rw [HFB.out] at HFJ
    have hin:=first_in HFB.out
    have HT:=Lib.hid (stn_trees HST.out _ hin)
    have HWD:=Lib.hid (fun A' c' W (h1:(firstV (⟨#[106,97,98,98,101,114,58,99,108,105,101,110,116]⟩:ByteArray) (⟨#[112,114,105,111,114,105,116,121]⟩:ByteArray) s.load).length≤c') (h2:RdV W W.heap.size A' (firstV (⟨#[106,97,98,98,101,114,58,99,108,105,101,110,116]⟩:ByteArray) (⟨#[112,114,105,111,114,105,116,121]⟩:ByteArray) s.load))=>words_tree _ A' c' W h1 (HZ.out.2.2.2.2.2.2 _ hin) h2 HT.out)
    have HLV:=Lib.hid (fun W=>numlevel_any (saidI (firstV (⟨#[106,97,98,98,101,114,58,99,108,105,101,110,116]⟩:ByteArray) (⟨#[112,114,105,111,114,105,116,121]⟩:ByteArray) s.load)) W (HSM.out HST.out _ hin))
    unfold LevP at HLV
    have HLE:Box (levE (saidI (firstV (⟨#[106,97,98,98,101,114,58,99,108,105,101,110,116]⟩:ByteArray) (⟨#[112,114,105,111,114,105,116,121]⟩:ByteArray) s.load))=if levOK (saidI (firstV (⟨#[106,97,98,98,101,114,58,99,108,105,101,110,116]⟩:ByteArray) (⟨#[112,114,105,111,114,105,116,121]⟩:ByteArray) s.load)) then 0 else 60):=⟨rfl⟩
    have HPN:=Lib.hid (fun(h:levOK (saidI (firstV (⟨#[106,97,98,98,101,114,58,99,108,105,101,110,116]⟩:ByteArray) (⟨#[112,114,105,111,114,105,116,121]⟩:ByteArray) s.load))=false) w' (hb:Below w.heap.size w w')=>PrioPost.no HST.out HK.out HP.out h hb)
    have HPY:=Lib.hid (fun(h:levOK (saidI (firstV (⟨#[106,97,98,98,101,114,58,99,108,105,101,110,116]⟩:ByteArray) (⟨#[112,114,105,111,114,105,116,121]⟩:ByteArray) s.load))=true) w' (hb:Below w.heap.size w w')=>PrioPost.yes HST.out HK.out HP.out h rfl hb)
    unfold prioV at HPY
    clear hp hin
    generalize levE (saidI (firstV (⟨#[106,97,98,98,101,114,58,99,108,105,101,110,116]⟩:ByteArray) (⟨#[112,114,105,111,114,105,116,121]⟩:ByteArray) s.load))=le at *
    generalize levV (saidI (firstV (⟨#[106,97,98,98,101,114,58,99,108,105,101,110,116]⟩:ByteArray) (⟨#[112,114,105,111,114,105,116,121]⟩:ByteArray) s.load))=lv at *
    generalize levOK (saidI (firstV (⟨#[106,97,98,98,101,114,58,99,108,105,101,110,116]⟩:ByteArray) (⟨#[112,114,105,111,114,105,116,121]⟩:ByteArray) s.load))=lo at *
    generalize saidI (firstV (⟨#[106,97,98,98,101,114,58,99,108,105,101,110,116]⟩:ByteArray) (⟨#[112,114,105,111,114,105,116,121]⟩:ByteArray) s.load)=t at *
    generalize firstV (⟨#[106,97,98,98,101,114,58,99,108,105,101,110,116]⟩:ByteArray) (⟨#[112,114,105,111,114,105,116,121]⟩:ByteArray) s.load=v at *
    cases lo
    all_goals
     have he:=HLE.out
     try simp only [Bool.false_eq_true,if_false] at he
     try simp only [if_true] at he
     subst he
     clear HLE
     go_enter Tryz.func17,Tryz.ntmps17
     go_wp2_with fail
     rw [←HW0.out]
     refine HM.out.mono ?_
     rintro e w1 ⟨rfl,hb1⟩
     have X1:=Lib.hid (HX0.out.trans (hb1.mono HX0.out.size))
     have S1:=Lib.hid (HS.out.ext hb1)
     clear hb1
     clear a0 a1 a2 a3 a4 a5
     have a0:=S1.out.c0
     have a1:=S1.out.c1
     have a2:=S1.out.c2
     have a3:=S1.out.c3
     have a4:=S1.out.c4
     have a5:=S1.out.c5
     go_wp2_with fail
     refine(HFJ.out w1 X1.out).mono ?_
     rintro e w2 ⟨A2,c2,rfl,hl2,hr2,hb2⟩
     have X2:=Lib.hid (X1.out.trans (hb2.mono X1.out.size))
     have HC2:=Lib.hid (HWD.out A2 c2 w2 hl2 hr2)
     clear hl2 hr2 hb2
     clear a0 a1 a2 a3 a4 a5
     go_wp2_with fail
     refine HC2.out.mono ?_
     rintro e w3 ⟨rfl,hb3⟩
     have X3:=Lib.hid (X2.out.trans (hb3.mono X2.out.size))
     clear hb3
     go_wp2_with fail
     refine(HLV.out w3).mono ?_
     rintro e w4 ⟨rfl,hb4⟩
     have X4:=Lib.hid (X3.out.trans (hb4.mono X3.out.size))
     clear hb4
     go_wp2
     go_ret2
    ·exact HPN.out trivial _ X4.out
    ·exact HPY.out trivial _ X4.out
  ·have hk':(s.kind != 2)=true:=by simpa using hk
   have HK:=Lib.hid hk
   clear hk
   go_enter Tryz.func17,Tryz.ntmps17
   go_wp2_with fail
   rw [←HW0.out]
   refine HM.out.mono ?_
   rintro e w1 ⟨rfl,hb1⟩
   have X1:=Lib.hid (HX0.out.trans (hb1.mono HX0.out.size))
   have S1:=Lib.hid (HS.out.ext hb1)
   clear hb1
   clear a0 a1 a2 a3 a4 a5
   have a0:=S1.out.c0
   have a1:=S1.out.c1
   have a2:=S1.out.c2
   have a3:=S1.out.c3
   have a4:=S1.out.c4
   have a5:=S1.out.c5
   go_wp2
   go_ret2
   exact PrioPost.kind HST.out HK.out X1.out
def LvlPost (s:StL) (w:World) (e:Ending) (w':World):Prop:=e=.returned (.tuple #[.int .i64 (lvV s),.bool (lvB s)])∧Below w.heap.size w w'
set_option maxHeartbeats 4000000 in
set_option maxRecDepth 10000 in
theorem reflvl_any (s:StL) (A:Option Addr) (c:Nat) (w:World) (hz:SzS s) (hr:RdW w w.heap.size A s.load) (hst:stnI s=true) (hsm:∀v∈s.load,(saidI v).size≤1000000000) :
  Calls Tryz.prog 49 #[encS s A c] w (LvlPost s w):=by
 obtain⟨W0,hW0⟩:∃W0,W0=w.alloc (.cells #[.int .u8 s.kind,.string s.typ,.string s.id,.string s.frm,.string s.to,.slice A s.load.length c] 27):=⟨_,rfl⟩
 have hX0:Below w.heap.size w W0:=by rw [hW0];exact(Below.refl _ _).alloc (Nat.le_refl _) _
 have hS0:SAt W0 w.heap.size s A c:=by rw [hW0];exact SAt.new _ _ _ _ _
 have HFJ:=Lib.hid (reffirst_any s.load A c (⟨#[106,97,98,98,101,114,58,99,108,105,101,110,116]⟩:ByteArray) (⟨#[112,114,105,111,114,105,116,121]⟩:ByteArray) W0 (RdW.ext hr hX0) hz.2.2.2.2.2.1 (stn_pos hst))
 unfold FirstPost at HFJ
 have HZ:=Lib.hid hz
 have HSM:=Lib.hid hsm
 have HST:=Lib.hid hst
 have HX0:=Lib.hid hX0
 have HS:=Lib.hid hS0
 have a0:=HS.out.c0
 have a1:=HS.out.c1
 have a2:=HS.out.c2
 have a3:=HS.out.c3
 have a4:=HS.out.c4
 have a5:=HS.out.c5
 rw [hW0] at a0 a1 a2 a3 a4 a5
 have HW0:=Lib.hid hW0
 have HLV0:Box (lvV s=if prioB s then levV (saidI (prioV s)) else 0):=⟨rfl⟩
 have HLB0:Box (lvB s=(!prioB s || levOK (saidI (prioV s)))):=⟨rfl⟩
 unfold LvlPost
 generalize lvV s=rv at *
 generalize lvB s=rb at *
 clear hW0 hX0 hS0 hr hz hst hsm
 unfold encS at *
 cases hp:prioB s
 ·rw [hp] at HLV0 HLB0
  have HFB:Hid (firstB (⟨#[106,97,98,98,101,114,58,99,108,105,101,110,116]⟩:ByteArray) (⟨#[112,114,105,111,114,105,116,121]⟩:ByteArray) s.load=false):=Lib.hid hp
  rw [HFB.out] at HFJ
  have HQ:Hid (rv=0∧rb=true):=Lib.hid ⟨HLV0.out.trans rfl,HLB0.out.trans rfl⟩
  clear hp HLV0 HLB0
  go_enter Tryz.func49,Tryz.ntmps49
  go_wp2_with fail
  rw [←HW0.out]
  refine HFJ.out.mono ?_
  rintro e w2 ⟨A2,c2,rfl,hl2,hr2,hb2⟩
  have X2:=Lib.hid (HX0.out.trans (hb2.mono HX0.out.size))
  clear hl2 hr2 hb2
  clear a0 a1 a2 a3 a4 a5
  go_wp2
  go_ret2
  rw [HQ.out.1,HQ.out.2]
  exact⟨rfl,X2.out⟩
 ·rw [hp] at HLV0 HLB0
  have HFB:Hid (firstB (⟨#[106,97,98,98,101,114,58,99,108,105,101,110,116]⟩:ByteArray) (⟨#[112,114,105,111,114,105,116,121]⟩:ByteArray) s.load=true):=Lib.hid hp
  rw [HFB.out] at HFJ
  have hin:=first_in HFB.out
  have HT:=Lib.hid (stn_trees HST.out _ hin)
  have HWD:=Lib.hid (fun A' c' W (h1:(firstV (⟨#[106,97,98,98,101,114,58,99,108,105,101,110,116]⟩:ByteArray) (⟨#[112,114,105,111,114,105,116,121]⟩:ByteArray) s.load).length≤c') (h2:RdV W W.heap.size A' (firstV (⟨#[106,97,98,98,101,114,58,99,108,105,101,110,116]⟩:ByteArray) (⟨#[112,114,105,111,114,105,116,121]⟩:ByteArray) s.load))=>refsaid_any _ A' c' W h1 (HZ.out.2.2.2.2.2.2 _ hin) h2 HT.out)
  have HLV:=Lib.hid (fun W=>reflevel_any (saidI (firstV (⟨#[106,97,98,98,101,114,58,99,108,105,101,110,116]⟩:ByteArray) (⟨#[112,114,105,111,114,105,116,121]⟩:ByteArray) s.load)) W)
  unfold LevP at HLV
  have HLE:Box (levE (saidI (firstV (⟨#[106,97,98,98,101,114,58,99,108,105,101,110,116]⟩:ByteArray) (⟨#[112,114,105,111,114,105,116,121]⟩:ByteArray) s.load))=if levOK (saidI (firstV (⟨#[106,97,98,98,101,114,58,99,108,105,101,110,116]⟩:ByteArray) (⟨#[112,114,105,111,114,105,116,121]⟩:ByteArray) s.load)) then 0 else 60):=⟨rfl⟩
  unfold prioV at HLV0 HLB0
  clear hp hin
  generalize levE (saidI (firstV (⟨#[106,97,98,98,101,114,58,99,108,105,101,110,116]⟩:ByteArray) (⟨#[112,114,105,111,114,105,116,121]⟩:ByteArray) s.load))=le at *
  generalize levV (saidI (firstV (⟨#[106,97,98,98,101,114,58,99,108,105,101,110,116]⟩:ByteArray) (⟨#[112,114,105,111,114,105,116,121]⟩:ByteArray) s.load))=lv at *
  generalize levOK (saidI (firstV (⟨#[106,97,98,98,101,114,58,99,108,105,101,110,116]⟩:ByteArray) (⟨#[112,114,105,111,114,105,116,121]⟩:ByteArray) s.load))=lo at *
  generalize saidI (firstV (⟨#[106,97,98,98,101,114,58,99,108,105,101,110,116]⟩:ByteArray) (⟨#[112,114,105,111,114,105,116,121]⟩:ByteArray) s.load)=t at *
  generalize firstV (⟨#[106,97,98,98,101,114,58,99,108,105,101,110,116]⟩:ByteArray) (⟨#[112,114,105,111,114,105,116,121]⟩:ByteArray) s.load=v at *
  have HQ:Hid (rv=lv∧rb=lo):=Lib.hid ⟨HLV0.out.trans rfl,HLB0.out.trans rfl⟩
  clear HLV0 HLB0
  cases lo
  all_goals
   have he:=HLE.out
   try simp only [Bool.false_eq_true,if_false] at he
   try simp only [if_true] at he
   subst he
   clear HLE
   go_enter Tryz.func49,Tryz.ntmps49
   go_wp2_with fail
   rw [←HW0.out]
   refine HFJ.out.mono ?_
   rintro e w2 ⟨A2,c2,rfl,hl2,hr2,hb2⟩
   have X2:=Lib.hid (HX0.out.trans (hb2.mono HX0.out.size))
   have HC2:=Lib.hid (HWD.out A2 c2 w2 hl2 hr2)
   clear hl2 hr2 hb2
   clear a0 a1 a2 a3 a4 a5
   go_wp2_with fail
   refine HC2.out.mono ?_
   rintro e w3 ⟨rfl,hb3⟩
   have X3:=Lib.hid (X2.out.trans (hb3.mono X2.out.size))
   clear hb3
   go_wp2_with fail
   refine(HLV.out w3).mono ?_
   rintro e w4 ⟨rfl,hb4⟩
   have X4:=Lib.hid (X3.out.trans (hb4.mono X3.out.size))
   clear hb4
   go_wp2
   go_ret2
   rw [HQ.out.1,HQ.out.2]
   exact⟨rfl,X4.out⟩
set_option maxHeartbeats 4000000 in
set_option maxRecDepth 10000 in
theorem refprio_any (s:StL) (A:Option Addr) (c:Nat) (w:World) (hz:SzS s) (hr:RdW w w.heap.size A s.load) (hsm:stnI s=true→∀v∈s.load,(saidI v).size≤1000000000) :
  Calls Tryz.prog 18 #[encS s A c] w (PrioPost s w):=by
 obtain⟨W0,hW0⟩:∃W0,W0=w.alloc (.cells #[.int .u8 s.kind,.string s.typ,.string s.id,.string s.frm,.string s.to,.slice A s.load.length c] 27):=⟨_,rfl⟩
 have hX0:Below w.heap.size w W0:=by rw [hW0];exact(Below.refl _ _).alloc (Nat.le_refl _) _
 have hS0:SAt W0 w.heap.size s A c:=by rw [hW0];exact SAt.new _ _ _ _ _
 have HM:=Lib.hid (refsmay_any s A c W0 hz (RdW.ext hr hX0))
 have HLV:=Lib.hid (fun(h:stnI s=true) W (hW:Below w.heap.size w W)=>reflvl_any s A c W hz (RdW.ext hr hW) h (hsm h))
 unfold LvlPost at HLV
 have HX0:=Lib.hid hX0
 have HS:=Lib.hid hS0
 have a0:=HS.out.c0
 have a1:=HS.out.c1
 have a2:=HS.out.c2
 have a3:=HS.out.c3
 have a4:=HS.out.c4
 have a5:=HS.out.c5
 rw [hW0] at a0 a1 a2 a3 a4 a5
 have HW0:=Lib.hid hW0
 clear hW0 hX0 hS0 hr hz hsm
 unfold encS at *
 cases hst:stnI s
 all_goals
  rw [hst] at HM
  have HST:=Lib.hid hst
  clear hst
 ·go_enter Tryz.func18,Tryz.ntmps18
  go_wp2_with fail
  rw [←HW0.out]
  refine HM.out.mono ?_
  rintro e w1 ⟨rfl,hb1⟩
  have X1:=Lib.hid (HX0.out.trans (hb1.mono HX0.out.size))
  clear hb1
  clear a0 a1 a2 a3 a4 a5
  go_wp2
  go_ret2
  exact PrioPost.bad HST.out X1.out
 ·by_cases hk:s.kind=2
  ·have hk':(s.kind != 2)=false:=by simp [hk]
   have HK:=Lib.hid hk
   clear hk
   have HLW:=Lib.hid (HLV.out HST.out)
   have HPN:=Lib.hid (fun(h:lvB s=false) w' (hb:Below w.heap.size w w')=>(show PrioPost s w (.returned (.tuple #[.int .i64 0,.int .i64 220])) w' from by
    unfold PrioPost prV prE
    rw [HST.out,decide_eq_true HK.out,if_pos rfl,if_pos HK.out,h]
    exact⟨rfl,hb⟩))
   have HPY:=Lib.hid (fun(h:lvB s=true) w' (hb:Below w.heap.size w w')=>(show PrioPost s w (.returned (.tuple #[.int .i64 (lvV s),.int .i64 0])) w' from by
    unfold PrioPost prV prE
    rw [HST.out,decide_eq_true HK.out,if_pos rfl,if_pos HK.out,h]
    exact⟨rfl,hb⟩))
   generalize lvV s=lv at *
   generalize lvB s=lb at *
   cases lb
   all_goals
    go_enter Tryz.func18,Tryz.ntmps18
    go_wp2_with fail
    rw [←HW0.out]
    refine HM.out.mono ?_
    rintro e w1 ⟨rfl,hb1⟩
    have X1:=Lib.hid (HX0.out.trans (hb1.mono HX0.out.size))
    have S1:=Lib.hid (HS.out.ext hb1)
    clear hb1
    clear a0 a1 a2 a3 a4 a5
    have a0:=S1.out.c0
    have a1:=S1.out.c1
    have a2:=S1.out.c2
    have a3:=S1.out.c3
    have a4:=S1.out.c4
    have a5:=S1.out.c5
    go_wp2_with fail
    refine(HLW.out w1 X1.out).mono ?_
    rintro e w2 ⟨rfl,hb2⟩
    have X2:=Lib.hid (X1.out.trans (hb2.mono X1.out.size))
    clear hb2
    clear a0 a1 a2 a3 a4 a5
    go_wp2
    go_ret2
   ·exact HPN.out trivial _ X2.out
   ·exact HPY.out trivial _ X2.out
  ·have hk':(s.kind != 2)=true:=by simpa using hk
   have HK:=Lib.hid hk
   clear hk
   go_enter Tryz.func18,Tryz.ntmps18
   go_wp2_with fail
   rw [←HW0.out]
   refine HM.out.mono ?_
   rintro e w1 ⟨rfl,hb1⟩
   have X1:=Lib.hid (HX0.out.trans (hb1.mono HX0.out.size))
   have S1:=Lib.hid (HS.out.ext hb1)
   clear hb1
   clear a0 a1 a2 a3 a4 a5
   have a0:=S1.out.c0
   have a1:=S1.out.c1
   have a2:=S1.out.c2
   have a3:=S1.out.c3
   have a4:=S1.out.c4
   have a5:=S1.out.c5
   go_wp2
   go_ret2
   exact PrioPost.kind HST.out HK.out X1.out
end Go.Proofs.YtnmnpnofdgdigaaGreatDoor
end
section
namespace Go.Proofs.YtnmnpnofdgdigaaGreatDoor
def cutV (v:List NodeL) (k m:Nat):List NodeL:=(v.drop k).take m
theorem cutV_at {v:List NodeL} {k m i:Nat} (h:i < m):(cutV v k m)[i]? = v[k+i]?:=by
 unfold cutV
 rw [List.getElem?_take,if_pos h,List.getElem?_drop]
theorem endK_shift {f g:Nat→Option Nat} {v u:List NodeL} {k m:Nat} (hu:∀i,i < m→u[i]? = v[k+i]?) (hle:∀i e,f i=some e→i < e∧e≤v.length)
  (hf:∀i e,f (k+i)=some e→e≤k+m→g i=some (e - k)):∀(n i:Nat) (t:Bool) (e:Nat),endK f v n (k+i) t=some e→k+i≤v.length→e≤k+m→endK g u n i t=some (e - k)
 | 0,i,t,e,h,_,_=>by
  simp only [endK,Option.some.injEq] at h ⊢
  omega
 | n+1,i,t,e,h,hi,he=>by
  rw [endK] at h
  split at h
  ·cases h
  ·rename_i x hx
   split at h
   ·cases h
   ·rename_i hc
    split at h
    ·cases h
    ·rename_i e1 he1
     have h1:=hle _ _ he1
     have h2:=endK_le hle n e1 _ e h1.2 h
     obtain⟨j,hj⟩:∃j,e1=k+j:=⟨e1 - k,by omega⟩
     rw [endK,hu i (by omega),hx]
     simp only
     rw [if_neg hc,hf i e1 he1 (by omega)]
     simp only
     subst hj
     rw [Nat.add_sub_cancel_left]
     exact endK_shift hu hle hf n j _ e h h1.2 he
theorem endN_shift {v u:List NodeL} {k m:Nat} (hu:∀i,i < m→u[i]? = v[k+i]?):∀(d i e:Nat),endN v d (k+i)=some e→e≤k+m→endN u d i=some (e - k)
 | 0,i,e,h,he=>by
  have hl:=endN_le v 0 _ _ h
  rw [endN] at h ⊢
  rw [hu i (by omega)]
  cases hx:v[k+i]? with
  | none=>rw [hx] at h;cases h
  | some n=>
   rw [hx] at h
   simp only at h ⊢
   by_cases hc:nodeI n=true∧n.kind=2
   ·rw [if_pos hc] at h ⊢
    simp only [Option.some.injEq] at h ⊢
    omega
   ·rw [if_neg hc] at h;cases h
 | d+1,i,e,h,he=>by
  have hl:=endN_le v (d+1) _ _ h
  rw [endN] at h ⊢
  rw [hu i (by omega)]
  cases hx:v[k+i]? with
  | none=>rw [hx] at h;cases h
  | some n=>
   rw [hx] at h
   simp only at h ⊢
   by_cases hc:nodeI n=true∧0≤n.many
   ·rw [if_pos hc] at h ⊢
    have hlt:=(List.getElem?_eq_some_iff.1 hx).1
    exact endK_shift hu (endN_le v d) (endN_shift hu d) _ (i+1) false e (by rw [←Nat.add_assoc];exact h) (by omega) he
   ·rw [if_neg hc] at h;cases h
theorem kid_end {v:List NodeL} (ht:treeI v=true) {k:Nat} (hk:k∈kidsI v 0):∃e,endN v 11 k=some e∧k < e∧e≤v.length∧endN v 12 k=some e:=by
 have hC:=chain_start (tree_parts ht).2.2.2
 have h0:=(tree_parts ht).1
 obtain⟨j,hj,rfl⟩:=List.mem_iff_getElem.1 hk
 have hj':j < manyN v 0:=by
  have:=hj
  unfold kidsI at this
  rw [kidL_len] at this
  exact this
 have hkp:(kidsI v 0)[j]=kidP v j (0+1):=by
  unfold kidsI kidL
  simp
 have h1:=(kidP_chain (by omega) (by omega) hC j (by omega)).1
 obtain⟨q,hq⟩:∃q,manyN v 0 - j=q+1:=⟨manyN v 0 - j - 1,by omega⟩
 rw [hq] at h1
 rw [hkp]
 obtain⟨t,h1⟩:=h1
 obtain⟨m,x,-,h3,-⟩:=endK_inv h1
 have h4:=endN_le v 11 _ _ h3
 exact⟨x,h3,h4.1,h4.2,endN_more v (by omega) h3⟩
theorem part_tree {v:List NodeL} (ht:treeI v=true) {k:Nat} (hk:k∈kidsI v 0) (h1:(nodeAt v k).kind=1):treeI (partI v k)=true:=by
 obtain⟨e,he,hke,hel,he2⟩:=kid_end ht hk
 have hp:partI v k=cutV v k (e - k):=by unfold partI cutV;rw [he2];rfl
 have hlen:(partI v k).length=e - k:=part_len he2
 have h5:=(tree_parts ht).2.1
 rw [hp] at hlen ⊢
 have hs:=endN_shift (v:=v) (u:=cutV v k (e - k)) (k:=k) (m:=e - k) (fun i hi=>cutV_at hi) 12 0 e (by rw [Nat.add_zero];exact he2) (by omega)
 obtain⟨n,hn⟩:∃n,v[k]? = some n:=⟨_,List.getElem?_eq_getElem (by omega)⟩
 have hn0:(cutV v k (e - k))[0]? = some n:=by rw [cutV_at (by omega),Nat.add_zero];exact hn
 have hk1:n.kind=1:=by
  unfold nodeAt at h1
  rw [List.getD_eq_getElem?_getD,hn] at h1
  exact h1
 exact treeI_yes (by omega) hn0 hk1 (by rw [hs,hlen])
theorem elems_tree {v:List NodeL} (ht:treeI v=true):∀x∈elemsI v,treeI x=true:=fun x hx=>by
 unfold elemsI elemsK at hx
 obtain⟨k,hk,rfl⟩:=List.mem_map.1 hx
 obtain⟨hk1,hk2⟩:=List.mem_filter.1 hk
 exact part_tree ht hk1 (by simpa using hk2)
end Go.Proofs.YtnmnpnofdgdigaaGreatDoor
end
section
namespace Go.Proofs.YtnmnpnofdgdigaaGreatDoor
structure WantL where
 kind:Int
 res:ByteArray
 jid:ByteArray
 name:ByteArray
 groups:List ByteArray
 gone:Bool
def emW:WantL:=⟨0,emB,emB,emB,[],false⟩
def rosB:ByteArray:=(⟨#[106,97,98,98,101,114,58,105,113,58,114,111,115,116,101,114]⟩:ByteArray)
def bindB:ByteArray:=(⟨#[117,114,110,58,105,101,116,102,58,112,97,114,97,109,115,58,120,109,108,58,110,115,58,120,109,112,112,45,98,105,110,100]⟩:ByteArray)
def bindW (v:List NodeL):WantL:=⟨1,if firstB bindB (⟨#[114,101,115,111,117,114,99,101]⟩:ByteArray) (elemsI v) then saidI (firstV bindB (⟨#[114,101,115,111,117,114,99,101]⟩:ByteArray) (elemsI v)) else emB,emB,emB,[],false⟩
def groupsW (l:List (List NodeL)):List ByteArray:=(l.filter (isEl rosB (⟨#[103,114,111,117,112]⟩:ByteArray))).map saidI
def itemV (v:List NodeL):List NodeL:=(elemsI v).getD 0 []
def oneIt (v:List NodeL):Bool:=decide ((elemsI v).length=1) && isEl rosB (⟨#[105,116,101,109]⟩:ByteArray) (itemV v)
def goneI (v:List NodeL):Bool:=(findI (nodeAt (itemV v) 0) (⟨#[115,117,98,115,99,114,105,112,116,105,111,110]⟩:ByteArray)).toList == [114,101,109,111,118,101]
def setW (v:List NodeL):WantL:=if goneI v then⟨3,emB,findI (nodeAt (itemV v) 0) (⟨#[106,105,100]⟩:ByteArray),emB,[],true⟩ else⟨3,emB,findI (nodeAt (itemV v) 0) (⟨#[106,105,100]⟩:ByteArray),findI (nodeAt (itemV v) 0) (⟨#[110,97,109,101]⟩:ByteArray),groupsW (elemsI (itemV v)),false⟩
def getW:WantL:=⟨2,emB,emB,emB,[],false⟩
def typS (s:StL):Bool:=s.typ.toList == [115,101,116]
def typG (s:StL):Bool:=s.typ.toList == [103,101,116]
def askV (s:StL) (v:List NodeL):WantL:=if typS s && isEl bindB (⟨#[98,105,110,100]⟩:ByteArray) v then bindW v else if isEl rosB (⟨#[113,117,101,114,121]⟩:ByteArray) v && typG s then getW else if isEl rosB (⟨#[113,117,101,114,121]⟩:ByteArray) v && typS s && oneIt v then setW v else emW
def askW (s:StL):WantL:=if s.load.length=1 then askV s (s.load.getD 0 []) else emW
def resBad (x:WantL):Bool:=!isEmp x.res && !resI x.res
def askE (s:StL):Int:=if stnI s then(if s.kind=3 then(if resBad (askW s) then 220 else 0) else 2) else 8
def askR (s:StL):WantL:=if askE s=0 then askW s else emW
def groupsK (l:List (List NodeL)) (k:Nat):List ByteArray:=groupsW (l.take k)
theorem groupsK_succ (l:List (List NodeL)) {k:Nat} {v:List NodeL} (h:l[k]? = some v):groupsK l (k+1)=if isEl rosB (⟨#[103,114,111,117,112]⟩:ByteArray) v then groupsK l k++[saidI v] else groupsK l k:=by
 unfold groupsK groupsW
 rw [List.take_add_one,h,Option.toList_some,List.filter_append,List.map_append]
 cases hq:isEl rosB (⟨#[103,114,111,117,112]⟩:ByteArray) v <;> simp [hq]
end Go.Proofs.YtnmnpnofdgdigaaGreatDoor
end
section
namespace Go.Proofs.YtnmnpnofdgdigaaGreatDoor
open Go.RowKit
set_option linter.unusedSimpArgs false
set_option linter.unusedVariables false
def encI (x:WantL) (A:Option Addr) (c:Nat):Value:=.agg #[.string x.jid,.string x.name,.slice A x.groups.length c,.bool false,.bool false,.bool false,.bool false,.bool false]
def encW (x:WantL) (A:Option Addr) (c:Nat):Value:=.agg #[.int .u8 x.kind,.string x.res,.string x.jid,.string x.name,.slice A x.groups.length c,.bool false,.bool false,.bool false,.bool false,.bool false,.bool x.gone]
set_option maxHeartbeats 2000000 in
set_option maxRecDepth 10000 in
theorem same04_one (l:List ByteArray) (A1 A2:Option Addr) (c1 c2:Nat) (w:World) (h1:RdS w A1 l) (h2:RdS w A2 l) (hn:l.length≤1000000000) :
  Calls Tryz.prog 113 #[.slice A1 l.length c1,.slice A2 l.length c2] w fun e w'=>e=.returned (.bool true)∧Below w.heap.size w w':=by
 have H1:=Lib.hid h1
 have H2:=Lib.hid h2
 clear h1 h2
 go_enter Tryz.func113,Tryz.ntmps113
 go_wp2
 go_loopw [5] (fun s5 wr=>∃k:Nat,k≤l.length∧s5=.int .i64 k∧Hid (Below w.heap.size w wr)) (fun s5 _=>l.length - (intOf s5).toNat)
 case atStart=>exact⟨0,Nat.zero_le _,rfl,Lib.hid (Below.refl _ _)⟩
 case round=>
  obtain⟨k,hk,rfl,HB⟩:=hrel
  by_cases hlt:k < l.length
  ·obtain⟨s,hs⟩:∃s,l[k]? = some s:=⟨_,List.getElem?_eq_getElem hlt⟩
   obtain⟨b1,o1,rfl,hb1,hc1⟩:=H1.out (by omega)
   obtain⟨b2,o2,rfl,hb2,hc2⟩:=H2.out (by omega)
   have G1:=Lib.hid (fun W (hW:Ext wr.drew W)=>((HB.out.trans ((ext_below hW).mono HB.out.size)).cell (p:=⟨b1,o1+k,none⟩) hb1).trans (hc1 k s hs))
   have G2:=Lib.hid (fun W (hW:Ext wr.drew W)=>((HB.out.trans ((ext_below hW).mono HB.out.size)).cell (p:=⟨b2,o2+k,none⟩) hb2).trans (hc2 k s hs))
   clear hc1 hc2 hs
   go_wp2
   refine wp_region_typed rfl (by kernel_rfl) (by kernel_rfl) ?_
   repeat (first|refine tw_ixS hlt rfl rfl rfl (wdA rfl) ?_|refine tw_ldS rfl rfl G1.out (wdA rfl) ?_|refine tw_ldS rfl rfl G2.out (wdA rfl) ?_|refine tw_neqS rfl rfl rfl (wdA rfl) ?_|refine tw_skip (wd_no rfl rfl rfl) ?_|refine tw_mv (.inl rfl) rfl (wdA rfl) ?_|refine tw_mv (.inr rfl) rfl (wdA rfl) ?_|refine tw_pickL rfl rfl rfl (wdA rfl) ?_|refine tw_op1 _ rfl rfl (wdA rfl) (fun ρ W hW h1=>by simp only [execOp,h1];go_simp;first|done|rfl) ?_|refine tw_op2 _ rfl rfl rfl (wdA rfl) (fun ρ W hW h1 h2=>by simp only [execOp,h1,h2];go_simp;first|done|rfl) ?_)
   dsimp only [wpT,List.reverse,List.reverseAux,FinT]
   intro W7 hW7 _
   simp only [Act.put,List.setIfInBounds_toArray,List.set_cons_zero,List.set_cons_succ]
   have HB7:=Lib.hid (HB.out.trans ((ext_below hW7).mono HB.out.size))
   clear hW7 G1 G2
   go_wp2
   go_roundw
   case rel=>exact⟨k+1,by omega,by go_num,HB7⟩
   case measure=>simp [intOf];omega
  ·obtain rfl:k=l.length:=by omega
   go_wp2
   go_ret
   exact⟨rfl,HB.out⟩
def Row (w:World) (g:Nat) (cs:Array Value):Prop:=∃t,w.heap[g]? = some (.cells cs t (0,0))
section
variable {w w':World} {g:Nat} {cs:Array Value}
theorem Row.at' {v:Value} (h:Row w g cs) (i:Nat) (hv:cs[i]? = some v):w.cell? ⟨g,i,none⟩=some v:=by
 obtain⟨t,h⟩:=h
 rw [cell_of_row w g i cs t (0,0) h]
 exact hv
theorem Row.fz (h:Row w g cs) (i:Nat):w.frozen? ⟨g,i,none⟩=false:=by obtain⟨t,h⟩:=h;exact frozen_of_row w g i _ _ h
theorem Row.lt (h:Row w g cs):g < w.heap.size:=by obtain⟨t,h⟩:=h;exact(Array.getElem?_eq_some_iff.1 h).1
theorem Row.ext (h:Row w g cs) (hb:Below w.heap.size w w'):Row w' g cs:=by obtain⟨t,h⟩:=h;exact⟨t,heap_ext h hb⟩
theorem Row.extB {B:Nat} (h:Row w g cs) (hb:Below B w w') (hg:g < B):Row w' g cs:=by obtain⟨t,h⟩:=h;exact⟨t,(hb.block g hg).trans h⟩
theorem Row.set (h:Row w g cs) (i:Nat) (v:Value):Row (w.setCell ⟨g,i,none⟩ v) g (cs.setIfInBounds i v):=by obtain⟨t,h⟩:=h;exact⟨t,heap_setCell_same w g i _ _ _ h⟩
theorem Row.other (h:Row w g cs) {k:Nat} (hk:g≠k) (i:Nat) (v:Value):Row (w.setCell ⟨k,i,none⟩ v) g cs:=by obtain⟨t,h⟩:=h;exact⟨t,(heap_setCell_other w _ g _ hk).trans h⟩
theorem Row.new (w:World) (t:TypeId) (cs:Array Value):Row (w.alloc (.cells cs t)) w.heap.size cs:=⟨t,heap_alloc_new w _⟩
end
set_option maxHeartbeats 2000000 in
set_option maxRecDepth 10000 in
theorem sameitem_one (x:WantL) (A1 A2:Option Addr) (c1 c2:Nat) (w:World) (h1:RdS w A1 x.groups) (h2:RdS w A2 x.groups) (hn:x.groups.length≤1000000000) :
  Calls Tryz.prog 56 #[encI x A1 c1,encI x A2 c2] w fun e w'=>e=.returned (.bool true)∧Below w.heap.size w w':=by
 obtain⟨W0,hW0⟩:∃W0,W0=(w.alloc (.cells #[.string x.jid,.string x.name,.slice A1 x.groups.length c1,.bool false,.bool false,.bool false,.bool false,.bool false] 54)).alloc (.cells #[.string x.jid,.string x.name,.slice A2 x.groups.length c2,.bool false,.bool false,.bool false,.bool false,.bool false] 54):=⟨_,rfl⟩
 have hX0:Below w.heap.size w W0:=by rw [hW0];exact((Below.refl _ _).alloc (Nat.le_refl _) _).alloc (by simp) _
 have hR1:Row W0 w.heap.size #[.string x.jid,.string x.name,.slice A1 x.groups.length c1,.bool false,.bool false,.bool false,.bool false,.bool false]:=by rw [hW0];exact(Row.new w _ _).ext ((Below.refl _ _).alloc (Nat.le_refl _) _)
 have hR2:Row W0 (w.heap.size+1) #[.string x.jid,.string x.name,.slice A2 x.groups.length c2,.bool false,.bool false,.bool false,.bool false,.bool false]:=by
  rw [hW0]
  exact⟨_,al_at (w.alloc (.cells #[.string x.jid,.string x.name,.slice A1 x.groups.length c1,.bool false,.bool false,.bool false,.bool false,.bool false] 54)) _ _ _ (by simp) (Below.refl _ _)⟩
 have H:=Lib.hid (same04_one x.groups A1 A2 c1 c2 W0 (h1.ext hX0) (h2.ext hX0) hn)
 have HX0:=Lib.hid hX0
 have HW0:=Lib.hid hW0
 have R1:=Lib.hid hR1
 have R2:=Lib.hid hR2
 clear h1 h2 hX0 hW0 hR1 hR2
 unfold encI
 go_enter Tryz.func56,Tryz.ntmps56
 go_wp2_with fail
 rw [←HW0.out]
 refine H.out.mono ?_
 rintro e w1 ⟨rfl,hb1⟩
 have X1:=Lib.hid (HX0.out.trans (hb1.mono HX0.out.size))
 have Q1:=Lib.hid (R1.out.ext hb1)
 have Q2:=Lib.hid (R2.out.ext hb1)
 clear hb1
 have a0:w1.cell? ⟨w.heap.size,0,none⟩=some _:=Q1.out.at' 0 rfl
 have a1:w1.cell? ⟨w.heap.size,1,none⟩=some _:=Q1.out.at' 1 rfl
 have a2:w1.cell? ⟨w.heap.size,2,none⟩=some _:=Q1.out.at' 2 rfl
 have a3:w1.cell? ⟨w.heap.size,3,none⟩=some _:=Q1.out.at' 3 rfl
 have a4:w1.cell? ⟨w.heap.size,4,none⟩=some _:=Q1.out.at' 4 rfl
 have a5:w1.cell? ⟨w.heap.size,5,none⟩=some _:=Q1.out.at' 5 rfl
 have a6:w1.cell? ⟨w.heap.size,6,none⟩=some _:=Q1.out.at' 6 rfl
 have a7:w1.cell? ⟨w.heap.size,7,none⟩=some _:=Q1.out.at' 7 rfl
 have b0:w1.cell? ⟨w.heap.size+1,0,none⟩=some _:=Q2.out.at' 0 rfl
 have b1:w1.cell? ⟨w.heap.size+1,1,none⟩=some _:=Q2.out.at' 1 rfl
 have b2:w1.cell? ⟨w.heap.size+1,2,none⟩=some _:=Q2.out.at' 2 rfl
 have b3:w1.cell? ⟨w.heap.size+1,3,none⟩=some _:=Q2.out.at' 3 rfl
 have b4:w1.cell? ⟨w.heap.size+1,4,none⟩=some _:=Q2.out.at' 4 rfl
 have b5:w1.cell? ⟨w.heap.size+1,5,none⟩=some _:=Q2.out.at' 5 rfl
 have b6:w1.cell? ⟨w.heap.size+1,6,none⟩=some _:=Q2.out.at' 6 rfl
 have b7:w1.cell? ⟨w.heap.size+1,7,none⟩=some _:=Q2.out.at' 7 rfl
 go_wp2
 go_ret
 exact⟨rfl,X1.out⟩
set_option maxHeartbeats 2000000 in
set_option maxRecDepth 10000 in
theorem samewant_one (x:WantL) (A1 A2:Option Addr) (c1 c2:Nat) (w:World) (h1:RdS w A1 x.groups) (h2:RdS w A2 x.groups) (hn:x.groups.length≤1000000000) :
  Calls Tryz.prog 21 #[encW x A1 c1,encW x A2 c2] w fun e w'=>e=.returned (.bool true)∧Below w.heap.size w w':=by
 obtain⟨W0,hW0⟩:∃W0,W0=(w.alloc (.cells #[.int .u8 x.kind,.string x.res,.string x.jid,.string x.name,.slice A1 x.groups.length c1,.bool false,.bool false,.bool false,.bool false,.bool false,.bool x.gone] 56)).alloc (.cells #[.int .u8 x.kind,.string x.res,.string x.jid,.string x.name,.slice A2 x.groups.length c2,.bool false,.bool false,.bool false,.bool false,.bool false,.bool x.gone] 56):=⟨_,rfl⟩
 have hX0:Below w.heap.size w W0:=by rw [hW0];exact((Below.refl _ _).alloc (Nat.le_refl _) _).alloc (by simp) _
 have H:=Lib.hid (sameitem_one x A1 A2 c1 c2 W0 (h1.ext hX0) (h2.ext hX0) hn)
 have HX0:=Lib.hid hX0
 have HW0:=Lib.hid hW0
 unfold encI at H
 clear h1 h2 hX0 hW0
 unfold encW
 cases hgn:x.gone
 all_goals
  rw [hgn] at HW0
  clear hgn
  go_enter Tryz.func21,Tryz.ntmps21
  go_wp2_with fail
  rw [←HW0.out]
  refine H.out.mono ?_
  rintro e w1 ⟨rfl,hb1⟩
  have X1:=Lib.hid (HX0.out.trans (hb1.mono HX0.out.size))
  clear hb1
  go_wp2
  go_ret
  exact⟨rfl,X1.out⟩
end Go.Proofs.YtnmnpnofdgdigaaGreatDoor
end
