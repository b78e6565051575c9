/- Part 20 of a proof laid in parts, one behind the other; no condition of its own. -/
import Derived.Test.YtnmnpnofdgdigaaGreatDoorZ19
import Derived.Deep.QuietTactic
import Derived.BigQuiet
set_option linter.all false
section
namespace Go.Proofs.YtnmnpnofdgdigaaGreatDoor
open Go.RowKit
set_option linter.unusedSimpArgs false
set_option linter.unusedVariables false
theorem results_cc {P:Program} {fn:Func} {p q:Tmp} {ty ty':TypeId} {fs fs':Array Field} (h:fn.results=#[.cell p ty,.cell q ty']) (tmps:Array Value) (w:World) (g g':Nat) (t t':TypeId) (cs cs':Array Value)
  (hp:tmps.getD p undef=.pointer (some ⟨g,0,none⟩)) (hq:tmps.getD q undef=.pointer (some ⟨g',0,none⟩)) (hg:w.heap[g]? = some (.cells cs t (0,0))) (hg':w.heap[g']? = some (.cells cs' t' (0,0)))
  (hu:P.underlying ty=some (.struct fs)) (hu':P.underlying ty'=some (.struct fs')) (hi:(P.info? ty).map (·.size)=some cs.size) (hi':(P.info? ty').map (·.size)=some cs'.size) :
  (results fn tmps).run P w=.ok (.tuple #[.agg cs,.agg cs']) w:=by
 have hp':tmps[p]?.getD undef=.pointer (some ⟨g,0,none⟩):=by simpa using hp
 have hq':tmps[q]?.getD undef=.pointer (some ⟨g',0,none⟩):=by simpa using hq
 simp [results,h,hp',hq',asAddr,run_loadVar_row w g t ty cs (0,0) (.struct fs) hg hu rfl hi,run_loadVar_row w g' t' ty' cs' (0,0) (.struct fs') hg' hu' rfl hi']
set_option maxHeartbeats 4000000 in
set_option maxRecDepth 10000 in
theorem halves_any (a b c d:Bool) (w:World):Calls Tryz.prog 175 #[.agg #[.bool a,.bool b,.bool c,.bool d]] w fun e w'=>e=.returned (.tuple #[.agg #[.bool a,.bool b],.agg #[.bool c,.bool d]])∧Below w.heap.size w w':=by
 obtain⟨W0,hW0⟩:∃W0,W0=((w.alloc (.cells #[.bool a,.bool b,.bool c,.bool d] 52)).alloc (.cells #[.bool false,.bool false] 204)).alloc (.cells #[.bool false,.bool false] 204):=⟨_,rfl⟩
 have hX0:Below w.heap.size w W0:=by rw [hW0];exact(((Below.refl _ _).alloc (Nat.le_refl _) _).alloc (by simp) _).alloc (by simp;omega) _
 have hs0:W0.heap.size=w.heap.size+3:=by rw [hW0];simp
 have hR0:Row W0 w.heap.size #[.bool a,.bool b,.bool c,.bool d]:=by rw [hW0];exact((Row.new w _ _).ext ((Below.refl _ _).alloc (Nat.le_refl _) _)).ext ((Below.refl _ _).alloc (Nat.le_refl _) _)
 have hR1:Row W0 (w.heap.size+1) #[.bool false,.bool false]:=by
  rw [hW0]
  exact Row.ext ⟨_,al_at (w.alloc (.cells #[.bool a,.bool b,.bool c,.bool d] 52)) _ _ _ (by simp) (Below.refl _ _)⟩ ((Below.refl _ _).alloc (Nat.le_refl _) _)
 have hR2:Row W0 (w.heap.size+2) #[.bool false,.bool false]:=by
  rw [hW0]
  exact⟨_,al_at ((w.alloc (.cells #[.bool a,.bool b,.bool c,.bool d] 52)).alloc (.cells #[.bool false,.bool false] 204)) _ _ _ (by simp) (Below.refl _ _)⟩
 have HX0:=Lib.hid hX0
 have HD0:Hid (Row W0.drew w.heap.size #[.bool a,.bool b,.bool c,.bool d]):=Lib.hid hR0
 have HD1:Hid (Row W0.drew (w.heap.size+1) #[.bool false,.bool false]):=Lib.hid hR1
 have HD2:Hid (Row W0.drew (w.heap.size+2) #[.bool false,.bool false]):=Lib.hid hR2
 have HW0:=Lib.hid hW0
 have GR:=Lib.hid (fun W (hW:TI.Ext (TI.Fam W0.drew [(w.heap.size+1,#[.bool a,.bool b]),(w.heap.size+2,#[.bool c,.bool d])]) W0.drew W)=>TI.fam_row hW HD0.out (fun x hx=>by
  simp only [List.mem_cons,List.not_mem_nil,or_false] at hx
  rcases hx with rfl|rfl <;> (show w.heap.size≠_;simp)))
 have G0:=Lib.hid (fun W (hW:TI.Ext (TI.Fam W0.drew [(w.heap.size+1,#[.bool a,.bool b]),(w.heap.size+2,#[.bool c,.bool d])]) W0.drew W)=>(GR.out W hW).at' 0 rfl)
 have G1:=Lib.hid (fun W (hW:TI.Ext (TI.Fam W0.drew [(w.heap.size+1,#[.bool a,.bool b]),(w.heap.size+2,#[.bool c,.bool d])]) W0.drew W)=>(GR.out W hW).at' 1 rfl)
 have G2:=Lib.hid (fun W (hW:TI.Ext (TI.Fam W0.drew [(w.heap.size+1,#[.bool a,.bool b]),(w.heap.size+2,#[.bool c,.bool d])]) W0.drew W)=>(GR.out W hW).at' 2 rfl)
 have G3:=Lib.hid (fun W (hW:TI.Ext (TI.Fam W0.drew [(w.heap.size+1,#[.bool a,.bool b]),(w.heap.size+2,#[.bool c,.bool d])]) W0.drew W)=>(GR.out W hW).at' 3 rfl)
 clear hX0 hR0 hR1 hR2 hW0
 go_enter Tryz.func175,Tryz.ntmps175
 go_upto_region 1 with fail
 rw [←HW0.out]
 refine TI.wp_region_typed (I:=TI.Fam W0.drew [(w.heap.size+1,#[.bool a,.bool b]),(w.heap.size+2,#[.bool c,.bool d])]) rfl (by kernel_rfl) (by kernel_rfl) ?_
 repeat (first|refine TI.tw_ldB rfl rfl G0.out (TI.wd_none rfl) ?_|refine TI.tw_ldB rfl rfl G1.out (TI.wd_none rfl) ?_|refine TI.tw_ldB rfl rfl G2.out (TI.wd_none rfl) ?_|refine TI.tw_ldB rfl rfl G3.out (TI.wd_none rfl) ?_|refine TI.tw_store 0 (w.heap.size+1) #[.bool a,.bool b] _ rfl (by simp) HD1.out rfl (by kernel_rfl) (by simp [Value.oneCell']) rfl rfl rfl (TI.wd_none rfl) ?_|refine TI.tw_store 1 (w.heap.size+2) #[.bool c,.bool d] _ rfl (by simp) HD2.out rfl (by kernel_rfl) (by simp [Value.oneCell']) rfl rfl rfl (TI.wd_none rfl) ?_|refine TI.tw_mv (.inr rfl) rfl (TI.wd_none rfl) ?_|refine TI.tw_op1 _ rfl rfl (TI.wd_none rfl) (fun ρ W hW h1=>by simp only [execOp,h1];go_simp;first|done|rfl) ?_|refine TI.tw_op2 _ rfl rfl rfl (TI.wd_none rfl) (fun ρ W hW h1 h2=>by simp only [execOp,List.map_toArray,List.map_cons,List.map_nil,h1,h2];go_simp;first|done|rfl) ?_)
 dsimp only [TI.wpT,List.reverse,List.reverseAux,TI.FinT]
 intro W5 hW5 hF
 obtain⟨⟨-,-,hR5⟩,-,hS5⟩:=hF
 simp only [Act.put,List.setIfInBounds_toArray,List.set_cons_zero,List.set_cons_succ]
 have X5:=Lib.hid (HX0.out.drew.trans (TI.fam_below hW5 (by show w.heap.size≤W0.heap.size;omega) (fun x hx=>by
  simp only [List.mem_cons,List.not_mem_nil,or_false] at hx
  rcases hx with rfl|rfl <;> (show w.heap.size≤_;simp))))
 clear hW5
 go_wp2
 obtain⟨t1,h1⟩:=hR5
 obtain⟨t2,h2⟩:=hS5
 exact bodyPost_ret (v:=.tuple #[.agg #[.bool a,.bool b],.agg #[.bool c,.bool d]])
  (results_cc (fn:=Tryz.f175) (p:=2) (q:=3) (ty:=204) (ty':=204) rfl _ _ (w.heap.size+1) (w.heap.size+2) _ _ _ _ rfl rfl h1 h2 Tryz.underlying204 Tryz.underlying204 (by kernel_rfl) (by kernel_rfl)) rfl ⟨rfl,X5.out⟩
end Go.Proofs.YtnmnpnofdgdigaaGreatDoor
end
section
namespace Go.Proofs.YtnmnpnofdgdigaaGreatDoor
open Go.RowKit
set_option linter.unusedSimpArgs false
set_option linter.unusedVariables false
set_option maxHeartbeats 4000000 in
set_option maxRecDepth 10000 in
theorem subname_any (x:ItemL) (w:World) (hs:subI x=true):Calls Tryz.prog 124 #[.agg #[.bool x.to,.bool x.out,.bool x.frm,.bool x.inn]] w fun e w'=>e=.returned (.tuple #[.string (wordSub x),.bool x.out,.int .i64 0])∧Below w.heap.size w w':=by
 have HW:Box (wordSub x=if x.to && x.frm then(⟨#[98,111,116,104]⟩:ByteArray) else if x.to then(⟨#[116,111]⟩:ByteArray) else if x.frm then(⟨#[102,114,111,109]⟩:ByteArray) else(⟨#[110,111,110,101]⟩:ByteArray)):=⟨rfl⟩
 unfold subI at hs
 generalize wordSub x=r at *
 generalize x.to=a at *
 generalize x.out=b at *
 generalize x.frm=c at *
 generalize x.inn=d at *
 have HC:=Lib.hid (fun W=>subcheck_any a b c d W)
 have HV:=Lib.hid (fun W=>halves_any a b c d W)
 rw [hs,if_pos rfl] at HC
 clear hs
 have hX0:Below w.heap.size w (w.alloc (.cells #[.bool a,.bool b,.bool c,.bool d] 52)):=(Below.refl _ _).alloc (Nat.le_refl _) _
 obtain⟨W0,hW0⟩:∃W0,W0=w.alloc (.cells #[.bool a,.bool b,.bool c,.bool d] 52):=⟨_,rfl⟩
 rw [←hW0] at hX0
 have R0:Hid (Row W0 w.heap.size #[.bool a,.bool b,.bool c,.bool d]):=Lib.hid (by rw [hW0];exact Row.new w _ _)
 have X0:=Lib.hid hX0
 have HW0:=Lib.hid hW0
 clear hX0 hW0
 cases a <;> cases c
 all_goals
  have h:=HW.out
  simp only [Bool.and_true,Bool.and_false,Bool.and_self,if_true,if_false,Bool.false_eq_true] at h
  subst h
  clear HW
  go_enter Tryz.func124,Tryz.ntmps124
  go_upto_region 1 with fail
  rw [←HW0.out]
  clear HW0
  have k0:W0.cell? ⟨w.heap.size,0,none⟩=some _:=R0.out.at' 0 rfl
  have k1:W0.cell? ⟨w.heap.size,1,none⟩=some _:=R0.out.at' 1 rfl
  have k2:W0.cell? ⟨w.heap.size,2,none⟩=some _:=R0.out.at' 2 rfl
  have k3:W0.cell? ⟨w.heap.size,3,none⟩=some _:=R0.out.at' 3 rfl
  go_wp2_with fail
  refine(HC.out _).mono ?_
  rintro e w1 ⟨rfl,hb1⟩
  have X1:=Lib.hid (X0.out.trans (hb1.mono X0.out.size))
  have R1:=Lib.hid (R0.out.ext hb1)
  clear hb1 k0 k1 k2 k3 R0
  have k0:w1.cell? ⟨w.heap.size,0,none⟩=some _:=R1.out.at' 0 rfl
  have k1:w1.cell? ⟨w.heap.size,1,none⟩=some _:=R1.out.at' 1 rfl
  have k2:w1.cell? ⟨w.heap.size,2,none⟩=some _:=R1.out.at' 2 rfl
  have k3:w1.cell? ⟨w.heap.size,3,none⟩=some _:=R1.out.at' 3 rfl
  go_wp2_with fail
  refine(HV.out _).mono ?_
  rintro e w2 ⟨rfl,hb2⟩
  have X2:=Lib.hid (X1.out.trans (hb2.mono X1.out.size))
  have R2:=Lib.hid (R1.out.ext hb2)
  clear hb2 k0 k1 k2 k3 R1
  go_wp2_with fail
  have X3:=Lib.hid (fun(p q:Value)=>(X2.out.alloc X2.out.size (.cells #[p,.bool b] 204)).alloc (by have:=X2.out.size;simp;omega) (.cells #[q,.bool d] 204))
  have k1:∀p q:Value,((w2.alloc (.cells #[p,.bool b] 204)).alloc (.cells #[q,.bool d] 204)).cell? ⟨w.heap.size,1,none⟩=some (.bool b):=fun p q=>((R2.out.ext ((Below.refl _ _).alloc (Nat.le_refl _) (.cells #[p,.bool b] 204))).ext ((Below.refl _ _).alloc (Nat.le_refl _) (.cells #[q,.bool d] 204))).at' 1 rfl
  go_quiet (fail)
  go_wp2
  go_ret3
  exact⟨rfl,by first|exact X3.out _ _|exact below_drewN (X3.out _ _) _|exact(X3.out _ _).drew⟩
end Go.Proofs.YtnmnpnofdgdigaaGreatDoor
end
section
namespace Go.Proofs.YtnmnpnofdgdigaaGreatDoor
open Go.RowKit
set_option linter.unusedSimpArgs false
set_option linter.unusedVariables false
def cI (x:ItemL) (A:Option Addr) (c:Nat):Array Value:=#[.string x.jid,.string x.name,.slice A x.groups.length c,.bool x.to,.bool x.out,.bool x.frm,.bool x.inn,.bool x.known]
def encT (x:ItemL) (A:Option Addr) (c:Nat):Value:=.agg (cI x A c)
def SzI (x:ItemL):Prop:=x.jid.size≤1000000000∧x.name.size≤1000000000∧x.groups.length≤1000∧∀g∈x.groups,g.size≤1000000000
set_option maxHeartbeats 8000000 in
set_option maxRecDepth 10000 in
theorem ritem_any (x:ItemL) (A:Option Addr) (c:Nat) (w:World) (hz:SzI x) (hr:RdS w A x.groups) (hc:x.groups.length≤c) (hg:Glb w) :
  Calls Tryz.prog 122 #[encT x A c] w fun e w'=>e=.returned (.bool (itemI x))∧Below w.heap.size w w':=by
 obtain⟨W0,hW0⟩:∃W0,W0=w.alloc (.cells (cI x A c) 54):=⟨_,rfl⟩
 have hX0:Below w.heap.size w W0:=by rw [hW0];exact(Below.refl _ _).alloc (Nat.le_refl _) _
 have R0:Hid (Row W0 w.heap.size (cI x A c)):=Lib.hid (by rw [hW0];exact Row.new w _ _)
 have H1:=Lib.hid (raddress_any x.jid W0 hz.1 (hg.below hX0))
 unfold AdrPost at H1
 have HWD:=Lib.hid (fun W (hW:Below w.heap.size w W)=>rwords_any x.name A c x.groups W (RdS.ext hr hW) hc hz.2.2.1 hz.2.2.2 hz.2.1)
 have HCK:=Lib.hid (fun W=>subcheck_any x.to x.out x.frm x.inn W)
 have HSB:Box (subI x=(!(x.to && x.out) && !(x.frm && x.inn))):=⟨rfl⟩
 rw [←HSB.out] at HCK
 have HI:Box (itemI x=(contactI x.jid && wordsR x.name x.groups && subI x && (x.known || strangeI x))):=⟨rfl⟩
 have HST:Box (strangeI x=(isEmp x.name && decide (x.groups.length=0) && (!x.to && !x.out && !x.frm && x.inn))):=⟨rfl⟩
 have el:=emp_iff x.name
 have X0:=Lib.hid hX0
 have HW0:=Lib.hid hW0
 clear hX0 hW0 hz hr hg HSB
 unfold encT cI at *
 generalize itemI x=q at *
 generalize contactI x.jid=cj at *
 generalize wordsR x.name x.groups=wr at *
 generalize subI x=sb at *
 generalize strangeI x=st at *
 generalize x.to=a at *
 generalize x.out=b at *
 generalize x.frm=f at *
 generalize x.inn=d at *
 generalize x.known=kn at *
 generalize parsedJ x.jid=j at *
 obtain⟨jl,jd,jr⟩:=j
 unfold encJ at H1
 cases he:isEmp x.name
 ·rw [he] at el HST
  clear he
  go_enter Tryz.func122,Tryz.ntmps122
  go_upto_region 1 with fail
  rw [←HW0.out]
  clear HW0
  have k0:W0.cell? ⟨w.heap.size,0,none⟩=some _:=R0.out.at' 0 rfl
  have k1:W0.cell? ⟨w.heap.size,1,none⟩=some _:=R0.out.at' 1 rfl
  have k2:W0.cell? ⟨w.heap.size,2,none⟩=some _:=R0.out.at' 2 rfl
  have k3:W0.cell? ⟨w.heap.size,3,none⟩=some _:=R0.out.at' 3 rfl
  have k4:W0.cell? ⟨w.heap.size,4,none⟩=some _:=R0.out.at' 4 rfl
  have k5:W0.cell? ⟨w.heap.size,5,none⟩=some _:=R0.out.at' 5 rfl
  have k6:W0.cell? ⟨w.heap.size,6,none⟩=some _:=R0.out.at' 6 rfl
  have k7:W0.cell? ⟨w.heap.size,7,none⟩=some _:=R0.out.at' 7 rfl
  go_wp2_with fail
  refine H1.out.mono ?_
  rintro e w1 ⟨rfl,hb1⟩
  have X1:=Lib.hid (X0.out.trans (hb1.mono X0.out.size))
  have R1:=Lib.hid (R0.out.ext hb1)
  obtain⟨W2,hW2,hX2,-⟩:=two_vars (fun _=>True) w1 jl jd jr
  have X2:=Lib.hid (X1.out.trans (hX2.mono X1.out.size))
  have R2:=Lib.hid (R1.out.ext hX2)
  clear hb1 hX2 k0 k1 k2 k3 k4 k5 k6 k7 R0 R1 X1 H1 X0
  go_upto_region 2 with fail
  rw [←hW2]
  clear hW2
  have k0:W2.cell? ⟨w.heap.size,0,none⟩=some _:=R2.out.at' 0 rfl
  have k1:W2.cell? ⟨w.heap.size,1,none⟩=some _:=R2.out.at' 1 rfl
  have k2:W2.cell? ⟨w.heap.size,2,none⟩=some _:=R2.out.at' 2 rfl
  have k3:W2.cell? ⟨w.heap.size,3,none⟩=some _:=R2.out.at' 3 rfl
  have k4:W2.cell? ⟨w.heap.size,4,none⟩=some _:=R2.out.at' 4 rfl
  have k5:W2.cell? ⟨w.heap.size,5,none⟩=some _:=R2.out.at' 5 rfl
  have k6:W2.cell? ⟨w.heap.size,6,none⟩=some _:=R2.out.at' 6 rfl
  have k7:W2.cell? ⟨w.heap.size,7,none⟩=some _:=R2.out.at' 7 rfl
  go_upto_region 3 with fail
  all_goals
   cases cj
   ·go_wp2
    go_ret
    exact⟨ret_bool (by rw [HI.out];rfl),X2.out⟩
   ·go_wp2_with fail
    refine(HWD.out _ X2.out).mono ?_
    rintro e w3 ⟨rfl,hb3⟩
    have X3:=Lib.hid (X2.out.trans (hb3.mono X2.out.size))
    have R3:=Lib.hid (R2.out.ext hb3)
    clear hb3 k0 k1 k2 k3 k4 k5 k6 k7 R2 X2 HWD
    cases wr
    ·go_wp2
     go_ret
     exact⟨ret_bool (by rw [HI.out];rfl),X3.out⟩
    ·have k0:w3.cell? ⟨w.heap.size,0,none⟩=some _:=R3.out.at' 0 rfl
     have k1:w3.cell? ⟨w.heap.size,1,none⟩=some _:=R3.out.at' 1 rfl
     have k2:w3.cell? ⟨w.heap.size,2,none⟩=some _:=R3.out.at' 2 rfl
     have k3:w3.cell? ⟨w.heap.size,3,none⟩=some _:=R3.out.at' 3 rfl
     have k4:w3.cell? ⟨w.heap.size,4,none⟩=some _:=R3.out.at' 4 rfl
     have k5:w3.cell? ⟨w.heap.size,5,none⟩=some _:=R3.out.at' 5 rfl
     have k6:w3.cell? ⟨w.heap.size,6,none⟩=some _:=R3.out.at' 6 rfl
     have k7:w3.cell? ⟨w.heap.size,7,none⟩=some _:=R3.out.at' 7 rfl
     go_wp2_with fail
     refine(HCK.out _).mono ?_
     rintro e w4 ⟨rfl,hb4⟩
     have X4:=Lib.hid (X3.out.trans (hb4.mono X3.out.size))
     have R4:=Lib.hid (R3.out.ext hb4)
     clear hb4 k0 k1 k2 k3 k4 k5 k6 k7 R3 X3 HCK
     have k0:w4.cell? ⟨w.heap.size,0,none⟩=some _:=R4.out.at' 0 rfl
     have k1:w4.cell? ⟨w.heap.size,1,none⟩=some _:=R4.out.at' 1 rfl
     have k2:w4.cell? ⟨w.heap.size,2,none⟩=some _:=R4.out.at' 2 rfl
     have k3:w4.cell? ⟨w.heap.size,3,none⟩=some _:=R4.out.at' 3 rfl
     have k4:w4.cell? ⟨w.heap.size,4,none⟩=some _:=R4.out.at' 4 rfl
     have k5:w4.cell? ⟨w.heap.size,5,none⟩=some _:=R4.out.at' 5 rfl
     have k6:w4.cell? ⟨w.heap.size,6,none⟩=some _:=R4.out.at' 6 rfl
     have k7:w4.cell? ⟨w.heap.size,7,none⟩=some _:=R4.out.at' 7 rfl
     cases sb
     ·go_wp2
      go_ret
      exact⟨ret_bool (by rw [HI.out];rfl),X4.out⟩
     ·cases kn
      ·go_wp2
       go_ret
       exact⟨ret_bool (by rw [HI.out,HST.out];rfl),X4.out⟩
      ·go_wp2
       go_ret
       exact⟨ret_bool (by rw [HI.out];rfl),X4.out⟩
 ·rw [he] at el HST
  clear he
  by_cases hg0:x.groups.length=0
  ·rw [decide_eq_true hg0] at HST
   have hg0i:((x.groups.length:Int) == 0)=true:=by simp [hg0]
   clear hg0
   cases a <;> cases b <;> cases f <;> cases d
   all_goals
    go_enter Tryz.func122,Tryz.ntmps122
    go_upto_region 1 with fail
    rw [←HW0.out]
    clear HW0
    have k0:W0.cell? ⟨w.heap.size,0,none⟩=some _:=R0.out.at' 0 rfl
    have k1:W0.cell? ⟨w.heap.size,1,none⟩=some _:=R0.out.at' 1 rfl
    have k2:W0.cell? ⟨w.heap.size,2,none⟩=some _:=R0.out.at' 2 rfl
    have k3:W0.cell? ⟨w.heap.size,3,none⟩=some _:=R0.out.at' 3 rfl
    have k4:W0.cell? ⟨w.heap.size,4,none⟩=some _:=R0.out.at' 4 rfl
    have k5:W0.cell? ⟨w.heap.size,5,none⟩=some _:=R0.out.at' 5 rfl
    have k6:W0.cell? ⟨w.heap.size,6,none⟩=some _:=R0.out.at' 6 rfl
    have k7:W0.cell? ⟨w.heap.size,7,none⟩=some _:=R0.out.at' 7 rfl
    go_wp2_with fail
    refine H1.out.mono ?_
    rintro e w1 ⟨rfl,hb1⟩
    have X1:=Lib.hid (X0.out.trans (hb1.mono X0.out.size))
    have R1:=Lib.hid (R0.out.ext hb1)
    obtain⟨W2,hW2,hX2,-⟩:=two_vars (fun _=>True) w1 jl jd jr
    have X2:=Lib.hid (X1.out.trans (hX2.mono X1.out.size))
    have R2:=Lib.hid (R1.out.ext hX2)
    clear hb1 hX2 k0 k1 k2 k3 k4 k5 k6 k7 R0 R1 X1 H1 X0
    go_upto_region 2 with fail
    rw [←hW2]
    clear hW2
    have k0:W2.cell? ⟨w.heap.size,0,none⟩=some _:=R2.out.at' 0 rfl
    have k1:W2.cell? ⟨w.heap.size,1,none⟩=some _:=R2.out.at' 1 rfl
    have k2:W2.cell? ⟨w.heap.size,2,none⟩=some _:=R2.out.at' 2 rfl
    have k3:W2.cell? ⟨w.heap.size,3,none⟩=some _:=R2.out.at' 3 rfl
    have k4:W2.cell? ⟨w.heap.size,4,none⟩=some _:=R2.out.at' 4 rfl
    have k5:W2.cell? ⟨w.heap.size,5,none⟩=some _:=R2.out.at' 5 rfl
    have k6:W2.cell? ⟨w.heap.size,6,none⟩=some _:=R2.out.at' 6 rfl
    have k7:W2.cell? ⟨w.heap.size,7,none⟩=some _:=R2.out.at' 7 rfl
    go_upto_region 3 with fail
    cases cj
    ·go_wp2
     go_ret
     exact⟨ret_bool (by rw [HI.out];rfl),X2.out⟩
    ·go_wp2_with fail
     refine(HWD.out _ X2.out).mono ?_
     rintro e w3 ⟨rfl,hb3⟩
     have X3:=Lib.hid (X2.out.trans (hb3.mono X2.out.size))
     have R3:=Lib.hid (R2.out.ext hb3)
     clear hb3 k0 k1 k2 k3 k4 k5 k6 k7 R2 X2 HWD
     cases wr
     ·go_wp2
      go_ret
      exact⟨ret_bool (by rw [HI.out];rfl),X3.out⟩
     ·have k0:w3.cell? ⟨w.heap.size,0,none⟩=some _:=R3.out.at' 0 rfl
      have k1:w3.cell? ⟨w.heap.size,1,none⟩=some _:=R3.out.at' 1 rfl
      have k2:w3.cell? ⟨w.heap.size,2,none⟩=some _:=R3.out.at' 2 rfl
      have k3:w3.cell? ⟨w.heap.size,3,none⟩=some _:=R3.out.at' 3 rfl
      have k4:w3.cell? ⟨w.heap.size,4,none⟩=some _:=R3.out.at' 4 rfl
      have k5:w3.cell? ⟨w.heap.size,5,none⟩=some _:=R3.out.at' 5 rfl
      have k6:w3.cell? ⟨w.heap.size,6,none⟩=some _:=R3.out.at' 6 rfl
      have k7:w3.cell? ⟨w.heap.size,7,none⟩=some _:=R3.out.at' 7 rfl
      go_wp2_with fail
      refine(HCK.out _).mono ?_
      rintro e w4 ⟨rfl,hb4⟩
      have X4:=Lib.hid (X3.out.trans (hb4.mono X3.out.size))
      have R4:=Lib.hid (R3.out.ext hb4)
      clear hb4 k0 k1 k2 k3 k4 k5 k6 k7 R3 X3 HCK
      have k0:w4.cell? ⟨w.heap.size,0,none⟩=some _:=R4.out.at' 0 rfl
      have k1:w4.cell? ⟨w.heap.size,1,none⟩=some _:=R4.out.at' 1 rfl
      have k2:w4.cell? ⟨w.heap.size,2,none⟩=some _:=R4.out.at' 2 rfl
      have k3:w4.cell? ⟨w.heap.size,3,none⟩=some _:=R4.out.at' 3 rfl
      have k4:w4.cell? ⟨w.heap.size,4,none⟩=some _:=R4.out.at' 4 rfl
      have k5:w4.cell? ⟨w.heap.size,5,none⟩=some _:=R4.out.at' 5 rfl
      have k6:w4.cell? ⟨w.heap.size,6,none⟩=some _:=R4.out.at' 6 rfl
      have k7:w4.cell? ⟨w.heap.size,7,none⟩=some _:=R4.out.at' 7 rfl
      cases sb
      ·go_wp2
       go_ret
       exact⟨ret_bool (by rw [HI.out];rfl),X4.out⟩
      ·cases kn
       ·go_wp2
        go_ret
        exact⟨ret_bool (by rw [HI.out,HST.out];rfl),X4.out⟩
       ·go_wp2
        go_ret
        exact⟨ret_bool (by rw [HI.out];rfl),X4.out⟩
  ·rw [decide_eq_false hg0] at HST
   have hg0i:((x.groups.length:Int) == 0)=false:=by simp [hg0]
   clear hg0
   go_enter Tryz.func122,Tryz.ntmps122
   go_upto_region 1 with fail
   rw [←HW0.out]
   clear HW0
   have k0:W0.cell? ⟨w.heap.size,0,none⟩=some _:=R0.out.at' 0 rfl
   have k1:W0.cell? ⟨w.heap.size,1,none⟩=some _:=R0.out.at' 1 rfl
   have k2:W0.cell? ⟨w.heap.size,2,none⟩=some _:=R0.out.at' 2 rfl
   have k3:W0.cell? ⟨w.heap.size,3,none⟩=some _:=R0.out.at' 3 rfl
   have k4:W0.cell? ⟨w.heap.size,4,none⟩=some _:=R0.out.at' 4 rfl
   have k5:W0.cell? ⟨w.heap.size,5,none⟩=some _:=R0.out.at' 5 rfl
   have k6:W0.cell? ⟨w.heap.size,6,none⟩=some _:=R0.out.at' 6 rfl
   have k7:W0.cell? ⟨w.heap.size,7,none⟩=some _:=R0.out.at' 7 rfl
   go_wp2_with fail
   refine H1.out.mono ?_
   rintro e w1 ⟨rfl,hb1⟩
   have X1:=Lib.hid (X0.out.trans (hb1.mono X0.out.size))
   have R1:=Lib.hid (R0.out.ext hb1)
   obtain⟨W2,hW2,hX2,-⟩:=two_vars (fun _=>True) w1 jl jd jr
   have X2:=Lib.hid (X1.out.trans (hX2.mono X1.out.size))
   have R2:=Lib.hid (R1.out.ext hX2)
   clear hb1 hX2 k0 k1 k2 k3 k4 k5 k6 k7 R0 R1 X1 H1 X0
   go_upto_region 2 with fail
   rw [←hW2]
   clear hW2
   have k0:W2.cell? ⟨w.heap.size,0,none⟩=some _:=R2.out.at' 0 rfl
   have k1:W2.cell? ⟨w.heap.size,1,none⟩=some _:=R2.out.at' 1 rfl
   have k2:W2.cell? ⟨w.heap.size,2,none⟩=some _:=R2.out.at' 2 rfl
   have k3:W2.cell? ⟨w.heap.size,3,none⟩=some _:=R2.out.at' 3 rfl
   have k4:W2.cell? ⟨w.heap.size,4,none⟩=some _:=R2.out.at' 4 rfl
   have k5:W2.cell? ⟨w.heap.size,5,none⟩=some _:=R2.out.at' 5 rfl
   have k6:W2.cell? ⟨w.heap.size,6,none⟩=some _:=R2.out.at' 6 rfl
   have k7:W2.cell? ⟨w.heap.size,7,none⟩=some _:=R2.out.at' 7 rfl
   go_upto_region 3 with fail
   all_goals
    cases cj
    ·go_wp2
     go_ret
     exact⟨ret_bool (by rw [HI.out];rfl),X2.out⟩
    ·go_wp2_with fail
     refine(HWD.out _ X2.out).mono ?_
     rintro e w3 ⟨rfl,hb3⟩
     have X3:=Lib.hid (X2.out.trans (hb3.mono X2.out.size))
     have R3:=Lib.hid (R2.out.ext hb3)
     clear hb3 k0 k1 k2 k3 k4 k5 k6 k7 R2 X2 HWD
     cases wr
     ·go_wp2
      go_ret
      exact⟨ret_bool (by rw [HI.out];rfl),X3.out⟩
     ·have k0:w3.cell? ⟨w.heap.size,0,none⟩=some _:=R3.out.at' 0 rfl
      have k1:w3.cell? ⟨w.heap.size,1,none⟩=some _:=R3.out.at' 1 rfl
      have k2:w3.cell? ⟨w.heap.size,2,none⟩=some _:=R3.out.at' 2 rfl
      have k3:w3.cell? ⟨w.heap.size,3,none⟩=some _:=R3.out.at' 3 rfl
      have k4:w3.cell? ⟨w.heap.size,4,none⟩=some _:=R3.out.at' 4 rfl
      have k5:w3.cell? ⟨w.heap.size,5,none⟩=some _:=R3.out.at' 5 rfl
      have k6:w3.cell? ⟨w.heap.size,6,none⟩=some _:=R3.out.at' 6 rfl
      have k7:w3.cell? ⟨w.heap.size,7,none⟩=some _:=R3.out.at' 7 rfl
      go_wp2_with fail
      refine(HCK.out _).mono ?_
      rintro e w4 ⟨rfl,hb4⟩
      have X4:=Lib.hid (X3.out.trans (hb4.mono X3.out.size))
      have R4:=Lib.hid (R3.out.ext hb4)
      clear hb4 k0 k1 k2 k3 k4 k5 k6 k7 R3 X3 HCK
      have k0:w4.cell? ⟨w.heap.size,0,none⟩=some _:=R4.out.at' 0 rfl
      have k1:w4.cell? ⟨w.heap.size,1,none⟩=some _:=R4.out.at' 1 rfl
      have k2:w4.cell? ⟨w.heap.size,2,none⟩=some _:=R4.out.at' 2 rfl
      have k3:w4.cell? ⟨w.heap.size,3,none⟩=some _:=R4.out.at' 3 rfl
      have k4:w4.cell? ⟨w.heap.size,4,none⟩=some _:=R4.out.at' 4 rfl
      have k5:w4.cell? ⟨w.heap.size,5,none⟩=some _:=R4.out.at' 5 rfl
      have k6:w4.cell? ⟨w.heap.size,6,none⟩=some _:=R4.out.at' 6 rfl
      have k7:w4.cell? ⟨w.heap.size,7,none⟩=some _:=R4.out.at' 7 rfl
      cases sb
      ·go_wp2
       go_ret
       exact⟨ret_bool (by rw [HI.out];rfl),X4.out⟩
      ·cases kn
       ·go_wp2
        go_ret
        exact⟨ret_bool (by rw [HI.out,HST.out];rfl),X4.out⟩
       ·go_wp2
        go_ret
        exact⟨ret_bool (by rw [HI.out];rfl),X4.out⟩
end Go.Proofs.YtnmnpnofdgdigaaGreatDoor
end
