/- Part 21 of a proof laid in parts, one behind the other; no condition of its own. -/
import Derived.Test.YtnmnpnofdgdigaaGreatDoorZ20
set_option linter.all false
section
namespace Go.Proofs.YtnmnpnofdgdigaaGreatDoor
open Go.RowKit
set_option linter.unusedSimpArgs false
set_option linter.unusedVariables false
set_option maxHeartbeats 16000000 in
set_option maxRecDepth 10000 in
theorem refritem_any (x:ItemL) (A:Option Addr) (c:Nat) (w:World) (hz:SzI x) (hr:RdS w A x.groups) (hc:x.groups.length≤c) :
  Calls Tryz.prog 125 #[encT x A c] w fun e w'=>e=.returned (.bool (itemI x))∧Below w.heap.size w w':=by
 obtain⟨W0,hW0⟩:∃W0,W0=w.alloc (.cells (cI x A c) 54):=⟨_,rfl⟩
 have hX0:Below w.heap.size w W0:=by rw [hW0];exact(Below.refl _ _).alloc (Nat.le_refl _) _
 have R0:Hid (Row W0 w.heap.size (cI x A c)):=Lib.hid (by rw [hW0];exact Row.new w _ _)
 have H1:=Lib.hid (refraddress_any x.jid W0 hz.1)
 unfold AdrPost at H1
 have HWD:=Lib.hid (fun W (hW:Below w.heap.size w W)=>refrwords_any x.name A c x.groups W (RdS.ext hr hW) hc hz.2.2.1 hz.2.2.2 hz.2.1)
 have HCK:=Lib.hid (fun W=>refsubmay_any x.to x.out x.frm x.inn W)
 have HSB:Box (subI x=(!(x.to && x.out) && !(x.frm && x.inn))):=⟨rfl⟩
 rw [←HSB.out] at HCK
 have HI:Box (itemI x=(contactI x.jid && wordsR x.name x.groups && subI x && (x.known || strangeI x))):=⟨rfl⟩
 have HST:Box (strangeI x=(isEmp x.name && decide (x.groups.length=0) && (!x.to && !x.out && !x.frm && x.inn))):=⟨rfl⟩
 have el:=emp_iff x.name
 have X0:=Lib.hid hX0
 have HW0:=Lib.hid hW0
 clear hX0 hW0 hz hr HSB
 unfold encT cI at *
 generalize itemI x=q at *
 generalize contactI x.jid=cj at *
 generalize wordsR x.name x.groups=wr at *
 generalize subI x=sb at *
 generalize strangeI x=st at *
 generalize x.to=a at *
 generalize x.out=b at *
 generalize x.frm=f at *
 generalize x.inn=d at *
 generalize x.known=kn at *
 generalize parsedJ x.jid=j at *
 obtain⟨jl,jd,jr⟩:=j
 unfold encJ at H1
 cases cj
 ·skip
  go_enter Tryz.func125,Tryz.ntmps125
  go_upto_region 1 with fail
  rw [←HW0.out]
  clear HW0
  have k0:W0.cell? ⟨w.heap.size,0,none⟩=some _:=R0.out.at' 0 rfl
  have k1:W0.cell? ⟨w.heap.size,1,none⟩=some _:=R0.out.at' 1 rfl
  have k2:W0.cell? ⟨w.heap.size,2,none⟩=some _:=R0.out.at' 2 rfl
  have k3:W0.cell? ⟨w.heap.size,3,none⟩=some _:=R0.out.at' 3 rfl
  have k4:W0.cell? ⟨w.heap.size,4,none⟩=some _:=R0.out.at' 4 rfl
  have k5:W0.cell? ⟨w.heap.size,5,none⟩=some _:=R0.out.at' 5 rfl
  have k6:W0.cell? ⟨w.heap.size,6,none⟩=some _:=R0.out.at' 6 rfl
  have k7:W0.cell? ⟨w.heap.size,7,none⟩=some _:=R0.out.at' 7 rfl
  go_wp2_with fail
  refine H1.out.mono ?_
  rintro e w1 ⟨rfl,hb1⟩
  have X1:=Lib.hid (X0.out.trans (hb1.mono X0.out.size))
  have R1:=Lib.hid (R0.out.ext hb1)
  obtain⟨W2,hW2,hX2,-⟩:=two_vars (fun _=>True) w1 jl jd jr
  have X2:=Lib.hid (X1.out.trans (hX2.mono X1.out.size))
  have R2:=Lib.hid (R1.out.ext hX2)
  clear hb1 hX2 k0 k1 k2 k3 k4 k5 k6 k7 R0 R1 X1 H1 X0
  go_upto_region 2 with fail
  rw [←hW2]
  clear hW2
  have k0:W2.cell? ⟨w.heap.size,0,none⟩=some _:=R2.out.at' 0 rfl
  have k1:W2.cell? ⟨w.heap.size,1,none⟩=some _:=R2.out.at' 1 rfl
  have k2:W2.cell? ⟨w.heap.size,2,none⟩=some _:=R2.out.at' 2 rfl
  have k3:W2.cell? ⟨w.heap.size,3,none⟩=some _:=R2.out.at' 3 rfl
  have k4:W2.cell? ⟨w.heap.size,4,none⟩=some _:=R2.out.at' 4 rfl
  have k5:W2.cell? ⟨w.heap.size,5,none⟩=some _:=R2.out.at' 5 rfl
  have k6:W2.cell? ⟨w.heap.size,6,none⟩=some _:=R2.out.at' 6 rfl
  have k7:W2.cell? ⟨w.heap.size,7,none⟩=some _:=R2.out.at' 7 rfl
  go_wp2
  go_ret
  exact⟨ret_bool (by rw [HI.out];rfl),X2.out⟩
 ·cases wr
  ·skip
   go_enter Tryz.func125,Tryz.ntmps125
   go_upto_region 1 with fail
   rw [←HW0.out]
   clear HW0
   have k0:W0.cell? ⟨w.heap.size,0,none⟩=some _:=R0.out.at' 0 rfl
   have k1:W0.cell? ⟨w.heap.size,1,none⟩=some _:=R0.out.at' 1 rfl
   have k2:W0.cell? ⟨w.heap.size,2,none⟩=some _:=R0.out.at' 2 rfl
   have k3:W0.cell? ⟨w.heap.size,3,none⟩=some _:=R0.out.at' 3 rfl
   have k4:W0.cell? ⟨w.heap.size,4,none⟩=some _:=R0.out.at' 4 rfl
   have k5:W0.cell? ⟨w.heap.size,5,none⟩=some _:=R0.out.at' 5 rfl
   have k6:W0.cell? ⟨w.heap.size,6,none⟩=some _:=R0.out.at' 6 rfl
   have k7:W0.cell? ⟨w.heap.size,7,none⟩=some _:=R0.out.at' 7 rfl
   go_wp2_with fail
   refine H1.out.mono ?_
   rintro e w1 ⟨rfl,hb1⟩
   have X1:=Lib.hid (X0.out.trans (hb1.mono X0.out.size))
   have R1:=Lib.hid (R0.out.ext hb1)
   obtain⟨W2,hW2,hX2,-⟩:=two_vars (fun _=>True) w1 jl jd jr
   have X2:=Lib.hid (X1.out.trans (hX2.mono X1.out.size))
   have R2:=Lib.hid (R1.out.ext hX2)
   clear hb1 hX2 k0 k1 k2 k3 k4 k5 k6 k7 R0 R1 X1 H1 X0
   go_upto_region 2 with fail
   rw [←hW2]
   clear hW2
   have k0:W2.cell? ⟨w.heap.size,0,none⟩=some _:=R2.out.at' 0 rfl
   have k1:W2.cell? ⟨w.heap.size,1,none⟩=some _:=R2.out.at' 1 rfl
   have k2:W2.cell? ⟨w.heap.size,2,none⟩=some _:=R2.out.at' 2 rfl
   have k3:W2.cell? ⟨w.heap.size,3,none⟩=some _:=R2.out.at' 3 rfl
   have k4:W2.cell? ⟨w.heap.size,4,none⟩=some _:=R2.out.at' 4 rfl
   have k5:W2.cell? ⟨w.heap.size,5,none⟩=some _:=R2.out.at' 5 rfl
   have k6:W2.cell? ⟨w.heap.size,6,none⟩=some _:=R2.out.at' 6 rfl
   have k7:W2.cell? ⟨w.heap.size,7,none⟩=some _:=R2.out.at' 7 rfl
   go_wp2_with fail
   refine(HWD.out _ X2.out).mono ?_
   rintro e w3 ⟨rfl,hb3⟩
   have X3:=Lib.hid (X2.out.trans (hb3.mono X2.out.size))
   have R3:=Lib.hid (R2.out.ext hb3)
   clear hb3 k0 k1 k2 k3 k4 k5 k6 k7 R2 X2 HWD
   have k0:w3.cell? ⟨w.heap.size,0,none⟩=some _:=R3.out.at' 0 rfl
   have k1:w3.cell? ⟨w.heap.size,1,none⟩=some _:=R3.out.at' 1 rfl
   have k2:w3.cell? ⟨w.heap.size,2,none⟩=some _:=R3.out.at' 2 rfl
   have k3:w3.cell? ⟨w.heap.size,3,none⟩=some _:=R3.out.at' 3 rfl
   have k4:w3.cell? ⟨w.heap.size,4,none⟩=some _:=R3.out.at' 4 rfl
   have k5:w3.cell? ⟨w.heap.size,5,none⟩=some _:=R3.out.at' 5 rfl
   have k6:w3.cell? ⟨w.heap.size,6,none⟩=some _:=R3.out.at' 6 rfl
   have k7:w3.cell? ⟨w.heap.size,7,none⟩=some _:=R3.out.at' 7 rfl
   go_wp2
   go_ret
   exact⟨ret_bool (by rw [HI.out];rfl),X3.out⟩
  ·cases sb
   ·skip
    go_enter Tryz.func125,Tryz.ntmps125
    go_upto_region 1 with fail
    rw [←HW0.out]
    clear HW0
    have k0:W0.cell? ⟨w.heap.size,0,none⟩=some _:=R0.out.at' 0 rfl
    have k1:W0.cell? ⟨w.heap.size,1,none⟩=some _:=R0.out.at' 1 rfl
    have k2:W0.cell? ⟨w.heap.size,2,none⟩=some _:=R0.out.at' 2 rfl
    have k3:W0.cell? ⟨w.heap.size,3,none⟩=some _:=R0.out.at' 3 rfl
    have k4:W0.cell? ⟨w.heap.size,4,none⟩=some _:=R0.out.at' 4 rfl
    have k5:W0.cell? ⟨w.heap.size,5,none⟩=some _:=R0.out.at' 5 rfl
    have k6:W0.cell? ⟨w.heap.size,6,none⟩=some _:=R0.out.at' 6 rfl
    have k7:W0.cell? ⟨w.heap.size,7,none⟩=some _:=R0.out.at' 7 rfl
    go_wp2_with fail
    refine H1.out.mono ?_
    rintro e w1 ⟨rfl,hb1⟩
    have X1:=Lib.hid (X0.out.trans (hb1.mono X0.out.size))
    have R1:=Lib.hid (R0.out.ext hb1)
    obtain⟨W2,hW2,hX2,-⟩:=two_vars (fun _=>True) w1 jl jd jr
    have X2:=Lib.hid (X1.out.trans (hX2.mono X1.out.size))
    have R2:=Lib.hid (R1.out.ext hX2)
    clear hb1 hX2 k0 k1 k2 k3 k4 k5 k6 k7 R0 R1 X1 H1 X0
    go_upto_region 2 with fail
    rw [←hW2]
    clear hW2
    have k0:W2.cell? ⟨w.heap.size,0,none⟩=some _:=R2.out.at' 0 rfl
    have k1:W2.cell? ⟨w.heap.size,1,none⟩=some _:=R2.out.at' 1 rfl
    have k2:W2.cell? ⟨w.heap.size,2,none⟩=some _:=R2.out.at' 2 rfl
    have k3:W2.cell? ⟨w.heap.size,3,none⟩=some _:=R2.out.at' 3 rfl
    have k4:W2.cell? ⟨w.heap.size,4,none⟩=some _:=R2.out.at' 4 rfl
    have k5:W2.cell? ⟨w.heap.size,5,none⟩=some _:=R2.out.at' 5 rfl
    have k6:W2.cell? ⟨w.heap.size,6,none⟩=some _:=R2.out.at' 6 rfl
    have k7:W2.cell? ⟨w.heap.size,7,none⟩=some _:=R2.out.at' 7 rfl
    go_wp2_with fail
    refine(HWD.out _ X2.out).mono ?_
    rintro e w3 ⟨rfl,hb3⟩
    have X3:=Lib.hid (X2.out.trans (hb3.mono X2.out.size))
    have R3:=Lib.hid (R2.out.ext hb3)
    clear hb3 k0 k1 k2 k3 k4 k5 k6 k7 R2 X2 HWD
    have k0:w3.cell? ⟨w.heap.size,0,none⟩=some _:=R3.out.at' 0 rfl
    have k1:w3.cell? ⟨w.heap.size,1,none⟩=some _:=R3.out.at' 1 rfl
    have k2:w3.cell? ⟨w.heap.size,2,none⟩=some _:=R3.out.at' 2 rfl
    have k3:w3.cell? ⟨w.heap.size,3,none⟩=some _:=R3.out.at' 3 rfl
    have k4:w3.cell? ⟨w.heap.size,4,none⟩=some _:=R3.out.at' 4 rfl
    have k5:w3.cell? ⟨w.heap.size,5,none⟩=some _:=R3.out.at' 5 rfl
    have k6:w3.cell? ⟨w.heap.size,6,none⟩=some _:=R3.out.at' 6 rfl
    have k7:w3.cell? ⟨w.heap.size,7,none⟩=some _:=R3.out.at' 7 rfl
    go_wp2_with fail
    refine(HCK.out _).mono ?_
    rintro e w4 ⟨rfl,hb4⟩
    have X4:=Lib.hid (X3.out.trans (hb4.mono X3.out.size))
    have R4:=Lib.hid (R3.out.ext hb4)
    clear hb4 k0 k1 k2 k3 k4 k5 k6 k7 R3 X3 HCK
    have k0:w4.cell? ⟨w.heap.size,0,none⟩=some _:=R4.out.at' 0 rfl
    have k1:w4.cell? ⟨w.heap.size,1,none⟩=some _:=R4.out.at' 1 rfl
    have k2:w4.cell? ⟨w.heap.size,2,none⟩=some _:=R4.out.at' 2 rfl
    have k3:w4.cell? ⟨w.heap.size,3,none⟩=some _:=R4.out.at' 3 rfl
    have k4:w4.cell? ⟨w.heap.size,4,none⟩=some _:=R4.out.at' 4 rfl
    have k5:w4.cell? ⟨w.heap.size,5,none⟩=some _:=R4.out.at' 5 rfl
    have k6:w4.cell? ⟨w.heap.size,6,none⟩=some _:=R4.out.at' 6 rfl
    have k7:w4.cell? ⟨w.heap.size,7,none⟩=some _:=R4.out.at' 7 rfl
    go_wp2
    go_ret
    exact⟨ret_bool (by rw [HI.out];rfl),X4.out⟩
   ·cases kn
    ·cases he:isEmp x.name
     ·rw [he] at el HST
      clear he
      go_enter Tryz.func125,Tryz.ntmps125
      go_upto_region 1 with fail
      rw [←HW0.out]
      clear HW0
      have k0:W0.cell? ⟨w.heap.size,0,none⟩=some _:=R0.out.at' 0 rfl
      have k1:W0.cell? ⟨w.heap.size,1,none⟩=some _:=R0.out.at' 1 rfl
      have k2:W0.cell? ⟨w.heap.size,2,none⟩=some _:=R0.out.at' 2 rfl
      have k3:W0.cell? ⟨w.heap.size,3,none⟩=some _:=R0.out.at' 3 rfl
      have k4:W0.cell? ⟨w.heap.size,4,none⟩=some _:=R0.out.at' 4 rfl
      have k5:W0.cell? ⟨w.heap.size,5,none⟩=some _:=R0.out.at' 5 rfl
      have k6:W0.cell? ⟨w.heap.size,6,none⟩=some _:=R0.out.at' 6 rfl
      have k7:W0.cell? ⟨w.heap.size,7,none⟩=some _:=R0.out.at' 7 rfl
      go_wp2_with fail
      refine H1.out.mono ?_
      rintro e w1 ⟨rfl,hb1⟩
      have X1:=Lib.hid (X0.out.trans (hb1.mono X0.out.size))
      have R1:=Lib.hid (R0.out.ext hb1)
      obtain⟨W2,hW2,hX2,-⟩:=two_vars (fun _=>True) w1 jl jd jr
      have X2:=Lib.hid (X1.out.trans (hX2.mono X1.out.size))
      have R2:=Lib.hid (R1.out.ext hX2)
      clear hb1 hX2 k0 k1 k2 k3 k4 k5 k6 k7 R0 R1 X1 H1 X0
      go_upto_region 2 with fail
      rw [←hW2]
      clear hW2
      have k0:W2.cell? ⟨w.heap.size,0,none⟩=some _:=R2.out.at' 0 rfl
      have k1:W2.cell? ⟨w.heap.size,1,none⟩=some _:=R2.out.at' 1 rfl
      have k2:W2.cell? ⟨w.heap.size,2,none⟩=some _:=R2.out.at' 2 rfl
      have k3:W2.cell? ⟨w.heap.size,3,none⟩=some _:=R2.out.at' 3 rfl
      have k4:W2.cell? ⟨w.heap.size,4,none⟩=some _:=R2.out.at' 4 rfl
      have k5:W2.cell? ⟨w.heap.size,5,none⟩=some _:=R2.out.at' 5 rfl
      have k6:W2.cell? ⟨w.heap.size,6,none⟩=some _:=R2.out.at' 6 rfl
      have k7:W2.cell? ⟨w.heap.size,7,none⟩=some _:=R2.out.at' 7 rfl
      go_wp2_with fail
      refine(HWD.out _ X2.out).mono ?_
      rintro e w3 ⟨rfl,hb3⟩
      have X3:=Lib.hid (X2.out.trans (hb3.mono X2.out.size))
      have R3:=Lib.hid (R2.out.ext hb3)
      clear hb3 k0 k1 k2 k3 k4 k5 k6 k7 R2 X2 HWD
      have k0:w3.cell? ⟨w.heap.size,0,none⟩=some _:=R3.out.at' 0 rfl
      have k1:w3.cell? ⟨w.heap.size,1,none⟩=some _:=R3.out.at' 1 rfl
      have k2:w3.cell? ⟨w.heap.size,2,none⟩=some _:=R3.out.at' 2 rfl
      have k3:w3.cell? ⟨w.heap.size,3,none⟩=some _:=R3.out.at' 3 rfl
      have k4:w3.cell? ⟨w.heap.size,4,none⟩=some _:=R3.out.at' 4 rfl
      have k5:w3.cell? ⟨w.heap.size,5,none⟩=some _:=R3.out.at' 5 rfl
      have k6:w3.cell? ⟨w.heap.size,6,none⟩=some _:=R3.out.at' 6 rfl
      have k7:w3.cell? ⟨w.heap.size,7,none⟩=some _:=R3.out.at' 7 rfl
      go_wp2_with fail
      refine(HCK.out _).mono ?_
      rintro e w4 ⟨rfl,hb4⟩
      have X4:=Lib.hid (X3.out.trans (hb4.mono X3.out.size))
      have R4:=Lib.hid (R3.out.ext hb4)
      clear hb4 k0 k1 k2 k3 k4 k5 k6 k7 R3 X3 HCK
      have k0:w4.cell? ⟨w.heap.size,0,none⟩=some _:=R4.out.at' 0 rfl
      have k1:w4.cell? ⟨w.heap.size,1,none⟩=some _:=R4.out.at' 1 rfl
      have k2:w4.cell? ⟨w.heap.size,2,none⟩=some _:=R4.out.at' 2 rfl
      have k3:w4.cell? ⟨w.heap.size,3,none⟩=some _:=R4.out.at' 3 rfl
      have k4:w4.cell? ⟨w.heap.size,4,none⟩=some _:=R4.out.at' 4 rfl
      have k5:w4.cell? ⟨w.heap.size,5,none⟩=some _:=R4.out.at' 5 rfl
      have k6:w4.cell? ⟨w.heap.size,6,none⟩=some _:=R4.out.at' 6 rfl
      have k7:w4.cell? ⟨w.heap.size,7,none⟩=some _:=R4.out.at' 7 rfl
      go_wp2
      go_ret
      exact⟨ret_bool (by rw [HI.out,HST.out];rfl),X4.out⟩
     ·rw [he] at el HST
      clear he
      by_cases hg0:x.groups.length=0
      ·rw [decide_eq_true hg0] at HST
       have hg0i:((x.groups.length:Int) == 0)=true:=by simp [hg0]
       clear hg0
       cases a <;> cases b <;> cases f <;> cases d
       all_goals
        go_enter Tryz.func125,Tryz.ntmps125
        go_upto_region 1 with fail
        rw [←HW0.out]
        clear HW0
        have k0:W0.cell? ⟨w.heap.size,0,none⟩=some _:=R0.out.at' 0 rfl
        have k1:W0.cell? ⟨w.heap.size,1,none⟩=some _:=R0.out.at' 1 rfl
        have k2:W0.cell? ⟨w.heap.size,2,none⟩=some _:=R0.out.at' 2 rfl
        have k3:W0.cell? ⟨w.heap.size,3,none⟩=some _:=R0.out.at' 3 rfl
        have k4:W0.cell? ⟨w.heap.size,4,none⟩=some _:=R0.out.at' 4 rfl
        have k5:W0.cell? ⟨w.heap.size,5,none⟩=some _:=R0.out.at' 5 rfl
        have k6:W0.cell? ⟨w.heap.size,6,none⟩=some _:=R0.out.at' 6 rfl
        have k7:W0.cell? ⟨w.heap.size,7,none⟩=some _:=R0.out.at' 7 rfl
        go_wp2_with fail
        refine H1.out.mono ?_
        rintro e w1 ⟨rfl,hb1⟩
        have X1:=Lib.hid (X0.out.trans (hb1.mono X0.out.size))
        have R1:=Lib.hid (R0.out.ext hb1)
        obtain⟨W2,hW2,hX2,-⟩:=two_vars (fun _=>True) w1 jl jd jr
        have X2:=Lib.hid (X1.out.trans (hX2.mono X1.out.size))
        have R2:=Lib.hid (R1.out.ext hX2)
        clear hb1 hX2 k0 k1 k2 k3 k4 k5 k6 k7 R0 R1 X1 H1 X0
        go_upto_region 2 with fail
        rw [←hW2]
        clear hW2
        have k0:W2.cell? ⟨w.heap.size,0,none⟩=some _:=R2.out.at' 0 rfl
        have k1:W2.cell? ⟨w.heap.size,1,none⟩=some _:=R2.out.at' 1 rfl
        have k2:W2.cell? ⟨w.heap.size,2,none⟩=some _:=R2.out.at' 2 rfl
        have k3:W2.cell? ⟨w.heap.size,3,none⟩=some _:=R2.out.at' 3 rfl
        have k4:W2.cell? ⟨w.heap.size,4,none⟩=some _:=R2.out.at' 4 rfl
        have k5:W2.cell? ⟨w.heap.size,5,none⟩=some _:=R2.out.at' 5 rfl
        have k6:W2.cell? ⟨w.heap.size,6,none⟩=some _:=R2.out.at' 6 rfl
        have k7:W2.cell? ⟨w.heap.size,7,none⟩=some _:=R2.out.at' 7 rfl
        go_wp2_with fail
        refine(HWD.out _ X2.out).mono ?_
        rintro e w3 ⟨rfl,hb3⟩
        have X3:=Lib.hid (X2.out.trans (hb3.mono X2.out.size))
        have R3:=Lib.hid (R2.out.ext hb3)
        clear hb3 k0 k1 k2 k3 k4 k5 k6 k7 R2 X2 HWD
        have k0:w3.cell? ⟨w.heap.size,0,none⟩=some _:=R3.out.at' 0 rfl
        have k1:w3.cell? ⟨w.heap.size,1,none⟩=some _:=R3.out.at' 1 rfl
        have k2:w3.cell? ⟨w.heap.size,2,none⟩=some _:=R3.out.at' 2 rfl
        have k3:w3.cell? ⟨w.heap.size,3,none⟩=some _:=R3.out.at' 3 rfl
        have k4:w3.cell? ⟨w.heap.size,4,none⟩=some _:=R3.out.at' 4 rfl
        have k5:w3.cell? ⟨w.heap.size,5,none⟩=some _:=R3.out.at' 5 rfl
        have k6:w3.cell? ⟨w.heap.size,6,none⟩=some _:=R3.out.at' 6 rfl
        have k7:w3.cell? ⟨w.heap.size,7,none⟩=some _:=R3.out.at' 7 rfl
        go_wp2_with fail
        refine(HCK.out _).mono ?_
        rintro e w4 ⟨rfl,hb4⟩
        have X4:=Lib.hid (X3.out.trans (hb4.mono X3.out.size))
        have R4:=Lib.hid (R3.out.ext hb4)
        clear hb4 k0 k1 k2 k3 k4 k5 k6 k7 R3 X3 HCK
        have k0:w4.cell? ⟨w.heap.size,0,none⟩=some _:=R4.out.at' 0 rfl
        have k1:w4.cell? ⟨w.heap.size,1,none⟩=some _:=R4.out.at' 1 rfl
        have k2:w4.cell? ⟨w.heap.size,2,none⟩=some _:=R4.out.at' 2 rfl
        have k3:w4.cell? ⟨w.heap.size,3,none⟩=some _:=R4.out.at' 3 rfl
        have k4:w4.cell? ⟨w.heap.size,4,none⟩=some _:=R4.out.at' 4 rfl
        have k5:w4.cell? ⟨w.heap.size,5,none⟩=some _:=R4.out.at' 5 rfl
        have k6:w4.cell? ⟨w.heap.size,6,none⟩=some _:=R4.out.at' 6 rfl
        have k7:w4.cell? ⟨w.heap.size,7,none⟩=some _:=R4.out.at' 7 rfl
        go_wp2
        go_ret
        exact⟨ret_bool (by rw [HI.out,HST.out];rfl),X4.out⟩
      ·rw [decide_eq_false hg0] at HST
       have hg0i:((x.groups.length:Int) == 0)=false:=by simp [hg0]
       clear hg0
       go_enter Tryz.func125,Tryz.ntmps125
       go_upto_region 1 with fail
       rw [←HW0.out]
       clear HW0
       have k0:W0.cell? ⟨w.heap.size,0,none⟩=some _:=R0.out.at' 0 rfl
       have k1:W0.cell? ⟨w.heap.size,1,none⟩=some _:=R0.out.at' 1 rfl
       have k2:W0.cell? ⟨w.heap.size,2,none⟩=some _:=R0.out.at' 2 rfl
       have k3:W0.cell? ⟨w.heap.size,3,none⟩=some _:=R0.out.at' 3 rfl
       have k4:W0.cell? ⟨w.heap.size,4,none⟩=some _:=R0.out.at' 4 rfl
       have k5:W0.cell? ⟨w.heap.size,5,none⟩=some _:=R0.out.at' 5 rfl
       have k6:W0.cell? ⟨w.heap.size,6,none⟩=some _:=R0.out.at' 6 rfl
       have k7:W0.cell? ⟨w.heap.size,7,none⟩=some _:=R0.out.at' 7 rfl
       go_wp2_with fail
       refine H1.out.mono ?_
       rintro e w1 ⟨rfl,hb1⟩
       have X1:=Lib.hid (X0.out.trans (hb1.mono X0.out.size))
       have R1:=Lib.hid (R0.out.ext hb1)
       obtain⟨W2,hW2,hX2,-⟩:=two_vars (fun _=>True) w1 jl jd jr
       have X2:=Lib.hid (X1.out.trans (hX2.mono X1.out.size))
       have R2:=Lib.hid (R1.out.ext hX2)
       clear hb1 hX2 k0 k1 k2 k3 k4 k5 k6 k7 R0 R1 X1 H1 X0
       go_upto_region 2 with fail
       rw [←hW2]
       clear hW2
       have k0:W2.cell? ⟨w.heap.size,0,none⟩=some _:=R2.out.at' 0 rfl
       have k1:W2.cell? ⟨w.heap.size,1,none⟩=some _:=R2.out.at' 1 rfl
       have k2:W2.cell? ⟨w.heap.size,2,none⟩=some _:=R2.out.at' 2 rfl
       have k3:W2.cell? ⟨w.heap.size,3,none⟩=some _:=R2.out.at' 3 rfl
       have k4:W2.cell? ⟨w.heap.size,4,none⟩=some _:=R2.out.at' 4 rfl
       have k5:W2.cell? ⟨w.heap.size,5,none⟩=some _:=R2.out.at' 5 rfl
       have k6:W2.cell? ⟨w.heap.size,6,none⟩=some _:=R2.out.at' 6 rfl
       have k7:W2.cell? ⟨w.heap.size,7,none⟩=some _:=R2.out.at' 7 rfl
       go_wp2_with fail
       refine(HWD.out _ X2.out).mono ?_
       rintro e w3 ⟨rfl,hb3⟩
       have X3:=Lib.hid (X2.out.trans (hb3.mono X2.out.size))
       have R3:=Lib.hid (R2.out.ext hb3)
       clear hb3 k0 k1 k2 k3 k4 k5 k6 k7 R2 X2 HWD
       have k0:w3.cell? ⟨w.heap.size,0,none⟩=some _:=R3.out.at' 0 rfl
       have k1:w3.cell? ⟨w.heap.size,1,none⟩=some _:=R3.out.at' 1 rfl
       have k2:w3.cell? ⟨w.heap.size,2,none⟩=some _:=R3.out.at' 2 rfl
       have k3:w3.cell? ⟨w.heap.size,3,none⟩=some _:=R3.out.at' 3 rfl
       have k4:w3.cell? ⟨w.heap.size,4,none⟩=some _:=R3.out.at' 4 rfl
       have k5:w3.cell? ⟨w.heap.size,5,none⟩=some _:=R3.out.at' 5 rfl
       have k6:w3.cell? ⟨w.heap.size,6,none⟩=some _:=R3.out.at' 6 rfl
       have k7:w3.cell? ⟨w.heap.size,7,none⟩=some _:=R3.out.at' 7 rfl
       go_wp2_with fail
       refine(HCK.out _).mono ?_
       rintro e w4 ⟨rfl,hb4⟩
       have X4:=Lib.hid (X3.out.trans (hb4.mono X3.out.size))
       have R4:=Lib.hid (R3.out.ext hb4)
       clear hb4 k0 k1 k2 k3 k4 k5 k6 k7 R3 X3 HCK
       have k0:w4.cell? ⟨w.heap.size,0,none⟩=some _:=R4.out.at' 0 rfl
       have k1:w4.cell? ⟨w.heap.size,1,none⟩=some _:=R4.out.at' 1 rfl
       have k2:w4.cell? ⟨w.heap.size,2,none⟩=some _:=R4.out.at' 2 rfl
       have k3:w4.cell? ⟨w.heap.size,3,none⟩=some _:=R4.out.at' 3 rfl
       have k4:w4.cell? ⟨w.heap.size,4,none⟩=some _:=R4.out.at' 4 rfl
       have k5:w4.cell? ⟨w.heap.size,5,none⟩=some _:=R4.out.at' 5 rfl
       have k6:w4.cell? ⟨w.heap.size,6,none⟩=some _:=R4.out.at' 6 rfl
       have k7:w4.cell? ⟨w.heap.size,7,none⟩=some _:=R4.out.at' 7 rfl
       go_wp2
       go_ret
       exact⟨ret_bool (by rw [HI.out,HST.out];rfl),X4.out⟩
    ·skip
     go_enter Tryz.func125,Tryz.ntmps125
     go_upto_region 1 with fail
     rw [←HW0.out]
     clear HW0
     have k0:W0.cell? ⟨w.heap.size,0,none⟩=some _:=R0.out.at' 0 rfl
     have k1:W0.cell? ⟨w.heap.size,1,none⟩=some _:=R0.out.at' 1 rfl
     have k2:W0.cell? ⟨w.heap.size,2,none⟩=some _:=R0.out.at' 2 rfl
     have k3:W0.cell? ⟨w.heap.size,3,none⟩=some _:=R0.out.at' 3 rfl
     have k4:W0.cell? ⟨w.heap.size,4,none⟩=some _:=R0.out.at' 4 rfl
     have k5:W0.cell? ⟨w.heap.size,5,none⟩=some _:=R0.out.at' 5 rfl
     have k6:W0.cell? ⟨w.heap.size,6,none⟩=some _:=R0.out.at' 6 rfl
     have k7:W0.cell? ⟨w.heap.size,7,none⟩=some _:=R0.out.at' 7 rfl
     go_wp2_with fail
     refine H1.out.mono ?_
     rintro e w1 ⟨rfl,hb1⟩
     have X1:=Lib.hid (X0.out.trans (hb1.mono X0.out.size))
     have R1:=Lib.hid (R0.out.ext hb1)
     obtain⟨W2,hW2,hX2,-⟩:=two_vars (fun _=>True) w1 jl jd jr
     have X2:=Lib.hid (X1.out.trans (hX2.mono X1.out.size))
     have R2:=Lib.hid (R1.out.ext hX2)
     clear hb1 hX2 k0 k1 k2 k3 k4 k5 k6 k7 R0 R1 X1 H1 X0
     go_upto_region 2 with fail
     rw [←hW2]
     clear hW2
     have k0:W2.cell? ⟨w.heap.size,0,none⟩=some _:=R2.out.at' 0 rfl
     have k1:W2.cell? ⟨w.heap.size,1,none⟩=some _:=R2.out.at' 1 rfl
     have k2:W2.cell? ⟨w.heap.size,2,none⟩=some _:=R2.out.at' 2 rfl
     have k3:W2.cell? ⟨w.heap.size,3,none⟩=some _:=R2.out.at' 3 rfl
     have k4:W2.cell? ⟨w.heap.size,4,none⟩=some _:=R2.out.at' 4 rfl
     have k5:W2.cell? ⟨w.heap.size,5,none⟩=some _:=R2.out.at' 5 rfl
     have k6:W2.cell? ⟨w.heap.size,6,none⟩=some _:=R2.out.at' 6 rfl
     have k7:W2.cell? ⟨w.heap.size,7,none⟩=some _:=R2.out.at' 7 rfl
     go_wp2_with fail
     refine(HWD.out _ X2.out).mono ?_
     rintro e w3 ⟨rfl,hb3⟩
     have X3:=Lib.hid (X2.out.trans (hb3.mono X2.out.size))
     have R3:=Lib.hid (R2.out.ext hb3)
     clear hb3 k0 k1 k2 k3 k4 k5 k6 k7 R2 X2 HWD
     have k0:w3.cell? ⟨w.heap.size,0,none⟩=some _:=R3.out.at' 0 rfl
     have k1:w3.cell? ⟨w.heap.size,1,none⟩=some _:=R3.out.at' 1 rfl
     have k2:w3.cell? ⟨w.heap.size,2,none⟩=some _:=R3.out.at' 2 rfl
     have k3:w3.cell? ⟨w.heap.size,3,none⟩=some _:=R3.out.at' 3 rfl
     have k4:w3.cell? ⟨w.heap.size,4,none⟩=some _:=R3.out.at' 4 rfl
     have k5:w3.cell? ⟨w.heap.size,5,none⟩=some _:=R3.out.at' 5 rfl
     have k6:w3.cell? ⟨w.heap.size,6,none⟩=some _:=R3.out.at' 6 rfl
     have k7:w3.cell? ⟨w.heap.size,7,none⟩=some _:=R3.out.at' 7 rfl
     go_wp2_with fail
     refine(HCK.out _).mono ?_
     rintro e w4 ⟨rfl,hb4⟩
     have X4:=Lib.hid (X3.out.trans (hb4.mono X3.out.size))
     have R4:=Lib.hid (R3.out.ext hb4)
     clear hb4 k0 k1 k2 k3 k4 k5 k6 k7 R3 X3 HCK
     have k0:w4.cell? ⟨w.heap.size,0,none⟩=some _:=R4.out.at' 0 rfl
     have k1:w4.cell? ⟨w.heap.size,1,none⟩=some _:=R4.out.at' 1 rfl
     have k2:w4.cell? ⟨w.heap.size,2,none⟩=some _:=R4.out.at' 2 rfl
     have k3:w4.cell? ⟨w.heap.size,3,none⟩=some _:=R4.out.at' 3 rfl
     have k4:w4.cell? ⟨w.heap.size,4,none⟩=some _:=R4.out.at' 4 rfl
     have k5:w4.cell? ⟨w.heap.size,5,none⟩=some _:=R4.out.at' 5 rfl
     have k6:w4.cell? ⟨w.heap.size,6,none⟩=some _:=R4.out.at' 6 rfl
     have k7:w4.cell? ⟨w.heap.size,7,none⟩=some _:=R4.out.at' 7 rfl
     go_wp2
     go_ret
     exact⟨ret_bool (by rw [HI.out];rfl),X4.out⟩
end Go.Proofs.YtnmnpnofdgdigaaGreatDoor
end
section
namespace Go.Proofs.YtnmnpnofdgdigaaGreatDoor
open Go.RowKit
set_option linter.unusedSimpArgs false
set_option linter.unusedVariables false
def ItAt (w:World) (b o:Nat) (x:ItemL):Prop:=∃A c,(∀r v,(cI x A c)[r]? = some v→w.cell? ⟨b,o+r,none⟩=some v)∧x.groups.length≤c∧RdS w A x.groups
def RdI (w:World) (A:Option Addr) (l:List ItemL):Prop:=0 < l.length→∃b off,A=some ⟨b,off,none⟩∧b < w.heap.size∧∀i x,l[i]? = some x→ItAt w b (off+i*8) x
theorem ItAt.ext {w w':World} {b o:Nat} {x:ItemL} (h:ItAt w b o x) (hb:b < w.heap.size) (hx:Below w.heap.size w w'):ItAt w' b o x:=by
 obtain⟨A,c,h1,h2,h3⟩:=h
 exact⟨A,c,fun r v hv=>(hx.cell (p:=⟨b,o+r,none⟩) hb).trans (h1 r v hv),h2,h3.ext hx⟩
theorem RdI.ext {w w':World} {A:Option Addr} {l:List ItemL} (h:RdI w A l) (hx:Below w.heap.size w w'):RdI w' A l:=fun h0=>by
 obtain⟨b,off,h1,h2,h3⟩:=h h0
 exact⟨b,off,h1,Nat.lt_of_lt_of_le h2 hx.size,fun i x hi=>(h3 i x hi).ext h2 hx⟩
def SzL (l:List ItemL):Prop:=l.length≤1000∧∀x∈l,SzI x
section
variable {ops:Array Oper} {w0:World} {Fin:List Ty→Prop} {rest:List Oper} {E:Env} {Ts:List Ty} {o:Oper}
set_option maxRecDepth 10000 in
theorem tw_ldRow {x:Operand} {g:Nat} {ty:TypeId} {fs:Array Field} (cs:Array Value) (hu:Tryz.prog.underlying ty=some (.struct fs)) (hi:(Tryz.prog.info? ty).map (·.size)=some cs.size) (hop:o.op=.load ty x) (hE:evalE E x=some (.pointer (some ⟨g,0,none⟩))) (hc:∀W,Ext w0 W→Row W g cs) (hw:Wd ops o E true)
  (hr:wpT Tryz.prog ops w0 Fin rest (E.put o.dst (.inl (.agg cs))) (.inl (.agg cs) :: Ts)):wpT Tryz.prog ops w0 Fin (o :: rest) E Ts:=
 tw_pure (.agg cs) hw (fun a W hW hs=>by
  have h1:a.eval x=.pointer (some ⟨g,0,none⟩):=evalE_of hE (by rw [hop];simp [Op.operands]) hs
  obtain⟨t,h2⟩:=hc W hW
  have h3:=run_loadVar_row (P:=Tryz.prog) W g t ty _ (0,0) _ h2 hu rfl hi
  unfold execOp
  have h4:(Instr.sureAddr (.pointer (some ⟨g,0,none⟩))).run Tryz.prog W=.ok ⟨g,0,none⟩ W:=by first|rfl|(go_simp;done)|(simp [Instr.sureAddr,asAddr];done)
  simp only [hop,h1,Instr.loadAt,Sem.run_bind,Sem.run_pure,Result.andThen_ok,h4,h3]) hr
theorem wd_un {j:Nat} {b:Bool} {d:Tmp} (h:o.guard=some (j,b)) (hd:(ops[j]?).bind (·.dst)=some d) (hE:E d=.inl undef):Wd ops o E false:=fun a w hs=>by
 have hm:d∈o.looksAt ops:=by
  unfold Oper.looksAt
  rw [h]
  exact List.mem_append_right _ (by simp [hd])
 have hv:=hs d hm
 rw [hE] at hv
 have hv':a.tmps.getD d undef=undef:=hv
 have hq:a.tmps[d]? = none∨a.tmps[d]? = some undef:=by
  cases hx:a.tmps[d]? with
  | none=>exact .inl rfl
  | some x=>
   rw [Array.getD_eq_getD_getElem?,hx] at hv'
   exact .inr (by rw [←hv'];rfl)
 unfold Region.wanted yielded
 rw [h]
 rcases hq with hq|hq <;> (simp only [hd,Option.bind_some,hq];cases b <;> rfl)
theorem tw_ixI {x y:Operand} {b off n c k:Nat} (hk:k < n) (hn:n≤1000000000) (hop:o.op=.indexAddr 65 x y) (hx:evalE E x=some (.slice (some ⟨b,off,none⟩) n c)) (hy:evalE E y=some (.int .i64 (k:Int))) (hw:Wd ops o E true)
  (hr:wpT Tryz.prog ops w0 Fin rest (E.put o.dst (.inl (.pointer (some ⟨b,off+k*8,none⟩)))) (.inl (.pointer (some ⟨b,off+k*8,none⟩)) :: Ts)):wpT Tryz.prog ops w0 Fin (o :: rest) E Ts:=
 tw_pure _ hw (fun a W hW hs=>by
  have h1:a.eval x=_:=evalE_of hx (by rw [hop];simp [Op.operands]) hs
  have h2:a.eval y=_:=evalE_of hy (by rw [hop];simp [Op.operands]) hs
  unfold execOp
  simp only [hop,h1,h2]
  go_simp) hr
theorem tw_ldL8 {x:Operand} {p:Addr} {A:Option Addr} {m c:Nat} (hop:o.op=.load 65 x) (hE:evalE E x=some (.pointer (some p))) (hc:∀W,Ext w0 W→W.cell? p=some (.slice A m c)) (hw:Wd ops o E true)
  (hr:wpT Tryz.prog ops w0 Fin rest (E.put o.dst (.inl (.slice A m c))) (.inl (.slice A m c) :: Ts)):wpT Tryz.prog ops w0 Fin (o :: rest) E Ts:=
 tw_pure (.slice A m c) hw (fun a W hW hs=>by
  have h1:a.eval x=.pointer (some p):=evalE_of hE (by rw [hop];simp [Op.operands]) hs
  have h2:=hc W hW
  unfold execOp
  simp only [hop,h1]
  go_simp) hr
theorem tw_sub1 {x:Operand} {m:Nat} (hm:m≤1000000000) (hop:o.op=.binOp .sub 3 x (.const (.int .i64 1)) 3) (hx:evalE E x=some (.int .i64 ((m+1:Nat):Int))) (hw:Wd ops o E true)
  (hr:wpT Tryz.prog ops w0 Fin rest (E.put o.dst (.inl (.int .i64 (m:Int)))) (.inl (.int .i64 (m:Int)) :: Ts)):wpT Tryz.prog ops w0 Fin (o :: rest) E Ts:=
 tw_pure _ hw (fun a W hW hs=>by
  have h1:a.eval x=_:=evalE_of hx (by rw [hop];simp [Op.operands]) hs
  have h2:a.eval (.const (.int .i64 1))=.int .i64 1:=rfl
  have e:(((m+1:Nat):Int) - 1)=(m:Int):=by omega
  have e2:IntKind.i64.wrap (((m+1:Nat):Int) - 1)=(m:Int):=by rw [e];simp [IntKind.wrap,IntKind.bits,IntKind.signed];omega
  unfold execOp
  simp only [hop,h1,h2]
  go_simp
  rw [e] at e2
  exact e2) hr
set_option maxRecDepth 10000 in
theorem tw_ldIt {x:Operand} {b off:Nat} {t:ItemL} {A:Option Addr} {c:Nat} (hop:o.op=.load 54 x) (hE:evalE E x=some (.pointer (some ⟨b,off,none⟩))) (hc:∀W,Ext w0 W→∀r v,(cI t A c)[r]? = some v→W.cell? ⟨b,off+r,none⟩=some v) (hw:Wd ops o E true)
  (hr:wpT Tryz.prog ops w0 Fin rest (E.put o.dst (.inl (encT t A c))) (.inl (encT t A c) :: Ts)):wpT Tryz.prog ops w0 Fin (o :: rest) E Ts:=
 tw_pure (encT t A c) hw (fun a W hW hs=>by
  have h1:a.eval x=.pointer (some ⟨b,off,none⟩):=evalE_of hE (by rw [hop];simp [Op.operands]) hs
  have h:=hc W hW
  have c0:=h 0 _ rfl
  have c1:=h 1 _ rfl
  have c2:=h 2 _ rfl
  have c3:=h 3 _ rfl
  have c4:=h 4 _ rfl
  have c5:=h 5 _ rfl
  have c6:=h 6 _ rfl
  have c7:=h 7 _ rfl
  rw [Nat.add_zero] at c0
  unfold execOp encT cI
  simp only [hop,h1]
  go_simp
  exact⟨rfl,rfl,rfl,rfl,rfl,rfl,rfl,rfl⟩) hr
end
end Go.Proofs.YtnmnpnofdgdigaaGreatDoor
end
section
namespace Go.Proofs.YtnmnpnofdgdigaaGreatDoor
open Go.RowKit
set_option linter.unusedSimpArgs false
set_option linter.unusedVariables false
def rosErr (l:List ItemL):Int:=if rosI l then 0 else 8
theorem rowOK_0 (l:List ItemL) (x:ItemL):rowOK l 0 x=itemI x:=by unfold rowOK;simp
theorem rowOK_s (l:List ItemL) (m:Nat) (x y:ItemL) (hy:l[m]? = some y):rowOK l (m+1) x=(itemI x && lessJ (parsedJ y.jid) (parsedJ x.jid)):=by unfold rowOK;simp [hy]
set_option maxHeartbeats 16000000 in
set_option maxRecDepth 10000 in
theorem rcheck_any (l:List ItemL) (A:Option Addr) (c:Nat) (w:World) (hz:SzL l) (hr:RdI w A l) (hc:l.length≤c) (hg:Glb w) :
  Calls Tryz.prog 66 #[.agg #[.slice A l.length c,.int .i64 0]] w fun e w'=>e=.returned (.int .i64 (rosErr l))∧Below w.heap.size w w':=by
 obtain⟨W0,hW0⟩:∃W0,W0=w.alloc (.cells #[.slice A l.length c,.int .i64 0] 67):=⟨_,rfl⟩
 have hX0:Below w.heap.size w W0:=by rw [hW0];exact(Below.refl _ _).alloc (Nat.le_refl _) _
 have R0:Hid (Row W0 w.heap.size #[.slice A l.length c,.int .i64 0]):=Lib.hid (by rw [hW0];exact Row.new w _ _)
 have HR:=Lib.hid (hr.ext hX0)
 have HG:=Lib.hid (hg.below hX0)
 have X0:=Lib.hid hX0
 have HZ:=Lib.hid hz
 have hln:=hz.1
 have HI:Box (rosErr l=if rosT l l.length && decide (l.length≤16) then 0 else 8):=⟨rfl⟩
 generalize rosErr l=ri at *
 clear hX0 hr hg hz
 have EI:=Lib.hid (enters_of (P:=Tryz.prog) Tryz.func122 (by kernel_rfl) rfl)
 have EO:=Lib.hid (enters_of (P:=Tryz.prog) Tryz.func123 (by kernel_rfl) rfl)
 go_enter Tryz.func66,Tryz.ntmps66
 go_upto_region 1 with fail
 rw [←hW0]
 clear hW0
 have k0:W0.cell? ⟨w.heap.size,0,none⟩=some _:=R0.out.at' 0 rfl
 have k1:W0.cell? ⟨w.heap.size,1,none⟩=some _:=R0.out.at' 1 rfl
 go_wp2
 clear k0 k1
 go_loopw [3,4,8] (fun _ _ s8 wr=>∃k:Nat,k≤l.length∧s8=.int .i64 k∧Hid (Below W0.heap.size W0 wr)∧Hid (rosT l k=true)) (fun _ _ s8 _=>l.length - (intOf s8).toNat)
 case atStart=>exact⟨0,Nat.zero_le _,rfl,Lib.hid (Below.refl _ _),rfl⟩
 case round=>
  obtain⟨k,hk,rfl,HB,HT⟩:=hrel
  have XR:=Lib.hid (X0.out.trans (HB.out.mono X0.out.size))
  have Rr:=Lib.hid (R0.out.ext HB.out)
  by_cases hlt:k < l.length
  ·obtain⟨x,hx⟩:∃x,l[k]? = some x:=⟨_,List.getElem?_eq_getElem hlt⟩
   have HX:=Lib.hid hx
   obtain⟨b,off,rfl,hb,hcc⟩:=(HR.out.ext HB.out) (by omega)
   have HCC:=Lib.hid hcc
   obtain⟨A',c',hcell,hl',hA'⟩:=hcc k x hx
   have d0:=hcell 0 _ rfl
   have d1:=hcell 1 _ rfl
   have d2:=hcell 2 _ rfl
   have d3:=hcell 3 _ rfl
   have d4:=hcell 4 _ rfl
   have d5:=hcell 5 _ rfl
   have d6:=hcell 6 _ rfl
   have d7:=hcell 7 _ rfl
   rw [Nat.add_zero] at d0
   dsimp only [cI] at d0 d1 d2 d3 d4 d5 d6 d7
   have HZX:=Lib.hid (HZ.out.2 x (List.mem_of_getElem? hx))
   obtain⟨W1,hW1⟩:∃W1,W1=wr.alloc (.cells (cI x A' c') 54):=⟨_,rfl⟩
   have hX1:Below wr.heap.size wr W1:=by rw [hW1];exact(Below.refl _ _).alloc (Nat.le_refl _) _
   have HRA:=Lib.hid (RdS.ext hA' hX1)
   have I1:Hid (Row W1 wr.heap.size (cI x A' c')):=Lib.hid (by rw [hW1];exact Row.new wr _ _)
   have B1:=Lib.hid (HB.out.trans (hX1.mono HB.out.size))
   have Y1:=Lib.hid hX1
   have R1:=Lib.hid (Rr.out.ext hX1)
   have G1:=Lib.hid (HG.out.below B1.out)
   have X1:=Lib.hid (XR.out.trans (hX1.mono XR.out.size))
   have FI:=Lib.hid (fun W (hW:Ext W1.drew W)=>ritem_any x A' c' W HZX.out (RdS.ext HRA.out (ext_below hW)) hl' (G1.out.below (ext_below hW)))
   have GI:=Lib.hid (fun W (hW:Ext W1.drew W)=>I1.out.ext (ext_below hW))
   have GJ:=Lib.hid (fun W (hW:Ext W1.drew W)=>(I1.out.ext (ext_below hW)).at' 0 rfl)
   have GR:=Lib.hid (fun W (hW:Ext W1.drew W)=>(R1.out.ext (ext_below hW)).at' 0 rfl)
   have HNO:=Lib.hid (rosT_no l (k+1) l.length hlt)
   have HSU:Box (rosT l (k+1)=rowOK l k x):=⟨by rw [rosT_succ l k x hx,HT.out,Bool.true_and]⟩
   clear hcell hcc hX1 hA' hx
   unfold cI at hW1
   go_upto_region 4 with fail
   rw [←hW1]
   clear hW1 d0 d1 d2 d3 d4 d5 d6 d7
   rcases Nat.eq_zero_or_pos k with h0|h0
   ·subst h0
    rw [rowOK_0] at HSU
    generalize itemI x=ix at *
    cases ix
    ·refine wp_region_typed rfl (by kernel_rfl) (by kernel_rfl) ?_
     repeat (first|refine tw_skip (wd_un rfl rfl rfl) ?_|refine tw_ldRow (cI x A' c') Tryz.underlying54 (by kernel_rfl) rfl rfl GI.out (wdA rfl) ?_|refine tw_fnB #[encT x A' c'] _ rfl (fun W=>EI.out _ W) rfl (wdA rfl) FI.out ?_|refine tw_skip (wd_no rfl rfl rfl) ?_|refine tw_mv (.inl rfl) rfl (wdA rfl) ?_|refine tw_mv (.inr rfl) rfl (wdA rfl) ?_|refine tw_pickL rfl rfl rfl (wdA rfl) ?_|refine tw_op1 _ rfl rfl (wdA rfl) (fun ρ W hW h1=>by simp only [execOp,h1];go_simp;first|done|rfl) ?_|refine tw_op2 _ rfl rfl rfl (wdA rfl) (fun ρ W hW h1 h2=>by simp only [execOp,h1,h2];go_simp;first|done|rfl) ?_)
     dsimp only [wpT,List.reverse,List.reverseAux,FinT]
     intro W5 hW5 _
     simp only [Act.put,List.setIfInBounds_toArray,List.set_cons_zero,List.set_cons_succ]
     have X5:=Lib.hid (X1.out.trans ((ext_below hW5).mono X1.out.size))
     clear hW5
     go_wp2
     go_ret
     exact⟨ret_int (by rw [HI.out,HNO.out HSU.out];rfl),X5.out⟩
    ·refine wp_region_typed rfl (by kernel_rfl) (by kernel_rfl) ?_
     repeat (first|refine tw_skip (wd_un rfl rfl rfl) ?_|refine tw_ldRow (cI x A' c') Tryz.underlying54 (by kernel_rfl) rfl rfl GI.out (wdA rfl) ?_|refine tw_fnB #[encT x A' c'] _ rfl (fun W=>EI.out _ W) rfl (wdA rfl) FI.out ?_|refine tw_skip (wd_no rfl rfl rfl) ?_|refine tw_mv (.inl rfl) rfl (wdA rfl) ?_|refine tw_mv (.inr rfl) rfl (wdA rfl) ?_|refine tw_pickL rfl rfl rfl (wdA rfl) ?_|refine tw_op1 _ rfl rfl (wdA rfl) (fun ρ W hW h1=>by simp only [execOp,h1];go_simp;first|done|rfl) ?_|refine tw_op2 _ rfl rfl rfl (wdA rfl) (fun ρ W hW h1 h2=>by simp only [execOp,h1,h2];go_simp;first|done|rfl) ?_)
     dsimp only [wpT,List.reverse,List.reverseAux,FinT]
     intro W5 hW5 _
     simp only [Act.put,List.setIfInBounds_toArray,List.set_cons_zero,List.set_cons_succ]
     have B5:=Lib.hid (B1.out.trans ((ext_below hW5).mono B1.out.size))
     clear hW5
     go_wp2
     go_roundw
     case rel=>exact⟨0+1,by omega,by go_num,B5,Lib.hid HSU.out⟩
     case measure=>simp [intOf];omega
   ·obtain⟨m,rfl⟩:∃m,k=m+1:=⟨k - 1,by omega⟩
    obtain⟨y,hy⟩:∃y,l[m]? = some y:=⟨_,List.getElem?_eq_getElem (by omega)⟩
    rw [rowOK_s l m x y hy] at HSU
    have hml:m < l.length:=by omega
    obtain⟨Ay,cy,hcy,-,-⟩:=HCC.out m y hy
    have e0:=hcy 0 _ rfl
    rw [Nat.add_zero] at e0
    dsimp only [cI] at e0
    have GY:=Lib.hid (fun W (hW:Ext W1.drew W)=>((Y1.out.trans ((ext_below hW).mono Y1.out.size)).cell (p:=⟨b,off+m*8,none⟩) hb).trans e0)
    have HZY:=Lib.hid (HZ.out.2 y (List.mem_of_getElem? hy))
    have FO:=Lib.hid (fun W (hW:Ext W1.drew W)=>order_any y.jid x.jid W HZY.out.1 HZX.out.1 (G1.out.below (ext_below hW)))
    have HOG:=Box.mk (ordS_ge y.jid x.jid)
    generalize ordS y.jid x.jid=oo at *
    generalize lessJ (parsedJ y.jid) (parsedJ x.jid)=lj at *
    generalize itemI x=ix at *
    have hgt:decide ((0:Int) < ((m+1:Nat):Int))=true:=by simp
    clear hcy e0 hy
    cases ix
    ·refine wp_region_typed rfl (by kernel_rfl) (by kernel_rfl) ?_
     repeat (first|refine tw_skip (wd_un rfl rfl rfl) ?_|refine tw_ldRow (cI x A' c') Tryz.underlying54 (by kernel_rfl) rfl rfl GI.out (wdA rfl) ?_|refine tw_fnB #[encT x A' c'] _ rfl (fun W=>EI.out _ W) rfl (wdA rfl) FI.out ?_|refine tw_skip (wd_no rfl rfl rfl) ?_|refine tw_mv (.inl rfl) rfl (wdA rfl) ?_|refine tw_mv (.inr rfl) rfl (wdA rfl) ?_|refine tw_pickL rfl rfl rfl (wdA rfl) ?_|refine tw_op1 _ rfl rfl (wdA rfl) (fun ρ W hW h1=>by simp only [execOp,h1];go_simp;first|done|rfl) ?_|refine tw_op2 _ rfl rfl rfl (wdA rfl) (fun ρ W hW h1 h2=>by simp only [execOp,h1,h2];go_simp;first|done|rfl) ?_)
     dsimp only [wpT,List.reverse,List.reverseAux,FinT]
     intro W5 hW5 _
     simp only [Act.put,List.setIfInBounds_toArray,List.set_cons_zero,List.set_cons_succ]
     have X5:=Lib.hid (X1.out.trans ((ext_below hW5).mono X1.out.size))
     clear hW5
     go_wp2
     go_ret
     exact⟨ret_int (by rw [HI.out,HNO.out HSU.out];rfl),X5.out⟩
    ·have hog:=HOG.out
     cases lj
     all_goals
      refine wp_region_typed rfl (by kernel_rfl) (by kernel_rfl) ?_
      repeat (first|refine tw_skip (wd_un rfl rfl rfl) ?_|refine tw_ldRow (cI x A' c') Tryz.underlying54 (by kernel_rfl) rfl rfl GI.out (wdA rfl) ?_|refine tw_fnB #[encT x A' c'] _ rfl (fun W=>EI.out _ W) rfl (wdA rfl) FI.out ?_|refine tw_ldS rfl rfl GJ.out (wdA rfl) ?_|refine tw_ldL8 rfl rfl GR.out (wdA rfl) ?_|refine tw_sub1 (by omega) rfl rfl (wdA rfl) ?_|refine tw_ixI hml (by omega) rfl rfl rfl (wdA rfl) ?_|refine tw_ldS rfl rfl GY.out (wdA rfl) ?_|refine tw_fnB #[.string y.jid,.string x.jid] _ rfl (fun W=>EO.out _ W) rfl (wdA rfl) FO.out ?_|refine tw_skip (wd_no rfl rfl rfl) ?_|refine tw_mv (.inl rfl) rfl (wdA rfl) ?_|refine tw_mv (.inr rfl) rfl (wdA rfl) ?_|refine tw_pickL rfl rfl rfl (wdA rfl) ?_|refine tw_op1 _ rfl rfl (wdA rfl) (fun ρ W hW h1=>by simp only [execOp,h1];go_simp;first|done|rfl) ?_|refine tw_op2 _ rfl rfl rfl (wdA rfl) (fun ρ W hW h1 h2=>by simp only [execOp,h1,h2];go_simp;first|done|rfl) ?_)
      dsimp only [wpT,List.reverse,List.reverseAux,FinT]
      intro W5 hW5 _
      simp only [Act.put,List.setIfInBounds_toArray,List.set_cons_zero,List.set_cons_succ]
      have X5:=Lib.hid (X1.out.trans ((ext_below hW5).mono X1.out.size))
      have B5:=Lib.hid (B1.out.trans ((ext_below hW5).mono B1.out.size))
      clear hW5
     ·go_wp2
      go_ret
      exact⟨ret_int (by rw [HI.out,HNO.out HSU.out];rfl),X5.out⟩
     ·go_wp2
      go_roundw
      case rel=>exact⟨m+1+1,by omega,by go_num,B5,Lib.hid HSU.out⟩
      case measure=>simp [intOf];omega
  ·obtain rfl:k=l.length:=by omega
   have HIw:Box (ri=if decide (l.length≤16) then 0 else 8):=⟨by rw [HI.out,HT.out,Bool.true_and]⟩
   have k0:wr.cell? ⟨w.heap.size,0,none⟩=some _:=Rr.out.at' 0 rfl
   have k1:wr.cell? ⟨w.heap.size,1,none⟩=some _:=Rr.out.at' 1 rfl
   by_cases h16:l.length≤16
   ·have h16i:¬((l.length:Int) > 16):=by omega
    rw [decide_eq_true h16] at HIw
    go_wp2
    go_ret
    exact⟨ret_int (by rw [HIw.out];rfl),XR.out⟩
   ·have h16i:((l.length:Int) > 16):=by omega
    rw [decide_eq_false h16] at HIw
    go_wp2
    go_ret
    exact⟨ret_int (by rw [HIw.out];rfl),XR.out⟩
end Go.Proofs.YtnmnpnofdgdigaaGreatDoor
end
