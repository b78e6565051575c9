/- Part 36 of a proof laid in parts, one behind the other; no condition of its own. -/
import Derived.Test.YtnmnpnofdgdigaaGreatDoorZ35
set_option linter.all false
section
namespace Go.Proofs.YtnmnpnofdgdigaaGreatDoor
open Go.RowKit
set_option linter.unusedSimpArgs false
set_option linter.unusedVariables false
def AskP (s:StL) (w:World) (e:Ending) (w':World):Prop:=
 ∃A c,e=.returned (.tuple #[encW (askR s) A c,.int .i64 (askE s)])∧(askR s).groups.length≤c∧RdSB w.heap.size w' A (askR s).groups∧Below w.heap.size w w'
theorem AskP.err {s:StL} {w w':World} {e:Int} (he:askE s=e) (h0:e≠0) (h:Below w.heap.size w w'):AskP s w (.returned (.tuple #[encW emW none 0,.int .i64 e])) w':=by
 unfold AskP askR
 rw [he,if_neg h0]
 exact⟨none,0,rfl,Nat.le_refl _,fun h0=>absurd h0 (by decide),h⟩
theorem AskP.ok {s:StL} {w w':World} {A:Option Addr} {c:Nat} (he:askE s=0) (hl:(askW s).groups.length≤c) (hr:RdSB w.heap.size w' A (askW s).groups) (h:Below w.heap.size w w'):AskP s w (.returned (.tuple #[encW (askW s) A c,.int .i64 0])) w':=by
 unfold AskP askR
 rw [he,if_pos rfl]
 exact⟨A,c,rfl,hl,hr,h⟩
set_option maxHeartbeats 16000000 in
set_option maxRecDepth 10000 in
theorem refask_any (s:StL) (A:Option Addr) (c:Nat) (w:World) (hz:SzS s) (hr:RdW w w.heap.size A s.load) (hres:stnI s=true→(askW s).res.size≤1000000000) :
  Calls Tryz.prog 20 #[encS s A c] w (AskP s w):=by
 obtain⟨W0,hW0,hX0,hs0,hR0,hB0⟩:=asked_start s A c w
 have hrl:RdW W0 W0.heap.size A s.load:=RdW.ext hr hX0
 have HM:=Lib.hid (refsmay_any s A c W0 hz hrl)
 have HEE:Box (askE s=if stnI s then(if s.kind=3 then(if resBad (askW s) then 220 else 0) else 2) else 8):=⟨rfl⟩
 have HAS:=Lib.hid (fun(h:stnI s=true) W (hW:Below W0.heap.size W0 W)=>refasked_any s A c W hz (RdW.ext hrl hW) (stn_trees h))
 have HRS:=Lib.hid hres
 have HX0:=Lib.hid hX0
 have HR0:=Lib.hid hR0
 have HB0:=Lib.hid hB0
 have HW0:=Lib.hid hW0
 have hgl:=hR0.lt
 have hkz:=hz.1
 clear hW0 hX0 hR0 hB0 hr hz hrl hres
 unfold AskedPost at HAS
 unfold encS at *
 have HRB:Box (resBad (askW s)=(!isEmp (askW s).res && !resI (askW s).res)):=⟨rfl⟩
 have HAO:=Lib.hid (fun(h:askE s=0) w' (A5:Option Addr) (c5:Nat) h1 h2 h3=>AskP.ok (w:=w) (w':=w') (A:=A5) (c:=c5) h h1 h2 h3)
 have HAE:=Lib.hid (fun(e:Int) (h:askE s=e) (h0:e≠0) w' h3=>AskP.err (w:=w) (w':=w') h h0 h3)
 generalize askW s=x at *
 go_enter Tryz.func20,Tryz.ntmps20
 go_upto_region 1 with fail
 rw [←HW0.out]
 have k0:W0.cell? ⟨w.heap.size,0,none⟩=some _:=HB0.out.at' 0 rfl
 have k1:W0.cell? ⟨w.heap.size,1,none⟩=some _:=HB0.out.at' 1 rfl
 have k2:W0.cell? ⟨w.heap.size,2,none⟩=some _:=HB0.out.at' 2 rfl
 have k3:W0.cell? ⟨w.heap.size,3,none⟩=some _:=HB0.out.at' 3 rfl
 have k4:W0.cell? ⟨w.heap.size,4,none⟩=some _:=HB0.out.at' 4 rfl
 have k5:W0.cell? ⟨w.heap.size,5,none⟩=some _:=HB0.out.at' 5 rfl
 go_wp2_with fail
 refine HM.out.mono ?_
 rintro e w1 ⟨rfl,hb1⟩
 have X1:=Lib.hid (HX0.out.trans (hb1.mono HX0.out.size))
 have Y1:=Lib.hid hb1
 have Q1:=Lib.hid (HR0.out.ext hb1)
 have B1:=Lib.hid (HB0.out.ext hb1)
 have hs1:=X1.out.size
 have hgl1:=Q1.out.lt
 clear k0 k1 k2 k3 k4 k5 hb1 HM HB0 HR0
 cases hst:stnI s
 ·have HE:=Lib.hid (HAE.out 8 (by rw [HEE.out,hst];rfl) (by decide))
  have z0:w1.cell? ⟨w.heap.size+1,0,none⟩=some _:=Q1.out.at' 0 rfl
  have z1:w1.cell? ⟨w.heap.size+1,1,none⟩=some _:=Q1.out.at' 1 rfl
  have z2:w1.cell? ⟨w.heap.size+1,2,none⟩=some _:=Q1.out.at' 2 rfl
  have z3:w1.cell? ⟨w.heap.size+1,3,none⟩=some _:=Q1.out.at' 3 rfl
  have z4:w1.cell? ⟨w.heap.size+1,4,none⟩=some _:=Q1.out.at' 4 rfl
  have z5:w1.cell? ⟨w.heap.size+1,5,none⟩=some _:=Q1.out.at' 5 rfl
  have z6:w1.cell? ⟨w.heap.size+1,6,none⟩=some _:=Q1.out.at' 6 rfl
  have z7:w1.cell? ⟨w.heap.size+1,7,none⟩=some _:=Q1.out.at' 7 rfl
  have z8:w1.cell? ⟨w.heap.size+1,8,none⟩=some _:=Q1.out.at' 8 rfl
  have z9:w1.cell? ⟨w.heap.size+1,9,none⟩=some _:=Q1.out.at' 9 rfl
  have z10:w1.cell? ⟨w.heap.size+1,10,none⟩=some _:=Q1.out.at' 10 rfl
  have f0:w1.frozen? ⟨w.heap.size+1,0,none⟩=false:=Q1.out.fz 0
  have f1:w1.frozen? ⟨w.heap.size+1,1,none⟩=false:=Q1.out.fz 1
  have f2:w1.frozen? ⟨w.heap.size+1,2,none⟩=false:=Q1.out.fz 2
  have f3:w1.frozen? ⟨w.heap.size+1,3,none⟩=false:=Q1.out.fz 3
  have f4:w1.frozen? ⟨w.heap.size+1,4,none⟩=false:=Q1.out.fz 4
  have f5:w1.frozen? ⟨w.heap.size+1,5,none⟩=false:=Q1.out.fz 5
  have f6:w1.frozen? ⟨w.heap.size+1,6,none⟩=false:=Q1.out.fz 6
  have f7:w1.frozen? ⟨w.heap.size+1,7,none⟩=false:=Q1.out.fz 7
  have f8:w1.frozen? ⟨w.heap.size+1,8,none⟩=false:=Q1.out.fz 8
  have f9:w1.frozen? ⟨w.heap.size+1,9,none⟩=false:=Q1.out.fz 9
  have f10:w1.frozen? ⟨w.heap.size+1,10,none⟩=false:=Q1.out.fz 10
  go_wp2
  exact bodyPost_ret (v:=.tuple #[encW emW none 0,.int .i64 8])
   (by
    obtain⟨tt,hh⟩:=put11_row Q1.out (.int .u8 0) (.string ⟨#[]⟩) (.string ⟨#[]⟩) (.string ⟨#[]⟩) (.slice none 0 0) (.bool false) (.bool false) (.bool false) (.bool false) (.bool false) (.bool false)
    exact results_jid (fn:=Tryz.f20) (p:=2) (s:=3) (ty:=56) rfl _ _ (w.heap.size+1) _ _ _ _ rfl rfl hh Tryz.underlying56 (by kernel_rfl)) rfl
   (HE.out _ (put11_below X1.out (by omega) _ _ _ _ _ _ _ _ _ _ _))
 ·have k0:w1.cell? ⟨w.heap.size,0,none⟩=some _:=B1.out.at' 0 rfl
  have k1:w1.cell? ⟨w.heap.size,1,none⟩=some _:=B1.out.at' 1 rfl
  have k2:w1.cell? ⟨w.heap.size,2,none⟩=some _:=B1.out.at' 2 rfl
  have k3:w1.cell? ⟨w.heap.size,3,none⟩=some _:=B1.out.at' 3 rfl
  have k4:w1.cell? ⟨w.heap.size,4,none⟩=some _:=B1.out.at' 4 rfl
  have k5:w1.cell? ⟨w.heap.size,5,none⟩=some _:=B1.out.at' 5 rfl
  by_cases hk:s.kind=3
  ·have hkn:(s.kind != 3)=false:=by simp [hk]
   have HA5:=Lib.hid (HAS.out hst w1 Y1.out)
   have HEF:Box (askE s=if resBad x then 220 else 0):=⟨by rw [HEE.out,hst,if_pos rfl,if_pos hk]⟩
   have HRZ:=Lib.hid (HRS.out hst)
   clear hk hst HRS HAS HEE
   go_wp2_with fail
   refine HA5.out.mono ?_
   rintro e w2 ⟨A5,c5,rfl,hl5,hr5,hb2⟩
   have X2:=Lib.hid (X1.out.trans (hb2.mono X1.out.size))
   have Q2:=Lib.hid (Q1.out.ext hb2)
   have HRD:=Lib.hid hr5
   have hs2:=hb2.size
   clear k0 k1 k2 k3 k4 k5 hb2 hr5 HA5 B1 Q1
   obtain⟨W3,hW3⟩:∃W3,W3=w2.alloc (.cells #[.int .u8 x.kind,.string x.res,.string x.jid,.string x.name,.slice A5 x.groups.length c5,.bool false,.bool false,.bool false,.bool false,.bool false,.bool x.gone] 56):=⟨_,rfl⟩
   have hX3:Below w2.heap.size w2 W3:=by rw [hW3];exact(Below.refl _ _).alloc (Nat.le_refl _) _
   have P3:Hid (Row W3 w2.heap.size #[.int .u8 x.kind,.string x.res,.string x.jid,.string x.name,.slice A5 x.groups.length c5,.bool false,.bool false,.bool false,.bool false,.bool false,.bool x.gone]):=Lib.hid (by rw [hW3];exact Row.new w2 _ _)
   have X3:=Lib.hid (X2.out.trans (hX3.mono X2.out.size))
   have Q3:=Lib.hid (Q2.out.ext hX3)
   have HRD3:=Lib.hid (HRD.out.keep hX3.size (fun b hb1 hb2=>hX3.block b hb2))
   have hp3:=P3.out.lt
   have hne:w2.heap.size≠w.heap.size+1:=by omega
   have HRV:=Lib.hid (refres_any x.res W3 HRZ.out)
   have hemp:=emp_iff x.res
   unfold encW
   go_upto_region 6 with fail
   rw [←hW3]
   have a0:W3.cell? ⟨w2.heap.size,0,none⟩=some _:=P3.out.at' 0 rfl
   have a1:W3.cell? ⟨w2.heap.size,1,none⟩=some _:=P3.out.at' 1 rfl
   have a2:W3.cell? ⟨w2.heap.size,2,none⟩=some _:=P3.out.at' 2 rfl
   have a3:W3.cell? ⟨w2.heap.size,3,none⟩=some _:=P3.out.at' 3 rfl
   have a4:W3.cell? ⟨w2.heap.size,4,none⟩=some _:=P3.out.at' 4 rfl
   have a5:W3.cell? ⟨w2.heap.size,5,none⟩=some _:=P3.out.at' 5 rfl
   have a6:W3.cell? ⟨w2.heap.size,6,none⟩=some _:=P3.out.at' 6 rfl
   have a7:W3.cell? ⟨w2.heap.size,7,none⟩=some _:=P3.out.at' 7 rfl
   have a8:W3.cell? ⟨w2.heap.size,8,none⟩=some _:=P3.out.at' 8 rfl
   have a9:W3.cell? ⟨w2.heap.size,9,none⟩=some _:=P3.out.at' 9 rfl
   have a10:W3.cell? ⟨w2.heap.size,10,none⟩=some _:=P3.out.at' 10 rfl
   clear hW3 hX3
   cases c1:isEmp x.res
   ·rw [c1] at hemp
    cases c2:resI x.res
    ·rw [c2] at HRV
     have HE:=Lib.hid (HAE.out 220 (by rw [HEF.out,HRB.out,c1,c2];rfl) (by decide))
     clear HAO HAE HEF HRB
     go_wp2_with fail
     refine HRV.out.mono ?_
     rintro e w4 ⟨rfl,hb4⟩
     have X4:=Lib.hid (X3.out.trans (hb4.mono X3.out.size))
     have Q4:=Lib.hid (Q3.out.ext hb4)
     clear a0 a1 a2 a3 a4 a5 a6 a7 a8 a9 a10
     clear hb4
     have z0:w4.cell? ⟨w.heap.size+1,0,none⟩=some _:=Q4.out.at' 0 rfl
     have z1:w4.cell? ⟨w.heap.size+1,1,none⟩=some _:=Q4.out.at' 1 rfl
     have z2:w4.cell? ⟨w.heap.size+1,2,none⟩=some _:=Q4.out.at' 2 rfl
     have z3:w4.cell? ⟨w.heap.size+1,3,none⟩=some _:=Q4.out.at' 3 rfl
     have z4:w4.cell? ⟨w.heap.size+1,4,none⟩=some _:=Q4.out.at' 4 rfl
     have z5:w4.cell? ⟨w.heap.size+1,5,none⟩=some _:=Q4.out.at' 5 rfl
     have z6:w4.cell? ⟨w.heap.size+1,6,none⟩=some _:=Q4.out.at' 6 rfl
     have z7:w4.cell? ⟨w.heap.size+1,7,none⟩=some _:=Q4.out.at' 7 rfl
     have z8:w4.cell? ⟨w.heap.size+1,8,none⟩=some _:=Q4.out.at' 8 rfl
     have z9:w4.cell? ⟨w.heap.size+1,9,none⟩=some _:=Q4.out.at' 9 rfl
     have z10:w4.cell? ⟨w.heap.size+1,10,none⟩=some _:=Q4.out.at' 10 rfl
     have f0:w4.frozen? ⟨w.heap.size+1,0,none⟩=false:=Q4.out.fz 0
     have f1:w4.frozen? ⟨w.heap.size+1,1,none⟩=false:=Q4.out.fz 1
     have f2:w4.frozen? ⟨w.heap.size+1,2,none⟩=false:=Q4.out.fz 2
     have f3:w4.frozen? ⟨w.heap.size+1,3,none⟩=false:=Q4.out.fz 3
     have f4:w4.frozen? ⟨w.heap.size+1,4,none⟩=false:=Q4.out.fz 4
     have f5:w4.frozen? ⟨w.heap.size+1,5,none⟩=false:=Q4.out.fz 5
     have f6:w4.frozen? ⟨w.heap.size+1,6,none⟩=false:=Q4.out.fz 6
     have f7:w4.frozen? ⟨w.heap.size+1,7,none⟩=false:=Q4.out.fz 7
     have f8:w4.frozen? ⟨w.heap.size+1,8,none⟩=false:=Q4.out.fz 8
     have f9:w4.frozen? ⟨w.heap.size+1,9,none⟩=false:=Q4.out.fz 9
     have f10:w4.frozen? ⟨w.heap.size+1,10,none⟩=false:=Q4.out.fz 10
     go_wp2
     exact bodyPost_ret (v:=.tuple #[encW emW none 0,.int .i64 220])
      (by
       obtain⟨tt,hh⟩:=put11_row Q4.out (.int .u8 0) (.string ⟨#[]⟩) (.string ⟨#[]⟩) (.string ⟨#[]⟩) (.slice none 0 0) (.bool false) (.bool false) (.bool false) (.bool false) (.bool false) (.bool false)
       exact results_jid (fn:=Tryz.f20) (p:=2) (s:=3) (ty:=56) rfl _ _ (w.heap.size+1) _ _ _ _ rfl rfl hh Tryz.underlying56 (by kernel_rfl)) rfl
      (HE.out _ (put11_below X4.out (by omega) _ _ _ _ _ _ _ _ _ _ _))
    ·rw [c2] at HRV
     have HE:=Lib.hid (HAO.out (by rw [HEF.out,HRB.out,c1,c2];rfl))
     clear HAO HAE HEF HRB
     go_wp2_with fail
     refine HRV.out.mono ?_
     rintro e w4 ⟨rfl,hb4⟩
     have X4:=Lib.hid (X3.out.trans (hb4.mono X3.out.size))
     have Q4:=Lib.hid (Q3.out.ext hb4)
     have P4:=Lib.hid (P3.out.ext hb4)
     have HRD4:=Lib.hid (HRD3.out.keep hb4.size (fun b hb1 hb2=>hb4.block b hb2))
     clear a0 a1 a2 a3 a4 a5 a6 a7 a8 a9 a10
     have a0:w4.cell? ⟨w2.heap.size,0,none⟩=some _:=P4.out.at' 0 rfl
     have a1:w4.cell? ⟨w2.heap.size,1,none⟩=some _:=P4.out.at' 1 rfl
     have a2:w4.cell? ⟨w2.heap.size,2,none⟩=some _:=P4.out.at' 2 rfl
     have a3:w4.cell? ⟨w2.heap.size,3,none⟩=some _:=P4.out.at' 3 rfl
     have a4:w4.cell? ⟨w2.heap.size,4,none⟩=some _:=P4.out.at' 4 rfl
     have a5:w4.cell? ⟨w2.heap.size,5,none⟩=some _:=P4.out.at' 5 rfl
     have a6:w4.cell? ⟨w2.heap.size,6,none⟩=some _:=P4.out.at' 6 rfl
     have a7:w4.cell? ⟨w2.heap.size,7,none⟩=some _:=P4.out.at' 7 rfl
     have a8:w4.cell? ⟨w2.heap.size,8,none⟩=some _:=P4.out.at' 8 rfl
     have a9:w4.cell? ⟨w2.heap.size,9,none⟩=some _:=P4.out.at' 9 rfl
     have a10:w4.cell? ⟨w2.heap.size,10,none⟩=some _:=P4.out.at' 10 rfl
     clear hb4
     have z0:w4.cell? ⟨w.heap.size+1,0,none⟩=some _:=Q4.out.at' 0 rfl
     have z1:w4.cell? ⟨w.heap.size+1,1,none⟩=some _:=Q4.out.at' 1 rfl
     have z2:w4.cell? ⟨w.heap.size+1,2,none⟩=some _:=Q4.out.at' 2 rfl
     have z3:w4.cell? ⟨w.heap.size+1,3,none⟩=some _:=Q4.out.at' 3 rfl
     have z4:w4.cell? ⟨w.heap.size+1,4,none⟩=some _:=Q4.out.at' 4 rfl
     have z5:w4.cell? ⟨w.heap.size+1,5,none⟩=some _:=Q4.out.at' 5 rfl
     have z6:w4.cell? ⟨w.heap.size+1,6,none⟩=some _:=Q4.out.at' 6 rfl
     have z7:w4.cell? ⟨w.heap.size+1,7,none⟩=some _:=Q4.out.at' 7 rfl
     have z8:w4.cell? ⟨w.heap.size+1,8,none⟩=some _:=Q4.out.at' 8 rfl
     have z9:w4.cell? ⟨w.heap.size+1,9,none⟩=some _:=Q4.out.at' 9 rfl
     have z10:w4.cell? ⟨w.heap.size+1,10,none⟩=some _:=Q4.out.at' 10 rfl
     have f0:w4.frozen? ⟨w.heap.size+1,0,none⟩=false:=Q4.out.fz 0
     have f1:w4.frozen? ⟨w.heap.size+1,1,none⟩=false:=Q4.out.fz 1
     have f2:w4.frozen? ⟨w.heap.size+1,2,none⟩=false:=Q4.out.fz 2
     have f3:w4.frozen? ⟨w.heap.size+1,3,none⟩=false:=Q4.out.fz 3
     have f4:w4.frozen? ⟨w.heap.size+1,4,none⟩=false:=Q4.out.fz 4
     have f5:w4.frozen? ⟨w.heap.size+1,5,none⟩=false:=Q4.out.fz 5
     have f6:w4.frozen? ⟨w.heap.size+1,6,none⟩=false:=Q4.out.fz 6
     have f7:w4.frozen? ⟨w.heap.size+1,7,none⟩=false:=Q4.out.fz 7
     have f8:w4.frozen? ⟨w.heap.size+1,8,none⟩=false:=Q4.out.fz 8
     have f9:w4.frozen? ⟨w.heap.size+1,9,none⟩=false:=Q4.out.fz 9
     have f10:w4.frozen? ⟨w.heap.size+1,10,none⟩=false:=Q4.out.fz 10
     go_wp2
     exact bodyPost_ret (v:=.tuple #[encW x A5 c5,.int .i64 0])
      (by
       obtain⟨tt,hh⟩:=put11_row Q4.out (.int .u8 x.kind) (.string x.res) (.string x.jid) (.string x.name) (.slice A5 x.groups.length c5) (.bool false) (.bool false) (.bool false) (.bool false) (.bool false) (.bool x.gone)
       exact results_jid (fn:=Tryz.f20) (p:=2) (s:=3) (ty:=56) rfl _ _ (w.heap.size+1) _ _ _ _ rfl rfl hh Tryz.underlying56 (by kernel_rfl)) rfl
      (HE.out _ _ _ hl5 ((HRD4.out.keep (put11_size _ _ _ _ _ _ _ _ _ _ _ _ _) (fun b hb1 hb2=>put11_other (by omega) _ _ _ _ _ _ _ _ _ _ _)).mono (by omega)) (put11_below X4.out (by omega) _ _ _ _ _ _ _ _ _ _ _))
   ·rw [c1] at hemp
    have HE:=Lib.hid (HAO.out (by rw [HEF.out,HRB.out,c1];rfl))
    clear HAO HAE HEF HRB
    have z0:W3.cell? ⟨w.heap.size+1,0,none⟩=some _:=Q3.out.at' 0 rfl
    have z1:W3.cell? ⟨w.heap.size+1,1,none⟩=some _:=Q3.out.at' 1 rfl
    have z2:W3.cell? ⟨w.heap.size+1,2,none⟩=some _:=Q3.out.at' 2 rfl
    have z3:W3.cell? ⟨w.heap.size+1,3,none⟩=some _:=Q3.out.at' 3 rfl
    have z4:W3.cell? ⟨w.heap.size+1,4,none⟩=some _:=Q3.out.at' 4 rfl
    have z5:W3.cell? ⟨w.heap.size+1,5,none⟩=some _:=Q3.out.at' 5 rfl
    have z6:W3.cell? ⟨w.heap.size+1,6,none⟩=some _:=Q3.out.at' 6 rfl
    have z7:W3.cell? ⟨w.heap.size+1,7,none⟩=some _:=Q3.out.at' 7 rfl
    have z8:W3.cell? ⟨w.heap.size+1,8,none⟩=some _:=Q3.out.at' 8 rfl
    have z9:W3.cell? ⟨w.heap.size+1,9,none⟩=some _:=Q3.out.at' 9 rfl
    have z10:W3.cell? ⟨w.heap.size+1,10,none⟩=some _:=Q3.out.at' 10 rfl
    have f0:W3.frozen? ⟨w.heap.size+1,0,none⟩=false:=Q3.out.fz 0
    have f1:W3.frozen? ⟨w.heap.size+1,1,none⟩=false:=Q3.out.fz 1
    have f2:W3.frozen? ⟨w.heap.size+1,2,none⟩=false:=Q3.out.fz 2
    have f3:W3.frozen? ⟨w.heap.size+1,3,none⟩=false:=Q3.out.fz 3
    have f4:W3.frozen? ⟨w.heap.size+1,4,none⟩=false:=Q3.out.fz 4
    have f5:W3.frozen? ⟨w.heap.size+1,5,none⟩=false:=Q3.out.fz 5
    have f6:W3.frozen? ⟨w.heap.size+1,6,none⟩=false:=Q3.out.fz 6
    have f7:W3.frozen? ⟨w.heap.size+1,7,none⟩=false:=Q3.out.fz 7
    have f8:W3.frozen? ⟨w.heap.size+1,8,none⟩=false:=Q3.out.fz 8
    have f9:W3.frozen? ⟨w.heap.size+1,9,none⟩=false:=Q3.out.fz 9
    have f10:W3.frozen? ⟨w.heap.size+1,10,none⟩=false:=Q3.out.fz 10
    go_wp2
    exact bodyPost_ret (v:=.tuple #[encW x A5 c5,.int .i64 0])
     (by
      obtain⟨tt,hh⟩:=put11_row Q3.out (.int .u8 x.kind) (.string x.res) (.string x.jid) (.string x.name) (.slice A5 x.groups.length c5) (.bool false) (.bool false) (.bool false) (.bool false) (.bool false) (.bool x.gone)
      exact results_jid (fn:=Tryz.f20) (p:=2) (s:=3) (ty:=56) rfl _ _ (w.heap.size+1) _ _ _ _ rfl rfl hh Tryz.underlying56 (by kernel_rfl)) rfl
     (HE.out _ _ _ hl5 ((HRD3.out.keep (put11_size _ _ _ _ _ _ _ _ _ _ _ _ _) (fun b hb1 hb2=>put11_other (by omega) _ _ _ _ _ _ _ _ _ _ _)).mono (by omega)) (put11_below X3.out (by omega) _ _ _ _ _ _ _ _ _ _ _))
  ·have hkn:(s.kind != 3)=true:=by simp [hk]
   have HE:=Lib.hid (HAE.out 2 (by rw [HEE.out,hst,if_pos rfl,if_neg hk]) (by decide))
   clear HAO HAE HRB HAS HRS HEE
   have z0:w1.cell? ⟨w.heap.size+1,0,none⟩=some _:=Q1.out.at' 0 rfl
   have z1:w1.cell? ⟨w.heap.size+1,1,none⟩=some _:=Q1.out.at' 1 rfl
   have z2:w1.cell? ⟨w.heap.size+1,2,none⟩=some _:=Q1.out.at' 2 rfl
   have z3:w1.cell? ⟨w.heap.size+1,3,none⟩=some _:=Q1.out.at' 3 rfl
   have z4:w1.cell? ⟨w.heap.size+1,4,none⟩=some _:=Q1.out.at' 4 rfl
   have z5:w1.cell? ⟨w.heap.size+1,5,none⟩=some _:=Q1.out.at' 5 rfl
   have z6:w1.cell? ⟨w.heap.size+1,6,none⟩=some _:=Q1.out.at' 6 rfl
   have z7:w1.cell? ⟨w.heap.size+1,7,none⟩=some _:=Q1.out.at' 7 rfl
   have z8:w1.cell? ⟨w.heap.size+1,8,none⟩=some _:=Q1.out.at' 8 rfl
   have z9:w1.cell? ⟨w.heap.size+1,9,none⟩=some _:=Q1.out.at' 9 rfl
   have z10:w1.cell? ⟨w.heap.size+1,10,none⟩=some _:=Q1.out.at' 10 rfl
   have f0:w1.frozen? ⟨w.heap.size+1,0,none⟩=false:=Q1.out.fz 0
   have f1:w1.frozen? ⟨w.heap.size+1,1,none⟩=false:=Q1.out.fz 1
   have f2:w1.frozen? ⟨w.heap.size+1,2,none⟩=false:=Q1.out.fz 2
   have f3:w1.frozen? ⟨w.heap.size+1,3,none⟩=false:=Q1.out.fz 3
   have f4:w1.frozen? ⟨w.heap.size+1,4,none⟩=false:=Q1.out.fz 4
   have f5:w1.frozen? ⟨w.heap.size+1,5,none⟩=false:=Q1.out.fz 5
   have f6:w1.frozen? ⟨w.heap.size+1,6,none⟩=false:=Q1.out.fz 6
   have f7:w1.frozen? ⟨w.heap.size+1,7,none⟩=false:=Q1.out.fz 7
   have f8:w1.frozen? ⟨w.heap.size+1,8,none⟩=false:=Q1.out.fz 8
   have f9:w1.frozen? ⟨w.heap.size+1,9,none⟩=false:=Q1.out.fz 9
   have f10:w1.frozen? ⟨w.heap.size+1,10,none⟩=false:=Q1.out.fz 10
   go_wp2
   exact bodyPost_ret (v:=.tuple #[encW emW none 0,.int .i64 2])
    (by
     obtain⟨tt,hh⟩:=put11_row Q1.out (.int .u8 0) (.string ⟨#[]⟩) (.string ⟨#[]⟩) (.string ⟨#[]⟩) (.slice none 0 0) (.bool false) (.bool false) (.bool false) (.bool false) (.bool false) (.bool false)
     exact results_jid (fn:=Tryz.f20) (p:=2) (s:=3) (ty:=56) rfl _ _ (w.heap.size+1) _ _ _ _ rfl rfl hh Tryz.underlying56 (by kernel_rfl)) rfl
    (HE.out _ (put11_below X1.out (by omega) _ _ _ _ _ _ _ _ _ _ _))
end Go.Proofs.YtnmnpnofdgdigaaGreatDoor
end
