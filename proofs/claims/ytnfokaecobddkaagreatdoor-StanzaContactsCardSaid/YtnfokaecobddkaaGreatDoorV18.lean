/- Part 18 of a proof laid in parts, one behind the other; no condition of its own. -/
import Derived.Test.YtnfokaecobddkaaGreatDoorV17
set_option linter.all false
section
namespace Go.Proofs.YtnfokaecobddkaaGreatDoor
open Go.RowKit
set_option linter.unusedSimpArgs false
set_option linter.unusedVariables false
theorem setS_L:((⟨#[115,101,116]⟩:ByteArray):ByteArray).toList=[115,101,116]:=by decide +kernel
theorem getS_L:((⟨#[103,101,116]⟩:ByteArray):ByteArray).toList=[103,101,116]:=by decide +kernel
theorem ask_cases (s:StL) (v:List NodeL):askV s v=if isR s.typ v (⟨#[115,101,116]⟩:ByteArray) bindB (⟨#[98,105,110,100]⟩:ByteArray) then bindW v else if isR s.typ v (⟨#[103,101,116]⟩:ByteArray) rosB (⟨#[113,117,101,114,121]⟩:ByteArray) then getW else if isR s.typ v (⟨#[115,101,116]⟩:ByteArray) rosB (⟨#[113,117,101,114,121]⟩:ByteArray) && oneIt v then setW v else emW:=by
 have e1:isR s.typ v (⟨#[115,101,116]⟩:ByteArray) bindB (⟨#[98,105,110,100]⟩:ByteArray)=(typS s && isEl bindB (⟨#[98,105,110,100]⟩:ByteArray) v):=by unfold isR typS isEl;rw [setS_L,Bool.and_assoc]
 have e2:isR s.typ v (⟨#[103,101,116]⟩:ByteArray) rosB (⟨#[113,117,101,114,121]⟩:ByteArray)=(isEl rosB (⟨#[113,117,101,114,121]⟩:ByteArray) v && typG s):=by unfold isR typG isEl;rw [getS_L,Bool.and_assoc,Bool.and_comm]
 have e3:isR s.typ v (⟨#[115,101,116]⟩:ByteArray) rosB (⟨#[113,117,101,114,121]⟩:ByteArray)=(isEl rosB (⟨#[113,117,101,114,121]⟩:ByteArray) v && typS s):=by unfold isR typS isEl;rw [setS_L,Bool.and_assoc,Bool.and_comm]
 rw [e1,e2,e3]
 rfl
theorem jidA (r:ByteArray):jidI ⟨emB,(⟨#[97]⟩:ByteArray),r⟩=(isEmp r || resI r):=by
 unfold jidI
 have h1:domI (⟨#[97]⟩:ByteArray)=true:=by decide +kernel
 have h2:isEmp emB=true:=by decide +kernel
 simp only [h1,h2,Bool.true_or,Bool.true_and,Bool.and_true]
def PtR (B:Nat) (cs:Array Value):Ty:=.inr fun u W=>∃g,u=.pointer (some ⟨g,0,none⟩)∧B≤g∧Row W g cs
theorem stable_ptR (B:Nat) (cs:Array Value):Stable (PtR B cs):=fun u W W' h hx=>by
 obtain⟨g,h1,h2,h3⟩:=h
 exact⟨g,h1,h2,h3.ext hx⟩
section
variable {ops:Array Oper} {w0:World} {Fin:List Ty→Prop} {rest:List Oper} {E:Env} {Ts:List Ty} {o:Oper}
theorem tw_bldRs {x y:Operand} (k:ByteArray) (A':Option Addr) (n c':Nat) (hop:o.op=.build 93 #[(0,x),(1,y)]) (hx:evalE E x=some (.string k)) (hy:evalE E y=some (.slice A' n c')) (hw:Wd ops o E true)
  (hr:wpT Tryz.prog ops w0 Fin rest (E.put o.dst (.inl (.agg (cR k A' n c' emW none 0)))) (.inl (.agg (cR k A' n c' emW none 0)) :: Ts)):wpT Tryz.prog ops w0 Fin (o :: rest) E Ts:=
 tw_pure _ hw (fun a W hW hs=>by
  have h1:a.eval x=_:=evalE_of hx (by rw [hop];simp [Op.operands]) hs
  have h2:a.eval y=_:=evalE_of hy (by rw [hop];simp [Op.operands]) hs
  unfold execOp cR emW
  dsimp only
  simp only [hop,List.map_toArray,List.map_cons,List.map_nil,h1,h2]
  go_simp
  try rfl) hr
theorem tw_boxR {x:Operand} (B:Nat) (k:ByteArray) (A':Option Addr) (n c':Nat) (hB:∀W,Ext w0 W→B≤W.heap.size) (hop:o.op=.box 93 x) (hx:evalE E x=some (.agg (cR k A' n c' emW none 0))) (hw:Wd ops o E true)
  (hr:wpT Tryz.prog ops w0 Fin rest (E.put o.dst (PtR B (cR k A' n c' emW none 0))) (PtR B (cR k A' n c' emW none 0) :: Ts)):wpT Tryz.prog ops w0 Fin (o :: rest) E Ts:=
 tw_val (PtR B (cR k A' n c' emW none 0)) (stable_ptR B _) hw (fun a W hW hs=>by
  have h1:a.eval x=_:=evalE_of hx (by rw [hop];simp [Op.operands]) hs
  refine⟨.pointer (some ⟨W.heap.size,0,none⟩),W.alloc (.cells (cR k A' n c' emW none 0) 93),?_,(Below.refl _ W).alloc (Nat.le_refl _) _,W.heap.size,rfl,hB W hW,Row.new W _ _⟩
  unfold execOp
  simp only [hop,h1]
  unfold cR emW
  go_simp
  try rfl) hr
end
set_option maxHeartbeats 16000000 in
set_option maxRecDepth 10000 in
theorem ask_any (s:StL) (A:Option Addr) (c:Nat) (w:World) (hz:SzS s) (hr:RdW w w.heap.size A s.load) (hg:Glb w) (hres:stnI s=true→(askW s).res.size≤1000000000) :
  Calls Tryz.prog 18 #[encS s A c] w (AskP s w):=by
 have hmf:∀(fn:Fn) (first cap:Array Value) (w:World),(Instr.makeFunc fn first cap).run Tryz.prog w=.ok (.func fn first cap) w:=fun _ _ _ _=>rfl
 obtain⟨W0,hW0,hX0,hs0,hR0,hB0⟩:=asked_start s A c w
 have hrl:RdW W0 W0.heap.size A s.load:=RdW.ext hr hX0
 have HM:=Lib.hid (scheck_any s A c W0 hz hrl (hg.below hX0))
 have HSE:Box (stnErr s=if stnI s then 0 else 8):=⟨rfl⟩
 have HEE:Box (askE s=if stnI s then(if s.kind=3 then(if resBad (askW s) then 220 else 0) else 2) else 8):=⟨rfl⟩
 have HRL:=Lib.hid hrl
 have HZ:=Lib.hid hz
 have HRS:=Lib.hid hres
 have HGL:=Lib.hid hg
 have HX0:=Lib.hid hX0
 have HR0:=Lib.hid hR0
 have HB0:=Lib.hid hB0
 have HW0:=Lib.hid hW0
 have hgl:=hR0.lt
 have hkz:=hz.1
 clear hW0 hX0 hR0 hB0 hr hz hrl hres hg
 unfold encS at *
 have HRB:Box (resBad (askW s)=(!isEmp (askW s).res && !resI (askW s).res)):=⟨rfl⟩
 have HAO:=Lib.hid (fun(h:askE s=0) w' (A5:Option Addr) (c5:Nat) h1 h2 h3=>AskP.ok (w:=w) (w':=w') (A:=A5) (c:=c5) h h1 h2 h3)
 have HAE:=Lib.hid (fun(e:Int) (h:askE s=e) (h0:e≠0) w' h3=>AskP.err (w:=w) (w':=w') h h0 h3)
 go_enter Tryz.func18,Tryz.ntmps18
 go_upto_region 1 with fail
 rw [←HW0.out]
 have k0:W0.cell? ⟨w.heap.size,0,none⟩=some _:=HB0.out.at' 0 rfl
 have k1:W0.cell? ⟨w.heap.size,1,none⟩=some _:=HB0.out.at' 1 rfl
 have k2:W0.cell? ⟨w.heap.size,2,none⟩=some _:=HB0.out.at' 2 rfl
 have k3:W0.cell? ⟨w.heap.size,3,none⟩=some _:=HB0.out.at' 3 rfl
 have k4:W0.cell? ⟨w.heap.size,4,none⟩=some _:=HB0.out.at' 4 rfl
 have k5:W0.cell? ⟨w.heap.size,5,none⟩=some _:=HB0.out.at' 5 rfl
 go_wp2_with fail
 refine HM.out.mono ?_
 rintro e w1 ⟨rfl,hb1⟩
 have X1:=Lib.hid (HX0.out.trans (hb1.mono HX0.out.size))
 have Q1:=Lib.hid (HR0.out.ext hb1)
 have B1:=Lib.hid (HB0.out.ext hb1)
 have R1:=Lib.hid (RdW.ext HRL.out hb1)
 have hs1:=X1.out.size
 have hgl1:=Q1.out.lt
 clear k0 k1 k2 k3 k4 k5 hb1 HM HB0 HR0 HRL
 generalize stnErr s=er at *
 cases hst:stnI s
 ·have HE:=Lib.hid (HAE.out 8 (by rw [HEE.out,hst];rfl) (by decide))
  rw [hst] at HSE
  have he:=HSE.out
  simp only [Bool.false_eq_true,if_false] at he
  subst he
  clear HSE HAO HAE HRB HRS HEE
  have z0:w1.cell? ⟨w.heap.size+1,0,none⟩=some _:=Q1.out.at' 0 rfl
  have z1:w1.cell? ⟨w.heap.size+1,1,none⟩=some _:=Q1.out.at' 1 rfl
  have z2:w1.cell? ⟨w.heap.size+1,2,none⟩=some _:=Q1.out.at' 2 rfl
  have z3:w1.cell? ⟨w.heap.size+1,3,none⟩=some _:=Q1.out.at' 3 rfl
  have z4:w1.cell? ⟨w.heap.size+1,4,none⟩=some _:=Q1.out.at' 4 rfl
  have z5:w1.cell? ⟨w.heap.size+1,5,none⟩=some _:=Q1.out.at' 5 rfl
  have z6:w1.cell? ⟨w.heap.size+1,6,none⟩=some _:=Q1.out.at' 6 rfl
  have z7:w1.cell? ⟨w.heap.size+1,7,none⟩=some _:=Q1.out.at' 7 rfl
  have z8:w1.cell? ⟨w.heap.size+1,8,none⟩=some _:=Q1.out.at' 8 rfl
  have z9:w1.cell? ⟨w.heap.size+1,9,none⟩=some _:=Q1.out.at' 9 rfl
  have z10:w1.cell? ⟨w.heap.size+1,10,none⟩=some _:=Q1.out.at' 10 rfl
  have f0:w1.frozen? ⟨w.heap.size+1,0,none⟩=false:=Q1.out.fz 0
  have f1:w1.frozen? ⟨w.heap.size+1,1,none⟩=false:=Q1.out.fz 1
  have f2:w1.frozen? ⟨w.heap.size+1,2,none⟩=false:=Q1.out.fz 2
  have f3:w1.frozen? ⟨w.heap.size+1,3,none⟩=false:=Q1.out.fz 3
  have f4:w1.frozen? ⟨w.heap.size+1,4,none⟩=false:=Q1.out.fz 4
  have f5:w1.frozen? ⟨w.heap.size+1,5,none⟩=false:=Q1.out.fz 5
  have f6:w1.frozen? ⟨w.heap.size+1,6,none⟩=false:=Q1.out.fz 6
  have f7:w1.frozen? ⟨w.heap.size+1,7,none⟩=false:=Q1.out.fz 7
  have f8:w1.frozen? ⟨w.heap.size+1,8,none⟩=false:=Q1.out.fz 8
  have f9:w1.frozen? ⟨w.heap.size+1,9,none⟩=false:=Q1.out.fz 9
  have f10:w1.frozen? ⟨w.heap.size+1,10,none⟩=false:=Q1.out.fz 10
  go_wp2
  exact bodyPost_ret (v:=.tuple #[encW emW none 0,.int .i64 8])
   (by
    obtain⟨tt,hh⟩:=put11_row Q1.out (.int .u8 0) (.string ⟨#[]⟩) (.string ⟨#[]⟩) (.string ⟨#[]⟩) (.slice none 0 0) (.bool false) (.bool false) (.bool false) (.bool false) (.bool false) (.bool false)
    exact results_jid (fn:=Tryz.f18) (p:=2) (s:=3) (ty:=51) rfl _ _ (w.heap.size+1) _ _ _ _ rfl rfl hh Tryz.underlying51 (by kernel_rfl)) rfl
   (HE.out _ (put11_below X1.out (by omega) _ _ _ _ _ _ _ _ _ _ _))
 ·rw [hst] at HSE
  have he:=HSE.out
  simp only [if_true] at he
  subst he
  have k0:w1.cell? ⟨w.heap.size,0,none⟩=some _:=B1.out.at' 0 rfl
  have k1:w1.cell? ⟨w.heap.size,1,none⟩=some _:=B1.out.at' 1 rfl
  have k2:w1.cell? ⟨w.heap.size,2,none⟩=some _:=B1.out.at' 2 rfl
  have k3:w1.cell? ⟨w.heap.size,3,none⟩=some _:=B1.out.at' 3 rfl
  have k4:w1.cell? ⟨w.heap.size,4,none⟩=some _:=B1.out.at' 4 rfl
  have k5:w1.cell? ⟨w.heap.size,5,none⟩=some _:=B1.out.at' 5 rfl
  by_cases hk:s.kind=3
  ·have hkn:(s.kind != 3)=false:=by simp [hk]
   have HEF:Box (askE s=if resBad (askW s) then 220 else 0):=⟨by rw [HEE.out,hst,if_pos rfl,if_pos hk]⟩
   have HRZ:=Lib.hid (HRS.out hst)
   have HTR:=Lib.hid (stn_trees hst)
   clear hk hst HRS HEE HSE
   by_cases h1:¬s.load.length=1
   ·have hN:((s.load.length:Int) != 1)=true:=by rw [bne_iff_ne];omega
    have he:askW s=emW:=by unfold askW;rw [if_neg h1]
    have HE:=Lib.hid (HAO.out (by rw [HEF.out,he];decide))
    rw [he] at HE
    clear HAO HAE HRB HEF he HRZ h1
    have z0:w1.cell? ⟨w.heap.size+1,0,none⟩=some _:=Q1.out.at' 0 rfl
    have z1:w1.cell? ⟨w.heap.size+1,1,none⟩=some _:=Q1.out.at' 1 rfl
    have z2:w1.cell? ⟨w.heap.size+1,2,none⟩=some _:=Q1.out.at' 2 rfl
    have z3:w1.cell? ⟨w.heap.size+1,3,none⟩=some _:=Q1.out.at' 3 rfl
    have z4:w1.cell? ⟨w.heap.size+1,4,none⟩=some _:=Q1.out.at' 4 rfl
    have z5:w1.cell? ⟨w.heap.size+1,5,none⟩=some _:=Q1.out.at' 5 rfl
    have z6:w1.cell? ⟨w.heap.size+1,6,none⟩=some _:=Q1.out.at' 6 rfl
    have z7:w1.cell? ⟨w.heap.size+1,7,none⟩=some _:=Q1.out.at' 7 rfl
    have z8:w1.cell? ⟨w.heap.size+1,8,none⟩=some _:=Q1.out.at' 8 rfl
    have z9:w1.cell? ⟨w.heap.size+1,9,none⟩=some _:=Q1.out.at' 9 rfl
    have z10:w1.cell? ⟨w.heap.size+1,10,none⟩=some _:=Q1.out.at' 10 rfl
    have f0:w1.frozen? ⟨w.heap.size+1,0,none⟩=false:=Q1.out.fz 0
    have f1:w1.frozen? ⟨w.heap.size+1,1,none⟩=false:=Q1.out.fz 1
    have f2:w1.frozen? ⟨w.heap.size+1,2,none⟩=false:=Q1.out.fz 2
    have f3:w1.frozen? ⟨w.heap.size+1,3,none⟩=false:=Q1.out.fz 3
    have f4:w1.frozen? ⟨w.heap.size+1,4,none⟩=false:=Q1.out.fz 4
    have f5:w1.frozen? ⟨w.heap.size+1,5,none⟩=false:=Q1.out.fz 5
    have f6:w1.frozen? ⟨w.heap.size+1,6,none⟩=false:=Q1.out.fz 6
    have f7:w1.frozen? ⟨w.heap.size+1,7,none⟩=false:=Q1.out.fz 7
    have f8:w1.frozen? ⟨w.heap.size+1,8,none⟩=false:=Q1.out.fz 8
    have f9:w1.frozen? ⟨w.heap.size+1,9,none⟩=false:=Q1.out.fz 9
    have f10:w1.frozen? ⟨w.heap.size+1,10,none⟩=false:=Q1.out.fz 10
    go_wp2
    exact bodyPost_ret (v:=.tuple #[encW emW none 0,.int .i64 0])
     (by
      obtain⟨tt,hh⟩:=put11_row Q1.out (.int .u8 0) (.string ⟨#[]⟩) (.string ⟨#[]⟩) (.string ⟨#[]⟩) (.slice none 0 0) (.bool false) (.bool false) (.bool false) (.bool false) (.bool false) (.bool false)
      exact results_jid (fn:=Tryz.f18) (p:=2) (s:=3) (ty:=51) rfl _ _ (w.heap.size+1) _ _ _ _ rfl rfl hh Tryz.underlying51 (by kernel_rfl)) rfl
     (HE.out _ _ _ (Nat.le_refl _) (fun h0=>absurd h0 (by decide)) (put11_below X1.out (by omega) _ _ _ _ _ _ _ _ _ _ _))
   ·obtain⟨v,hv⟩:∃v,s.load=[v]:=List.length_eq_one_iff.1 (Classical.not_not.1 h1)
    have he:askW s=askV s v:=by unfold askW;rw [if_pos (Classical.not_not.1 h1),hv];rfl
    rw [he] at HRB HAO HEF HRZ
    have htree:treeI v=true:=HTR.out v (by rw [hv];exact List.mem_singleton.2 rfl)
    have hzv:SzV 1000000000 v:=HZ.out.2.2.2.2.2.2 v (by rw [hv];exact List.mem_singleton.2 rfl)
    have hx0:=(tree_parts htree).1
    obtain⟨b,off,rfl,hb,hcc⟩:=R1.out (by rw [hv];exact Nat.zero_lt_one)
    obtain⟨A',c',e0,hl',hA'⟩:=hcc 0 v (by rw [hv];rfl)
    rw [Nat.add_zero] at e0
    have HA:=Lib.hid hA'
    have hN:((s.load.length:Int) != 1)=false:=by rw [hv];rfl
    have hNi:(0:Int) < (s.load.length:Int):=by rw [hv];exact Int.one_pos
    have hln:s.load.length=1:=Classical.not_not.1 h1
    have HTV:=Lib.hid htree
    have HZV:=Lib.hid hzv
    have HAC:=Lib.hid (ask_cases s v)
    have GS:=Lib.hid (fun W (hW:Ext w1.drew W)=>(ext_below hW).size)
    have G1:=Lib.hid (fun W (hW:Ext w1.drew W)=>((ext_below hW).cell (p:=⟨w.heap.size,1,none⟩) (by show w.heap.size < w1.heap.size;omega)).trans k1)
    have G5:=Lib.hid (fun W (hW:Ext w1.drew W)=>((ext_below hW).cell (p:=⟨w.heap.size,5,none⟩) (by show w.heap.size < w1.heap.size;omega)).trans k5)
    have G0:=Lib.hid (fun W (hW:Ext w1.drew W)=>((ext_below hW).cell (p:=⟨b,off,none⟩) hb).trans e0)
    clear hcc hA' htree hzv hx0 hv he h1 R1 HTR HZ e0
    generalize askV s v=x at *
    go_upto_region 8 with fail
    refine wp_region_typed rfl (by kernel_rfl) (by kernel_rfl) ?_
    repeat (first|refine tw_ldS rfl rfl G1.out (wdA rfl) ?_|refine tw_ldW rfl rfl G5.out (wdA rfl) ?_|refine tw_ixW (k:=0) (by omega) (by omega) rfl rfl rfl (wdA rfl) ?_|refine tw_ldV rfl rfl G0.out (wdA rfl) ?_|refine tw_bldRs _ _ _ _ rfl rfl rfl (wdA rfl) ?_|refine tw_boxR w1.heap.size _ _ _ _ GS.out rfl rfl (wdA rfl) ?_|refine tw_move (PtR _ _) (stable_ptR _ _) (.inr rfl) rfl (wdA rfl) ?_|refine tw_skip (wd_no rfl rfl rfl) ?_|refine tw_mv (.inl rfl) rfl (wdA rfl) ?_|refine tw_mv (.inr rfl) rfl (wdA rfl) ?_|refine tw_pickL rfl rfl rfl (wdA rfl) ?_|refine tw_op1 _ rfl rfl (wdA rfl) (fun ρ W hW h1=>by simp only [execOp,h1];go_simp;first|done|rfl) ?_|refine tw_op2 _ rfl rfl rfl (wdA rfl) (fun ρ W hW h1 h2=>by simp only [execOp,h1,h2];go_simp;first|done|rfl) ?_)
    dsimp only [wpT,List.reverse,List.reverseAux,FinT,PtR]
    intro u1 u5 W5 hW5 hu
    simp only [Act.put,List.setIfInBounds_toArray,List.set_cons_zero,List.set_cons_succ]
    obtain⟨-,g,rfl,hg9,hrow⟩:=hu
    have hb5:Below w1.heap.size w1 W5:=ext_below hW5
    have X5:=Lib.hid (X1.out.trans (hb5.mono X1.out.size))
    have Q5:=Lib.hid (Q1.out.ext hb5)
    have R5:=Lib.hid hrow
    have V5:=Lib.hid ((HA.out.below hb5 (Nat.le_refl _)).more hg9)
    have hgl5:=hrow.lt
    clear hW5 hb5 hrow HA G0 G1 G5 GS Q1 X1 k0 k1 k2 k3 k4 k5
    obtain⟨W6,hW6⟩:∃W6,W6=W5.alloc (.cells #[.func (.func 46) #[.pointer (some ⟨g,0,none⟩)] #[],.func (.func 47) #[.pointer (some ⟨g,0,none⟩)] #[],.func (.func 48) #[.pointer (some ⟨g,0,none⟩)] #[]] 25):=⟨_,rfl⟩
    have hX6:Below W5.heap.size W5 W6:=by rw [hW6];exact(Below.refl _ _).alloc (Nat.le_refl _) _
    have P6:Hid (Row W6 W5.heap.size #[.func (.func 46) #[.pointer (some ⟨g,0,none⟩)] #[],.func (.func 47) #[.pointer (some ⟨g,0,none⟩)] #[],.func (.func 48) #[.pointer (some ⟨g,0,none⟩)] #[]]):=Lib.hid (by rw [hW6];exact Row.new W5 _ _)
    have X6:=Lib.hid (X5.out.trans (hX6.mono X5.out.size))
    have Q6:=Lib.hid (Q5.out.ext hX6)
    have R6:=Lib.hid (R5.out.ext hX6)
    have V6:=Lib.hid (V5.out.below hX6 (Nat.le_of_lt hgl5))
    have G6:=Lib.hid (HGL.out.below X6.out)
    have HBD:=Lib.hid (rbind_any g s.typ v A' c' W6 hl' R6.out V6.out HZV.out HTV.out)
    generalize isR s.typ v (⟨#[115,101,116]⟩:ByteArray) bindB (⟨#[98,105,110,100]⟩:ByteArray)=ok1 at *
    unfold ReadR at HBD
    have hgl6:=R6.out.lt
    have hp6:=P6.out.lt
    have HW6:=Lib.hid hW6
    clear hX6 hW6 Q5 R5 V5 X5
    go_wp2_with fail
    refine wp_loop_rounds 4 ?_
    rw [rounds_succ]
    rw [←HW6.out]
    clear HW6
    have p0:W6.cell? ⟨W5.heap.size,0,none⟩=some _:=P6.out.at' 0 rfl
    have p1:W6.cell? ⟨W5.heap.size,1,none⟩=some _:=P6.out.at' 1 rfl
    have p2:W6.cell? ⟨W5.heap.size,2,none⟩=some _:=P6.out.at' 2 rfl
    go_wp2_with fail
    refine HBD.out.mono ?_
    rintro e w7 ⟨rfl,hn7,hy7⟩
    clear p0 p1 p2 HBD
    cases ok1
    ·have hb7:=hn7 rfl
     clear hn7 hy7
     have HAD:Hid (x=if isR s.typ v (⟨#[103,101,116]⟩:ByteArray) rosB (⟨#[113,117,101,114,121]⟩:ByteArray) then getW else if isR s.typ v (⟨#[115,101,116]⟩:ByteArray) rosB (⟨#[113,117,101,114,121]⟩:ByteArray) && oneIt v then setW v else emW):=Lib.hid (by have h:=HAC.out;rw [if_neg (by decide)] at h;exact h)
     clear HAC
     have X7:=Lib.hid (X6.out.trans (hb7.mono X6.out.size))
     have Q7:=Lib.hid (Q6.out.ext hb7)
     have R7:=Lib.hid (R6.out.ext hb7)
     have P7:=Lib.hid (P6.out.ext hb7)
     have V7:=Lib.hid (V6.out.below hb7 (Nat.le_of_lt hgl6))
     have G7:=Lib.hid (G6.out.below hb7)
     have hgl7:=R7.out.lt
     clear X6 Q6 R6 P6 V6 G6 hb7
     have HBD:=Lib.hid (rget_any g s.typ v A' c' w7 R7.out (V7.out.more (Nat.le_of_lt hgl7)) (tree_parts HTV.out).1)
     generalize isR s.typ v (⟨#[103,101,116]⟩:ByteArray) rosB (⟨#[113,117,101,114,121]⟩:ByteArray)=ok2 at *
     unfold ReadR at HBD
     have p0:w7.cell? ⟨W5.heap.size,0,none⟩=some _:=P7.out.at' 0 rfl
     have p1:w7.cell? ⟨W5.heap.size,1,none⟩=some _:=P7.out.at' 1 rfl
     have p2:w7.cell? ⟨W5.heap.size,2,none⟩=some _:=P7.out.at' 2 rfl
     go_wp2
     rw [rounds_succ]
     go_wp2_with fail
     refine HBD.out.mono ?_
     rintro e w8 ⟨rfl,hn8,hy8⟩
     clear p0 p1 p2 HBD
     cases ok2
     ·have hb8:=hn8 rfl
      clear hn8 hy8
      have HAC:Hid (x=if isR s.typ v (⟨#[115,101,116]⟩:ByteArray) rosB (⟨#[113,117,101,114,121]⟩:ByteArray) && oneIt v then setW v else emW):=Lib.hid (by have h:=HAD.out;rw [if_neg (by decide)] at h;exact h)
      clear HAD
      have X8:=Lib.hid (X7.out.trans (hb8.mono X7.out.size))
      have Q8:=Lib.hid (Q7.out.ext hb8)
      have R8:=Lib.hid (R7.out.ext hb8)
      have P8:=Lib.hid (P7.out.ext hb8)
      have V8:=Lib.hid (V7.out.below hb8 (Nat.le_of_lt hgl7))
      have G8:=Lib.hid (G7.out.below hb8)
      have hgl8:=R8.out.lt
      clear X7 Q7 R7 P7 V7 G7 hb8
      have HBD:=Lib.hid (rset_any g s.typ v A' c' w8 hl' R8.out V8.out HZV.out HTV.out)
      generalize (isR s.typ v (⟨#[115,101,116]⟩:ByteArray) rosB (⟨#[113,117,101,114,121]⟩:ByteArray) && oneIt v)=ok3 at *
      unfold ReadR at HBD
      have p0:w8.cell? ⟨W5.heap.size,0,none⟩=some _:=P8.out.at' 0 rfl
      have p1:w8.cell? ⟨W5.heap.size,1,none⟩=some _:=P8.out.at' 1 rfl
      have p2:w8.cell? ⟨W5.heap.size,2,none⟩=some _:=P8.out.at' 2 rfl
      go_wp2
      rw [rounds_succ]
      go_wp2_with fail
      refine HBD.out.mono ?_
      rintro e w9 ⟨rfl,hn9,hy9⟩
      clear p0 p1 p2 HBD
      cases ok3
      ·have hb9:=hn9 rfl
       clear hn9 hy9
       have hx:x=emW:=by have h:=HAC.out;rw [if_neg (by decide)] at h;exact h
       have hrz:Row w9 g (cR s.typ A' v.length c' x none 0):=by rw [hx];exact R8.out.ext hb9
       have hbz:Below g w8 w9:=hb9.mono (Nat.le_of_lt hgl8)
       have hl5:x.groups.length≤0:=by rw [hx];exact Nat.le_refl _
       have hrdz:RdSB (g+1) w9 none x.groups:=by rw [hx];exact fun h0=>absurd h0 (by decide)
       obtain⟨A5,hA5⟩:∃A5:Option Addr,A5=none:=⟨_,rfl⟩
       obtain⟨c5,hc5⟩:∃c5:Nat,c5=0:=⟨_,rfl⟩
       rw [←hA5,←hc5] at hrz
       rw [←hc5] at hl5
       rw [←hA5] at hrdz
       clear hx hb9 hA5 hc5
       go_wp2
       rw [rounds_succ]
       unfold cR at hrz
       have Z:=Lib.hid hrz
       have XZ:=Lib.hid (X8.out.trans (hbz.mono (by have:=X8.out.size;omega)))
       have QZ:=Lib.hid (Q8.out.extB hbz (by omega))
       have GZ:=Lib.hid (HGL.out.below XZ.out)
       have RD:=Lib.hid hrdz
       clear hrz hbz hrdz
       have hempty:=emp_iff x.res
       have hgz:=Z.out.lt
       have a0:w9.cell? ⟨g,0,none⟩=some _:=Z.out.at' 0 rfl
       have a1:w9.cell? ⟨g,1,none⟩=some _:=Z.out.at' 1 rfl
       have a2:w9.cell? ⟨g,2,none⟩=some _:=Z.out.at' 2 rfl
       have a3:w9.cell? ⟨g,3,none⟩=some _:=Z.out.at' 3 rfl
       have a4:w9.cell? ⟨g,4,none⟩=some _:=Z.out.at' 4 rfl
       have a5:w9.cell? ⟨g,5,none⟩=some _:=Z.out.at' 5 rfl
       have a6:w9.cell? ⟨g,6,none⟩=some _:=Z.out.at' 6 rfl
       have a7:w9.cell? ⟨g,7,none⟩=some _:=Z.out.at' 7 rfl
       have a8:w9.cell? ⟨g,8,none⟩=some _:=Z.out.at' 8 rfl
       have a9:w9.cell? ⟨g,9,none⟩=some _:=Z.out.at' 9 rfl
       have a10:w9.cell? ⟨g,10,none⟩=some _:=Z.out.at' 10 rfl
       have a11:w9.cell? ⟨g,11,none⟩=some _:=Z.out.at' 11 rfl
       have a12:w9.cell? ⟨g,12,none⟩=some _:=Z.out.at' 12 rfl
       clear HAC
       cases c1:isEmp x.res
       ·rw [c1] at hempty
        cases c2:resI x.res
        ·have hJE:jidErr ⟨emB,(⟨#[97]⟩:ByteArray),x.res⟩=8:=by unfold jidErr;rw [jidA,c1,c2];rfl
         have HJC:=Lib.hid (jcheck_any ⟨emB,(⟨#[97]⟩:ByteArray),x.res⟩ w9 ⟨show emB.size≤1000000000 by decide,show((⟨#[97]⟩:ByteArray):ByteArray).size≤1000000000 by decide,HRZ.out⟩ GZ.out)
         rw [hJE] at HJC
         unfold encJ at HJC
         have HE:=Lib.hid (HAE.out 220 (by rw [HEF.out,HRB.out,c1,c2];rfl) (by decide))
         clear HAO HAE HEF HRB hJE
         go_wp2_with fail
         refine HJC.out.mono ?_
         rintro e w4 ⟨rfl,hb4⟩
         have X4:=Lib.hid (XZ.out.trans (hb4.mono XZ.out.size))
         have Q4:=Lib.hid (QZ.out.ext hb4)
         clear a0 a1 a2 a3 a4 a5 a6 a7 a8 a9 a10 a11 a12
         clear hb4
         have z0:w4.cell? ⟨w.heap.size+1,0,none⟩=some _:=Q4.out.at' 0 rfl
         have z1:w4.cell? ⟨w.heap.size+1,1,none⟩=some _:=Q4.out.at' 1 rfl
         have z2:w4.cell? ⟨w.heap.size+1,2,none⟩=some _:=Q4.out.at' 2 rfl
         have z3:w4.cell? ⟨w.heap.size+1,3,none⟩=some _:=Q4.out.at' 3 rfl
         have z4:w4.cell? ⟨w.heap.size+1,4,none⟩=some _:=Q4.out.at' 4 rfl
         have z5:w4.cell? ⟨w.heap.size+1,5,none⟩=some _:=Q4.out.at' 5 rfl
         have z6:w4.cell? ⟨w.heap.size+1,6,none⟩=some _:=Q4.out.at' 6 rfl
         have z7:w4.cell? ⟨w.heap.size+1,7,none⟩=some _:=Q4.out.at' 7 rfl
         have z8:w4.cell? ⟨w.heap.size+1,8,none⟩=some _:=Q4.out.at' 8 rfl
         have z9:w4.cell? ⟨w.heap.size+1,9,none⟩=some _:=Q4.out.at' 9 rfl
         have z10:w4.cell? ⟨w.heap.size+1,10,none⟩=some _:=Q4.out.at' 10 rfl
         have f0:w4.frozen? ⟨w.heap.size+1,0,none⟩=false:=Q4.out.fz 0
         have f1:w4.frozen? ⟨w.heap.size+1,1,none⟩=false:=Q4.out.fz 1
         have f2:w4.frozen? ⟨w.heap.size+1,2,none⟩=false:=Q4.out.fz 2
         have f3:w4.frozen? ⟨w.heap.size+1,3,none⟩=false:=Q4.out.fz 3
         have f4:w4.frozen? ⟨w.heap.size+1,4,none⟩=false:=Q4.out.fz 4
         have f5:w4.frozen? ⟨w.heap.size+1,5,none⟩=false:=Q4.out.fz 5
         have f6:w4.frozen? ⟨w.heap.size+1,6,none⟩=false:=Q4.out.fz 6
         have f7:w4.frozen? ⟨w.heap.size+1,7,none⟩=false:=Q4.out.fz 7
         have f8:w4.frozen? ⟨w.heap.size+1,8,none⟩=false:=Q4.out.fz 8
         have f9:w4.frozen? ⟨w.heap.size+1,9,none⟩=false:=Q4.out.fz 9
         have f10:w4.frozen? ⟨w.heap.size+1,10,none⟩=false:=Q4.out.fz 10
         go_wp2
         exact bodyPost_ret (v:=.tuple #[encW emW none 0,.int .i64 220])
          (by
           obtain⟨tt,hh⟩:=put11_row Q4.out (.int .u8 0) (.string ⟨#[]⟩) (.string ⟨#[]⟩) (.string ⟨#[]⟩) (.slice none 0 0) (.bool false) (.bool false) (.bool false) (.bool false) (.bool false) (.bool false)
           exact results_jid (fn:=Tryz.f18) (p:=2) (s:=3) (ty:=51) rfl _ _ (w.heap.size+1) _ _ _ _ rfl rfl hh Tryz.underlying51 (by kernel_rfl)) rfl
          (HE.out _ (put11_below X4.out (by omega) _ _ _ _ _ _ _ _ _ _ _))
        ·have hJE:jidErr ⟨emB,(⟨#[97]⟩:ByteArray),x.res⟩=0:=by unfold jidErr;rw [jidA,c1,c2];rfl
         have HJC:=Lib.hid (jcheck_any ⟨emB,(⟨#[97]⟩:ByteArray),x.res⟩ w9 ⟨show emB.size≤1000000000 by decide,show((⟨#[97]⟩:ByteArray):ByteArray).size≤1000000000 by decide,HRZ.out⟩ GZ.out)
         rw [hJE] at HJC
         unfold encJ at HJC
         have HE:=Lib.hid (HAO.out (by rw [HEF.out,HRB.out,c1,c2];rfl))
         clear HAO HAE HEF HRB hJE
         go_wp2_with fail
         refine HJC.out.mono ?_
         rintro e w4 ⟨rfl,hb4⟩
         have X4:=Lib.hid (XZ.out.trans (hb4.mono XZ.out.size))
         have Q4:=Lib.hid (QZ.out.ext hb4)
         have Z4:=Lib.hid (Z.out.ext hb4)
         have RD4:=Lib.hid (RD.out.keep hb4.size (fun b hb1 hb2=>hb4.block b hb2))
         clear a0 a1 a2 a3 a4 a5 a6 a7 a8 a9 a10 a11 a12
         clear hb4
         have a0:w4.cell? ⟨g,0,none⟩=some _:=Z4.out.at' 0 rfl
         have a1:w4.cell? ⟨g,1,none⟩=some _:=Z4.out.at' 1 rfl
         have a2:w4.cell? ⟨g,2,none⟩=some _:=Z4.out.at' 2 rfl
         have a3:w4.cell? ⟨g,3,none⟩=some _:=Z4.out.at' 3 rfl
         have a4:w4.cell? ⟨g,4,none⟩=some _:=Z4.out.at' 4 rfl
         have a5:w4.cell? ⟨g,5,none⟩=some _:=Z4.out.at' 5 rfl
         have a6:w4.cell? ⟨g,6,none⟩=some _:=Z4.out.at' 6 rfl
         have a7:w4.cell? ⟨g,7,none⟩=some _:=Z4.out.at' 7 rfl
         have a8:w4.cell? ⟨g,8,none⟩=some _:=Z4.out.at' 8 rfl
         have a9:w4.cell? ⟨g,9,none⟩=some _:=Z4.out.at' 9 rfl
         have a10:w4.cell? ⟨g,10,none⟩=some _:=Z4.out.at' 10 rfl
         have a11:w4.cell? ⟨g,11,none⟩=some _:=Z4.out.at' 11 rfl
         have a12:w4.cell? ⟨g,12,none⟩=some _:=Z4.out.at' 12 rfl
         have z0:w4.cell? ⟨w.heap.size+1,0,none⟩=some _:=Q4.out.at' 0 rfl
         have z1:w4.cell? ⟨w.heap.size+1,1,none⟩=some _:=Q4.out.at' 1 rfl
         have z2:w4.cell? ⟨w.heap.size+1,2,none⟩=some _:=Q4.out.at' 2 rfl
         have z3:w4.cell? ⟨w.heap.size+1,3,none⟩=some _:=Q4.out.at' 3 rfl
         have z4:w4.cell? ⟨w.heap.size+1,4,none⟩=some _:=Q4.out.at' 4 rfl
         have z5:w4.cell? ⟨w.heap.size+1,5,none⟩=some _:=Q4.out.at' 5 rfl
         have z6:w4.cell? ⟨w.heap.size+1,6,none⟩=some _:=Q4.out.at' 6 rfl
         have z7:w4.cell? ⟨w.heap.size+1,7,none⟩=some _:=Q4.out.at' 7 rfl
         have z8:w4.cell? ⟨w.heap.size+1,8,none⟩=some _:=Q4.out.at' 8 rfl
         have z9:w4.cell? ⟨w.heap.size+1,9,none⟩=some _:=Q4.out.at' 9 rfl
         have z10:w4.cell? ⟨w.heap.size+1,10,none⟩=some _:=Q4.out.at' 10 rfl
         have f0:w4.frozen? ⟨w.heap.size+1,0,none⟩=false:=Q4.out.fz 0
         have f1:w4.frozen? ⟨w.heap.size+1,1,none⟩=false:=Q4.out.fz 1
         have f2:w4.frozen? ⟨w.heap.size+1,2,none⟩=false:=Q4.out.fz 2
         have f3:w4.frozen? ⟨w.heap.size+1,3,none⟩=false:=Q4.out.fz 3
         have f4:w4.frozen? ⟨w.heap.size+1,4,none⟩=false:=Q4.out.fz 4
         have f5:w4.frozen? ⟨w.heap.size+1,5,none⟩=false:=Q4.out.fz 5
         have f6:w4.frozen? ⟨w.heap.size+1,6,none⟩=false:=Q4.out.fz 6
         have f7:w4.frozen? ⟨w.heap.size+1,7,none⟩=false:=Q4.out.fz 7
         have f8:w4.frozen? ⟨w.heap.size+1,8,none⟩=false:=Q4.out.fz 8
         have f9:w4.frozen? ⟨w.heap.size+1,9,none⟩=false:=Q4.out.fz 9
         have f10:w4.frozen? ⟨w.heap.size+1,10,none⟩=false:=Q4.out.fz 10
         go_wp2
         exact bodyPost_ret (v:=.tuple #[encW x A5 c5,.int .i64 0])
          (by
           obtain⟨tt,hh⟩:=put11_row Q4.out (.int .u8 x.kind) (.string x.res) (.string x.jid) (.string x.name) (.slice A5 x.groups.length c5) (.bool false) (.bool false) (.bool false) (.bool false) (.bool false) (.bool x.gone)
           exact results_jid (fn:=Tryz.f18) (p:=2) (s:=3) (ty:=51) rfl _ _ (w.heap.size+1) _ _ _ _ rfl rfl hh Tryz.underlying51 (by kernel_rfl)) rfl
          (HE.out _ _ _ hl5 ((RD4.out.keep (put11_size _ _ _ _ _ _ _ _ _ _ _ _ _) (fun b hb1 hb2=>put11_other (by omega) _ _ _ _ _ _ _ _ _ _ _)).mono (by omega)) (put11_below X4.out (by omega) _ _ _ _ _ _ _ _ _ _ _))
       ·rw [c1] at hempty
        have HE:=Lib.hid (HAO.out (by rw [HEF.out,HRB.out,c1];rfl))
        clear HAO HAE HEF HRB
        have z0:w9.cell? ⟨w.heap.size+1,0,none⟩=some _:=QZ.out.at' 0 rfl
        have z1:w9.cell? ⟨w.heap.size+1,1,none⟩=some _:=QZ.out.at' 1 rfl
        have z2:w9.cell? ⟨w.heap.size+1,2,none⟩=some _:=QZ.out.at' 2 rfl
        have z3:w9.cell? ⟨w.heap.size+1,3,none⟩=some _:=QZ.out.at' 3 rfl
        have z4:w9.cell? ⟨w.heap.size+1,4,none⟩=some _:=QZ.out.at' 4 rfl
        have z5:w9.cell? ⟨w.heap.size+1,5,none⟩=some _:=QZ.out.at' 5 rfl
        have z6:w9.cell? ⟨w.heap.size+1,6,none⟩=some _:=QZ.out.at' 6 rfl
        have z7:w9.cell? ⟨w.heap.size+1,7,none⟩=some _:=QZ.out.at' 7 rfl
        have z8:w9.cell? ⟨w.heap.size+1,8,none⟩=some _:=QZ.out.at' 8 rfl
        have z9:w9.cell? ⟨w.heap.size+1,9,none⟩=some _:=QZ.out.at' 9 rfl
        have z10:w9.cell? ⟨w.heap.size+1,10,none⟩=some _:=QZ.out.at' 10 rfl
        have f0:w9.frozen? ⟨w.heap.size+1,0,none⟩=false:=QZ.out.fz 0
        have f1:w9.frozen? ⟨w.heap.size+1,1,none⟩=false:=QZ.out.fz 1
        have f2:w9.frozen? ⟨w.heap.size+1,2,none⟩=false:=QZ.out.fz 2
        have f3:w9.frozen? ⟨w.heap.size+1,3,none⟩=false:=QZ.out.fz 3
        have f4:w9.frozen? ⟨w.heap.size+1,4,none⟩=false:=QZ.out.fz 4
        have f5:w9.frozen? ⟨w.heap.size+1,5,none⟩=false:=QZ.out.fz 5
        have f6:w9.frozen? ⟨w.heap.size+1,6,none⟩=false:=QZ.out.fz 6
        have f7:w9.frozen? ⟨w.heap.size+1,7,none⟩=false:=QZ.out.fz 7
        have f8:w9.frozen? ⟨w.heap.size+1,8,none⟩=false:=QZ.out.fz 8
        have f9:w9.frozen? ⟨w.heap.size+1,9,none⟩=false:=QZ.out.fz 9
        have f10:w9.frozen? ⟨w.heap.size+1,10,none⟩=false:=QZ.out.fz 10
        go_wp2
        exact bodyPost_ret (v:=.tuple #[encW x A5 c5,.int .i64 0])
         (by
          obtain⟨tt,hh⟩:=put11_row QZ.out (.int .u8 x.kind) (.string x.res) (.string x.jid) (.string x.name) (.slice A5 x.groups.length c5) (.bool false) (.bool false) (.bool false) (.bool false) (.bool false) (.bool x.gone)
          exact results_jid (fn:=Tryz.f18) (p:=2) (s:=3) (ty:=51) rfl _ _ (w.heap.size+1) _ _ _ _ rfl rfl hh Tryz.underlying51 (by kernel_rfl)) rfl
         (HE.out _ _ _ hl5 ((RD.out.keep (put11_size _ _ _ _ _ _ _ _ _ _ _ _ _) (fun b hb1 hb2=>put11_other (by omega) _ _ _ _ _ _ _ _ _ _ _)).mono (by omega)) (put11_below XZ.out (by omega) _ _ _ _ _ _ _ _ _ _ _))
      ·obtain⟨hbz,A5,c5,hrz,hl5,hrdz⟩:=hy9 rfl
       have hx:x=setW v:=by have h:=HAC.out;rw [if_pos rfl] at h;exact h
       rw [←hx] at hrz hl5 hrdz
       clear hx hn9 hy9
       unfold cR at hrz
       have Z:=Lib.hid hrz
       have XZ:=Lib.hid (X8.out.trans (hbz.mono (by have:=X8.out.size;omega)))
       have QZ:=Lib.hid (Q8.out.extB hbz (by omega))
       have GZ:=Lib.hid (HGL.out.below XZ.out)
       have RD:=Lib.hid hrdz
       clear hrz hbz hrdz
       have hempty:=emp_iff x.res
       have hgz:=Z.out.lt
       have a0:w9.cell? ⟨g,0,none⟩=some _:=Z.out.at' 0 rfl
       have a1:w9.cell? ⟨g,1,none⟩=some _:=Z.out.at' 1 rfl
       have a2:w9.cell? ⟨g,2,none⟩=some _:=Z.out.at' 2 rfl
       have a3:w9.cell? ⟨g,3,none⟩=some _:=Z.out.at' 3 rfl
       have a4:w9.cell? ⟨g,4,none⟩=some _:=Z.out.at' 4 rfl
       have a5:w9.cell? ⟨g,5,none⟩=some _:=Z.out.at' 5 rfl
       have a6:w9.cell? ⟨g,6,none⟩=some _:=Z.out.at' 6 rfl
       have a7:w9.cell? ⟨g,7,none⟩=some _:=Z.out.at' 7 rfl
       have a8:w9.cell? ⟨g,8,none⟩=some _:=Z.out.at' 8 rfl
       have a9:w9.cell? ⟨g,9,none⟩=some _:=Z.out.at' 9 rfl
       have a10:w9.cell? ⟨g,10,none⟩=some _:=Z.out.at' 10 rfl
       have a11:w9.cell? ⟨g,11,none⟩=some _:=Z.out.at' 11 rfl
       have a12:w9.cell? ⟨g,12,none⟩=some _:=Z.out.at' 12 rfl
       clear HAC
       cases c1:isEmp x.res
       ·rw [c1] at hempty
        cases c2:resI x.res
        ·have hJE:jidErr ⟨emB,(⟨#[97]⟩:ByteArray),x.res⟩=8:=by unfold jidErr;rw [jidA,c1,c2];rfl
         have HJC:=Lib.hid (jcheck_any ⟨emB,(⟨#[97]⟩:ByteArray),x.res⟩ w9 ⟨show emB.size≤1000000000 by decide,show((⟨#[97]⟩:ByteArray):ByteArray).size≤1000000000 by decide,HRZ.out⟩ GZ.out)
         rw [hJE] at HJC
         unfold encJ at HJC
         have HE:=Lib.hid (HAE.out 220 (by rw [HEF.out,HRB.out,c1,c2];rfl) (by decide))
         clear HAO HAE HEF HRB hJE
         go_wp2_with fail
         refine HJC.out.mono ?_
         rintro e w4 ⟨rfl,hb4⟩
         have X4:=Lib.hid (XZ.out.trans (hb4.mono XZ.out.size))
         have Q4:=Lib.hid (QZ.out.ext hb4)
         clear a0 a1 a2 a3 a4 a5 a6 a7 a8 a9 a10 a11 a12
         clear hb4
         have z0:w4.cell? ⟨w.heap.size+1,0,none⟩=some _:=Q4.out.at' 0 rfl
         have z1:w4.cell? ⟨w.heap.size+1,1,none⟩=some _:=Q4.out.at' 1 rfl
         have z2:w4.cell? ⟨w.heap.size+1,2,none⟩=some _:=Q4.out.at' 2 rfl
         have z3:w4.cell? ⟨w.heap.size+1,3,none⟩=some _:=Q4.out.at' 3 rfl
         have z4:w4.cell? ⟨w.heap.size+1,4,none⟩=some _:=Q4.out.at' 4 rfl
         have z5:w4.cell? ⟨w.heap.size+1,5,none⟩=some _:=Q4.out.at' 5 rfl
         have z6:w4.cell? ⟨w.heap.size+1,6,none⟩=some _:=Q4.out.at' 6 rfl
         have z7:w4.cell? ⟨w.heap.size+1,7,none⟩=some _:=Q4.out.at' 7 rfl
         have z8:w4.cell? ⟨w.heap.size+1,8,none⟩=some _:=Q4.out.at' 8 rfl
         have z9:w4.cell? ⟨w.heap.size+1,9,none⟩=some _:=Q4.out.at' 9 rfl
         have z10:w4.cell? ⟨w.heap.size+1,10,none⟩=some _:=Q4.out.at' 10 rfl
         have f0:w4.frozen? ⟨w.heap.size+1,0,none⟩=false:=Q4.out.fz 0
         have f1:w4.frozen? ⟨w.heap.size+1,1,none⟩=false:=Q4.out.fz 1
         have f2:w4.frozen? ⟨w.heap.size+1,2,none⟩=false:=Q4.out.fz 2
         have f3:w4.frozen? ⟨w.heap.size+1,3,none⟩=false:=Q4.out.fz 3
         have f4:w4.frozen? ⟨w.heap.size+1,4,none⟩=false:=Q4.out.fz 4
         have f5:w4.frozen? ⟨w.heap.size+1,5,none⟩=false:=Q4.out.fz 5
         have f6:w4.frozen? ⟨w.heap.size+1,6,none⟩=false:=Q4.out.fz 6
         have f7:w4.frozen? ⟨w.heap.size+1,7,none⟩=false:=Q4.out.fz 7
         have f8:w4.frozen? ⟨w.heap.size+1,8,none⟩=false:=Q4.out.fz 8
         have f9:w4.frozen? ⟨w.heap.size+1,9,none⟩=false:=Q4.out.fz 9
         have f10:w4.frozen? ⟨w.heap.size+1,10,none⟩=false:=Q4.out.fz 10
         go_wp2
         exact bodyPost_ret (v:=.tuple #[encW emW none 0,.int .i64 220])
          (by
           obtain⟨tt,hh⟩:=put11_row Q4.out (.int .u8 0) (.string ⟨#[]⟩) (.string ⟨#[]⟩) (.string ⟨#[]⟩) (.slice none 0 0) (.bool false) (.bool false) (.bool false) (.bool false) (.bool false) (.bool false)
           exact results_jid (fn:=Tryz.f18) (p:=2) (s:=3) (ty:=51) rfl _ _ (w.heap.size+1) _ _ _ _ rfl rfl hh Tryz.underlying51 (by kernel_rfl)) rfl
          (HE.out _ (put11_below X4.out (by omega) _ _ _ _ _ _ _ _ _ _ _))
        ·have hJE:jidErr ⟨emB,(⟨#[97]⟩:ByteArray),x.res⟩=0:=by unfold jidErr;rw [jidA,c1,c2];rfl
         have HJC:=Lib.hid (jcheck_any ⟨emB,(⟨#[97]⟩:ByteArray),x.res⟩ w9 ⟨show emB.size≤1000000000 by decide,show((⟨#[97]⟩:ByteArray):ByteArray).size≤1000000000 by decide,HRZ.out⟩ GZ.out)
         rw [hJE] at HJC
         unfold encJ at HJC
         have HE:=Lib.hid (HAO.out (by rw [HEF.out,HRB.out,c1,c2];rfl))
         clear HAO HAE HEF HRB hJE
         go_wp2_with fail
         refine HJC.out.mono ?_
         rintro e w4 ⟨rfl,hb4⟩
         have X4:=Lib.hid (XZ.out.trans (hb4.mono XZ.out.size))
         have Q4:=Lib.hid (QZ.out.ext hb4)
         have Z4:=Lib.hid (Z.out.ext hb4)
         have RD4:=Lib.hid (RD.out.keep hb4.size (fun b hb1 hb2=>hb4.block b hb2))
         clear a0 a1 a2 a3 a4 a5 a6 a7 a8 a9 a10 a11 a12
         clear hb4
         have a0:w4.cell? ⟨g,0,none⟩=some _:=Z4.out.at' 0 rfl
         have a1:w4.cell? ⟨g,1,none⟩=some _:=Z4.out.at' 1 rfl
         have a2:w4.cell? ⟨g,2,none⟩=some _:=Z4.out.at' 2 rfl
         have a3:w4.cell? ⟨g,3,none⟩=some _:=Z4.out.at' 3 rfl
         have a4:w4.cell? ⟨g,4,none⟩=some _:=Z4.out.at' 4 rfl
         have a5:w4.cell? ⟨g,5,none⟩=some _:=Z4.out.at' 5 rfl
         have a6:w4.cell? ⟨g,6,none⟩=some _:=Z4.out.at' 6 rfl
         have a7:w4.cell? ⟨g,7,none⟩=some _:=Z4.out.at' 7 rfl
         have a8:w4.cell? ⟨g,8,none⟩=some _:=Z4.out.at' 8 rfl
         have a9:w4.cell? ⟨g,9,none⟩=some _:=Z4.out.at' 9 rfl
         have a10:w4.cell? ⟨g,10,none⟩=some _:=Z4.out.at' 10 rfl
         have a11:w4.cell? ⟨g,11,none⟩=some _:=Z4.out.at' 11 rfl
         have a12:w4.cell? ⟨g,12,none⟩=some _:=Z4.out.at' 12 rfl
         have z0:w4.cell? ⟨w.heap.size+1,0,none⟩=some _:=Q4.out.at' 0 rfl
         have z1:w4.cell? ⟨w.heap.size+1,1,none⟩=some _:=Q4.out.at' 1 rfl
         have z2:w4.cell? ⟨w.heap.size+1,2,none⟩=some _:=Q4.out.at' 2 rfl
         have z3:w4.cell? ⟨w.heap.size+1,3,none⟩=some _:=Q4.out.at' 3 rfl
         have z4:w4.cell? ⟨w.heap.size+1,4,none⟩=some _:=Q4.out.at' 4 rfl
         have z5:w4.cell? ⟨w.heap.size+1,5,none⟩=some _:=Q4.out.at' 5 rfl
         have z6:w4.cell? ⟨w.heap.size+1,6,none⟩=some _:=Q4.out.at' 6 rfl
         have z7:w4.cell? ⟨w.heap.size+1,7,none⟩=some _:=Q4.out.at' 7 rfl
         have z8:w4.cell? ⟨w.heap.size+1,8,none⟩=some _:=Q4.out.at' 8 rfl
         have z9:w4.cell? ⟨w.heap.size+1,9,none⟩=some _:=Q4.out.at' 9 rfl
         have z10:w4.cell? ⟨w.heap.size+1,10,none⟩=some _:=Q4.out.at' 10 rfl
         have f0:w4.frozen? ⟨w.heap.size+1,0,none⟩=false:=Q4.out.fz 0
         have f1:w4.frozen? ⟨w.heap.size+1,1,none⟩=false:=Q4.out.fz 1
         have f2:w4.frozen? ⟨w.heap.size+1,2,none⟩=false:=Q4.out.fz 2
         have f3:w4.frozen? ⟨w.heap.size+1,3,none⟩=false:=Q4.out.fz 3
         have f4:w4.frozen? ⟨w.heap.size+1,4,none⟩=false:=Q4.out.fz 4
         have f5:w4.frozen? ⟨w.heap.size+1,5,none⟩=false:=Q4.out.fz 5
         have f6:w4.frozen? ⟨w.heap.size+1,6,none⟩=false:=Q4.out.fz 6
         have f7:w4.frozen? ⟨w.heap.size+1,7,none⟩=false:=Q4.out.fz 7
         have f8:w4.frozen? ⟨w.heap.size+1,8,none⟩=false:=Q4.out.fz 8
         have f9:w4.frozen? ⟨w.heap.size+1,9,none⟩=false:=Q4.out.fz 9
         have f10:w4.frozen? ⟨w.heap.size+1,10,none⟩=false:=Q4.out.fz 10
         go_wp2
         exact bodyPost_ret (v:=.tuple #[encW x A5 c5,.int .i64 0])
          (by
           obtain⟨tt,hh⟩:=put11_row Q4.out (.int .u8 x.kind) (.string x.res) (.string x.jid) (.string x.name) (.slice A5 x.groups.length c5) (.bool false) (.bool false) (.bool false) (.bool false) (.bool false) (.bool x.gone)
           exact results_jid (fn:=Tryz.f18) (p:=2) (s:=3) (ty:=51) rfl _ _ (w.heap.size+1) _ _ _ _ rfl rfl hh Tryz.underlying51 (by kernel_rfl)) rfl
          (HE.out _ _ _ hl5 ((RD4.out.keep (put11_size _ _ _ _ _ _ _ _ _ _ _ _ _) (fun b hb1 hb2=>put11_other (by omega) _ _ _ _ _ _ _ _ _ _ _)).mono (by omega)) (put11_below X4.out (by omega) _ _ _ _ _ _ _ _ _ _ _))
       ·rw [c1] at hempty
        have HE:=Lib.hid (HAO.out (by rw [HEF.out,HRB.out,c1];rfl))
        clear HAO HAE HEF HRB
        have z0:w9.cell? ⟨w.heap.size+1,0,none⟩=some _:=QZ.out.at' 0 rfl
        have z1:w9.cell? ⟨w.heap.size+1,1,none⟩=some _:=QZ.out.at' 1 rfl
        have z2:w9.cell? ⟨w.heap.size+1,2,none⟩=some _:=QZ.out.at' 2 rfl
        have z3:w9.cell? ⟨w.heap.size+1,3,none⟩=some _:=QZ.out.at' 3 rfl
        have z4:w9.cell? ⟨w.heap.size+1,4,none⟩=some _:=QZ.out.at' 4 rfl
        have z5:w9.cell? ⟨w.heap.size+1,5,none⟩=some _:=QZ.out.at' 5 rfl
        have z6:w9.cell? ⟨w.heap.size+1,6,none⟩=some _:=QZ.out.at' 6 rfl
        have z7:w9.cell? ⟨w.heap.size+1,7,none⟩=some _:=QZ.out.at' 7 rfl
        have z8:w9.cell? ⟨w.heap.size+1,8,none⟩=some _:=QZ.out.at' 8 rfl
        have z9:w9.cell? ⟨w.heap.size+1,9,none⟩=some _:=QZ.out.at' 9 rfl
        have z10:w9.cell? ⟨w.heap.size+1,10,none⟩=some _:=QZ.out.at' 10 rfl
        have f0:w9.frozen? ⟨w.heap.size+1,0,none⟩=false:=QZ.out.fz 0
        have f1:w9.frozen? ⟨w.heap.size+1,1,none⟩=false:=QZ.out.fz 1
        have f2:w9.frozen? ⟨w.heap.size+1,2,none⟩=false:=QZ.out.fz 2
        have f3:w9.frozen? ⟨w.heap.size+1,3,none⟩=false:=QZ.out.fz 3
        have f4:w9.frozen? ⟨w.heap.size+1,4,none⟩=false:=QZ.out.fz 4
        have f5:w9.frozen? ⟨w.heap.size+1,5,none⟩=false:=QZ.out.fz 5
        have f6:w9.frozen? ⟨w.heap.size+1,6,none⟩=false:=QZ.out.fz 6
        have f7:w9.frozen? ⟨w.heap.size+1,7,none⟩=false:=QZ.out.fz 7
        have f8:w9.frozen? ⟨w.heap.size+1,8,none⟩=false:=QZ.out.fz 8
        have f9:w9.frozen? ⟨w.heap.size+1,9,none⟩=false:=QZ.out.fz 9
        have f10:w9.frozen? ⟨w.heap.size+1,10,none⟩=false:=QZ.out.fz 10
        go_wp2
        exact bodyPost_ret (v:=.tuple #[encW x A5 c5,.int .i64 0])
         (by
          obtain⟨tt,hh⟩:=put11_row QZ.out (.int .u8 x.kind) (.string x.res) (.string x.jid) (.string x.name) (.slice A5 x.groups.length c5) (.bool false) (.bool false) (.bool false) (.bool false) (.bool false) (.bool x.gone)
          exact results_jid (fn:=Tryz.f18) (p:=2) (s:=3) (ty:=51) rfl _ _ (w.heap.size+1) _ _ _ _ rfl rfl hh Tryz.underlying51 (by kernel_rfl)) rfl
         (HE.out _ _ _ hl5 ((RD.out.keep (put11_size _ _ _ _ _ _ _ _ _ _ _ _ _) (fun b hb1 hb2=>put11_other (by omega) _ _ _ _ _ _ _ _ _ _ _)).mono (by omega)) (put11_below XZ.out (by omega) _ _ _ _ _ _ _ _ _ _ _))
     ·obtain⟨hbz,A5,c5,hrz,hl5,hrdz⟩:=hy8 rfl
      have hx:x=getW:=by have h:=HAD.out;rw [if_pos rfl] at h;exact h
      rw [←hx] at hrz hl5 hrdz
      have HAC:=HAD
      clear hx hn8 hy8 HAD
      unfold cR at hrz
      have Z:=Lib.hid hrz
      have XZ:=Lib.hid (X7.out.trans (hbz.mono (by have:=X7.out.size;omega)))
      have QZ:=Lib.hid (Q7.out.extB hbz (by omega))
      have GZ:=Lib.hid (HGL.out.below XZ.out)
      have RD:=Lib.hid hrdz
      clear hrz hbz hrdz
      have hempty:=emp_iff x.res
      have hgz:=Z.out.lt
      have a0:w8.cell? ⟨g,0,none⟩=some _:=Z.out.at' 0 rfl
      have a1:w8.cell? ⟨g,1,none⟩=some _:=Z.out.at' 1 rfl
      have a2:w8.cell? ⟨g,2,none⟩=some _:=Z.out.at' 2 rfl
      have a3:w8.cell? ⟨g,3,none⟩=some _:=Z.out.at' 3 rfl
      have a4:w8.cell? ⟨g,4,none⟩=some _:=Z.out.at' 4 rfl
      have a5:w8.cell? ⟨g,5,none⟩=some _:=Z.out.at' 5 rfl
      have a6:w8.cell? ⟨g,6,none⟩=some _:=Z.out.at' 6 rfl
      have a7:w8.cell? ⟨g,7,none⟩=some _:=Z.out.at' 7 rfl
      have a8:w8.cell? ⟨g,8,none⟩=some _:=Z.out.at' 8 rfl
      have a9:w8.cell? ⟨g,9,none⟩=some _:=Z.out.at' 9 rfl
      have a10:w8.cell? ⟨g,10,none⟩=some _:=Z.out.at' 10 rfl
      have a11:w8.cell? ⟨g,11,none⟩=some _:=Z.out.at' 11 rfl
      have a12:w8.cell? ⟨g,12,none⟩=some _:=Z.out.at' 12 rfl
      clear HAC
      cases c1:isEmp x.res
      ·rw [c1] at hempty
       cases c2:resI x.res
       ·have hJE:jidErr ⟨emB,(⟨#[97]⟩:ByteArray),x.res⟩=8:=by unfold jidErr;rw [jidA,c1,c2];rfl
        have HJC:=Lib.hid (jcheck_any ⟨emB,(⟨#[97]⟩:ByteArray),x.res⟩ w8 ⟨show emB.size≤1000000000 by decide,show((⟨#[97]⟩:ByteArray):ByteArray).size≤1000000000 by decide,HRZ.out⟩ GZ.out)
        rw [hJE] at HJC
        unfold encJ at HJC
        have HE:=Lib.hid (HAE.out 220 (by rw [HEF.out,HRB.out,c1,c2];rfl) (by decide))
        clear HAO HAE HEF HRB hJE
        go_wp2_with fail
        refine HJC.out.mono ?_
        rintro e w4 ⟨rfl,hb4⟩
        have X4:=Lib.hid (XZ.out.trans (hb4.mono XZ.out.size))
        have Q4:=Lib.hid (QZ.out.ext hb4)
        clear a0 a1 a2 a3 a4 a5 a6 a7 a8 a9 a10 a11 a12
        clear hb4
        have z0:w4.cell? ⟨w.heap.size+1,0,none⟩=some _:=Q4.out.at' 0 rfl
        have z1:w4.cell? ⟨w.heap.size+1,1,none⟩=some _:=Q4.out.at' 1 rfl
        have z2:w4.cell? ⟨w.heap.size+1,2,none⟩=some _:=Q4.out.at' 2 rfl
        have z3:w4.cell? ⟨w.heap.size+1,3,none⟩=some _:=Q4.out.at' 3 rfl
        have z4:w4.cell? ⟨w.heap.size+1,4,none⟩=some _:=Q4.out.at' 4 rfl
        have z5:w4.cell? ⟨w.heap.size+1,5,none⟩=some _:=Q4.out.at' 5 rfl
        have z6:w4.cell? ⟨w.heap.size+1,6,none⟩=some _:=Q4.out.at' 6 rfl
        have z7:w4.cell? ⟨w.heap.size+1,7,none⟩=some _:=Q4.out.at' 7 rfl
        have z8:w4.cell? ⟨w.heap.size+1,8,none⟩=some _:=Q4.out.at' 8 rfl
        have z9:w4.cell? ⟨w.heap.size+1,9,none⟩=some _:=Q4.out.at' 9 rfl
        have z10:w4.cell? ⟨w.heap.size+1,10,none⟩=some _:=Q4.out.at' 10 rfl
        have f0:w4.frozen? ⟨w.heap.size+1,0,none⟩=false:=Q4.out.fz 0
        have f1:w4.frozen? ⟨w.heap.size+1,1,none⟩=false:=Q4.out.fz 1
        have f2:w4.frozen? ⟨w.heap.size+1,2,none⟩=false:=Q4.out.fz 2
        have f3:w4.frozen? ⟨w.heap.size+1,3,none⟩=false:=Q4.out.fz 3
        have f4:w4.frozen? ⟨w.heap.size+1,4,none⟩=false:=Q4.out.fz 4
        have f5:w4.frozen? ⟨w.heap.size+1,5,none⟩=false:=Q4.out.fz 5
        have f6:w4.frozen? ⟨w.heap.size+1,6,none⟩=false:=Q4.out.fz 6
        have f7:w4.frozen? ⟨w.heap.size+1,7,none⟩=false:=Q4.out.fz 7
        have f8:w4.frozen? ⟨w.heap.size+1,8,none⟩=false:=Q4.out.fz 8
        have f9:w4.frozen? ⟨w.heap.size+1,9,none⟩=false:=Q4.out.fz 9
        have f10:w4.frozen? ⟨w.heap.size+1,10,none⟩=false:=Q4.out.fz 10
        go_wp2
        exact bodyPost_ret (v:=.tuple #[encW emW none 0,.int .i64 220])
         (by
          obtain⟨tt,hh⟩:=put11_row Q4.out (.int .u8 0) (.string ⟨#[]⟩) (.string ⟨#[]⟩) (.string ⟨#[]⟩) (.slice none 0 0) (.bool false) (.bool false) (.bool false) (.bool false) (.bool false) (.bool false)
          exact results_jid (fn:=Tryz.f18) (p:=2) (s:=3) (ty:=51) rfl _ _ (w.heap.size+1) _ _ _ _ rfl rfl hh Tryz.underlying51 (by kernel_rfl)) rfl
         (HE.out _ (put11_below X4.out (by omega) _ _ _ _ _ _ _ _ _ _ _))
       ·have hJE:jidErr ⟨emB,(⟨#[97]⟩:ByteArray),x.res⟩=0:=by unfold jidErr;rw [jidA,c1,c2];rfl
        have HJC:=Lib.hid (jcheck_any ⟨emB,(⟨#[97]⟩:ByteArray),x.res⟩ w8 ⟨show emB.size≤1000000000 by decide,show((⟨#[97]⟩:ByteArray):ByteArray).size≤1000000000 by decide,HRZ.out⟩ GZ.out)
        rw [hJE] at HJC
        unfold encJ at HJC
        have HE:=Lib.hid (HAO.out (by rw [HEF.out,HRB.out,c1,c2];rfl))
        clear HAO HAE HEF HRB hJE
        go_wp2_with fail
        refine HJC.out.mono ?_
        rintro e w4 ⟨rfl,hb4⟩
        have X4:=Lib.hid (XZ.out.trans (hb4.mono XZ.out.size))
        have Q4:=Lib.hid (QZ.out.ext hb4)
        have Z4:=Lib.hid (Z.out.ext hb4)
        have RD4:=Lib.hid (RD.out.keep hb4.size (fun b hb1 hb2=>hb4.block b hb2))
        clear a0 a1 a2 a3 a4 a5 a6 a7 a8 a9 a10 a11 a12
        clear hb4
        have a0:w4.cell? ⟨g,0,none⟩=some _:=Z4.out.at' 0 rfl
        have a1:w4.cell? ⟨g,1,none⟩=some _:=Z4.out.at' 1 rfl
        have a2:w4.cell? ⟨g,2,none⟩=some _:=Z4.out.at' 2 rfl
        have a3:w4.cell? ⟨g,3,none⟩=some _:=Z4.out.at' 3 rfl
        have a4:w4.cell? ⟨g,4,none⟩=some _:=Z4.out.at' 4 rfl
        have a5:w4.cell? ⟨g,5,none⟩=some _:=Z4.out.at' 5 rfl
        have a6:w4.cell? ⟨g,6,none⟩=some _:=Z4.out.at' 6 rfl
        have a7:w4.cell? ⟨g,7,none⟩=some _:=Z4.out.at' 7 rfl
        have a8:w4.cell? ⟨g,8,none⟩=some _:=Z4.out.at' 8 rfl
        have a9:w4.cell? ⟨g,9,none⟩=some _:=Z4.out.at' 9 rfl
        have a10:w4.cell? ⟨g,10,none⟩=some _:=Z4.out.at' 10 rfl
        have a11:w4.cell? ⟨g,11,none⟩=some _:=Z4.out.at' 11 rfl
        have a12:w4.cell? ⟨g,12,none⟩=some _:=Z4.out.at' 12 rfl
        have z0:w4.cell? ⟨w.heap.size+1,0,none⟩=some _:=Q4.out.at' 0 rfl
        have z1:w4.cell? ⟨w.heap.size+1,1,none⟩=some _:=Q4.out.at' 1 rfl
        have z2:w4.cell? ⟨w.heap.size+1,2,none⟩=some _:=Q4.out.at' 2 rfl
        have z3:w4.cell? ⟨w.heap.size+1,3,none⟩=some _:=Q4.out.at' 3 rfl
        have z4:w4.cell? ⟨w.heap.size+1,4,none⟩=some _:=Q4.out.at' 4 rfl
        have z5:w4.cell? ⟨w.heap.size+1,5,none⟩=some _:=Q4.out.at' 5 rfl
        have z6:w4.cell? ⟨w.heap.size+1,6,none⟩=some _:=Q4.out.at' 6 rfl
        have z7:w4.cell? ⟨w.heap.size+1,7,none⟩=some _:=Q4.out.at' 7 rfl
        have z8:w4.cell? ⟨w.heap.size+1,8,none⟩=some _:=Q4.out.at' 8 rfl
        have z9:w4.cell? ⟨w.heap.size+1,9,none⟩=some _:=Q4.out.at' 9 rfl
        have z10:w4.cell? ⟨w.heap.size+1,10,none⟩=some _:=Q4.out.at' 10 rfl
        have f0:w4.frozen? ⟨w.heap.size+1,0,none⟩=false:=Q4.out.fz 0
        have f1:w4.frozen? ⟨w.heap.size+1,1,none⟩=false:=Q4.out.fz 1
        have f2:w4.frozen? ⟨w.heap.size+1,2,none⟩=false:=Q4.out.fz 2
        have f3:w4.frozen? ⟨w.heap.size+1,3,none⟩=false:=Q4.out.fz 3
        have f4:w4.frozen? ⟨w.heap.size+1,4,none⟩=false:=Q4.out.fz 4
        have f5:w4.frozen? ⟨w.heap.size+1,5,none⟩=false:=Q4.out.fz 5
        have f6:w4.frozen? ⟨w.heap.size+1,6,none⟩=false:=Q4.out.fz 6
        have f7:w4.frozen? ⟨w.heap.size+1,7,none⟩=false:=Q4.out.fz 7
        have f8:w4.frozen? ⟨w.heap.size+1,8,none⟩=false:=Q4.out.fz 8
        have f9:w4.frozen? ⟨w.heap.size+1,9,none⟩=false:=Q4.out.fz 9
        have f10:w4.frozen? ⟨w.heap.size+1,10,none⟩=false:=Q4.out.fz 10
        go_wp2
        exact bodyPost_ret (v:=.tuple #[encW x A5 c5,.int .i64 0])
         (by
          obtain⟨tt,hh⟩:=put11_row Q4.out (.int .u8 x.kind) (.string x.res) (.string x.jid) (.string x.name) (.slice A5 x.groups.length c5) (.bool false) (.bool false) (.bool false) (.bool false) (.bool false) (.bool x.gone)
          exact results_jid (fn:=Tryz.f18) (p:=2) (s:=3) (ty:=51) rfl _ _ (w.heap.size+1) _ _ _ _ rfl rfl hh Tryz.underlying51 (by kernel_rfl)) rfl
         (HE.out _ _ _ hl5 ((RD4.out.keep (put11_size _ _ _ _ _ _ _ _ _ _ _ _ _) (fun b hb1 hb2=>put11_other (by omega) _ _ _ _ _ _ _ _ _ _ _)).mono (by omega)) (put11_below X4.out (by omega) _ _ _ _ _ _ _ _ _ _ _))
      ·rw [c1] at hempty
       have HE:=Lib.hid (HAO.out (by rw [HEF.out,HRB.out,c1];rfl))
       clear HAO HAE HEF HRB
       have z0:w8.cell? ⟨w.heap.size+1,0,none⟩=some _:=QZ.out.at' 0 rfl
       have z1:w8.cell? ⟨w.heap.size+1,1,none⟩=some _:=QZ.out.at' 1 rfl
       have z2:w8.cell? ⟨w.heap.size+1,2,none⟩=some _:=QZ.out.at' 2 rfl
       have z3:w8.cell? ⟨w.heap.size+1,3,none⟩=some _:=QZ.out.at' 3 rfl
       have z4:w8.cell? ⟨w.heap.size+1,4,none⟩=some _:=QZ.out.at' 4 rfl
       have z5:w8.cell? ⟨w.heap.size+1,5,none⟩=some _:=QZ.out.at' 5 rfl
       have z6:w8.cell? ⟨w.heap.size+1,6,none⟩=some _:=QZ.out.at' 6 rfl
       have z7:w8.cell? ⟨w.heap.size+1,7,none⟩=some _:=QZ.out.at' 7 rfl
       have z8:w8.cell? ⟨w.heap.size+1,8,none⟩=some _:=QZ.out.at' 8 rfl
       have z9:w8.cell? ⟨w.heap.size+1,9,none⟩=some _:=QZ.out.at' 9 rfl
       have z10:w8.cell? ⟨w.heap.size+1,10,none⟩=some _:=QZ.out.at' 10 rfl
       have f0:w8.frozen? ⟨w.heap.size+1,0,none⟩=false:=QZ.out.fz 0
       have f1:w8.frozen? ⟨w.heap.size+1,1,none⟩=false:=QZ.out.fz 1
       have f2:w8.frozen? ⟨w.heap.size+1,2,none⟩=false:=QZ.out.fz 2
       have f3:w8.frozen? ⟨w.heap.size+1,3,none⟩=false:=QZ.out.fz 3
       have f4:w8.frozen? ⟨w.heap.size+1,4,none⟩=false:=QZ.out.fz 4
       have f5:w8.frozen? ⟨w.heap.size+1,5,none⟩=false:=QZ.out.fz 5
       have f6:w8.frozen? ⟨w.heap.size+1,6,none⟩=false:=QZ.out.fz 6
       have f7:w8.frozen? ⟨w.heap.size+1,7,none⟩=false:=QZ.out.fz 7
       have f8:w8.frozen? ⟨w.heap.size+1,8,none⟩=false:=QZ.out.fz 8
       have f9:w8.frozen? ⟨w.heap.size+1,9,none⟩=false:=QZ.out.fz 9
       have f10:w8.frozen? ⟨w.heap.size+1,10,none⟩=false:=QZ.out.fz 10
       go_wp2
       exact bodyPost_ret (v:=.tuple #[encW x A5 c5,.int .i64 0])
        (by
         obtain⟨tt,hh⟩:=put11_row QZ.out (.int .u8 x.kind) (.string x.res) (.string x.jid) (.string x.name) (.slice A5 x.groups.length c5) (.bool false) (.bool false) (.bool false) (.bool false) (.bool false) (.bool x.gone)
         exact results_jid (fn:=Tryz.f18) (p:=2) (s:=3) (ty:=51) rfl _ _ (w.heap.size+1) _ _ _ _ rfl rfl hh Tryz.underlying51 (by kernel_rfl)) rfl
        (HE.out _ _ _ hl5 ((RD.out.keep (put11_size _ _ _ _ _ _ _ _ _ _ _ _ _) (fun b hb1 hb2=>put11_other (by omega) _ _ _ _ _ _ _ _ _ _ _)).mono (by omega)) (put11_below XZ.out (by omega) _ _ _ _ _ _ _ _ _ _ _))
    ·obtain⟨hbz,A5,c5,hrz,hl5,hrdz⟩:=hy7 rfl
     have hx:x=bindW v:=by have h:=HAC.out;rw [if_pos rfl] at h;exact h
     rw [←hx] at hrz hl5 hrdz
     clear hx hn7 hy7
     unfold cR at hrz
     have Z:=Lib.hid hrz
     have XZ:=Lib.hid (X6.out.trans (hbz.mono (by have:=X6.out.size;omega)))
     have QZ:=Lib.hid (Q6.out.extB hbz (by omega))
     have GZ:=Lib.hid (HGL.out.below XZ.out)
     have RD:=Lib.hid hrdz
     clear hrz hbz hrdz
     have hempty:=emp_iff x.res
     have hgz:=Z.out.lt
     have a0:w7.cell? ⟨g,0,none⟩=some _:=Z.out.at' 0 rfl
     have a1:w7.cell? ⟨g,1,none⟩=some _:=Z.out.at' 1 rfl
     have a2:w7.cell? ⟨g,2,none⟩=some _:=Z.out.at' 2 rfl
     have a3:w7.cell? ⟨g,3,none⟩=some _:=Z.out.at' 3 rfl
     have a4:w7.cell? ⟨g,4,none⟩=some _:=Z.out.at' 4 rfl
     have a5:w7.cell? ⟨g,5,none⟩=some _:=Z.out.at' 5 rfl
     have a6:w7.cell? ⟨g,6,none⟩=some _:=Z.out.at' 6 rfl
     have a7:w7.cell? ⟨g,7,none⟩=some _:=Z.out.at' 7 rfl
     have a8:w7.cell? ⟨g,8,none⟩=some _:=Z.out.at' 8 rfl
     have a9:w7.cell? ⟨g,9,none⟩=some _:=Z.out.at' 9 rfl
     have a10:w7.cell? ⟨g,10,none⟩=some _:=Z.out.at' 10 rfl
     have a11:w7.cell? ⟨g,11,none⟩=some _:=Z.out.at' 11 rfl
     have a12:w7.cell? ⟨g,12,none⟩=some _:=Z.out.at' 12 rfl
     clear HAC
     cases c1:isEmp x.res
     ·rw [c1] at hempty
      cases c2:resI x.res
      ·have hJE:jidErr ⟨emB,(⟨#[97]⟩:ByteArray),x.res⟩=8:=by unfold jidErr;rw [jidA,c1,c2];rfl
       have HJC:=Lib.hid (jcheck_any ⟨emB,(⟨#[97]⟩:ByteArray),x.res⟩ w7 ⟨show emB.size≤1000000000 by decide,show((⟨#[97]⟩:ByteArray):ByteArray).size≤1000000000 by decide,HRZ.out⟩ GZ.out)
       rw [hJE] at HJC
       unfold encJ at HJC
       have HE:=Lib.hid (HAE.out 220 (by rw [HEF.out,HRB.out,c1,c2];rfl) (by decide))
       clear HAO HAE HEF HRB hJE
       go_wp2_with fail
       refine HJC.out.mono ?_
       rintro e w4 ⟨rfl,hb4⟩
       have X4:=Lib.hid (XZ.out.trans (hb4.mono XZ.out.size))
       have Q4:=Lib.hid (QZ.out.ext hb4)
       clear a0 a1 a2 a3 a4 a5 a6 a7 a8 a9 a10 a11 a12
       clear hb4
       have z0:w4.cell? ⟨w.heap.size+1,0,none⟩=some _:=Q4.out.at' 0 rfl
       have z1:w4.cell? ⟨w.heap.size+1,1,none⟩=some _:=Q4.out.at' 1 rfl
       have z2:w4.cell? ⟨w.heap.size+1,2,none⟩=some _:=Q4.out.at' 2 rfl
       have z3:w4.cell? ⟨w.heap.size+1,3,none⟩=some _:=Q4.out.at' 3 rfl
       have z4:w4.cell? ⟨w.heap.size+1,4,none⟩=some _:=Q4.out.at' 4 rfl
       have z5:w4.cell? ⟨w.heap.size+1,5,none⟩=some _:=Q4.out.at' 5 rfl
       have z6:w4.cell? ⟨w.heap.size+1,6,none⟩=some _:=Q4.out.at' 6 rfl
       have z7:w4.cell? ⟨w.heap.size+1,7,none⟩=some _:=Q4.out.at' 7 rfl
       have z8:w4.cell? ⟨w.heap.size+1,8,none⟩=some _:=Q4.out.at' 8 rfl
       have z9:w4.cell? ⟨w.heap.size+1,9,none⟩=some _:=Q4.out.at' 9 rfl
       have z10:w4.cell? ⟨w.heap.size+1,10,none⟩=some _:=Q4.out.at' 10 rfl
       have f0:w4.frozen? ⟨w.heap.size+1,0,none⟩=false:=Q4.out.fz 0
       have f1:w4.frozen? ⟨w.heap.size+1,1,none⟩=false:=Q4.out.fz 1
       have f2:w4.frozen? ⟨w.heap.size+1,2,none⟩=false:=Q4.out.fz 2
       have f3:w4.frozen? ⟨w.heap.size+1,3,none⟩=false:=Q4.out.fz 3
       have f4:w4.frozen? ⟨w.heap.size+1,4,none⟩=false:=Q4.out.fz 4
       have f5:w4.frozen? ⟨w.heap.size+1,5,none⟩=false:=Q4.out.fz 5
       have f6:w4.frozen? ⟨w.heap.size+1,6,none⟩=false:=Q4.out.fz 6
       have f7:w4.frozen? ⟨w.heap.size+1,7,none⟩=false:=Q4.out.fz 7
       have f8:w4.frozen? ⟨w.heap.size+1,8,none⟩=false:=Q4.out.fz 8
       have f9:w4.frozen? ⟨w.heap.size+1,9,none⟩=false:=Q4.out.fz 9
       have f10:w4.frozen? ⟨w.heap.size+1,10,none⟩=false:=Q4.out.fz 10
       go_wp2
       exact bodyPost_ret (v:=.tuple #[encW emW none 0,.int .i64 220])
        (by
         obtain⟨tt,hh⟩:=put11_row Q4.out (.int .u8 0) (.string ⟨#[]⟩) (.string ⟨#[]⟩) (.string ⟨#[]⟩) (.slice none 0 0) (.bool false) (.bool false) (.bool false) (.bool false) (.bool false) (.bool false)
         exact results_jid (fn:=Tryz.f18) (p:=2) (s:=3) (ty:=51) rfl _ _ (w.heap.size+1) _ _ _ _ rfl rfl hh Tryz.underlying51 (by kernel_rfl)) rfl
        (HE.out _ (put11_below X4.out (by omega) _ _ _ _ _ _ _ _ _ _ _))
      ·have hJE:jidErr ⟨emB,(⟨#[97]⟩:ByteArray),x.res⟩=0:=by unfold jidErr;rw [jidA,c1,c2];rfl
       have HJC:=Lib.hid (jcheck_any ⟨emB,(⟨#[97]⟩:ByteArray),x.res⟩ w7 ⟨show emB.size≤1000000000 by decide,show((⟨#[97]⟩:ByteArray):ByteArray).size≤1000000000 by decide,HRZ.out⟩ GZ.out)
       rw [hJE] at HJC
       unfold encJ at HJC
       have HE:=Lib.hid (HAO.out (by rw [HEF.out,HRB.out,c1,c2];rfl))
       clear HAO HAE HEF HRB hJE
       go_wp2_with fail
       refine HJC.out.mono ?_
       rintro e w4 ⟨rfl,hb4⟩
       have X4:=Lib.hid (XZ.out.trans (hb4.mono XZ.out.size))
       have Q4:=Lib.hid (QZ.out.ext hb4)
       have Z4:=Lib.hid (Z.out.ext hb4)
       have RD4:=Lib.hid (RD.out.keep hb4.size (fun b hb1 hb2=>hb4.block b hb2))
       clear a0 a1 a2 a3 a4 a5 a6 a7 a8 a9 a10 a11 a12
       clear hb4
       have a0:w4.cell? ⟨g,0,none⟩=some _:=Z4.out.at' 0 rfl
       have a1:w4.cell? ⟨g,1,none⟩=some _:=Z4.out.at' 1 rfl
       have a2:w4.cell? ⟨g,2,none⟩=some _:=Z4.out.at' 2 rfl
       have a3:w4.cell? ⟨g,3,none⟩=some _:=Z4.out.at' 3 rfl
       have a4:w4.cell? ⟨g,4,none⟩=some _:=Z4.out.at' 4 rfl
       have a5:w4.cell? ⟨g,5,none⟩=some _:=Z4.out.at' 5 rfl
       have a6:w4.cell? ⟨g,6,none⟩=some _:=Z4.out.at' 6 rfl
       have a7:w4.cell? ⟨g,7,none⟩=some _:=Z4.out.at' 7 rfl
       have a8:w4.cell? ⟨g,8,none⟩=some _:=Z4.out.at' 8 rfl
       have a9:w4.cell? ⟨g,9,none⟩=some _:=Z4.out.at' 9 rfl
       have a10:w4.cell? ⟨g,10,none⟩=some _:=Z4.out.at' 10 rfl
       have a11:w4.cell? ⟨g,11,none⟩=some _:=Z4.out.at' 11 rfl
       have a12:w4.cell? ⟨g,12,none⟩=some _:=Z4.out.at' 12 rfl
       have z0:w4.cell? ⟨w.heap.size+1,0,none⟩=some _:=Q4.out.at' 0 rfl
       have z1:w4.cell? ⟨w.heap.size+1,1,none⟩=some _:=Q4.out.at' 1 rfl
       have z2:w4.cell? ⟨w.heap.size+1,2,none⟩=some _:=Q4.out.at' 2 rfl
       have z3:w4.cell? ⟨w.heap.size+1,3,none⟩=some _:=Q4.out.at' 3 rfl
       have z4:w4.cell? ⟨w.heap.size+1,4,none⟩=some _:=Q4.out.at' 4 rfl
       have z5:w4.cell? ⟨w.heap.size+1,5,none⟩=some _:=Q4.out.at' 5 rfl
       have z6:w4.cell? ⟨w.heap.size+1,6,none⟩=some _:=Q4.out.at' 6 rfl
       have z7:w4.cell? ⟨w.heap.size+1,7,none⟩=some _:=Q4.out.at' 7 rfl
       have z8:w4.cell? ⟨w.heap.size+1,8,none⟩=some _:=Q4.out.at' 8 rfl
       have z9:w4.cell? ⟨w.heap.size+1,9,none⟩=some _:=Q4.out.at' 9 rfl
       have z10:w4.cell? ⟨w.heap.size+1,10,none⟩=some _:=Q4.out.at' 10 rfl
       have f0:w4.frozen? ⟨w.heap.size+1,0,none⟩=false:=Q4.out.fz 0
       have f1:w4.frozen? ⟨w.heap.size+1,1,none⟩=false:=Q4.out.fz 1
       have f2:w4.frozen? ⟨w.heap.size+1,2,none⟩=false:=Q4.out.fz 2
       have f3:w4.frozen? ⟨w.heap.size+1,3,none⟩=false:=Q4.out.fz 3
       have f4:w4.frozen? ⟨w.heap.size+1,4,none⟩=false:=Q4.out.fz 4
       have f5:w4.frozen? ⟨w.heap.size+1,5,none⟩=false:=Q4.out.fz 5
       have f6:w4.frozen? ⟨w.heap.size+1,6,none⟩=false:=Q4.out.fz 6
       have f7:w4.frozen? ⟨w.heap.size+1,7,none⟩=false:=Q4.out.fz 7
       have f8:w4.frozen? ⟨w.heap.size+1,8,none⟩=false:=Q4.out.fz 8
       have f9:w4.frozen? ⟨w.heap.size+1,9,none⟩=false:=Q4.out.fz 9
       have f10:w4.frozen? ⟨w.heap.size+1,10,none⟩=false:=Q4.out.fz 10
       go_wp2
       exact bodyPost_ret (v:=.tuple #[encW x A5 c5,.int .i64 0])
        (by
         obtain⟨tt,hh⟩:=put11_row Q4.out (.int .u8 x.kind) (.string x.res) (.string x.jid) (.string x.name) (.slice A5 x.groups.length c5) (.bool false) (.bool false) (.bool false) (.bool false) (.bool false) (.bool x.gone)
         exact results_jid (fn:=Tryz.f18) (p:=2) (s:=3) (ty:=51) rfl _ _ (w.heap.size+1) _ _ _ _ rfl rfl hh Tryz.underlying51 (by kernel_rfl)) rfl
        (HE.out _ _ _ hl5 ((RD4.out.keep (put11_size _ _ _ _ _ _ _ _ _ _ _ _ _) (fun b hb1 hb2=>put11_other (by omega) _ _ _ _ _ _ _ _ _ _ _)).mono (by omega)) (put11_below X4.out (by omega) _ _ _ _ _ _ _ _ _ _ _))
     ·rw [c1] at hempty
      have HE:=Lib.hid (HAO.out (by rw [HEF.out,HRB.out,c1];rfl))
      clear HAO HAE HEF HRB
      have z0:w7.cell? ⟨w.heap.size+1,0,none⟩=some _:=QZ.out.at' 0 rfl
      have z1:w7.cell? ⟨w.heap.size+1,1,none⟩=some _:=QZ.out.at' 1 rfl
      have z2:w7.cell? ⟨w.heap.size+1,2,none⟩=some _:=QZ.out.at' 2 rfl
      have z3:w7.cell? ⟨w.heap.size+1,3,none⟩=some _:=QZ.out.at' 3 rfl
      have z4:w7.cell? ⟨w.heap.size+1,4,none⟩=some _:=QZ.out.at' 4 rfl
      have z5:w7.cell? ⟨w.heap.size+1,5,none⟩=some _:=QZ.out.at' 5 rfl
      have z6:w7.cell? ⟨w.heap.size+1,6,none⟩=some _:=QZ.out.at' 6 rfl
      have z7:w7.cell? ⟨w.heap.size+1,7,none⟩=some _:=QZ.out.at' 7 rfl
      have z8:w7.cell? ⟨w.heap.size+1,8,none⟩=some _:=QZ.out.at' 8 rfl
      have z9:w7.cell? ⟨w.heap.size+1,9,none⟩=some _:=QZ.out.at' 9 rfl
      have z10:w7.cell? ⟨w.heap.size+1,10,none⟩=some _:=QZ.out.at' 10 rfl
      have f0:w7.frozen? ⟨w.heap.size+1,0,none⟩=false:=QZ.out.fz 0
      have f1:w7.frozen? ⟨w.heap.size+1,1,none⟩=false:=QZ.out.fz 1
      have f2:w7.frozen? ⟨w.heap.size+1,2,none⟩=false:=QZ.out.fz 2
      have f3:w7.frozen? ⟨w.heap.size+1,3,none⟩=false:=QZ.out.fz 3
      have f4:w7.frozen? ⟨w.heap.size+1,4,none⟩=false:=QZ.out.fz 4
      have f5:w7.frozen? ⟨w.heap.size+1,5,none⟩=false:=QZ.out.fz 5
      have f6:w7.frozen? ⟨w.heap.size+1,6,none⟩=false:=QZ.out.fz 6
      have f7:w7.frozen? ⟨w.heap.size+1,7,none⟩=false:=QZ.out.fz 7
      have f8:w7.frozen? ⟨w.heap.size+1,8,none⟩=false:=QZ.out.fz 8
      have f9:w7.frozen? ⟨w.heap.size+1,9,none⟩=false:=QZ.out.fz 9
      have f10:w7.frozen? ⟨w.heap.size+1,10,none⟩=false:=QZ.out.fz 10
      go_wp2
      exact bodyPost_ret (v:=.tuple #[encW x A5 c5,.int .i64 0])
       (by
        obtain⟨tt,hh⟩:=put11_row QZ.out (.int .u8 x.kind) (.string x.res) (.string x.jid) (.string x.name) (.slice A5 x.groups.length c5) (.bool false) (.bool false) (.bool false) (.bool false) (.bool false) (.bool x.gone)
        exact results_jid (fn:=Tryz.f18) (p:=2) (s:=3) (ty:=51) rfl _ _ (w.heap.size+1) _ _ _ _ rfl rfl hh Tryz.underlying51 (by kernel_rfl)) rfl
       (HE.out _ _ _ hl5 ((RD.out.keep (put11_size _ _ _ _ _ _ _ _ _ _ _ _ _) (fun b hb1 hb2=>put11_other (by omega) _ _ _ _ _ _ _ _ _ _ _)).mono (by omega)) (put11_below XZ.out (by omega) _ _ _ _ _ _ _ _ _ _ _))
  ·have hkn:(s.kind != 3)=true:=by simp [hk]
   have HE:=Lib.hid (HAE.out 2 (by rw [HEE.out,hst,if_pos rfl,if_neg hk]) (by decide))
   clear HAO HAE HRB HRS HEE HSE
   have z0:w1.cell? ⟨w.heap.size+1,0,none⟩=some _:=Q1.out.at' 0 rfl
   have z1:w1.cell? ⟨w.heap.size+1,1,none⟩=some _:=Q1.out.at' 1 rfl
   have z2:w1.cell? ⟨w.heap.size+1,2,none⟩=some _:=Q1.out.at' 2 rfl
   have z3:w1.cell? ⟨w.heap.size+1,3,none⟩=some _:=Q1.out.at' 3 rfl
   have z4:w1.cell? ⟨w.heap.size+1,4,none⟩=some _:=Q1.out.at' 4 rfl
   have z5:w1.cell? ⟨w.heap.size+1,5,none⟩=some _:=Q1.out.at' 5 rfl
   have z6:w1.cell? ⟨w.heap.size+1,6,none⟩=some _:=Q1.out.at' 6 rfl
   have z7:w1.cell? ⟨w.heap.size+1,7,none⟩=some _:=Q1.out.at' 7 rfl
   have z8:w1.cell? ⟨w.heap.size+1,8,none⟩=some _:=Q1.out.at' 8 rfl
   have z9:w1.cell? ⟨w.heap.size+1,9,none⟩=some _:=Q1.out.at' 9 rfl
   have z10:w1.cell? ⟨w.heap.size+1,10,none⟩=some _:=Q1.out.at' 10 rfl
   have f0:w1.frozen? ⟨w.heap.size+1,0,none⟩=false:=Q1.out.fz 0
   have f1:w1.frozen? ⟨w.heap.size+1,1,none⟩=false:=Q1.out.fz 1
   have f2:w1.frozen? ⟨w.heap.size+1,2,none⟩=false:=Q1.out.fz 2
   have f3:w1.frozen? ⟨w.heap.size+1,3,none⟩=false:=Q1.out.fz 3
   have f4:w1.frozen? ⟨w.heap.size+1,4,none⟩=false:=Q1.out.fz 4
   have f5:w1.frozen? ⟨w.heap.size+1,5,none⟩=false:=Q1.out.fz 5
   have f6:w1.frozen? ⟨w.heap.size+1,6,none⟩=false:=Q1.out.fz 6
   have f7:w1.frozen? ⟨w.heap.size+1,7,none⟩=false:=Q1.out.fz 7
   have f8:w1.frozen? ⟨w.heap.size+1,8,none⟩=false:=Q1.out.fz 8
   have f9:w1.frozen? ⟨w.heap.size+1,9,none⟩=false:=Q1.out.fz 9
   have f10:w1.frozen? ⟨w.heap.size+1,10,none⟩=false:=Q1.out.fz 10
   go_wp2
   exact bodyPost_ret (v:=.tuple #[encW emW none 0,.int .i64 2])
    (by
     obtain⟨tt,hh⟩:=put11_row Q1.out (.int .u8 0) (.string ⟨#[]⟩) (.string ⟨#[]⟩) (.string ⟨#[]⟩) (.slice none 0 0) (.bool false) (.bool false) (.bool false) (.bool false) (.bool false) (.bool false)
     exact results_jid (fn:=Tryz.f18) (p:=2) (s:=3) (ty:=51) rfl _ _ (w.heap.size+1) _ _ _ _ rfl rfl hh Tryz.underlying51 (by kernel_rfl)) rfl
    (HE.out _ (put11_below X1.out (by omega) _ _ _ _ _ _ _ _ _ _ _))
end Go.Proofs.YtnfokaecobddkaaGreatDoor
end
