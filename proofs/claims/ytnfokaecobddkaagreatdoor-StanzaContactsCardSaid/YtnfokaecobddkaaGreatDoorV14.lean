/- Part 14 of a proof laid in parts, one behind the other; no condition of its own. -/
import Derived.Test.YtnfokaecobddkaaGreatDoorV13
import Derived.Deep.QuietTactic
import Derived.BigQuiet
set_option linter.all false
section
namespace Go.Proofs.YtnfokaecobddkaaGreatDoor
open Go.RowKit
set_option linter.unusedSimpArgs false
set_option linter.unusedVariables false
def AdrPost (s:ByteArray) (w:World) (e:Ending) (w':World):Prop:=e=.returned (.tuple #[encJ (parsedJ s),.bool (contactI s)])∧Below w.heap.size w w'
theorem ret_ending {u v:Value} (h:u=v):Ending.returned u=.returned v:=by rw [h]
set_option maxHeartbeats 8000000 in
set_option maxRecDepth 10000 in
theorem raddress_any (s:ByteArray) (w:World) (hs:s.size≤1000000000) (hg:Glb w):Calls Tryz.prog 57 #[.string s] w (AdrPost s w):=by
 have hz:=parsed_sz s
 obtain⟨W0,hW0⟩:∃W0,W0=w.alloc (.cells #[.string ⟨#[]⟩,.string ⟨#[]⟩,.string ⟨#[]⟩] 97):=⟨_,rfl⟩
 have hX0:Below w.heap.size w W0:=by rw [hW0];exact(Below.refl _ _).alloc (Nat.le_refl _) _
 have hR0:Row W0 w.heap.size #[.string ⟨#[]⟩,.string ⟨#[]⟩,.string ⟨#[]⟩]:=by rw [hW0];exact Row.new w _ _
 have H1:=Lib.hid (jparse_any s W0 hs (hg.below hX0))
 have H2:=Lib.hid (fun W (hW:Glb W)=>write_any (parsedJ s) W ⟨by omega,by omega,by omega⟩ hW)
 have HG:=Lib.hid hg
 unfold ParsePost at H1
 have HA:Box (contactI s=((parseI s).isSome && eqS (textJ (parsedJ s)) s && isEmp (parsedJ s).res)):=⟨rfl⟩
 have HPJ:=Box.mk (parse_jid s)
 have HJE:Box (jidErr (parsedJ s)=if jidI (parsedJ s) then 0 else 8):=⟨rfl⟩
 have HPE:Box (parseE s=if (parseI s).isSome then 0 else 190):=⟨rfl⟩
 rw [HPJ.out] at HJE H2
 have HX0:=Lib.hid hX0
 have HR0:=Lib.hid hR0
 unfold eqS at HA
 have el:=emp_iff (parsedJ s).res
 unfold AdrPost
 clear HPJ hz hX0 hR0 hg
 generalize contactI s=q at *
 generalize (parseI s).isSome=ok at *
 generalize parseE s=pe at *
 generalize textJ (parsedJ s)=T at *
 generalize jidErr (parsedJ s)=je at *
 generalize parsedJ s=j at *
 obtain⟨l,d,r⟩:=j
 unfold encJ at H1 H2 ⊢
 dsimp only at HA el
 cases ok
 all_goals
  have hje:=HJE.out
  have hpe:=HPE.out
  try simp only [Bool.false_eq_true,if_false] at hje hpe H2
  try simp only [if_true] at hje hpe H2
  subst hje hpe
  clear HJE HPE
 ·clear el
  go_enter Tryz.func57,Tryz.ntmps57
  go_upto_region 1 with fail
  rw [←hW0]
  clear hW0
  go_wp2_with fail
  refine H1.out.mono ?_
  rintro e w1 ⟨rfl,hb1⟩
  have X1:=Lib.hid (HX0.out.trans (hb1.mono HX0.out.size))
  have R1:=Lib.hid (HR0.out.ext hb1)
  have hlw:=R1.out.lt
  clear hb1 HX0 HR0 H1
  obtain⟨W2,hW2⟩:∃W2,W2=w1.alloc (.cells #[.string l,.string d,.string r] 97):=⟨_,rfl⟩
  have hX2:Below w1.heap.size w1 W2:=by rw [hW2];exact(Below.refl _ _).alloc (Nat.le_refl _) _
  have J2:Hid (Row W2 w1.heap.size #[.string l,.string d,.string r]):=Lib.hid (by rw [hW2];exact Row.new w1 _ _)
  have X2:=Lib.hid (X1.out.trans (hX2.mono X1.out.size))
  have R2:=Lib.hid (R1.out.ext hX2)
  clear hX2 X1 R1
  go_upto_region 2 with fail
  rw [←hW2]
  clear hW2
  have a0:W2.cell? ⟨w1.heap.size,0,none⟩=some _:=J2.out.at' 0 rfl
  have a1:W2.cell? ⟨w1.heap.size,1,none⟩=some _:=J2.out.at' 1 rfl
  have a2:W2.cell? ⟨w1.heap.size,2,none⟩=some _:=J2.out.at' 2 rfl
  go_wp2_with fail
  refine(H2.out _ (HG.out.below X2.out)).mono ?_
  rintro e w3 ⟨rfl,hb3⟩
  have X3:=Lib.hid (X2.out.trans (hb3.mono X2.out.size))
  have R3:=Lib.hid (R2.out.ext hb3)
  have J3:=Lib.hid (J2.out.ext hb3)
  clear hb3 X2 R2 J2 a0 a1 a2 H2 HG
  go_wp2_with fail
  have hl3:=R3.out.lt
  have HRD:Hid (Row w3.drew w.heap.size #[.string ⟨#[]⟩,.string ⟨#[]⟩,.string ⟨#[]⟩]):=R3
  have HJD:Hid (Row w3.drew w1.heap.size #[.string l,.string d,.string r]):=J3
  have GJ:=Lib.hid (fun W (hW:TI.Ext (TI.Fam w3.drew [(w.heap.size,#[.string l,.string d,.string r])]) w3.drew W)=>TI.fam_row hW HJD.out (fun x hx=>by rw [List.mem_singleton.1 hx];show w1.heap.size≠w.heap.size;omega))
  have GR:=Lib.hid (fun W (hW:TI.Ext (TI.Fam w3.drew [(w.heap.size,#[.string l,.string d,.string r])]) w3.drew W)=>(GJ.out W hW).at' 2 rfl)
  refine TI.wp_region_typed (I:=TI.Fam w3.drew [(w.heap.size,#[.string l,.string d,.string r])]) rfl (by kernel_rfl) (by kernel_rfl) ?_
  repeat (first|refine TI.tw_ldRow #[.string l,.string d,.string r] Tryz.underlying97 (by kernel_rfl) rfl rfl GJ.out (by first|exact TI.wd_none rfl|exact TI.wd_yes rfl rfl rfl) ?_|refine TI.tw_ldS rfl rfl GR.out (by first|exact TI.wd_none rfl|exact TI.wd_yes rfl rfl rfl) ?_|refine TI.tw_store 0 w.heap.size #[.string l,.string d,.string r] _ rfl (by simp) HRD.out rfl (by kernel_rfl) (by simp [Value.oneCell']) rfl rfl rfl (by first|exact TI.wd_none rfl|exact TI.wd_yes rfl rfl rfl) ?_|refine TI.tw_skip (TI.wd_no rfl rfl rfl) ?_|refine TI.tw_mv (.inl rfl) rfl (by first|exact TI.wd_none rfl|exact TI.wd_yes rfl rfl rfl) ?_|refine TI.tw_mv (.inr rfl) rfl (by first|exact TI.wd_none rfl|exact TI.wd_yes rfl rfl rfl) ?_|refine TI.tw_pickL rfl rfl rfl (by first|exact TI.wd_none rfl|exact TI.wd_yes rfl rfl rfl) ?_|refine TI.tw_op1 _ rfl rfl (by first|exact TI.wd_none rfl|exact TI.wd_yes rfl rfl rfl) (fun ρ W hW h1=>by simp only [execOp,h1];go_simp;first|done|rfl) ?_|refine TI.tw_op2 _ rfl rfl rfl (by first|exact TI.wd_none rfl|exact TI.wd_yes rfl rfl rfl) (fun ρ W hW h1 h2=>by simp only [execOp,h1,h2];go_simp;first|done|rfl) ?_)
  dsimp only [TI.wpT,List.reverse,List.reverseAux,TI.FinT]
  intro W5 hW5 hF
  obtain⟨-,-,hR5⟩:=hF
  simp only [Act.put,List.setIfInBounds_toArray,List.set_cons_zero,List.set_cons_succ]
  have X5:=Lib.hid (X3.out.drew.trans (TI.fam_below hW5 (Nat.le_of_lt hl3) (fun x hx=>by rw [List.mem_singleton.1 hx];exact Nat.le_refl _)))
  clear hW5 GJ GR
  go_wp2
  obtain⟨tt,hh⟩:=hR5
  exact bodyPost_ret (v:=.tuple #[.agg #[.string l,.string d,.string r],.bool false])
   (results_jid (fn:=Tryz.f57) (p:=2) (s:=3) (ty:=97) rfl _ _ w.heap.size _ _ _ _ rfl rfl hh Tryz.underlying97 (by kernel_rfl)) rfl ⟨ret_ending (by rw [HA.out];first|rfl|simp_all),X5.out⟩
 ·obtain⟨b1,hb1⟩:∃b1,(T.toList == s.toList)=b1:=⟨_,rfl⟩
  obtain⟨b2,hb2⟩:∃b2,(r.toList == (⟨#[]⟩:ByteArray).toList)=b2:=⟨_,rfl⟩
  have he2:isEmp r=b2:=by rw [←hb2,←el];cases hq:r.toList <;> simp_all
  rw [hb1,he2] at HA
  have hb1':=hb1
  cases b1 <;> cases b2
  all_goals
   clear el
   go_enter Tryz.func57,Tryz.ntmps57
   go_upto_region 1 with fail
   rw [←hW0]
   clear hW0
   go_wp2_with fail
   refine H1.out.mono ?_
   rintro e w1 ⟨rfl,hb1⟩
   have X1:=Lib.hid (HX0.out.trans (hb1.mono HX0.out.size))
   have R1:=Lib.hid (HR0.out.ext hb1)
   have hlw:=R1.out.lt
   clear hb1 HX0 HR0 H1
   obtain⟨W2,hW2⟩:∃W2,W2=w1.alloc (.cells #[.string l,.string d,.string r] 97):=⟨_,rfl⟩
   have hX2:Below w1.heap.size w1 W2:=by rw [hW2];exact(Below.refl _ _).alloc (Nat.le_refl _) _
   have J2:Hid (Row W2 w1.heap.size #[.string l,.string d,.string r]):=Lib.hid (by rw [hW2];exact Row.new w1 _ _)
   have X2:=Lib.hid (X1.out.trans (hX2.mono X1.out.size))
   have R2:=Lib.hid (R1.out.ext hX2)
   clear hX2 X1 R1
   go_upto_region 2 with fail
   rw [←hW2]
   clear hW2
   have a0:W2.cell? ⟨w1.heap.size,0,none⟩=some _:=J2.out.at' 0 rfl
   have a1:W2.cell? ⟨w1.heap.size,1,none⟩=some _:=J2.out.at' 1 rfl
   have a2:W2.cell? ⟨w1.heap.size,2,none⟩=some _:=J2.out.at' 2 rfl
   go_wp2_with fail
   refine(H2.out _ (HG.out.below X2.out)).mono ?_
   rintro e w3 ⟨rfl,hb3⟩
   have X3:=Lib.hid (X2.out.trans (hb3.mono X2.out.size))
   have R3:=Lib.hid (R2.out.ext hb3)
   have J3:=Lib.hid (J2.out.ext hb3)
   clear hb3 X2 R2 J2 a0 a1 a2 H2 HG
   go_wp2_with fail
   have hl3:=R3.out.lt
   have HRD:Hid (Row w3.drew w.heap.size #[.string ⟨#[]⟩,.string ⟨#[]⟩,.string ⟨#[]⟩]):=R3
   have HJD:Hid (Row w3.drew w1.heap.size #[.string l,.string d,.string r]):=J3
   have GJ:=Lib.hid (fun W (hW:TI.Ext (TI.Fam w3.drew [(w.heap.size,#[.string l,.string d,.string r])]) w3.drew W)=>TI.fam_row hW HJD.out (fun x hx=>by rw [List.mem_singleton.1 hx];show w1.heap.size≠w.heap.size;omega))
   have GR:=Lib.hid (fun W (hW:TI.Ext (TI.Fam w3.drew [(w.heap.size,#[.string l,.string d,.string r])]) w3.drew W)=>(GJ.out W hW).at' 2 rfl)
   refine TI.wp_region_typed (I:=TI.Fam w3.drew [(w.heap.size,#[.string l,.string d,.string r])]) rfl (by kernel_rfl) (by kernel_rfl) ?_
   repeat (first|refine TI.tw_ldRow #[.string l,.string d,.string r] Tryz.underlying97 (by kernel_rfl) rfl rfl GJ.out (by first|exact TI.wd_none rfl|exact TI.wd_yes rfl rfl rfl) ?_|refine TI.tw_ldS rfl rfl GR.out (by first|exact TI.wd_none rfl|exact TI.wd_yes rfl rfl rfl) ?_|refine TI.tw_store 0 w.heap.size #[.string l,.string d,.string r] _ rfl (by simp) HRD.out rfl (by kernel_rfl) (by simp [Value.oneCell']) rfl rfl rfl (by first|exact TI.wd_none rfl|exact TI.wd_yes rfl rfl rfl) ?_|refine TI.tw_eqS T s _ hb1 rfl rfl rfl (by first|exact TI.wd_none rfl|exact TI.wd_yes rfl rfl rfl) ?_|refine TI.tw_eqS r ⟨#[]⟩ _ hb2 rfl rfl rfl (by first|exact TI.wd_none rfl|exact TI.wd_yes rfl rfl rfl) ?_|refine TI.tw_skip (TI.wd_no rfl rfl rfl) ?_|refine TI.tw_mv (.inl rfl) rfl (by first|exact TI.wd_none rfl|exact TI.wd_yes rfl rfl rfl) ?_|refine TI.tw_mv (.inr rfl) rfl (by first|exact TI.wd_none rfl|exact TI.wd_yes rfl rfl rfl) ?_|refine TI.tw_pickL rfl rfl rfl (by first|exact TI.wd_none rfl|exact TI.wd_yes rfl rfl rfl) ?_|refine TI.tw_op1 _ rfl rfl (by first|exact TI.wd_none rfl|exact TI.wd_yes rfl rfl rfl) (fun ρ W hW h1=>by simp only [execOp,h1];go_simp;first|done|rfl) ?_|refine TI.tw_op2 _ rfl rfl rfl (by first|exact TI.wd_none rfl|exact TI.wd_yes rfl rfl rfl) (fun ρ W hW h1 h2=>by simp only [execOp,h1,h2];go_simp;first|done|rfl) ?_)
   dsimp only [TI.wpT,List.reverse,List.reverseAux,TI.FinT]
   intro W5 hW5 hF
   obtain⟨-,-,hR5⟩:=hF
   simp only [Act.put,List.setIfInBounds_toArray,List.set_cons_zero,List.set_cons_succ]
   have X5:=Lib.hid (X3.out.drew.trans (TI.fam_below hW5 (Nat.le_of_lt hl3) (fun x hx=>by rw [List.mem_singleton.1 hx];exact Nat.le_refl _)))
   clear hW5 GJ GR
   go_wp2
   obtain⟨tt,hh⟩:=hR5
   exact bodyPost_ret (v:=.tuple #[.agg #[.string l,.string d,.string r],.bool _])
    (results_jid (fn:=Tryz.f57) (p:=2) (s:=3) (ty:=97) rfl _ _ w.heap.size _ _ _ _ rfl rfl hh Tryz.underlying97 (by kernel_rfl)) rfl ⟨ret_ending (by rw [HA.out];first|rfl|simp_all),X5.out⟩
end Go.Proofs.YtnfokaecobddkaaGreatDoor
end
section
namespace Go.Proofs.YtnfokaecobddkaaGreatDoor
open Go.RowKit
set_option linter.unusedSimpArgs false
set_option linter.unusedVariables false
theorem two_vars (P:World→Prop) (w1:World) (l d r:ByteArray):∃W2,W2=w1.alloc (.cells #[.string l,.string d,.string r] 97)∧Below w1.heap.size w1 W2∧Row W2 w1.heap.size #[.string l,.string d,.string r]:=⟨_,rfl,(Below.refl _ _).alloc (Nat.le_refl _) _,Row.new w1 _ _⟩
def ordS (a b:ByteArray):Int:=if lessJ (parsedJ a) (parsedJ b) then -1 else if lessJ (parsedJ b) (parsedJ a) then 1 else 0
theorem ordS_ge (a b:ByteArray):decide (0≤ordS a b)=!lessJ (parsedJ a) (parsedJ b):=by
 unfold ordS
 split
 ·rename_i h;rw [h];decide
 ·rename_i h
  simp only [Bool.not_eq_true] at h
  rw [h]
  split <;> decide
set_option maxHeartbeats 8000000 in
set_option maxRecDepth 10000 in
theorem order_any (a b:ByteArray) (w:World) (ha:a.size≤1000000000) (hb:b.size≤1000000000) (hg:Glb w):Calls Tryz.prog 43 #[.string a,.string b] w fun e w'=>e=.returned (.int .i64 (ordS a b))∧Below w.heap.size w w':=by
 have HO:Box (ordS a b=if lessJ (parsedJ a) (parsedJ b) then -1 else if lessJ (parsedJ b) (parsedJ a) then 1 else 0):=⟨rfl⟩
 have H1:=Lib.hid (raddress_any a w ha hg)
 have H2:=Lib.hid (fun W (hW:Glb W)=>raddress_any b W hb hW)
 have H3:=Lib.hid (fun W=>less_any (parsedJ a) (parsedJ b) W)
 have H4:=Lib.hid (fun W=>less_any (parsedJ b) (parsedJ a) W)
 have HG:=Lib.hid hg
 unfold AdrPost at H1 H2
 clear hg
 generalize ordS a b=oo at *
 generalize lessJ (parsedJ a) (parsedJ b)=q at *
 generalize lessJ (parsedJ b) (parsedJ a)=q2 at *
 generalize contactI a=ca at *
 generalize contactI b=cb at *
 generalize parsedJ a=x at *
 generalize parsedJ b=y at *
 obtain⟨xl,xd,xr⟩:=x
 obtain⟨yl,yd,yr⟩:=y
 unfold encJ at *
 dsimp only at *
 cases q <;> cases q2
 all_goals
  have ho:=HO.out
  simp only [Bool.false_eq_true,if_false,if_true] at ho
  subst ho
  clear HO
  go_enter Tryz.func43,Tryz.ntmps43
  go_wp2_with fail
  refine H1.out.mono ?_
  rintro e w1 ⟨rfl,hb1⟩
  have X1:=Lib.hid hb1
  obtain⟨W2,hW2,hX2,hR2⟩:=two_vars (fun _=>True) w1 xl xd xr
  have X2:=Lib.hid (X1.out.trans (hX2.mono X1.out.size))
  have R2:=Lib.hid hR2
  clear hb1 hX2 hR2
  go_upto_region 2 with fail
  rw [←hW2]
  clear hW2
  go_wp2_with fail
  refine(H2.out _ (HG.out.below X2.out)).mono ?_
  rintro e w3 ⟨rfl,hb3⟩
  have X3:=Lib.hid (X2.out.trans (hb3.mono X2.out.size))
  have R3:=Lib.hid (R2.out.ext hb3)
  obtain⟨W4,hW4,hX4,hR4⟩:=two_vars (fun _=>True) w3 yl yd yr
  have X4:=Lib.hid (X3.out.trans (hX4.mono X3.out.size))
  have R4:=Lib.hid (R3.out.ext hX4)
  have S4:=Lib.hid hR4
  clear hb3 hX4 hR4 X2 R2 X3 R3
  go_upto_region 3 with fail
  rw [←hW4]
  clear hW4
  have a0:W4.cell? ⟨w1.heap.size,0,none⟩=some _:=R4.out.at' 0 rfl
  have a1:W4.cell? ⟨w1.heap.size,1,none⟩=some _:=R4.out.at' 1 rfl
  have a2:W4.cell? ⟨w1.heap.size,2,none⟩=some _:=R4.out.at' 2 rfl
  have b0:W4.cell? ⟨w3.heap.size,0,none⟩=some _:=S4.out.at' 0 rfl
  have b1:W4.cell? ⟨w3.heap.size,1,none⟩=some _:=S4.out.at' 1 rfl
  have b2:W4.cell? ⟨w3.heap.size,2,none⟩=some _:=S4.out.at' 2 rfl
  go_wp2_with fail
  refine(H3.out _).mono ?_
  rintro e w5 ⟨rfl,hb5⟩
  have X5:=Lib.hid (X4.out.trans (hb5.mono X4.out.size))
  have R5:=Lib.hid (R4.out.ext hb5)
  have S5:=Lib.hid (S4.out.ext hb5)
  clear hb5 a0 a1 a2 b0 b1 b2
  have a0:w5.cell? ⟨w1.heap.size,0,none⟩=some _:=R5.out.at' 0 rfl
  have a1:w5.cell? ⟨w1.heap.size,1,none⟩=some _:=R5.out.at' 1 rfl
  have a2:w5.cell? ⟨w1.heap.size,2,none⟩=some _:=R5.out.at' 2 rfl
  have b0:w5.cell? ⟨w3.heap.size,0,none⟩=some _:=S5.out.at' 0 rfl
  have b1:w5.cell? ⟨w3.heap.size,1,none⟩=some _:=S5.out.at' 1 rfl
  have b2:w5.cell? ⟨w3.heap.size,2,none⟩=some _:=S5.out.at' 2 rfl
  first
   | (go_wp2;go_ret;exact⟨rfl,X5.out⟩)
   | skip
 all_goals
  go_wp2_with fail
  refine(H4.out _).mono ?_
  rintro e w6 ⟨rfl,hb6⟩
  have X6:=Lib.hid (X5.out.trans (hb6.mono X5.out.size))
  clear hb6 a0 a1 a2 b0 b1 b2
  go_wp2
  go_ret
  exact⟨rfl,X6.out⟩
end Go.Proofs.YtnfokaecobddkaaGreatDoor
end
section
namespace Go.Proofs.YtnfokaecobddkaaGreatDoor
open Go.RowKit
set_option linter.unusedSimpArgs false
set_option linter.unusedVariables false
theorem size_strs (W:World):(sizeOf (Tryz.prog.elem 44)).run Tryz.prog W=.ok 1 W:=by kernel_rfl
theorem front_strs (A:Option Addr) (m c K:Nat) (hK:K≤m) (hc:m≤c):∃A',(∀W,(Instr.slice 44 (.slice A m c) none (some (.int .i64 (K:Int))) none).run Tryz.prog W=.ok (.slice A' K c) W)∧
  ∀W (l:List ByteArray),l.length=m→RdS W A l→RdS W A' (l.take K):=by
 refine⟨if c=0 then A else A.map (·.add (0*1)),fun W=>?_,fun W l hl h=>?_⟩
 ·rw [run_slice_h W 44 A m c (by kernel_rfl) .i64 K (by omega) (by omega),size_strs]
  rfl
 ·intro h0
  rw [List.length_take] at h0
  obtain⟨b,off,rfl,hb,hcell⟩:=h (by omega)
  rw [if_neg (by omega)]
  refine⟨b,off,by simp [Addr.add],hb,fun i a hi=>hcell i a ?_⟩
  rw [List.getElem?_take] at hi
  split at hi
  ·exact hi
  ·cases hi
theorem within_any' (s:ByteArray) (lo hi:Nat) (a b:Int) (ha:(lo:Int)=a) (hb:(hi:Int)=b) (w:World) (hs:s.size≤1000000000) (hh:hi≤1000):Calls Tryz.prog 113 #[.string s,.int .i64 a,.int .i64 b] w fun e w'=>e=.returned (.bool (withinI s lo hi))∧Below w.heap.size w w':=by
 have HW:Box (withinI s lo hi=(decide (lo≤s.size) && decide (s.size≤hi) && decide (textErr s=0))):=⟨rfl⟩
 have H1:=Lib.hid (check5_any s w hs)
 have HA:=Lib.hid ha
 have HB:=Lib.hid hb
 generalize withinI s lo hi=q at *
 generalize textErr s=t at *
 by_cases h1:lo≤s.size
 ·by_cases h2:s.size≤hi
  ·have h1i:a≤(s.size:Int):=by omega
   have h2i:(s.size:Int)≤b:=by omega
   have HW2:Box (q=decide (t=0)):=⟨by rw [HW.out,decide_eq_true h1,decide_eq_true h2];rfl⟩
   clear HW
   by_cases h3:t=0
   ·subst h3
    clear ha hb
    go_enter Tryz.func113,Tryz.ntmps113
    go_wp2_with fail
    refine H1.out.mono ?_
    rintro e w1 ⟨rfl,hb1⟩
    have X1:=Lib.hid hb1
    clear hb1
    go_wp2
    go_ret
    exact⟨ret_bool (by rw [HW2.out];rfl),X1.out⟩
   ·have h3i:(t == 0)=false:=by simpa using h3
    have HW3:Box (q=false):=⟨by rw [HW2.out,decide_eq_false h3]⟩
    clear HW2 h3
    clear ha hb
    go_enter Tryz.func113,Tryz.ntmps113
    go_wp2_with fail
    refine H1.out.mono ?_
    rintro e w1 ⟨rfl,hb1⟩
    have X1:=Lib.hid hb1
    clear hb1
    go_wp2
    go_ret
    exact⟨ret_bool (by rw [HW3.out]),X1.out⟩
  ·have h1i:a≤(s.size:Int):=by omega
   have h2i:¬(s.size:Int)≤b:=by omega
   have HW3:Box (q=false):=⟨by rw [HW.out,decide_eq_false h2,Bool.and_false];rfl⟩
   clear HW
   clear ha hb
   go_enter Tryz.func113,Tryz.ntmps113
   go_wp2
   go_ret
   exact⟨ret_bool (by rw [HW3.out]),Below.refl _ _⟩
 ·have h1i:¬a≤(s.size:Int):=by omega
  have HW3:Box (q=false):=⟨by rw [HW.out,decide_eq_false h1];rfl⟩
  clear HW
  clear ha hb
  go_enter Tryz.func113,Tryz.ntmps113
  go_wp2
  go_ret
  exact⟨ret_bool (by rw [HW3.out]),Below.refl _ _⟩
theorem any_hasS (l:List ByteArray) (g:ByteArray):l.any (eqS g)=hasS l g:=by rw [has_eq];rfl
set_option maxHeartbeats 8000000 in
set_option maxRecDepth 10000 in
theorem rwords_any (name:ByteArray) (A:Option Addr) (c:Nat) (l:List ByteArray) (w:World) (hr:RdS w A l) (hc:l.length≤c) (hn:l.length≤1000) (hz:∀g∈l,g.size≤1000000000) (hnz:name.size≤1000000000) :
  Calls Tryz.prog 58 #[.string name,.slice A l.length c] w fun e w'=>e=.returned (.bool (wordsR name l))∧Below w.heap.size w w':=by
 have HR:=Lib.hid hr
 have HZ:=Lib.hid hz
 have HI:Box (wordsR name l=(groupsT l l.length && (withinI name 0 64 && decide (l.length≤4)))):=⟨rfl⟩
 have HN:=Lib.hid (fun W=>within_any' name 0 64 0 64 rfl rfl W hnz (by decide))
 clear hr hz
 generalize wordsR name l=ri at *
 generalize withinI name 0 64=wn at *
 go_enter Tryz.func58,Tryz.ntmps58
 go_wp2
 go_loopw [5,6,9] (fun _ _ s9 wr=>∃k:Nat,k≤l.length∧s9=.int .i64 k∧Hid (Below w.heap.size w wr)∧Hid (groupsT l k=true)) (fun _ _ s9 _=>l.length - (intOf s9).toNat)
 case atStart=>exact⟨0,Nat.zero_le _,rfl,Lib.hid (Below.refl _ _),rfl⟩
 case round=>
  obtain⟨k,hk,rfl,HB,HT⟩:=hrel
  by_cases hlt:k < l.length
  ·obtain⟨g,hg⟩:∃g,l[k]? = some g:=⟨_,List.getElem?_eq_getElem hlt⟩
   obtain⟨b,off,rfl,hb,hcc⟩:=HR.out (by omega)
   have c0:=(HB.out.cell (p:=⟨b,off+k,none⟩) hb).trans (hcc k g hg)
   obtain⟨A',hA',hAr⟩:=front_strs (some ⟨b,off,none⟩) l.length c k hk hc
   have hlk:(l.take k).length=k:=by rw [List.length_take];omega
   have H1:=Lib.hid (fun W=>within_any' g 1 32 1 32 rfl rfl W (HZ.out g (List.mem_of_getElem? hg)) (by decide))
   have HAR:=Lib.hid (hAr w l rfl HR.out)
   have HS:Box (groupsT l (k+1)=(withinI g 1 32 && !hasS (l.take k) g)):=⟨by rw [groupsT_succ l k g hg,HT.out,Bool.true_and];unfold groupOK;rw [any_hasS]⟩
   have HNO:=Lib.hid (groupsT_no l (k+1) l.length hlt)
   clear hcc hAr hg
   generalize withinI g 1 32=wi at *
   cases wi
   ·go_wp2_with fail
    refine(H1.out _).mono ?_
    rintro e w1 ⟨rfl,hb1⟩
    have X1:=Lib.hid (HB.out.trans (hb1.mono HB.out.size))
    clear hb1
    go_wp2
    go_ret
    exact⟨ret_bool (by rw [HI.out,HNO.out (by rw [HS.out];rfl)];rfl),X1.out⟩
   ·go_wp2_with fail
    refine(H1.out _).mono ?_
    rintro e w1 ⟨rfl,hb1⟩
    have X1:=Lib.hid (HB.out.trans (hb1.mono HB.out.size))
    have hcall:=contains_any A' c (l.take k) g w1 (RdS.ext HAR.out X1.out) (by omega)
    rw [hlk] at hcall
    have HC:=Lib.hid hcall
    clear hcall hlk hb1
    generalize hasS (l.take k) g=hs at *
    cases hs
    ·go_wp2_with fail
     refine HC.out.mono ?_
     rintro e w2 ⟨rfl,rfl⟩
     go_wp2
     go_roundw
     case rel=>exact⟨k+1,by omega,by go_num,X1,Lib.hid (by rw [HS.out];rfl)⟩
     case measure=>simp [intOf];omega
    ·go_wp2_with fail
     refine HC.out.mono ?_
     rintro e w2 ⟨rfl,rfl⟩
     go_wp2
     go_ret
     exact⟨ret_bool (by rw [HI.out,HNO.out (by rw [HS.out];rfl)];rfl),X1.out⟩
  ·obtain rfl:k=l.length:=by omega
   have HIw:Box (ri=(wn && decide (l.length≤4))):=⟨by rw [HI.out,HT.out,Bool.true_and]⟩
   by_cases h4:l.length≤4
   ·have h4i:((l.length:Int)≤4):=by omega
    cases wn
    all_goals
     go_wp2_with fail
     refine(HN.out _).mono ?_
     rintro e w1 ⟨rfl,hb1⟩
     have X1:=Lib.hid (HB.out.trans (hb1.mono HB.out.size))
     clear hb1
     go_wp2
     go_ret
     exact⟨ret_bool (by rw [HIw.out,decide_eq_true h4];first|rfl|(rw [decide_eq_true (by omega)];rfl)),X1.out⟩
   ·have h4i:¬((l.length:Int)≤4):=by omega
    cases wn
    all_goals
     go_wp2_with fail
     refine(HN.out _).mono ?_
     rintro e w1 ⟨rfl,hb1⟩
     have X1:=Lib.hid (HB.out.trans (hb1.mono HB.out.size))
     clear hb1
     go_wp2
     go_ret
     exact⟨ret_bool (by rw [HIw.out,decide_eq_false h4];first|rfl|(rw [decide_eq_false (by omega)];rfl)),X1.out⟩
end Go.Proofs.YtnfokaecobddkaaGreatDoor
end
section
namespace Go.Proofs.YtnfokaecobddkaaGreatDoor
open Go.RowKit
set_option linter.unusedSimpArgs false
set_option linter.unusedVariables false
theorem results_cc {P:Program} {fn:Func} {p q:Tmp} {ty ty':TypeId} {fs fs':Array Field} (h:fn.results=#[.cell p ty,.cell q ty']) (tmps:Array Value) (w:World) (g g':Nat) (t t':TypeId) (cs cs':Array Value)
  (hp:tmps.getD p undef=.pointer (some ⟨g,0,none⟩)) (hq:tmps.getD q undef=.pointer (some ⟨g',0,none⟩)) (hg:w.heap[g]? = some (.cells cs t (0,0))) (hg':w.heap[g']? = some (.cells cs' t' (0,0)))
  (hu:P.underlying ty=some (.struct fs)) (hu':P.underlying ty'=some (.struct fs')) (hi:(P.info? ty).map (·.size)=some cs.size) (hi':(P.info? ty').map (·.size)=some cs'.size) :
  (results fn tmps).run P w=.ok (.tuple #[.agg cs,.agg cs']) w:=by
 have hp':tmps[p]?.getD undef=.pointer (some ⟨g,0,none⟩):=by simpa using hp
 have hq':tmps[q]?.getD undef=.pointer (some ⟨g',0,none⟩):=by simpa using hq
 simp [results,h,hp',hq',asAddr,run_loadVar_row w g t ty cs (0,0) (.struct fs) hg hu rfl hi,run_loadVar_row w g' t' ty' cs' (0,0) (.struct fs') hg' hu' rfl hi']
set_option maxHeartbeats 4000000 in
set_option maxRecDepth 10000 in
theorem halves_any (a b c d:Bool) (w:World):Calls Tryz.prog 140 #[.agg #[.bool a,.bool b,.bool c,.bool d]] w fun e w'=>e=.returned (.tuple #[.agg #[.bool a,.bool b],.agg #[.bool c,.bool d]])∧Below w.heap.size w w':=by
 obtain⟨W0,hW0⟩:∃W0,W0=((w.alloc (.cells #[.bool a,.bool b,.bool c,.bool d] 46)).alloc (.cells #[.bool false,.bool false] 188)).alloc (.cells #[.bool false,.bool false] 188):=⟨_,rfl⟩
 have hX0:Below w.heap.size w W0:=by rw [hW0];exact(((Below.refl _ _).alloc (Nat.le_refl _) _).alloc (by simp) _).alloc (by simp;omega) _
 have hs0:W0.heap.size=w.heap.size+3:=by rw [hW0];simp
 have hR0:Row W0 w.heap.size #[.bool a,.bool b,.bool c,.bool d]:=by rw [hW0];exact((Row.new w _ _).ext ((Below.refl _ _).alloc (Nat.le_refl _) _)).ext ((Below.refl _ _).alloc (Nat.le_refl _) _)
 have hR1:Row W0 (w.heap.size+1) #[.bool false,.bool false]:=by
  rw [hW0]
  exact Row.ext ⟨_,al_at (w.alloc (.cells #[.bool a,.bool b,.bool c,.bool d] 46)) _ _ _ (by simp) (Below.refl _ _)⟩ ((Below.refl _ _).alloc (Nat.le_refl _) _)
 have hR2:Row W0 (w.heap.size+2) #[.bool false,.bool false]:=by
  rw [hW0]
  exact⟨_,al_at ((w.alloc (.cells #[.bool a,.bool b,.bool c,.bool d] 46)).alloc (.cells #[.bool false,.bool false] 188)) _ _ _ (by simp) (Below.refl _ _)⟩
 have HX0:=Lib.hid hX0
 have HD0:Hid (Row W0.drew w.heap.size #[.bool a,.bool b,.bool c,.bool d]):=Lib.hid hR0
 have HD1:Hid (Row W0.drew (w.heap.size+1) #[.bool false,.bool false]):=Lib.hid hR1
 have HD2:Hid (Row W0.drew (w.heap.size+2) #[.bool false,.bool false]):=Lib.hid hR2
 have HW0:=Lib.hid hW0
 have GR:=Lib.hid (fun W (hW:TI.Ext (TI.Fam W0.drew [(w.heap.size+1,#[.bool a,.bool b]),(w.heap.size+2,#[.bool c,.bool d])]) W0.drew W)=>TI.fam_row hW HD0.out (fun x hx=>by
  simp only [List.mem_cons,List.not_mem_nil,or_false] at hx
  rcases hx with rfl|rfl <;> (show w.heap.size≠_;simp)))
 have G0:=Lib.hid (fun W (hW:TI.Ext (TI.Fam W0.drew [(w.heap.size+1,#[.bool a,.bool b]),(w.heap.size+2,#[.bool c,.bool d])]) W0.drew W)=>(GR.out W hW).at' 0 rfl)
 have G1:=Lib.hid (fun W (hW:TI.Ext (TI.Fam W0.drew [(w.heap.size+1,#[.bool a,.bool b]),(w.heap.size+2,#[.bool c,.bool d])]) W0.drew W)=>(GR.out W hW).at' 1 rfl)
 have G2:=Lib.hid (fun W (hW:TI.Ext (TI.Fam W0.drew [(w.heap.size+1,#[.bool a,.bool b]),(w.heap.size+2,#[.bool c,.bool d])]) W0.drew W)=>(GR.out W hW).at' 2 rfl)
 have G3:=Lib.hid (fun W (hW:TI.Ext (TI.Fam W0.drew [(w.heap.size+1,#[.bool a,.bool b]),(w.heap.size+2,#[.bool c,.bool d])]) W0.drew W)=>(GR.out W hW).at' 3 rfl)
 clear hX0 hR0 hR1 hR2 hW0
 go_enter Tryz.func140,Tryz.ntmps140
 go_upto_region 1 with fail
 rw [←HW0.out]
 refine TI.wp_region_typed (I:=TI.Fam W0.drew [(w.heap.size+1,#[.bool a,.bool b]),(w.heap.size+2,#[.bool c,.bool d])]) rfl (by kernel_rfl) (by kernel_rfl) ?_
 repeat (first|refine TI.tw_ldB rfl rfl G0.out (TI.wd_none rfl) ?_|refine TI.tw_ldB rfl rfl G1.out (TI.wd_none rfl) ?_|refine TI.tw_ldB rfl rfl G2.out (TI.wd_none rfl) ?_|refine TI.tw_ldB rfl rfl G3.out (TI.wd_none rfl) ?_|refine TI.tw_store 0 (w.heap.size+1) #[.bool a,.bool b] _ rfl (by simp) HD1.out rfl (by kernel_rfl) (by simp [Value.oneCell']) rfl rfl rfl (TI.wd_none rfl) ?_|refine TI.tw_store 1 (w.heap.size+2) #[.bool c,.bool d] _ rfl (by simp) HD2.out rfl (by kernel_rfl) (by simp [Value.oneCell']) rfl rfl rfl (TI.wd_none rfl) ?_|refine TI.tw_mv (.inr rfl) rfl (TI.wd_none rfl) ?_|refine TI.tw_op1 _ rfl rfl (TI.wd_none rfl) (fun ρ W hW h1=>by simp only [execOp,h1];go_simp;first|done|rfl) ?_|refine TI.tw_op2 _ rfl rfl rfl (TI.wd_none rfl) (fun ρ W hW h1 h2=>by simp only [execOp,List.map_toArray,List.map_cons,List.map_nil,h1,h2];go_simp;first|done|rfl) ?_)
 dsimp only [TI.wpT,List.reverse,List.reverseAux,TI.FinT]
 intro W5 hW5 hF
 obtain⟨⟨-,-,hR5⟩,-,hS5⟩:=hF
 simp only [Act.put,List.setIfInBounds_toArray,List.set_cons_zero,List.set_cons_succ]
 have X5:=Lib.hid (HX0.out.drew.trans (TI.fam_below hW5 (by show w.heap.size≤W0.heap.size;omega) (fun x hx=>by
  simp only [List.mem_cons,List.not_mem_nil,or_false] at hx
  rcases hx with rfl|rfl <;> (show w.heap.size≤_;simp))))
 clear hW5
 go_wp2
 obtain⟨t1,h1⟩:=hR5
 obtain⟨t2,h2⟩:=hS5
 exact bodyPost_ret (v:=.tuple #[.agg #[.bool a,.bool b],.agg #[.bool c,.bool d]])
  (results_cc (fn:=Tryz.f140) (p:=2) (q:=3) (ty:=188) (ty':=188) rfl _ _ (w.heap.size+1) (w.heap.size+2) _ _ _ _ rfl rfl h1 h2 Tryz.underlying188 Tryz.underlying188 (by kernel_rfl) (by kernel_rfl)) rfl ⟨rfl,X5.out⟩
end Go.Proofs.YtnfokaecobddkaaGreatDoor
end
section
namespace Go.Proofs.YtnfokaecobddkaaGreatDoor
open Go.RowKit
set_option linter.unusedSimpArgs false
set_option linter.unusedVariables false
set_option maxHeartbeats 4000000 in
set_option maxRecDepth 10000 in
theorem subname_any (x:ItemL) (w:World) (hs:subI x=true):Calls Tryz.prog 94 #[.agg #[.bool x.to,.bool x.out,.bool x.frm,.bool x.inn]] w fun e w'=>e=.returned (.tuple #[.string (wordSub x),.bool x.out,.int .i64 0])∧Below w.heap.size w w':=by
 have HW:Box (wordSub x=if x.to && x.frm then(⟨#[98,111,116,104]⟩:ByteArray) else if x.to then(⟨#[116,111]⟩:ByteArray) else if x.frm then(⟨#[102,114,111,109]⟩:ByteArray) else(⟨#[110,111,110,101]⟩:ByteArray)):=⟨rfl⟩
 unfold subI at hs
 generalize wordSub x=r at *
 generalize x.to=a at *
 generalize x.out=b at *
 generalize x.frm=c at *
 generalize x.inn=d at *
 have HC:=Lib.hid (fun W=>subcheck_any a b c d W)
 have HV:=Lib.hid (fun W=>halves_any a b c d W)
 rw [hs,if_pos rfl] at HC
 clear hs
 have hX0:Below w.heap.size w (w.alloc (.cells #[.bool a,.bool b,.bool c,.bool d] 46)):=(Below.refl _ _).alloc (Nat.le_refl _) _
 obtain⟨W0,hW0⟩:∃W0,W0=w.alloc (.cells #[.bool a,.bool b,.bool c,.bool d] 46):=⟨_,rfl⟩
 rw [←hW0] at hX0
 have R0:Hid (Row W0 w.heap.size #[.bool a,.bool b,.bool c,.bool d]):=Lib.hid (by rw [hW0];exact Row.new w _ _)
 have X0:=Lib.hid hX0
 have HW0:=Lib.hid hW0
 clear hX0 hW0
 cases a <;> cases c
 all_goals
  have h:=HW.out
  simp only [Bool.and_true,Bool.and_false,Bool.and_self,if_true,if_false,Bool.false_eq_true] at h
  subst h
  clear HW
  go_enter Tryz.func94,Tryz.ntmps94
  go_upto_region 1 with fail
  rw [←HW0.out]
  clear HW0
  have k0:W0.cell? ⟨w.heap.size,0,none⟩=some _:=R0.out.at' 0 rfl
  have k1:W0.cell? ⟨w.heap.size,1,none⟩=some _:=R0.out.at' 1 rfl
  have k2:W0.cell? ⟨w.heap.size,2,none⟩=some _:=R0.out.at' 2 rfl
  have k3:W0.cell? ⟨w.heap.size,3,none⟩=some _:=R0.out.at' 3 rfl
  go_wp2_with fail
  refine(HC.out _).mono ?_
  rintro e w1 ⟨rfl,hb1⟩
  have X1:=Lib.hid (X0.out.trans (hb1.mono X0.out.size))
  have R1:=Lib.hid (R0.out.ext hb1)
  clear hb1 k0 k1 k2 k3 R0
  have k0:w1.cell? ⟨w.heap.size,0,none⟩=some _:=R1.out.at' 0 rfl
  have k1:w1.cell? ⟨w.heap.size,1,none⟩=some _:=R1.out.at' 1 rfl
  have k2:w1.cell? ⟨w.heap.size,2,none⟩=some _:=R1.out.at' 2 rfl
  have k3:w1.cell? ⟨w.heap.size,3,none⟩=some _:=R1.out.at' 3 rfl
  go_wp2_with fail
  refine(HV.out _).mono ?_
  rintro e w2 ⟨rfl,hb2⟩
  have X2:=Lib.hid (X1.out.trans (hb2.mono X1.out.size))
  have R2:=Lib.hid (R1.out.ext hb2)
  clear hb2 k0 k1 k2 k3 R1
  go_wp2_with fail
  have X3:=Lib.hid (fun(p q:Value)=>(X2.out.alloc X2.out.size (.cells #[p,.bool b] 188)).alloc (by have:=X2.out.size;simp;omega) (.cells #[q,.bool d] 188))
  have k1:∀p q:Value,((w2.alloc (.cells #[p,.bool b] 188)).alloc (.cells #[q,.bool d] 188)).cell? ⟨w.heap.size,1,none⟩=some (.bool b):=fun p q=>((R2.out.ext ((Below.refl _ _).alloc (Nat.le_refl _) (.cells #[p,.bool b] 188))).ext ((Below.refl _ _).alloc (Nat.le_refl _) (.cells #[q,.bool d] 188))).at' 1 rfl
  go_quiet (fail)
  go_wp2
  go_ret3
  exact⟨rfl,by first|exact X3.out _ _|exact below_drewN (X3.out _ _) _|exact(X3.out _ _).drew⟩
end Go.Proofs.YtnfokaecobddkaaGreatDoor
end
section
namespace Go.Proofs.YtnfokaecobddkaaGreatDoor
open Go.RowKit
set_option linter.unusedSimpArgs false
set_option linter.unusedVariables false
def cI (x:ItemL) (A:Option Addr) (c:Nat):Array Value:=#[.string x.jid,.string x.name,.slice A x.groups.length c,.bool x.to,.bool x.out,.bool x.frm,.bool x.inn,.bool x.known]
def encT (x:ItemL) (A:Option Addr) (c:Nat):Value:=.agg (cI x A c)
def SzI (x:ItemL):Prop:=x.jid.size≤1000000000∧x.name.size≤1000000000∧x.groups.length≤1000∧∀g∈x.groups,g.size≤1000000000
set_option maxHeartbeats 8000000 in
set_option maxRecDepth 10000 in
theorem ritem_any (x:ItemL) (A:Option Addr) (c:Nat) (w:World) (hz:SzI x) (hr:RdS w A x.groups) (hc:x.groups.length≤c) (hg:Glb w) :
  Calls Tryz.prog 42 #[encT x A c] w fun e w'=>e=.returned (.bool (itemI x))∧Below w.heap.size w w':=by
 obtain⟨W0,hW0⟩:∃W0,W0=w.alloc (.cells (cI x A c) 48):=⟨_,rfl⟩
 have hX0:Below w.heap.size w W0:=by rw [hW0];exact(Below.refl _ _).alloc (Nat.le_refl _) _
 have R0:Hid (Row W0 w.heap.size (cI x A c)):=Lib.hid (by rw [hW0];exact Row.new w _ _)
 have H1:=Lib.hid (raddress_any x.jid W0 hz.1 (hg.below hX0))
 unfold AdrPost at H1
 have HWD:=Lib.hid (fun W (hW:Below w.heap.size w W)=>rwords_any x.name A c x.groups W (RdS.ext hr hW) hc hz.2.2.1 hz.2.2.2 hz.2.1)
 have HCK:=Lib.hid (fun W=>subcheck_any x.to x.out x.frm x.inn W)
 have HSB:Box (subI x=(!(x.to && x.out) && !(x.frm && x.inn))):=⟨rfl⟩
 rw [←HSB.out] at HCK
 have HI:Box (itemI x=(contactI x.jid && wordsR x.name x.groups && subI x && (x.known || strangeI x))):=⟨rfl⟩
 have HST:Box (strangeI x=(isEmp x.name && decide (x.groups.length=0) && (!x.to && !x.out && !x.frm && x.inn))):=⟨rfl⟩
 have el:=emp_iff x.name
 have X0:=Lib.hid hX0
 have HW0:=Lib.hid hW0
 clear hX0 hW0 hz hr hg HSB
 unfold encT cI at *
 generalize itemI x=q at *
 generalize contactI x.jid=cj at *
 generalize wordsR x.name x.groups=wr at *
 generalize subI x=sb at *
 generalize strangeI x=st at *
 generalize x.to=a at *
 generalize x.out=b at *
 generalize x.frm=f at *
 generalize x.inn=d at *
 generalize x.known=kn at *
 generalize parsedJ x.jid=j at *
 obtain⟨jl,jd,jr⟩:=j
 unfold encJ at H1
 cases he:isEmp x.name
 ·rw [he] at el HST
  clear he
  go_enter Tryz.func42,Tryz.ntmps42
  go_upto_region 1 with fail
  rw [←HW0.out]
  clear HW0
  have k0:W0.cell? ⟨w.heap.size,0,none⟩=some _:=R0.out.at' 0 rfl
  have k1:W0.cell? ⟨w.heap.size,1,none⟩=some _:=R0.out.at' 1 rfl
  have k2:W0.cell? ⟨w.heap.size,2,none⟩=some _:=R0.out.at' 2 rfl
  have k3:W0.cell? ⟨w.heap.size,3,none⟩=some _:=R0.out.at' 3 rfl
  have k4:W0.cell? ⟨w.heap.size,4,none⟩=some _:=R0.out.at' 4 rfl
  have k5:W0.cell? ⟨w.heap.size,5,none⟩=some _:=R0.out.at' 5 rfl
  have k6:W0.cell? ⟨w.heap.size,6,none⟩=some _:=R0.out.at' 6 rfl
  have k7:W0.cell? ⟨w.heap.size,7,none⟩=some _:=R0.out.at' 7 rfl
  go_wp2_with fail
  refine H1.out.mono ?_
  rintro e w1 ⟨rfl,hb1⟩
  have X1:=Lib.hid (X0.out.trans (hb1.mono X0.out.size))
  have R1:=Lib.hid (R0.out.ext hb1)
  obtain⟨W2,hW2,hX2,-⟩:=two_vars (fun _=>True) w1 jl jd jr
  have X2:=Lib.hid (X1.out.trans (hX2.mono X1.out.size))
  have R2:=Lib.hid (R1.out.ext hX2)
  clear hb1 hX2 k0 k1 k2 k3 k4 k5 k6 k7 R0 R1 X1 H1 X0
  go_upto_region 2 with fail
  rw [←hW2]
  clear hW2
  have k0:W2.cell? ⟨w.heap.size,0,none⟩=some _:=R2.out.at' 0 rfl
  have k1:W2.cell? ⟨w.heap.size,1,none⟩=some _:=R2.out.at' 1 rfl
  have k2:W2.cell? ⟨w.heap.size,2,none⟩=some _:=R2.out.at' 2 rfl
  have k3:W2.cell? ⟨w.heap.size,3,none⟩=some _:=R2.out.at' 3 rfl
  have k4:W2.cell? ⟨w.heap.size,4,none⟩=some _:=R2.out.at' 4 rfl
  have k5:W2.cell? ⟨w.heap.size,5,none⟩=some _:=R2.out.at' 5 rfl
  have k6:W2.cell? ⟨w.heap.size,6,none⟩=some _:=R2.out.at' 6 rfl
  have k7:W2.cell? ⟨w.heap.size,7,none⟩=some _:=R2.out.at' 7 rfl
  go_upto_region 3 with fail
  all_goals
   cases cj
   ·go_wp2
    go_ret
    exact⟨ret_bool (by rw [HI.out];rfl),X2.out⟩
   ·go_wp2_with fail
    refine(HWD.out _ X2.out).mono ?_
    rintro e w3 ⟨rfl,hb3⟩
    have X3:=Lib.hid (X2.out.trans (hb3.mono X2.out.size))
    have R3:=Lib.hid (R2.out.ext hb3)
    clear hb3 k0 k1 k2 k3 k4 k5 k6 k7 R2 X2 HWD
    cases wr
    ·go_wp2
     go_ret
     exact⟨ret_bool (by rw [HI.out];rfl),X3.out⟩
    ·have k0:w3.cell? ⟨w.heap.size,0,none⟩=some _:=R3.out.at' 0 rfl
     have k1:w3.cell? ⟨w.heap.size,1,none⟩=some _:=R3.out.at' 1 rfl
     have k2:w3.cell? ⟨w.heap.size,2,none⟩=some _:=R3.out.at' 2 rfl
     have k3:w3.cell? ⟨w.heap.size,3,none⟩=some _:=R3.out.at' 3 rfl
     have k4:w3.cell? ⟨w.heap.size,4,none⟩=some _:=R3.out.at' 4 rfl
     have k5:w3.cell? ⟨w.heap.size,5,none⟩=some _:=R3.out.at' 5 rfl
     have k6:w3.cell? ⟨w.heap.size,6,none⟩=some _:=R3.out.at' 6 rfl
     have k7:w3.cell? ⟨w.heap.size,7,none⟩=some _:=R3.out.at' 7 rfl
     go_wp2_with fail
     refine(HCK.out _).mono ?_
     rintro e w4 ⟨rfl,hb4⟩
     have X4:=Lib.hid (X3.out.trans (hb4.mono X3.out.size))
     have R4:=Lib.hid (R3.out.ext hb4)
     clear hb4 k0 k1 k2 k3 k4 k5 k6 k7 R3 X3 HCK
     have k0:w4.cell? ⟨w.heap.size,0,none⟩=some _:=R4.out.at' 0 rfl
     have k1:w4.cell? ⟨w.heap.size,1,none⟩=some _:=R4.out.at' 1 rfl
     have k2:w4.cell? ⟨w.heap.size,2,none⟩=some _:=R4.out.at' 2 rfl
     have k3:w4.cell? ⟨w.heap.size,3,none⟩=some _:=R4.out.at' 3 rfl
     have k4:w4.cell? ⟨w.heap.size,4,none⟩=some _:=R4.out.at' 4 rfl
     have k5:w4.cell? ⟨w.heap.size,5,none⟩=some _:=R4.out.at' 5 rfl
     have k6:w4.cell? ⟨w.heap.size,6,none⟩=some _:=R4.out.at' 6 rfl
     have k7:w4.cell? ⟨w.heap.size,7,none⟩=some _:=R4.out.at' 7 rfl
     cases sb
     ·go_wp2
      go_ret
      exact⟨ret_bool (by rw [HI.out];rfl),X4.out⟩
     ·cases kn
      ·go_wp2
       go_ret
       exact⟨ret_bool (by rw [HI.out,HST.out];rfl),X4.out⟩
      ·go_wp2
       go_ret
       exact⟨ret_bool (by rw [HI.out];rfl),X4.out⟩
 ·rw [he] at el HST
  clear he
  by_cases hg0:x.groups.length=0
  ·rw [decide_eq_true hg0] at HST
   have hg0i:((x.groups.length:Int) == 0)=true:=by simp [hg0]
   clear hg0
   cases a <;> cases b <;> cases f <;> cases d
   all_goals
    go_enter Tryz.func42,Tryz.ntmps42
    go_upto_region 1 with fail
    rw [←HW0.out]
    clear HW0
    have k0:W0.cell? ⟨w.heap.size,0,none⟩=some _:=R0.out.at' 0 rfl
    have k1:W0.cell? ⟨w.heap.size,1,none⟩=some _:=R0.out.at' 1 rfl
    have k2:W0.cell? ⟨w.heap.size,2,none⟩=some _:=R0.out.at' 2 rfl
    have k3:W0.cell? ⟨w.heap.size,3,none⟩=some _:=R0.out.at' 3 rfl
    have k4:W0.cell? ⟨w.heap.size,4,none⟩=some _:=R0.out.at' 4 rfl
    have k5:W0.cell? ⟨w.heap.size,5,none⟩=some _:=R0.out.at' 5 rfl
    have k6:W0.cell? ⟨w.heap.size,6,none⟩=some _:=R0.out.at' 6 rfl
    have k7:W0.cell? ⟨w.heap.size,7,none⟩=some _:=R0.out.at' 7 rfl
    go_wp2_with fail
    refine H1.out.mono ?_
    rintro e w1 ⟨rfl,hb1⟩
    have X1:=Lib.hid (X0.out.trans (hb1.mono X0.out.size))
    have R1:=Lib.hid (R0.out.ext hb1)
    obtain⟨W2,hW2,hX2,-⟩:=two_vars (fun _=>True) w1 jl jd jr
    have X2:=Lib.hid (X1.out.trans (hX2.mono X1.out.size))
    have R2:=Lib.hid (R1.out.ext hX2)
    clear hb1 hX2 k0 k1 k2 k3 k4 k5 k6 k7 R0 R1 X1 H1 X0
    go_upto_region 2 with fail
    rw [←hW2]
    clear hW2
    have k0:W2.cell? ⟨w.heap.size,0,none⟩=some _:=R2.out.at' 0 rfl
    have k1:W2.cell? ⟨w.heap.size,1,none⟩=some _:=R2.out.at' 1 rfl
    have k2:W2.cell? ⟨w.heap.size,2,none⟩=some _:=R2.out.at' 2 rfl
    have k3:W2.cell? ⟨w.heap.size,3,none⟩=some _:=R2.out.at' 3 rfl
    have k4:W2.cell? ⟨w.heap.size,4,none⟩=some _:=R2.out.at' 4 rfl
    have k5:W2.cell? ⟨w.heap.size,5,none⟩=some _:=R2.out.at' 5 rfl
    have k6:W2.cell? ⟨w.heap.size,6,none⟩=some _:=R2.out.at' 6 rfl
    have k7:W2.cell? ⟨w.heap.size,7,none⟩=some _:=R2.out.at' 7 rfl
    go_upto_region 3 with fail
    cases cj
    ·go_wp2
     go_ret
     exact⟨ret_bool (by rw [HI.out];rfl),X2.out⟩
    ·go_wp2_with fail
     refine(HWD.out _ X2.out).mono ?_
     rintro e w3 ⟨rfl,hb3⟩
     have X3:=Lib.hid (X2.out.trans (hb3.mono X2.out.size))
     have R3:=Lib.hid (R2.out.ext hb3)
     clear hb3 k0 k1 k2 k3 k4 k5 k6 k7 R2 X2 HWD
     cases wr
     ·go_wp2
      go_ret
      exact⟨ret_bool (by rw [HI.out];rfl),X3.out⟩
     ·have k0:w3.cell? ⟨w.heap.size,0,none⟩=some _:=R3.out.at' 0 rfl
      have k1:w3.cell? ⟨w.heap.size,1,none⟩=some _:=R3.out.at' 1 rfl
      have k2:w3.cell? ⟨w.heap.size,2,none⟩=some _:=R3.out.at' 2 rfl
      have k3:w3.cell? ⟨w.heap.size,3,none⟩=some _:=R3.out.at' 3 rfl
      have k4:w3.cell? ⟨w.heap.size,4,none⟩=some _:=R3.out.at' 4 rfl
      have k5:w3.cell? ⟨w.heap.size,5,none⟩=some _:=R3.out.at' 5 rfl
      have k6:w3.cell? ⟨w.heap.size,6,none⟩=some _:=R3.out.at' 6 rfl
      have k7:w3.cell? ⟨w.heap.size,7,none⟩=some _:=R3.out.at' 7 rfl
      go_wp2_with fail
      refine(HCK.out _).mono ?_
      rintro e w4 ⟨rfl,hb4⟩
      have X4:=Lib.hid (X3.out.trans (hb4.mono X3.out.size))
      have R4:=Lib.hid (R3.out.ext hb4)
      clear hb4 k0 k1 k2 k3 k4 k5 k6 k7 R3 X3 HCK
      have k0:w4.cell? ⟨w.heap.size,0,none⟩=some _:=R4.out.at' 0 rfl
      have k1:w4.cell? ⟨w.heap.size,1,none⟩=some _:=R4.out.at' 1 rfl
      have k2:w4.cell? ⟨w.heap.size,2,none⟩=some _:=R4.out.at' 2 rfl
      have k3:w4.cell? ⟨w.heap.size,3,none⟩=some _:=R4.out.at' 3 rfl
      have k4:w4.cell? ⟨w.heap.size,4,none⟩=some _:=R4.out.at' 4 rfl
      have k5:w4.cell? ⟨w.heap.size,5,none⟩=some _:=R4.out.at' 5 rfl
      have k6:w4.cell? ⟨w.heap.size,6,none⟩=some _:=R4.out.at' 6 rfl
      have k7:w4.cell? ⟨w.heap.size,7,none⟩=some _:=R4.out.at' 7 rfl
      cases sb
      ·go_wp2
       go_ret
       exact⟨ret_bool (by rw [HI.out];rfl),X4.out⟩
      ·cases kn
       ·go_wp2
        go_ret
        exact⟨ret_bool (by rw [HI.out,HST.out];rfl),X4.out⟩
       ·go_wp2
        go_ret
        exact⟨ret_bool (by rw [HI.out];rfl),X4.out⟩
  ·rw [decide_eq_false hg0] at HST
   have hg0i:((x.groups.length:Int) == 0)=false:=by simp [hg0]
   clear hg0
   go_enter Tryz.func42,Tryz.ntmps42
   go_upto_region 1 with fail
   rw [←HW0.out]
   clear HW0
   have k0:W0.cell? ⟨w.heap.size,0,none⟩=some _:=R0.out.at' 0 rfl
   have k1:W0.cell? ⟨w.heap.size,1,none⟩=some _:=R0.out.at' 1 rfl
   have k2:W0.cell? ⟨w.heap.size,2,none⟩=some _:=R0.out.at' 2 rfl
   have k3:W0.cell? ⟨w.heap.size,3,none⟩=some _:=R0.out.at' 3 rfl
   have k4:W0.cell? ⟨w.heap.size,4,none⟩=some _:=R0.out.at' 4 rfl
   have k5:W0.cell? ⟨w.heap.size,5,none⟩=some _:=R0.out.at' 5 rfl
   have k6:W0.cell? ⟨w.heap.size,6,none⟩=some _:=R0.out.at' 6 rfl
   have k7:W0.cell? ⟨w.heap.size,7,none⟩=some _:=R0.out.at' 7 rfl
   go_wp2_with fail
   refine H1.out.mono ?_
   rintro e w1 ⟨rfl,hb1⟩
   have X1:=Lib.hid (X0.out.trans (hb1.mono X0.out.size))
   have R1:=Lib.hid (R0.out.ext hb1)
   obtain⟨W2,hW2,hX2,-⟩:=two_vars (fun _=>True) w1 jl jd jr
   have X2:=Lib.hid (X1.out.trans (hX2.mono X1.out.size))
   have R2:=Lib.hid (R1.out.ext hX2)
   clear hb1 hX2 k0 k1 k2 k3 k4 k5 k6 k7 R0 R1 X1 H1 X0
   go_upto_region 2 with fail
   rw [←hW2]
   clear hW2
   have k0:W2.cell? ⟨w.heap.size,0,none⟩=some _:=R2.out.at' 0 rfl
   have k1:W2.cell? ⟨w.heap.size,1,none⟩=some _:=R2.out.at' 1 rfl
   have k2:W2.cell? ⟨w.heap.size,2,none⟩=some _:=R2.out.at' 2 rfl
   have k3:W2.cell? ⟨w.heap.size,3,none⟩=some _:=R2.out.at' 3 rfl
   have k4:W2.cell? ⟨w.heap.size,4,none⟩=some _:=R2.out.at' 4 rfl
   have k5:W2.cell? ⟨w.heap.size,5,none⟩=some _:=R2.out.at' 5 rfl
   have k6:W2.cell? ⟨w.heap.size,6,none⟩=some _:=R2.out.at' 6 rfl
   have k7:W2.cell? ⟨w.heap.size,7,none⟩=some _:=R2.out.at' 7 rfl
   go_upto_region 3 with fail
   all_goals
    cases cj
    ·go_wp2
     go_ret
     exact⟨ret_bool (by rw [HI.out];rfl),X2.out⟩
    ·go_wp2_with fail
     refine(HWD.out _ X2.out).mono ?_
     rintro e w3 ⟨rfl,hb3⟩
     have X3:=Lib.hid (X2.out.trans (hb3.mono X2.out.size))
     have R3:=Lib.hid (R2.out.ext hb3)
     clear hb3 k0 k1 k2 k3 k4 k5 k6 k7 R2 X2 HWD
     cases wr
     ·go_wp2
      go_ret
      exact⟨ret_bool (by rw [HI.out];rfl),X3.out⟩
     ·have k0:w3.cell? ⟨w.heap.size,0,none⟩=some _:=R3.out.at' 0 rfl
      have k1:w3.cell? ⟨w.heap.size,1,none⟩=some _:=R3.out.at' 1 rfl
      have k2:w3.cell? ⟨w.heap.size,2,none⟩=some _:=R3.out.at' 2 rfl
      have k3:w3.cell? ⟨w.heap.size,3,none⟩=some _:=R3.out.at' 3 rfl
      have k4:w3.cell? ⟨w.heap.size,4,none⟩=some _:=R3.out.at' 4 rfl
      have k5:w3.cell? ⟨w.heap.size,5,none⟩=some _:=R3.out.at' 5 rfl
      have k6:w3.cell? ⟨w.heap.size,6,none⟩=some _:=R3.out.at' 6 rfl
      have k7:w3.cell? ⟨w.heap.size,7,none⟩=some _:=R3.out.at' 7 rfl
      go_wp2_with fail
      refine(HCK.out _).mono ?_
      rintro e w4 ⟨rfl,hb4⟩
      have X4:=Lib.hid (X3.out.trans (hb4.mono X3.out.size))
      have R4:=Lib.hid (R3.out.ext hb4)
      clear hb4 k0 k1 k2 k3 k4 k5 k6 k7 R3 X3 HCK
      have k0:w4.cell? ⟨w.heap.size,0,none⟩=some _:=R4.out.at' 0 rfl
      have k1:w4.cell? ⟨w.heap.size,1,none⟩=some _:=R4.out.at' 1 rfl
      have k2:w4.cell? ⟨w.heap.size,2,none⟩=some _:=R4.out.at' 2 rfl
      have k3:w4.cell? ⟨w.heap.size,3,none⟩=some _:=R4.out.at' 3 rfl
      have k4:w4.cell? ⟨w.heap.size,4,none⟩=some _:=R4.out.at' 4 rfl
      have k5:w4.cell? ⟨w.heap.size,5,none⟩=some _:=R4.out.at' 5 rfl
      have k6:w4.cell? ⟨w.heap.size,6,none⟩=some _:=R4.out.at' 6 rfl
      have k7:w4.cell? ⟨w.heap.size,7,none⟩=some _:=R4.out.at' 7 rfl
      cases sb
      ·go_wp2
       go_ret
       exact⟨ret_bool (by rw [HI.out];rfl),X4.out⟩
      ·cases kn
       ·go_wp2
        go_ret
        exact⟨ret_bool (by rw [HI.out,HST.out];rfl),X4.out⟩
       ·go_wp2
        go_ret
        exact⟨ret_bool (by rw [HI.out];rfl),X4.out⟩
end Go.Proofs.YtnfokaecobddkaaGreatDoor
end
section
namespace Go.Proofs.YtnfokaecobddkaaGreatDoor
open Go.RowKit
set_option linter.unusedSimpArgs false
set_option linter.unusedVariables false
end Go.Proofs.YtnfokaecobddkaaGreatDoor
end
section
namespace Go.Proofs.YtnfokaecobddkaaGreatDoor
open Go.RowKit
set_option linter.unusedSimpArgs false
set_option linter.unusedVariables false
def ItAt (w:World) (b o:Nat) (x:ItemL):Prop:=∃A c,(∀r v,(cI x A c)[r]? = some v→w.cell? ⟨b,o+r,none⟩=some v)∧x.groups.length≤c∧RdS w A x.groups
def RdI (w:World) (A:Option Addr) (l:List ItemL):Prop:=0 < l.length→∃b off,A=some ⟨b,off,none⟩∧b < w.heap.size∧∀i x,l[i]? = some x→ItAt w b (off+i*8) x
theorem ItAt.ext {w w':World} {b o:Nat} {x:ItemL} (h:ItAt w b o x) (hb:b < w.heap.size) (hx:Below w.heap.size w w'):ItAt w' b o x:=by
 obtain⟨A,c,h1,h2,h3⟩:=h
 exact⟨A,c,fun r v hv=>(hx.cell (p:=⟨b,o+r,none⟩) hb).trans (h1 r v hv),h2,h3.ext hx⟩
theorem RdI.ext {w w':World} {A:Option Addr} {l:List ItemL} (h:RdI w A l) (hx:Below w.heap.size w w'):RdI w' A l:=fun h0=>by
 obtain⟨b,off,h1,h2,h3⟩:=h h0
 exact⟨b,off,h1,Nat.lt_of_lt_of_le h2 hx.size,fun i x hi=>(h3 i x hi).ext h2 hx⟩
def SzL (l:List ItemL):Prop:=l.length≤1000∧∀x∈l,SzI x
section
variable {ops:Array Oper} {w0:World} {Fin:List Ty→Prop} {rest:List Oper} {E:Env} {Ts:List Ty} {o:Oper}
set_option maxRecDepth 10000 in
theorem tw_ldRow {x:Operand} {g:Nat} {ty:TypeId} {fs:Array Field} (cs:Array Value) (hu:Tryz.prog.underlying ty=some (.struct fs)) (hi:(Tryz.prog.info? ty).map (·.size)=some cs.size) (hop:o.op=.load ty x) (hE:evalE E x=some (.pointer (some ⟨g,0,none⟩))) (hc:∀W,Ext w0 W→Row W g cs) (hw:Wd ops o E true)
  (hr:wpT Tryz.prog ops w0 Fin rest (E.put o.dst (.inl (.agg cs))) (.inl (.agg cs) :: Ts)):wpT Tryz.prog ops w0 Fin (o :: rest) E Ts:=
 tw_pure (.agg cs) hw (fun a W hW hs=>by
  have h1:a.eval x=.pointer (some ⟨g,0,none⟩):=evalE_of hE (by rw [hop];simp [Op.operands]) hs
  obtain⟨t,h2⟩:=hc W hW
  have h3:=run_loadVar_row (P:=Tryz.prog) W g t ty _ (0,0) _ h2 hu rfl hi
  unfold execOp
  have h4:(Instr.sureAddr (.pointer (some ⟨g,0,none⟩))).run Tryz.prog W=.ok ⟨g,0,none⟩ W:=by first|rfl|(go_simp;done)|(simp [Instr.sureAddr,asAddr];done)
  simp only [hop,h1,Instr.loadAt,Sem.run_bind,Sem.run_pure,Result.andThen_ok,h4,h3]) hr
theorem wd_un {j:Nat} {b:Bool} {d:Tmp} (h:o.guard=some (j,b)) (hd:(ops[j]?).bind (·.dst)=some d) (hE:E d=.inl undef):Wd ops o E false:=fun a w hs=>by
 have hm:d∈o.looksAt ops:=by
  unfold Oper.looksAt
  rw [h]
  exact List.mem_append_right _ (by simp [hd])
 have hv:=hs d hm
 rw [hE] at hv
 have hv':a.tmps.getD d undef=undef:=hv
 have hq:a.tmps[d]? = none∨a.tmps[d]? = some undef:=by
  cases hx:a.tmps[d]? with
  | none=>exact .inl rfl
  | some x=>
   rw [Array.getD_eq_getD_getElem?,hx] at hv'
   exact .inr (by rw [←hv'];rfl)
 unfold Region.wanted yielded
 rw [h]
 rcases hq with hq|hq <;> (simp only [hd,Option.bind_some,hq];cases b <;> rfl)
theorem tw_ixI {x y:Operand} {b off n c k:Nat} (hk:k < n) (hn:n≤1000000000) (hop:o.op=.indexAddr 39 x y) (hx:evalE E x=some (.slice (some ⟨b,off,none⟩) n c)) (hy:evalE E y=some (.int .i64 (k:Int))) (hw:Wd ops o E true)
  (hr:wpT Tryz.prog ops w0 Fin rest (E.put o.dst (.inl (.pointer (some ⟨b,off+k*8,none⟩)))) (.inl (.pointer (some ⟨b,off+k*8,none⟩)) :: Ts)):wpT Tryz.prog ops w0 Fin (o :: rest) E Ts:=
 tw_pure _ hw (fun a W hW hs=>by
  have h1:a.eval x=_:=evalE_of hx (by rw [hop];simp [Op.operands]) hs
  have h2:a.eval y=_:=evalE_of hy (by rw [hop];simp [Op.operands]) hs
  unfold execOp
  simp only [hop,h1,h2]
  go_simp) hr
theorem tw_ldL8 {x:Operand} {p:Addr} {A:Option Addr} {m c:Nat} (hop:o.op=.load 39 x) (hE:evalE E x=some (.pointer (some p))) (hc:∀W,Ext w0 W→W.cell? p=some (.slice A m c)) (hw:Wd ops o E true)
  (hr:wpT Tryz.prog ops w0 Fin rest (E.put o.dst (.inl (.slice A m c))) (.inl (.slice A m c) :: Ts)):wpT Tryz.prog ops w0 Fin (o :: rest) E Ts:=
 tw_pure (.slice A m c) hw (fun a W hW hs=>by
  have h1:a.eval x=.pointer (some p):=evalE_of hE (by rw [hop];simp [Op.operands]) hs
  have h2:=hc W hW
  unfold execOp
  simp only [hop,h1]
  go_simp) hr
theorem tw_sub1 {x:Operand} {m:Nat} (hm:m≤1000000000) (hop:o.op=.binOp .sub 3 x (.const (.int .i64 1)) 3) (hx:evalE E x=some (.int .i64 ((m+1:Nat):Int))) (hw:Wd ops o E true)
  (hr:wpT Tryz.prog ops w0 Fin rest (E.put o.dst (.inl (.int .i64 (m:Int)))) (.inl (.int .i64 (m:Int)) :: Ts)):wpT Tryz.prog ops w0 Fin (o :: rest) E Ts:=
 tw_pure _ hw (fun a W hW hs=>by
  have h1:a.eval x=_:=evalE_of hx (by rw [hop];simp [Op.operands]) hs
  have h2:a.eval (.const (.int .i64 1))=.int .i64 1:=rfl
  have e:(((m+1:Nat):Int) - 1)=(m:Int):=by omega
  have e2:IntKind.i64.wrap (((m+1:Nat):Int) - 1)=(m:Int):=by rw [e];simp [IntKind.wrap,IntKind.bits,IntKind.signed];omega
  unfold execOp
  simp only [hop,h1,h2]
  go_simp
  rw [e] at e2
  exact e2) hr
end
end Go.Proofs.YtnfokaecobddkaaGreatDoor
end
