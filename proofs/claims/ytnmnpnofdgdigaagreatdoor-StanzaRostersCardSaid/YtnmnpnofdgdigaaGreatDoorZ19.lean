/- Part 19 of a proof laid in parts, one behind the other; no condition of its own. -/
import Derived.Test.YtnmnpnofdgdigaaGreatDoorZ18
set_option linter.all false
section
namespace Go.Proofs.YtnmnpnofdgdigaaGreatDoor
open Go.RowKit
set_option linter.unusedSimpArgs false
set_option linter.unusedVariables false
def AdrPost (s:ByteArray) (w:World) (e:Ending) (w':World):Prop:=e=.returned (.tuple #[encJ (parsedJ s),.bool (contactI s)])∧Below w.heap.size w w'
theorem ret_ending {u v:Value} (h:u=v):Ending.returned u=.returned v:=by rw [h]
set_option maxHeartbeats 8000000 in
set_option maxRecDepth 10000 in
theorem raddress_any (s:ByteArray) (w:World) (hs:s.size≤1000000000) (hg:Glb w):Calls Tryz.prog 171 #[.string s] w (AdrPost s w):=by
 have hz:=parsed_sz s
 obtain⟨W0,hW0⟩:∃W0,W0=w.alloc (.cells #[.string ⟨#[]⟩,.string ⟨#[]⟩,.string ⟨#[]⟩] 102):=⟨_,rfl⟩
 have hX0:Below w.heap.size w W0:=by rw [hW0];exact(Below.refl _ _).alloc (Nat.le_refl _) _
 have hR0:Row W0 w.heap.size #[.string ⟨#[]⟩,.string ⟨#[]⟩,.string ⟨#[]⟩]:=by rw [hW0];exact Row.new w _ _
 have H1:=Lib.hid (jparse_any s W0 hs (hg.below hX0))
 have H2:=Lib.hid (fun W (hW:Glb W)=>write_any (parsedJ s) W ⟨by omega,by omega,by omega⟩ hW)
 have HG:=Lib.hid hg
 unfold ParsePost at H1
 have HA:Box (contactI s=((parseI s).isSome && eqS (textJ (parsedJ s)) s && isEmp (parsedJ s).res)):=⟨rfl⟩
 have HPJ:=Box.mk (parse_jid s)
 have HJE:Box (jidErr (parsedJ s)=if jidI (parsedJ s) then 0 else 8):=⟨rfl⟩
 have HPE:Box (parseE s=if (parseI s).isSome then 0 else 190):=⟨rfl⟩
 rw [HPJ.out] at HJE H2
 have HX0:=Lib.hid hX0
 have HR0:=Lib.hid hR0
 unfold eqS at HA
 have el:=emp_iff (parsedJ s).res
 unfold AdrPost
 clear HPJ hz hX0 hR0 hg
 generalize contactI s=q at *
 generalize (parseI s).isSome=ok at *
 generalize parseE s=pe at *
 generalize textJ (parsedJ s)=T at *
 generalize jidErr (parsedJ s)=je at *
 generalize parsedJ s=j at *
 obtain⟨l,d,r⟩:=j
 unfold encJ at H1 H2 ⊢
 dsimp only at HA el
 cases ok
 all_goals
  have hje:=HJE.out
  have hpe:=HPE.out
  try simp only [Bool.false_eq_true,if_false] at hje hpe H2
  try simp only [if_true] at hje hpe H2
  subst hje hpe
  clear HJE HPE
 ·clear el
  go_enter Tryz.func171,Tryz.ntmps171
  go_upto_region 1 with fail
  rw [←hW0]
  clear hW0
  go_wp2_with fail
  refine H1.out.mono ?_
  rintro e w1 ⟨rfl,hb1⟩
  have X1:=Lib.hid (HX0.out.trans (hb1.mono HX0.out.size))
  have R1:=Lib.hid (HR0.out.ext hb1)
  have hlw:=R1.out.lt
  clear hb1 HX0 HR0 H1
  obtain⟨W2,hW2⟩:∃W2,W2=w1.alloc (.cells #[.string l,.string d,.string r] 102):=⟨_,rfl⟩
  have hX2:Below w1.heap.size w1 W2:=by rw [hW2];exact(Below.refl _ _).alloc (Nat.le_refl _) _
  have J2:Hid (Row W2 w1.heap.size #[.string l,.string d,.string r]):=Lib.hid (by rw [hW2];exact Row.new w1 _ _)
  have X2:=Lib.hid (X1.out.trans (hX2.mono X1.out.size))
  have R2:=Lib.hid (R1.out.ext hX2)
  clear hX2 X1 R1
  go_upto_region 2 with fail
  rw [←hW2]
  clear hW2
  have a0:W2.cell? ⟨w1.heap.size,0,none⟩=some _:=J2.out.at' 0 rfl
  have a1:W2.cell? ⟨w1.heap.size,1,none⟩=some _:=J2.out.at' 1 rfl
  have a2:W2.cell? ⟨w1.heap.size,2,none⟩=some _:=J2.out.at' 2 rfl
  go_wp2_with fail
  refine(H2.out _ (HG.out.below X2.out)).mono ?_
  rintro e w3 ⟨rfl,hb3⟩
  have X3:=Lib.hid (X2.out.trans (hb3.mono X2.out.size))
  have R3:=Lib.hid (R2.out.ext hb3)
  have J3:=Lib.hid (J2.out.ext hb3)
  clear hb3 X2 R2 J2 a0 a1 a2 H2 HG
  go_wp2_with fail
  have hl3:=R3.out.lt
  have HRD:Hid (Row w3.drew w.heap.size #[.string ⟨#[]⟩,.string ⟨#[]⟩,.string ⟨#[]⟩]):=R3
  have HJD:Hid (Row w3.drew w1.heap.size #[.string l,.string d,.string r]):=J3
  have GJ:=Lib.hid (fun W (hW:TI.Ext (TI.Fam w3.drew [(w.heap.size,#[.string l,.string d,.string r])]) w3.drew W)=>TI.fam_row hW HJD.out (fun x hx=>by rw [List.mem_singleton.1 hx];show w1.heap.size≠w.heap.size;omega))
  have GR:=Lib.hid (fun W (hW:TI.Ext (TI.Fam w3.drew [(w.heap.size,#[.string l,.string d,.string r])]) w3.drew W)=>(GJ.out W hW).at' 2 rfl)
  refine TI.wp_region_typed (I:=TI.Fam w3.drew [(w.heap.size,#[.string l,.string d,.string r])]) rfl (by kernel_rfl) (by kernel_rfl) ?_
  repeat (first|refine TI.tw_ldRow #[.string l,.string d,.string r] Tryz.underlying102 (by kernel_rfl) rfl rfl GJ.out (by first|exact TI.wd_none rfl|exact TI.wd_yes rfl rfl rfl) ?_|refine TI.tw_ldS rfl rfl GR.out (by first|exact TI.wd_none rfl|exact TI.wd_yes rfl rfl rfl) ?_|refine TI.tw_store 0 w.heap.size #[.string l,.string d,.string r] _ rfl (by simp) HRD.out rfl (by kernel_rfl) (by simp [Value.oneCell']) rfl rfl rfl (by first|exact TI.wd_none rfl|exact TI.wd_yes rfl rfl rfl) ?_|refine TI.tw_skip (TI.wd_no rfl rfl rfl) ?_|refine TI.tw_mv (.inl rfl) rfl (by first|exact TI.wd_none rfl|exact TI.wd_yes rfl rfl rfl) ?_|refine TI.tw_mv (.inr rfl) rfl (by first|exact TI.wd_none rfl|exact TI.wd_yes rfl rfl rfl) ?_|refine TI.tw_pickL rfl rfl rfl (by first|exact TI.wd_none rfl|exact TI.wd_yes rfl rfl rfl) ?_|refine TI.tw_op1 _ rfl rfl (by first|exact TI.wd_none rfl|exact TI.wd_yes rfl rfl rfl) (fun ρ W hW h1=>by simp only [execOp,h1];go_simp;first|done|rfl) ?_|refine TI.tw_op2 _ rfl rfl rfl (by first|exact TI.wd_none rfl|exact TI.wd_yes rfl rfl rfl) (fun ρ W hW h1 h2=>by simp only [execOp,h1,h2];go_simp;first|done|rfl) ?_)
  dsimp only [TI.wpT,List.reverse,List.reverseAux,TI.FinT]
  intro W5 hW5 hF
  obtain⟨-,-,hR5⟩:=hF
  simp only [Act.put,List.setIfInBounds_toArray,List.set_cons_zero,List.set_cons_succ]
  have X5:=Lib.hid (X3.out.drew.trans (TI.fam_below hW5 (Nat.le_of_lt hl3) (fun x hx=>by rw [List.mem_singleton.1 hx];exact Nat.le_refl _)))
  clear hW5 GJ GR
  go_wp2
  obtain⟨tt,hh⟩:=hR5
  exact bodyPost_ret (v:=.tuple #[.agg #[.string l,.string d,.string r],.bool false])
   (results_jid (fn:=Tryz.f171) (p:=2) (s:=3) (ty:=102) rfl _ _ w.heap.size _ _ _ _ rfl rfl hh Tryz.underlying102 (by kernel_rfl)) rfl ⟨ret_ending (by rw [HA.out];first|rfl|simp_all),X5.out⟩
 ·obtain⟨b1,hb1⟩:∃b1,(T.toList == s.toList)=b1:=⟨_,rfl⟩
  obtain⟨b2,hb2⟩:∃b2,(r.toList == (⟨#[]⟩:ByteArray).toList)=b2:=⟨_,rfl⟩
  have he2:isEmp r=b2:=by rw [←hb2,←el];cases hq:r.toList <;> simp_all
  rw [hb1,he2] at HA
  have hb1':=hb1
  cases b1 <;> cases b2
  all_goals
   clear el
   go_enter Tryz.func171,Tryz.ntmps171
   go_upto_region 1 with fail
   rw [←hW0]
   clear hW0
   go_wp2_with fail
   refine H1.out.mono ?_
   rintro e w1 ⟨rfl,hb1⟩
   have X1:=Lib.hid (HX0.out.trans (hb1.mono HX0.out.size))
   have R1:=Lib.hid (HR0.out.ext hb1)
   have hlw:=R1.out.lt
   clear hb1 HX0 HR0 H1
   obtain⟨W2,hW2⟩:∃W2,W2=w1.alloc (.cells #[.string l,.string d,.string r] 102):=⟨_,rfl⟩
   have hX2:Below w1.heap.size w1 W2:=by rw [hW2];exact(Below.refl _ _).alloc (Nat.le_refl _) _
   have J2:Hid (Row W2 w1.heap.size #[.string l,.string d,.string r]):=Lib.hid (by rw [hW2];exact Row.new w1 _ _)
   have X2:=Lib.hid (X1.out.trans (hX2.mono X1.out.size))
   have R2:=Lib.hid (R1.out.ext hX2)
   clear hX2 X1 R1
   go_upto_region 2 with fail
   rw [←hW2]
   clear hW2
   have a0:W2.cell? ⟨w1.heap.size,0,none⟩=some _:=J2.out.at' 0 rfl
   have a1:W2.cell? ⟨w1.heap.size,1,none⟩=some _:=J2.out.at' 1 rfl
   have a2:W2.cell? ⟨w1.heap.size,2,none⟩=some _:=J2.out.at' 2 rfl
   go_wp2_with fail
   refine(H2.out _ (HG.out.below X2.out)).mono ?_
   rintro e w3 ⟨rfl,hb3⟩
   have X3:=Lib.hid (X2.out.trans (hb3.mono X2.out.size))
   have R3:=Lib.hid (R2.out.ext hb3)
   have J3:=Lib.hid (J2.out.ext hb3)
   clear hb3 X2 R2 J2 a0 a1 a2 H2 HG
   go_wp2_with fail
   have hl3:=R3.out.lt
   have HRD:Hid (Row w3.drew w.heap.size #[.string ⟨#[]⟩,.string ⟨#[]⟩,.string ⟨#[]⟩]):=R3
   have HJD:Hid (Row w3.drew w1.heap.size #[.string l,.string d,.string r]):=J3
   have GJ:=Lib.hid (fun W (hW:TI.Ext (TI.Fam w3.drew [(w.heap.size,#[.string l,.string d,.string r])]) w3.drew W)=>TI.fam_row hW HJD.out (fun x hx=>by rw [List.mem_singleton.1 hx];show w1.heap.size≠w.heap.size;omega))
   have GR:=Lib.hid (fun W (hW:TI.Ext (TI.Fam w3.drew [(w.heap.size,#[.string l,.string d,.string r])]) w3.drew W)=>(GJ.out W hW).at' 2 rfl)
   refine TI.wp_region_typed (I:=TI.Fam w3.drew [(w.heap.size,#[.string l,.string d,.string r])]) rfl (by kernel_rfl) (by kernel_rfl) ?_
   repeat (first|refine TI.tw_ldRow #[.string l,.string d,.string r] Tryz.underlying102 (by kernel_rfl) rfl rfl GJ.out (by first|exact TI.wd_none rfl|exact TI.wd_yes rfl rfl rfl) ?_|refine TI.tw_ldS rfl rfl GR.out (by first|exact TI.wd_none rfl|exact TI.wd_yes rfl rfl rfl) ?_|refine TI.tw_store 0 w.heap.size #[.string l,.string d,.string r] _ rfl (by simp) HRD.out rfl (by kernel_rfl) (by simp [Value.oneCell']) rfl rfl rfl (by first|exact TI.wd_none rfl|exact TI.wd_yes rfl rfl rfl) ?_|refine TI.tw_eqS T s _ hb1 rfl rfl rfl (by first|exact TI.wd_none rfl|exact TI.wd_yes rfl rfl rfl) ?_|refine TI.tw_eqS r ⟨#[]⟩ _ hb2 rfl rfl rfl (by first|exact TI.wd_none rfl|exact TI.wd_yes rfl rfl rfl) ?_|refine TI.tw_skip (TI.wd_no rfl rfl rfl) ?_|refine TI.tw_mv (.inl rfl) rfl (by first|exact TI.wd_none rfl|exact TI.wd_yes rfl rfl rfl) ?_|refine TI.tw_mv (.inr rfl) rfl (by first|exact TI.wd_none rfl|exact TI.wd_yes rfl rfl rfl) ?_|refine TI.tw_pickL rfl rfl rfl (by first|exact TI.wd_none rfl|exact TI.wd_yes rfl rfl rfl) ?_|refine TI.tw_op1 _ rfl rfl (by first|exact TI.wd_none rfl|exact TI.wd_yes rfl rfl rfl) (fun ρ W hW h1=>by simp only [execOp,h1];go_simp;first|done|rfl) ?_|refine TI.tw_op2 _ rfl rfl rfl (by first|exact TI.wd_none rfl|exact TI.wd_yes rfl rfl rfl) (fun ρ W hW h1 h2=>by simp only [execOp,h1,h2];go_simp;first|done|rfl) ?_)
   dsimp only [TI.wpT,List.reverse,List.reverseAux,TI.FinT]
   intro W5 hW5 hF
   obtain⟨-,-,hR5⟩:=hF
   simp only [Act.put,List.setIfInBounds_toArray,List.set_cons_zero,List.set_cons_succ]
   have X5:=Lib.hid (X3.out.drew.trans (TI.fam_below hW5 (Nat.le_of_lt hl3) (fun x hx=>by rw [List.mem_singleton.1 hx];exact Nat.le_refl _)))
   clear hW5 GJ GR
   go_wp2
   obtain⟨tt,hh⟩:=hR5
   exact bodyPost_ret (v:=.tuple #[.agg #[.string l,.string d,.string r],.bool _])
    (results_jid (fn:=Tryz.f171) (p:=2) (s:=3) (ty:=102) rfl _ _ w.heap.size _ _ _ _ rfl rfl hh Tryz.underlying102 (by kernel_rfl)) rfl ⟨ret_ending (by rw [HA.out];first|rfl|simp_all),X5.out⟩
set_option maxHeartbeats 8000000 in
set_option maxRecDepth 10000 in
theorem refraddress_any (s:ByteArray) (w:World) (hs:s.size≤1000000000):Calls Tryz.prog 176 #[.string s] w (AdrPost s w):=by
 have hz:=parsed_sz s
 obtain⟨W0,hW0⟩:∃W0,W0=w.alloc (.cells #[.string ⟨#[]⟩,.string ⟨#[]⟩,.string ⟨#[]⟩] 102):=⟨_,rfl⟩
 have hX0:Below w.heap.size w W0:=by rw [hW0];exact(Below.refl _ _).alloc (Nat.le_refl _) _
 have hR0:Row W0 w.heap.size #[.string ⟨#[]⟩,.string ⟨#[]⟩,.string ⟨#[]⟩]:=by rw [hW0];exact Row.new w _ _
 have H1:=Lib.hid (refjparse_any s W0 hs)
 have H2:=Lib.hid (fun W=>reftext_any (parsedJ s) W ⟨by omega,by omega,by omega⟩)
 unfold ParsePost at H1
 have HA:Box (contactI s=((parseI s).isSome && eqS (textJ (parsedJ s)) s && isEmp (parsedJ s).res)):=⟨rfl⟩
 have HPJ:=Box.mk (parse_jid s)
 have HJE:Box (jidErr (parsedJ s)=if jidI (parsedJ s) then 0 else 8):=⟨rfl⟩
 have HPE:Box (parseE s=if (parseI s).isSome then 0 else 190):=⟨rfl⟩
 rw [HPJ.out] at HJE
 have HX0:=Lib.hid hX0
 have HR0:=Lib.hid hR0
 unfold eqS at HA
 have el:=emp_iff (parsedJ s).res
 unfold AdrPost
 clear HPJ hz hX0 hR0
 generalize contactI s=q at *
 generalize (parseI s).isSome=ok at *
 generalize parseE s=pe at *
 generalize textJ (parsedJ s)=T at *
 generalize jidErr (parsedJ s)=je at *
 generalize parsedJ s=j at *
 obtain⟨l,d,r⟩:=j
 unfold encJ at H1 H2 ⊢
 dsimp only at HA el
 cases ok
 all_goals
  have hje:=HJE.out
  have hpe:=HPE.out
  try simp only [Bool.false_eq_true,if_false] at hje hpe
  try simp only [if_true] at hje hpe
  subst hje hpe
  clear HJE HPE
 ·clear el
  go_enter Tryz.func176,Tryz.ntmps176
  go_upto_region 1 with fail
  rw [←hW0]
  clear hW0
  go_wp2_with fail
  refine H1.out.mono ?_
  rintro e w1 ⟨rfl,hb1⟩
  have X1:=Lib.hid (HX0.out.trans (hb1.mono HX0.out.size))
  have R1:=Lib.hid (HR0.out.ext hb1)
  have hlw:=R1.out.lt
  clear hb1 HX0 HR0 H1
  obtain⟨W2,hW2⟩:∃W2,W2=w1.alloc (.cells #[.string l,.string d,.string r] 102):=⟨_,rfl⟩
  have hX2:Below w1.heap.size w1 W2:=by rw [hW2];exact(Below.refl _ _).alloc (Nat.le_refl _) _
  have J2:Hid (Row W2 w1.heap.size #[.string l,.string d,.string r]):=Lib.hid (by rw [hW2];exact Row.new w1 _ _)
  have X2:=Lib.hid (X1.out.trans (hX2.mono X1.out.size))
  have R2:=Lib.hid (R1.out.ext hX2)
  clear hX2 X1 R1
  go_upto_region 2 with fail
  rw [←hW2]
  clear hW2
  have X3:=X2
  have R3:=R2
  have J3:=J2
  obtain⟨w3,hw3⟩:∃w3,w3=W2:=⟨_,rfl⟩
  rw [←hw3] at X3 R3 J3 ⊢
  clear hw3 X2 R2 J2
  have hl3:=R3.out.lt
  have HRD:Hid (Row w3.drew w.heap.size #[.string ⟨#[]⟩,.string ⟨#[]⟩,.string ⟨#[]⟩]):=R3
  have HJD:Hid (Row w3.drew w1.heap.size #[.string l,.string d,.string r]):=J3
  have GJ:=Lib.hid (fun W (hW:TI.Ext (TI.Fam w3.drew [(w.heap.size,#[.string l,.string d,.string r])]) w3.drew W)=>TI.fam_row hW HJD.out (fun x hx=>by rw [List.mem_singleton.1 hx];show w1.heap.size≠w.heap.size;omega))
  have GR:=Lib.hid (fun W (hW:TI.Ext (TI.Fam w3.drew [(w.heap.size,#[.string l,.string d,.string r])]) w3.drew W)=>(GJ.out W hW).at' 2 rfl)
  have ET:=Lib.hid (enters_of (P:=Tryz.prog) Tryz.func150 (by kernel_rfl) rfl)
  refine TI.wp_region_typed (I:=TI.Fam w3.drew [(w.heap.size,#[.string l,.string d,.string r])]) rfl (by kernel_rfl) (by kernel_rfl) ?_
  repeat (first|refine TI.tw_ldRow #[.string l,.string d,.string r] Tryz.underlying102 (by kernel_rfl) rfl rfl GJ.out (by first|exact TI.wd_none rfl|exact TI.wd_yes rfl rfl rfl) ?_|refine TI.tw_ldS rfl rfl GR.out (by first|exact TI.wd_none rfl|exact TI.wd_yes rfl rfl rfl) ?_|refine TI.tw_store 0 w.heap.size #[.string l,.string d,.string r] _ rfl (by simp) HRD.out rfl (by kernel_rfl) (by simp [Value.oneCell']) rfl rfl rfl (by first|exact TI.wd_none rfl|exact TI.wd_yes rfl rfl rfl) ?_|refine TI.tw_skip (TI.wd_no rfl rfl rfl) ?_|refine TI.tw_mv (.inl rfl) rfl (by first|exact TI.wd_none rfl|exact TI.wd_yes rfl rfl rfl) ?_|refine TI.tw_mv (.inr rfl) rfl (by first|exact TI.wd_none rfl|exact TI.wd_yes rfl rfl rfl) ?_|refine TI.tw_pickL rfl rfl rfl (by first|exact TI.wd_none rfl|exact TI.wd_yes rfl rfl rfl) ?_|refine TI.tw_op1 _ rfl rfl (by first|exact TI.wd_none rfl|exact TI.wd_yes rfl rfl rfl) (fun ρ W hW h1=>by simp only [execOp,h1];go_simp;first|done|rfl) ?_|refine TI.tw_op2 _ rfl rfl rfl (by first|exact TI.wd_none rfl|exact TI.wd_yes rfl rfl rfl) (fun ρ W hW h1 h2=>by simp only [execOp,h1,h2];go_simp;first|done|rfl) ?_)
  dsimp only [TI.wpT,List.reverse,List.reverseAux,TI.FinT]
  intro W5 hW5 hF
  obtain⟨-,-,hR5⟩:=hF
  simp only [Act.put,List.setIfInBounds_toArray,List.set_cons_zero,List.set_cons_succ]
  have X5:=Lib.hid (X3.out.drew.trans (TI.fam_below hW5 (Nat.le_of_lt hl3) (fun x hx=>by rw [List.mem_singleton.1 hx];exact Nat.le_refl _)))
  clear hW5 GJ GR
  go_wp2
  obtain⟨tt,hh⟩:=hR5
  exact bodyPost_ret (v:=.tuple #[.agg #[.string l,.string d,.string r],.bool false])
   (results_jid (fn:=Tryz.f176) (p:=2) (s:=3) (ty:=102) rfl _ _ w.heap.size _ _ _ _ rfl rfl hh Tryz.underlying102 (by kernel_rfl)) rfl ⟨ret_ending (by rw [HA.out];first|rfl|simp_all),X5.out⟩
 ·obtain⟨b1,hb1⟩:∃b1,(T.toList == s.toList)=b1:=⟨_,rfl⟩
  obtain⟨b2,hb2⟩:∃b2,(r.toList == (⟨#[]⟩:ByteArray).toList)=b2:=⟨_,rfl⟩
  have he2:isEmp r=b2:=by rw [←hb2,←el];cases hq:r.toList <;> simp_all
  rw [hb1,he2] at HA
  have hb1':=hb1
  cases b1 <;> cases b2
  all_goals
   clear el
   go_enter Tryz.func176,Tryz.ntmps176
   go_upto_region 1 with fail
   rw [←hW0]
   clear hW0
   go_wp2_with fail
   refine H1.out.mono ?_
   rintro e w1 ⟨rfl,hb1⟩
   have X1:=Lib.hid (HX0.out.trans (hb1.mono HX0.out.size))
   have R1:=Lib.hid (HR0.out.ext hb1)
   have hlw:=R1.out.lt
   clear hb1 HX0 HR0 H1
   obtain⟨W2,hW2⟩:∃W2,W2=w1.alloc (.cells #[.string l,.string d,.string r] 102):=⟨_,rfl⟩
   have hX2:Below w1.heap.size w1 W2:=by rw [hW2];exact(Below.refl _ _).alloc (Nat.le_refl _) _
   have J2:Hid (Row W2 w1.heap.size #[.string l,.string d,.string r]):=Lib.hid (by rw [hW2];exact Row.new w1 _ _)
   have X2:=Lib.hid (X1.out.trans (hX2.mono X1.out.size))
   have R2:=Lib.hid (R1.out.ext hX2)
   clear hX2 X1 R1
   go_upto_region 2 with fail
   rw [←hW2]
   clear hW2
   have X3:=X2
   have R3:=R2
   have J3:=J2
   obtain⟨w3,hw3⟩:∃w3,w3=W2:=⟨_,rfl⟩
   rw [←hw3] at X3 R3 J3 ⊢
   clear hw3 X2 R2 J2
   have hl3:=R3.out.lt
   have HRD:Hid (Row w3.drew w.heap.size #[.string ⟨#[]⟩,.string ⟨#[]⟩,.string ⟨#[]⟩]):=R3
   have HJD:Hid (Row w3.drew w1.heap.size #[.string l,.string d,.string r]):=J3
   have GJ:=Lib.hid (fun W (hW:TI.Ext (TI.Fam w3.drew [(w.heap.size,#[.string l,.string d,.string r])]) w3.drew W)=>TI.fam_row hW HJD.out (fun x hx=>by rw [List.mem_singleton.1 hx];show w1.heap.size≠w.heap.size;omega))
   have GR:=Lib.hid (fun W (hW:TI.Ext (TI.Fam w3.drew [(w.heap.size,#[.string l,.string d,.string r])]) w3.drew W)=>(GJ.out W hW).at' 2 rfl)
   have ET:=Lib.hid (enters_of (P:=Tryz.prog) Tryz.func150 (by kernel_rfl) rfl)
   refine TI.wp_region_typed (I:=TI.Fam w3.drew [(w.heap.size,#[.string l,.string d,.string r])]) rfl (by kernel_rfl) (by kernel_rfl) ?_
   repeat (first|refine TI.tw_ldRow #[.string l,.string d,.string r] Tryz.underlying102 (by kernel_rfl) rfl rfl GJ.out (by first|exact TI.wd_none rfl|exact TI.wd_yes rfl rfl rfl) ?_|refine TI.tw_ldS rfl rfl GR.out (by first|exact TI.wd_none rfl|exact TI.wd_yes rfl rfl rfl) ?_|refine TI.tw_store 0 w.heap.size #[.string l,.string d,.string r] _ rfl (by simp) HRD.out rfl (by kernel_rfl) (by simp [Value.oneCell']) rfl rfl rfl (by first|exact TI.wd_none rfl|exact TI.wd_yes rfl rfl rfl) ?_|refine TI.tw_eqS T s _ hb1 rfl rfl rfl (by first|exact TI.wd_none rfl|exact TI.wd_yes rfl rfl rfl) ?_|refine TI.tw_eqS r ⟨#[]⟩ _ hb2 rfl rfl rfl (by first|exact TI.wd_none rfl|exact TI.wd_yes rfl rfl rfl) ?_|refine TI.tw_fnB #[.agg #[.string l,.string d,.string r]] (.string T) (fun x hx=>by rw [List.mem_singleton.1 hx];exact hl3) rfl (fun W=>ET.out _ W) rfl (by first|exact TI.wd_none rfl|exact TI.wd_yes rfl rfl rfl) (fun W=>H2.out W) ?_|refine TI.tw_skip (TI.wd_no rfl rfl rfl) ?_|refine TI.tw_mv (.inl rfl) rfl (by first|exact TI.wd_none rfl|exact TI.wd_yes rfl rfl rfl) ?_|refine TI.tw_mv (.inr rfl) rfl (by first|exact TI.wd_none rfl|exact TI.wd_yes rfl rfl rfl) ?_|refine TI.tw_pickL rfl rfl rfl (by first|exact TI.wd_none rfl|exact TI.wd_yes rfl rfl rfl) ?_|refine TI.tw_op1 _ rfl rfl (by first|exact TI.wd_none rfl|exact TI.wd_yes rfl rfl rfl) (fun ρ W hW h1=>by simp only [execOp,h1];go_simp;first|done|rfl) ?_|refine TI.tw_op2 _ rfl rfl rfl (by first|exact TI.wd_none rfl|exact TI.wd_yes rfl rfl rfl) (fun ρ W hW h1 h2=>by simp only [execOp,h1,h2];go_simp;first|done|rfl) ?_)
   dsimp only [TI.wpT,List.reverse,List.reverseAux,TI.FinT]
   intro W5 hW5 hF
   obtain⟨-,-,hR5⟩:=hF
   simp only [Act.put,List.setIfInBounds_toArray,List.set_cons_zero,List.set_cons_succ]
   have X5:=Lib.hid (X3.out.drew.trans (TI.fam_below hW5 (Nat.le_of_lt hl3) (fun x hx=>by rw [List.mem_singleton.1 hx];exact Nat.le_refl _)))
   clear hW5 GJ GR
   go_wp2
   obtain⟨tt,hh⟩:=hR5
   exact bodyPost_ret (v:=.tuple #[.agg #[.string l,.string d,.string r],.bool _])
    (results_jid (fn:=Tryz.f176) (p:=2) (s:=3) (ty:=102) rfl _ _ w.heap.size _ _ _ _ rfl rfl hh Tryz.underlying102 (by kernel_rfl)) rfl ⟨ret_ending (by rw [HA.out];first|rfl|simp_all),X5.out⟩
end Go.Proofs.YtnmnpnofdgdigaaGreatDoor
end
section
namespace Go.Proofs.YtnmnpnofdgdigaaGreatDoor
open Go.RowKit
set_option linter.unusedSimpArgs false
set_option linter.unusedVariables false
set_option maxHeartbeats 2000000 in
set_option maxRecDepth 10000 in
theorem refless_any (a b:JidL) (w:World):Calls Tryz.prog 179 #[encJ a,encJ b] w fun e w'=>e=.returned (.bool (lessJ a b))∧Below w.heap.size w w':=by
 have HL:Box (lessJ a b=if eqS a.dom b.dom then(if eqS a.loc b.loc then lessB a.res b.res else lessB a.loc b.loc) else lessB a.dom b.dom):=⟨rfl⟩
 obtain⟨al,ad,ar⟩:=a
 obtain⟨bl,bd,br⟩:=b
 unfold encJ
 dsimp only at HL
 unfold eqS lessB at HL
 generalize lessJ _ _=q at *
 have HX:=Lib.hid (((Below.refl w.heap.size w).alloc (Nat.le_refl _) (.cells #[.string al,.string ad,.string ar] 102)).alloc (by simp) (.cells #[.string bl,.string bd,.string br] 102))
 cases c1:(ad.toList == bd.toList)
 ·go_enter Tryz.func179,Tryz.ntmps179
  go_wp2
  go_ret
  exact⟨ret_bool (by rw [HL.out,c1];rfl),HX.out⟩
 ·cases c2:(al.toList == bl.toList)
  ·go_enter Tryz.func179,Tryz.ntmps179
   go_wp2
   go_ret
   exact⟨ret_bool (by rw [HL.out,c1,c2];rfl),HX.out⟩
  ·go_enter Tryz.func179,Tryz.ntmps179
   go_wp2
   go_ret
   exact⟨ret_bool (by rw [HL.out,c1,c2];rfl),HX.out⟩
theorem two_vars (P:World→Prop) (w1:World) (l d r:ByteArray):∃W2,W2=w1.alloc (.cells #[.string l,.string d,.string r] 102)∧Below w1.heap.size w1 W2∧Row W2 w1.heap.size #[.string l,.string d,.string r]:=⟨_,rfl,(Below.refl _ _).alloc (Nat.le_refl _) _,Row.new w1 _ _⟩
set_option maxHeartbeats 4000000 in
set_option maxRecDepth 10000 in
theorem refrless_any (a b:ByteArray) (w:World) (ha:a.size≤1000000000) (hb:b.size≤1000000000):Calls Tryz.prog 126 #[.string a,.string b] w fun e w'=>e=.returned (.bool (lessJ (parsedJ a) (parsedJ b)))∧Below w.heap.size w w':=by
 have H1:=Lib.hid (refraddress_any a w ha)
 have H2:=Lib.hid (fun W=>refraddress_any b W hb)
 have H3:=Lib.hid (fun W=>refless_any (parsedJ a) (parsedJ b) W)
 unfold AdrPost at H1 H2
 generalize lessJ (parsedJ a) (parsedJ b)=q at *
 generalize contactI a=ca at *
 generalize contactI b=cb at *
 generalize parsedJ a=x at *
 generalize parsedJ b=y at *
 obtain⟨xl,xd,xr⟩:=x
 obtain⟨yl,yd,yr⟩:=y
 unfold encJ at *
 dsimp only at *
 go_enter Tryz.func126,Tryz.ntmps126
 go_wp2_with fail
 refine H1.out.mono ?_
 rintro e w1 ⟨rfl,hb1⟩
 have X1:=Lib.hid hb1
 obtain⟨W2,hW2,hX2,hR2⟩:=two_vars (fun _=>True) w1 xl xd xr
 have X2:=Lib.hid (X1.out.trans (hX2.mono X1.out.size))
 have R2:=Lib.hid hR2
 clear hb1 hX2 hR2
 go_upto_region 2 with fail
 rw [←hW2]
 clear hW2
 go_wp2_with fail
 refine(H2.out _).mono ?_
 rintro e w3 ⟨rfl,hb3⟩
 have X3:=Lib.hid (X2.out.trans (hb3.mono X2.out.size))
 have R3:=Lib.hid (R2.out.ext hb3)
 obtain⟨W4,hW4,hX4,hR4⟩:=two_vars (fun _=>True) w3 yl yd yr
 have X4:=Lib.hid (X3.out.trans (hX4.mono X3.out.size))
 have R4:=Lib.hid (R3.out.ext hX4)
 have S4:=Lib.hid hR4
 clear hb3 hX4 hR4 X2 R2 X3 R3
 go_upto_region 3 with fail
 rw [←hW4]
 clear hW4
 have a0:W4.cell? ⟨w1.heap.size,0,none⟩=some _:=R4.out.at' 0 rfl
 have a1:W4.cell? ⟨w1.heap.size,1,none⟩=some _:=R4.out.at' 1 rfl
 have a2:W4.cell? ⟨w1.heap.size,2,none⟩=some _:=R4.out.at' 2 rfl
 have b0:W4.cell? ⟨w3.heap.size,0,none⟩=some _:=S4.out.at' 0 rfl
 have b1:W4.cell? ⟨w3.heap.size,1,none⟩=some _:=S4.out.at' 1 rfl
 have b2:W4.cell? ⟨w3.heap.size,2,none⟩=some _:=S4.out.at' 2 rfl
 go_wp2_with fail
 refine(H3.out _).mono ?_
 rintro e w5 ⟨rfl,hb5⟩
 have X5:=Lib.hid (X4.out.trans (hb5.mono X4.out.size))
 clear hb5 a0 a1 a2 b0 b1 b2
 go_wp2
 go_ret
 exact⟨rfl,X5.out⟩
def ordS (a b:ByteArray):Int:=if lessJ (parsedJ a) (parsedJ b) then -1 else if lessJ (parsedJ b) (parsedJ a) then 1 else 0
theorem ordS_ge (a b:ByteArray):decide (0≤ordS a b)=!lessJ (parsedJ a) (parsedJ b):=by
 unfold ordS
 split
 ·rename_i h;rw [h];decide
 ·rename_i h
  simp only [Bool.not_eq_true] at h
  rw [h]
  split <;> decide
set_option maxHeartbeats 8000000 in
set_option maxRecDepth 10000 in
theorem order_any (a b:ByteArray) (w:World) (ha:a.size≤1000000000) (hb:b.size≤1000000000) (hg:Glb w):Calls Tryz.prog 123 #[.string a,.string b] w fun e w'=>e=.returned (.int .i64 (ordS a b))∧Below w.heap.size w w':=by
 have HO:Box (ordS a b=if lessJ (parsedJ a) (parsedJ b) then -1 else if lessJ (parsedJ b) (parsedJ a) then 1 else 0):=⟨rfl⟩
 have H1:=Lib.hid (raddress_any a w ha hg)
 have H2:=Lib.hid (fun W (hW:Glb W)=>raddress_any b W hb hW)
 have H3:=Lib.hid (fun W=>less_any (parsedJ a) (parsedJ b) W)
 have H4:=Lib.hid (fun W=>less_any (parsedJ b) (parsedJ a) W)
 have HG:=Lib.hid hg
 unfold AdrPost at H1 H2
 clear hg
 generalize ordS a b=oo at *
 generalize lessJ (parsedJ a) (parsedJ b)=q at *
 generalize lessJ (parsedJ b) (parsedJ a)=q2 at *
 generalize contactI a=ca at *
 generalize contactI b=cb at *
 generalize parsedJ a=x at *
 generalize parsedJ b=y at *
 obtain⟨xl,xd,xr⟩:=x
 obtain⟨yl,yd,yr⟩:=y
 unfold encJ at *
 dsimp only at *
 cases q <;> cases q2
 all_goals
  have ho:=HO.out
  simp only [Bool.false_eq_true,if_false,if_true] at ho
  subst ho
  clear HO
  go_enter Tryz.func123,Tryz.ntmps123
  go_wp2_with fail
  refine H1.out.mono ?_
  rintro e w1 ⟨rfl,hb1⟩
  have X1:=Lib.hid hb1
  obtain⟨W2,hW2,hX2,hR2⟩:=two_vars (fun _=>True) w1 xl xd xr
  have X2:=Lib.hid (X1.out.trans (hX2.mono X1.out.size))
  have R2:=Lib.hid hR2
  clear hb1 hX2 hR2
  go_upto_region 2 with fail
  rw [←hW2]
  clear hW2
  go_wp2_with fail
  refine(H2.out _ (HG.out.below X2.out)).mono ?_
  rintro e w3 ⟨rfl,hb3⟩
  have X3:=Lib.hid (X2.out.trans (hb3.mono X2.out.size))
  have R3:=Lib.hid (R2.out.ext hb3)
  obtain⟨W4,hW4,hX4,hR4⟩:=two_vars (fun _=>True) w3 yl yd yr
  have X4:=Lib.hid (X3.out.trans (hX4.mono X3.out.size))
  have R4:=Lib.hid (R3.out.ext hX4)
  have S4:=Lib.hid hR4
  clear hb3 hX4 hR4 X2 R2 X3 R3
  go_upto_region 3 with fail
  rw [←hW4]
  clear hW4
  have a0:W4.cell? ⟨w1.heap.size,0,none⟩=some _:=R4.out.at' 0 rfl
  have a1:W4.cell? ⟨w1.heap.size,1,none⟩=some _:=R4.out.at' 1 rfl
  have a2:W4.cell? ⟨w1.heap.size,2,none⟩=some _:=R4.out.at' 2 rfl
  have b0:W4.cell? ⟨w3.heap.size,0,none⟩=some _:=S4.out.at' 0 rfl
  have b1:W4.cell? ⟨w3.heap.size,1,none⟩=some _:=S4.out.at' 1 rfl
  have b2:W4.cell? ⟨w3.heap.size,2,none⟩=some _:=S4.out.at' 2 rfl
  go_wp2_with fail
  refine(H3.out _).mono ?_
  rintro e w5 ⟨rfl,hb5⟩
  have X5:=Lib.hid (X4.out.trans (hb5.mono X4.out.size))
  have R5:=Lib.hid (R4.out.ext hb5)
  have S5:=Lib.hid (S4.out.ext hb5)
  clear hb5 a0 a1 a2 b0 b1 b2
  have a0:w5.cell? ⟨w1.heap.size,0,none⟩=some _:=R5.out.at' 0 rfl
  have a1:w5.cell? ⟨w1.heap.size,1,none⟩=some _:=R5.out.at' 1 rfl
  have a2:w5.cell? ⟨w1.heap.size,2,none⟩=some _:=R5.out.at' 2 rfl
  have b0:w5.cell? ⟨w3.heap.size,0,none⟩=some _:=S5.out.at' 0 rfl
  have b1:w5.cell? ⟨w3.heap.size,1,none⟩=some _:=S5.out.at' 1 rfl
  have b2:w5.cell? ⟨w3.heap.size,2,none⟩=some _:=S5.out.at' 2 rfl
  first
   | (go_wp2;go_ret;exact⟨rfl,X5.out⟩)
   | skip
 all_goals
  go_wp2_with fail
  refine(H4.out _).mono ?_
  rintro e w6 ⟨rfl,hb6⟩
  have X6:=Lib.hid (X5.out.trans (hb6.mono X5.out.size))
  clear hb6 a0 a1 a2 b0 b1 b2
  go_wp2
  go_ret
  exact⟨rfl,X6.out⟩
end Go.Proofs.YtnmnpnofdgdigaaGreatDoor
end
section
namespace Go.Proofs.YtnmnpnofdgdigaaGreatDoor
open Go.RowKit
set_option linter.unusedSimpArgs false
set_option linter.unusedVariables false
theorem size_strs (W:World):(sizeOf (Tryz.prog.elem 50)).run Tryz.prog W=.ok 1 W:=by kernel_rfl
theorem front_strs (A:Option Addr) (m c K:Nat) (hK:K≤m) (hc:m≤c):∃A',(∀W,(Instr.slice 50 (.slice A m c) none (some (.int .i64 (K:Int))) none).run Tryz.prog W=.ok (.slice A' K c) W)∧
  ∀W (l:List ByteArray),l.length=m→RdS W A l→RdS W A' (l.take K):=by
 refine⟨if c=0 then A else A.map (·.add (0*1)),fun W=>?_,fun W l hl h=>?_⟩
 ·rw [run_slice_h W 50 A m c (by kernel_rfl) .i64 K (by omega) (by omega),size_strs]
  rfl
 ·intro h0
  rw [List.length_take] at h0
  obtain⟨b,off,rfl,hb,hcell⟩:=h (by omega)
  rw [if_neg (by omega)]
  refine⟨b,off,by simp [Addr.add],hb,fun i a hi=>hcell i a ?_⟩
  rw [List.getElem?_take] at hi
  split at hi
  ·exact hi
  ·cases hi
theorem within_any' (s:ByteArray) (lo hi:Nat) (a b:Int) (ha:(lo:Int)=a) (hb:(hi:Int)=b) (w:World) (hs:s.size≤1000000000) (hh:hi≤1000):Calls Tryz.prog 202 #[.string s,.int .i64 a,.int .i64 b] w fun e w'=>e=.returned (.bool (withinI s lo hi))∧Below w.heap.size w w':=by
 have HW:Box (withinI s lo hi=(decide (lo≤s.size) && decide (s.size≤hi) && decide (textErr s=0))):=⟨rfl⟩
 have H1:=Lib.hid (check5_any s w hs)
 have HA:=Lib.hid ha
 have HB:=Lib.hid hb
 generalize withinI s lo hi=q at *
 generalize textErr s=t at *
 by_cases h1:lo≤s.size
 ·by_cases h2:s.size≤hi
  ·have h1i:a≤(s.size:Int):=by omega
   have h2i:(s.size:Int)≤b:=by omega
   have HW2:Box (q=decide (t=0)):=⟨by rw [HW.out,decide_eq_true h1,decide_eq_true h2];rfl⟩
   clear HW
   by_cases h3:t=0
   ·subst h3
    clear ha hb
    go_enter Tryz.func202,Tryz.ntmps202
    go_wp2_with fail
    refine H1.out.mono ?_
    rintro e w1 ⟨rfl,hb1⟩
    have X1:=Lib.hid hb1
    clear hb1
    go_wp2
    go_ret
    exact⟨ret_bool (by rw [HW2.out];rfl),X1.out⟩
   ·have h3i:(t == 0)=false:=by simpa using h3
    have HW3:Box (q=false):=⟨by rw [HW2.out,decide_eq_false h3]⟩
    clear HW2 h3
    clear ha hb
    go_enter Tryz.func202,Tryz.ntmps202
    go_wp2_with fail
    refine H1.out.mono ?_
    rintro e w1 ⟨rfl,hb1⟩
    have X1:=Lib.hid hb1
    clear hb1
    go_wp2
    go_ret
    exact⟨ret_bool (by rw [HW3.out]),X1.out⟩
  ·have h1i:a≤(s.size:Int):=by omega
   have h2i:¬(s.size:Int)≤b:=by omega
   have HW3:Box (q=false):=⟨by rw [HW.out,decide_eq_false h2,Bool.and_false];rfl⟩
   clear HW
   clear ha hb
   go_enter Tryz.func202,Tryz.ntmps202
   go_wp2
   go_ret
   exact⟨ret_bool (by rw [HW3.out]),Below.refl _ _⟩
 ·have h1i:¬a≤(s.size:Int):=by omega
  have HW3:Box (q=false):=⟨by rw [HW.out,decide_eq_false h1];rfl⟩
  clear HW
  clear ha hb
  go_enter Tryz.func202,Tryz.ntmps202
  go_wp2
  go_ret
  exact⟨ret_bool (by rw [HW3.out]),Below.refl _ _⟩
theorem any_hasS (l:List ByteArray) (g:ByteArray):l.any (eqS g)=hasS l g:=by rw [has_eq];rfl
set_option maxHeartbeats 8000000 in
set_option maxRecDepth 10000 in
theorem rwords_any (name:ByteArray) (A:Option Addr) (c:Nat) (l:List ByteArray) (w:World) (hr:RdS w A l) (hc:l.length≤c) (hn:l.length≤1000) (hz:∀g∈l,g.size≤1000000000) (hnz:name.size≤1000000000) :
  Calls Tryz.prog 172 #[.string name,.slice A l.length c] w fun e w'=>e=.returned (.bool (wordsR name l))∧Below w.heap.size w w':=by
 have HR:=Lib.hid hr
 have HZ:=Lib.hid hz
 have HI:Box (wordsR name l=(groupsT l l.length && (withinI name 0 64 && decide (l.length≤4)))):=⟨rfl⟩
 have HN:=Lib.hid (fun W=>within_any' name 0 64 0 64 rfl rfl W hnz (by decide))
 clear hr hz
 generalize wordsR name l=ri at *
 generalize withinI name 0 64=wn at *
 go_enter Tryz.func172,Tryz.ntmps172
 go_wp2
 go_loopw [5,6,9] (fun _ _ s9 wr=>∃k:Nat,k≤l.length∧s9=.int .i64 k∧Hid (Below w.heap.size w wr)∧Hid (groupsT l k=true)) (fun _ _ s9 _=>l.length - (intOf s9).toNat)
 case atStart=>exact⟨0,Nat.zero_le _,rfl,Lib.hid (Below.refl _ _),rfl⟩
 case round=>
  obtain⟨k,hk,rfl,HB,HT⟩:=hrel
  by_cases hlt:k < l.length
  ·obtain⟨g,hg⟩:∃g,l[k]? = some g:=⟨_,List.getElem?_eq_getElem hlt⟩
   obtain⟨b,off,rfl,hb,hcc⟩:=HR.out (by omega)
   have c0:=(HB.out.cell (p:=⟨b,off+k,none⟩) hb).trans (hcc k g hg)
   obtain⟨A',hA',hAr⟩:=front_strs (some ⟨b,off,none⟩) l.length c k hk hc
   have hlk:(l.take k).length=k:=by rw [List.length_take];omega
   have H1:=Lib.hid (fun W=>within_any' g 1 32 1 32 rfl rfl W (HZ.out g (List.mem_of_getElem? hg)) (by decide))
   have HAR:=Lib.hid (hAr w l rfl HR.out)
   have HS:Box (groupsT l (k+1)=(withinI g 1 32 && !hasS (l.take k) g)):=⟨by rw [groupsT_succ l k g hg,HT.out,Bool.true_and];unfold groupOK;rw [any_hasS]⟩
   have HNO:=Lib.hid (groupsT_no l (k+1) l.length hlt)
   clear hcc hAr hg
   generalize withinI g 1 32=wi at *
   cases wi
   ·go_wp2_with fail
    refine(H1.out _).mono ?_
    rintro e w1 ⟨rfl,hb1⟩
    have X1:=Lib.hid (HB.out.trans (hb1.mono HB.out.size))
    clear hb1
    go_wp2
    go_ret
    exact⟨ret_bool (by rw [HI.out,HNO.out (by rw [HS.out];rfl)];rfl),X1.out⟩
   ·go_wp2_with fail
    refine(H1.out _).mono ?_
    rintro e w1 ⟨rfl,hb1⟩
    have X1:=Lib.hid (HB.out.trans (hb1.mono HB.out.size))
    have hcall:=contains_any A' c (l.take k) g w1 (RdS.ext HAR.out X1.out) (by omega)
    rw [hlk] at hcall
    have HC:=Lib.hid hcall
    clear hcall hlk hb1
    generalize hasS (l.take k) g=hs at *
    cases hs
    ·go_wp2_with fail
     refine HC.out.mono ?_
     rintro e w2 ⟨rfl,rfl⟩
     go_wp2
     go_roundw
     case rel=>exact⟨k+1,by omega,by go_num,X1,Lib.hid (by rw [HS.out];rfl)⟩
     case measure=>simp [intOf];omega
    ·go_wp2_with fail
     refine HC.out.mono ?_
     rintro e w2 ⟨rfl,rfl⟩
     go_wp2
     go_ret
     exact⟨ret_bool (by rw [HI.out,HNO.out (by rw [HS.out];rfl)];rfl),X1.out⟩
  ·obtain rfl:k=l.length:=by omega
   have HIw:Box (ri=(wn && decide (l.length≤4))):=⟨by rw [HI.out,HT.out,Bool.true_and]⟩
   by_cases h4:l.length≤4
   ·have h4i:((l.length:Int)≤4):=by omega
    cases wn
    all_goals
     go_wp2_with fail
     refine(HN.out _).mono ?_
     rintro e w1 ⟨rfl,hb1⟩
     have X1:=Lib.hid (HB.out.trans (hb1.mono HB.out.size))
     clear hb1
     go_wp2
     go_ret
     exact⟨ret_bool (by rw [HIw.out,decide_eq_true h4];first|rfl|(rw [decide_eq_true (by omega)];rfl)),X1.out⟩
   ·have h4i:¬((l.length:Int)≤4):=by omega
    cases wn
    all_goals
     go_wp2_with fail
     refine(HN.out _).mono ?_
     rintro e w1 ⟨rfl,hb1⟩
     have X1:=Lib.hid (HB.out.trans (hb1.mono HB.out.size))
     clear hb1
     go_wp2
     go_ret
     exact⟨ret_bool (by rw [HIw.out,decide_eq_false h4];first|rfl|(rw [decide_eq_false (by omega)];rfl)),X1.out⟩
theorem within_text {s:ByteArray} {lo hi:Nat} (hh:hi≤1000):withinI s lo hi=(decide (lo≤s.size) && decide (s.size≤hi) && textOK s):=by
 unfold withinI textErr
 by_cases h:s.size≤hi
 ·rw [if_neg (by omega)]
  cases textOK s <;> simp
 ·simp [h]
set_option maxHeartbeats 8000000 in
set_option maxRecDepth 10000 in
theorem refrwords_any (name:ByteArray) (A:Option Addr) (c:Nat) (l:List ByteArray) (w:World) (hr:RdS w A l) (hc:l.length≤c) (hn:l.length≤1000) (hz:∀g∈l,g.size≤1000000000) (hnz:name.size≤1000000000) :
  Calls Tryz.prog 177 #[.string name,.slice A l.length c] w fun e w'=>e=.returned (.bool (wordsR name l))∧Below w.heap.size w w':=by
 have HR:=Lib.hid hr
 have HZ:=Lib.hid hz
 have HI:Box (wordsR name l=(groupsT l l.length && (decide (name.size≤64) && textOK name && decide (l.length≤4)))):=⟨by unfold wordsR;rw [within_text (by decide),decide_eq_true (Nat.zero_le _),Bool.true_and]⟩
 have HN:=Lib.hid (fun W=>refis5_any name W hnz)
 clear hr hz
 generalize wordsR name l=ri at *
 generalize textOK name=tn at *
 go_enter Tryz.func177,Tryz.ntmps177
 go_wp2
 go_loopw [5,6] (fun s5 _ wr=>∃k:Nat,k≤l.length∧s5=.int .i64 k∧Hid (Below w.heap.size w wr)∧Hid (groupsT l k=true)) (fun s5 _ _=>l.length - (intOf s5).toNat)
 case atStart=>exact⟨0,Nat.zero_le _,rfl,Lib.hid (Below.refl _ _),rfl⟩
 case round=>
  obtain⟨k,hk,rfl,HB,HT⟩:=hrel
  by_cases hlt:k < l.length
  ·obtain⟨g,hg⟩:∃g,l[k]? = some g:=⟨_,List.getElem?_eq_getElem hlt⟩
   have hgz:=HZ.out g (List.mem_of_getElem? hg)
   obtain⟨b,off,rfl,hb,hcc⟩:=HR.out (by omega)
   have HCC:=Lib.hid (fun i (s:ByteArray) (hi:l[i]? = some s) W (hW:Below w.heap.size w W)=>(hW.cell (p:=⟨b,off+i,none⟩) hb).trans (hcc i s hi))
   have c0:=HCC.out k g hg wr HB.out
   have H1:=Lib.hid (fun W=>refis5_any g W hgz)
   have HS:Box (groupsT l (k+1)=((decide (1≤g.size) && decide (g.size≤32) && textOK g) && !(l.take k).any (eqS g))):=⟨by rw [groupsT_succ l k g hg,HT.out,Bool.true_and];unfold groupOK;rw [within_text (by decide)]⟩
   have HNO:=Lib.hid (groupsT_no l (k+1) l.length hlt)
   have HGK:=Lib.hid hg
   clear hcc hg
   generalize textOK g=tg at *
   by_cases h1:1≤g.size
   ·by_cases h2:g.size≤32
    ·rw [decide_eq_true h1,decide_eq_true h2] at HS
     cases tg
     ·go_wp2_with fail
      refine(H1.out _).mono ?_
      rintro e w1 ⟨rfl,hb1⟩
      have X1:=Lib.hid (HB.out.trans (hb1.mono HB.out.size))
      clear hb1
      go_wp2
      go_ret
      exact⟨ret_bool (by rw [HI.out,HNO.out (by rw [HS.out];rfl)];rfl),X1.out⟩
     ·go_wp2_with fail
      refine(H1.out _).mono ?_
      rintro e w1 ⟨rfl,hb1⟩
      have X1:=Lib.hid (HB.out.trans (hb1.mono HB.out.size))
      clear hb1 c0
      go_wp2
      obtain⟨wo,rfl⟩:∃wo:World,wo=wr:=⟨_,rfl⟩
      go_loopw [6] (fun s6 wr=>∃j:Nat,j≤k∧s6=.int .i64 j∧Hid (Below w.heap.size w wr)∧Hid ((l.take j).any (eqS g)=false)) (fun s6 _=>k - (intOf s6).toNat)
      case atStart=>exact⟨0,Nat.zero_le _,rfl,X1,Lib.hid rfl⟩
      case round=>
       obtain⟨j,hj,rfl,HB2,HA⟩:=hrel
       by_cases hjt:j < k
       ·obtain⟨x,hx⟩:∃x,l[j]? = some x:=⟨_,List.getElem?_eq_getElem (by omega)⟩
        have hjl:j < l.length:=by omega
        have HTK:Hid ((l.take (j+1)).any (eqS g)=eqS g x):=Lib.hid (by rw [List.take_add_one,hx,List.any_append,HA.out];simp)
        have HMO:Hid ((l.take (j+1)).any (eqS g)=true→(l.take k).any (eqS g)=true):=Lib.hid (fun h=>by
         rw [List.any_eq_true] at h ⊢
         obtain⟨y,hy,hq⟩:=h
         exact⟨y,(List.take_prefix_take_left (by omega)).subset hy,hq⟩)
        have G1:=Lib.hid (fun W (hW:Ext wr.drew W)=>HCC.out j x hx W (HB2.out.trans ((ext_below hW).mono HB2.out.size)))
        have G2:=Lib.hid (fun W (hW:Ext wr.drew W)=>HCC.out k g HGK.out W (HB2.out.trans ((ext_below hW).mono HB2.out.size)))
        obtain⟨q,hq⟩:∃q,(x.toList == g.toList)=q:=⟨_,rfl⟩
        have HQ:Hid (eqS g x=q):=Lib.hid (by rw [←hq];unfold eqS;rw [Bool.eq_iff_iff,beq_iff_eq,beq_iff_eq];exact eq_comm)
        clear hx
        go_wp2_with fail
        refine wp_region_typed rfl (by kernel_rfl) (by kernel_rfl) ?_
        repeat (first|refine tw_ixS hjl rfl rfl rfl (wdA rfl) ?_|refine tw_ixS hlt rfl rfl rfl (wdA rfl) ?_|refine tw_ldS rfl rfl G1.out (wdA rfl) ?_|refine tw_ldS rfl rfl G2.out (wdA rfl) ?_|refine tw_eqS x g q hq rfl rfl rfl (wdA rfl) ?_|refine tw_skip (wd_no rfl rfl rfl) ?_|refine tw_mv (.inl rfl) rfl (wdA rfl) ?_|refine tw_mv (.inr rfl) rfl (wdA rfl) ?_|refine tw_pickL rfl rfl rfl (wdA rfl) ?_|refine tw_op1 _ rfl rfl (wdA rfl) (fun ρ W hW h1=>by simp only [execOp,h1];go_simp;first|done|rfl) ?_|refine tw_op2 _ rfl rfl rfl (wdA rfl) (fun ρ W hW h1 h2=>by simp only [execOp,h1,h2];go_simp;first|done|rfl) ?_)
        dsimp only [wpT,List.reverse,List.reverseAux,FinT]
        intro W7 hW7 _
        simp only [Act.put,List.setIfInBounds_toArray,List.set_cons_zero,List.set_cons_succ]
        have HB7:=Lib.hid (HB2.out.trans ((ext_below hW7).mono HB2.out.size))
        clear hW7 G1 G2
        cases q
        ·go_wp2
         go_roundw
         case rel=>exact⟨j+1,by omega,by go_num,HB7,Lib.hid (by rw [HTK.out,HQ.out])⟩
         case measure=>simp [intOf];omega
        ·go_wp2
         go_ret
         exact⟨ret_bool (by rw [HI.out,HNO.out (by rw [HS.out,HMO.out (by rw [HTK.out,HQ.out])];rfl)];rfl),HB7.out⟩
       ·obtain rfl:j=k:=by omega
        go_wp2
        go_roundw
        case rel=>exact⟨j+1,by omega,by go_num,HB2,Lib.hid (by rw [HS.out,HA.out];rfl)⟩
        case measure=>simp [intOf];omega
    ·have h2i:¬((g.size:Int)≤32):=by omega
     rw [decide_eq_false h2] at HS
     go_wp2
     go_ret
     exact⟨ret_bool (by rw [HI.out,HNO.out (by rw [HS.out,Bool.and_false];rfl)];rfl),HB.out⟩
   ·have h1i:((g.size:Int) < 1):=by omega
    rw [decide_eq_false h1] at HS
    go_wp2
    go_ret
    exact⟨ret_bool (by rw [HI.out,HNO.out (by rw [HS.out];rfl)];rfl),HB.out⟩
  ·obtain rfl:k=l.length:=by omega
   have HIw:Box (ri=(decide (name.size≤64) && tn && decide (l.length≤4))):=⟨by rw [HI.out,HT.out,Bool.true_and]⟩
   by_cases h6:name.size≤64
   ·have h6i:((name.size:Int)≤64):=by omega
    by_cases h4:l.length≤4
    ·have h4i:((l.length:Int)≤4):=by omega
     cases tn
     all_goals
      go_wp2_with fail
      refine(HN.out _).mono ?_
      rintro e w1 ⟨rfl,hb1⟩
      have X1:=Lib.hid (HB.out.trans (hb1.mono HB.out.size))
      clear hb1
      go_wp2
      go_ret
      exact⟨ret_bool (by rw [HIw.out,decide_eq_true h4,decide_eq_true h6];first|rfl|(rw [decide_eq_true (by omega)];rfl)),X1.out⟩
    ·have h4i:¬((l.length:Int)≤4):=by omega
     cases tn
     all_goals
      go_wp2_with fail
      refine(HN.out _).mono ?_
      rintro e w1 ⟨rfl,hb1⟩
      have X1:=Lib.hid (HB.out.trans (hb1.mono HB.out.size))
      clear hb1
      go_wp2
      go_ret
      exact⟨ret_bool (by rw [HIw.out,decide_eq_false h4,decide_eq_true h6];first|rfl|(rw [decide_eq_false (by omega)];rfl)),X1.out⟩
   ·have h6i:¬((name.size:Int)≤64):=by omega
    go_wp2
    go_ret
    exact⟨ret_bool (by rw [HIw.out,decide_eq_false h6];first|rfl|(rw [decide_eq_false (by omega)];rfl)),HB.out⟩
end Go.Proofs.YtnmnpnofdgdigaaGreatDoor
end
