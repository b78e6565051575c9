/- Part 39 of a proof laid in parts, one behind the other; no condition of its own. -/
import Derived.Test.YtnmnpnofdgdigaaGreatDoorZ38
import Derived.Test.YtnmnpnofdgdigaaGreatDoorZ31
import Derived.Test.YtnmnpnofdgdigaaGreatDoorZ37
import Derived.Test.YtnmnpnofdgdigaaGreatDoorZ28
import Derived.Test.YtnmnpnofdgdigaaGreatDoorZ24
set_option linter.all false
section
namespace Go.Proofs.YtnmnpnofdgdigaaGreatDoor
open Go.RowKit
set_option linter.unusedSimpArgs false
set_option linter.unusedVariables false
section
variable {ops:Array Oper} {w0:World} {Fin:List Ty→Prop} {rest:List Oper} {E:Env} {Ts:List Ty} {o:Oper}
theorem tw_nbU {x y:Operand} {i j:Int} (b:Bool) (hb:(i == j)=b) (hop:o.op=.binOp .neq 5 x y 5) (hx:evalE E x=some (.int .u8 i)) (hy:evalE E y=some (.int .u8 j)) (hw:Wd ops o E true)
  (hr:wpT Tryz.prog ops w0 Fin rest (E.put o.dst (.inl (.bool (!b)))) (.inl (.bool (!b)) :: Ts)):wpT Tryz.prog ops w0 Fin (o :: rest) E Ts:=
 tw_pure _ hw (fun a W hW hs=>by
  have h1:a.eval x=_:=evalE_of hx (by rw [hop];simp [Op.operands]) hs
  have h2:a.eval y=_:=evalE_of hy (by rw [hop];simp [Op.operands]) hs
  clear hs hr
  generalize a.eval=ρ at *
  subst hb
  unfold execOp
  simp only [hop,h1,h2]
  go_simp
  first|done|rfl|(simp [bne];done)) hr
theorem tw_nbI {x y:Operand} {i j:Int} (b:Bool) (hb:(i == j)=b) (hop:o.op=.binOp .neq 3 x y 3) (hx:evalE E x=some (.int .i64 i)) (hy:evalE E y=some (.int .i64 j)) (hw:Wd ops o E true)
  (hr:wpT Tryz.prog ops w0 Fin rest (E.put o.dst (.inl (.bool (!b)))) (.inl (.bool (!b)) :: Ts)):wpT Tryz.prog ops w0 Fin (o :: rest) E Ts:=
 tw_pure _ hw (fun a W hW hs=>by
  have h1:a.eval x=_:=evalE_of hx (by rw [hop];simp [Op.operands]) hs
  have h2:a.eval y=_:=evalE_of hy (by rw [hop];simp [Op.operands]) hs
  clear hs hr
  generalize a.eval=ρ at *
  subst hb
  unfold execOp
  simp only [hop,h1,h2]
  go_simp
  first|done|rfl|(simp [bne];done)) hr
theorem tw_nbS {x y:Operand} {i j:ByteArray} (b:Bool) (hb:(i.toList == j.toList)=b) (hop:o.op=.binOp .neq 9 x y 9) (hx:evalE E x=some (.string i)) (hy:evalE E y=some (.string j)) (hw:Wd ops o E true)
  (hr:wpT Tryz.prog ops w0 Fin rest (E.put o.dst (.inl (.bool (!b)))) (.inl (.bool (!b)) :: Ts)):wpT Tryz.prog ops w0 Fin (o :: rest) E Ts:=
 tw_pure _ hw (fun a W hW hs=>by
  have h1:a.eval x=_:=evalE_of hx (by rw [hop];simp [Op.operands]) hs
  have h2:a.eval y=_:=evalE_of hy (by rw [hop];simp [Op.operands]) hs
  clear hs hr
  generalize a.eval=ρ at *
  subst hb
  unfold execOp
  simp only [hop,h1,h2]
  go_simp
  first|done|rfl|(simp [bne];done)) hr
theorem tw_nbA {x y:Operand} {p q:AttrL} (b:Bool) (hb:sameA p q=b) (hop:o.op=.binOp .neq 75 x y 75) (hx:evalE E x=some (encA p)) (hy:evalE E y=some (encA q)) (hw:Wd ops o E true)
  (hr:wpT Tryz.prog ops w0 Fin rest (E.put o.dst (.inl (.bool (!b)))) (.inl (.bool (!b)) :: Ts)):wpT Tryz.prog ops w0 Fin (o :: rest) E Ts:=
 tw_pure _ hw (fun a W hW hs=>by
  have h1:a.eval x=_:=evalE_of hx (by rw [hop];simp [Op.operands]) hs
  have h2:a.eval y=_:=evalE_of hy (by rw [hop];simp [Op.operands]) hs
  clear hs hr
  generalize a.eval=ρ at *
  unfold encA at h1 h2
  unfold sameA at hb
  subst hb
  unfold execOp
  simp only [hop,h1,h2]
  by_cases e1:p.space.toList=q.space.toList <;> by_cases e2:p.name.toList=q.name.toList <;> by_cases e3:p.value.toList=q.value.toList
  all_goals
   go_simp
   first|done|(simp [*];done)) hr
end
set_option maxHeartbeats 8000000 in
set_option maxRecDepth 10000 in
theorem refsameattrs_any (l m:List AttrL) (A1 A2:Option Addr) (c1 c2:Nat) (w:World) (h1:RdA w w.heap.size A1 l) (h2:RdA w w.heap.size A2 m) (hn:l.length≤1000000000) (hm:m.length≤1000000000) :
  Calls Tryz.prog 37 #[.slice A1 l.length c1,.slice A2 m.length c2] w fun e w'=>e=.returned (.bool (sameL sameA l m))∧Below w.heap.size w w':=by
 have H1:=Lib.hid h1
 have H2:=Lib.hid h2
 have HSN:=Lib.hid (fun h=>sameL_no (p:=sameA) (l:=l) (m:=m) h)
 have HSA:=Lib.hid (fun i x y h1 h2 h3=>sameL_at (p:=sameA) (l:=l) (m:=m) (i:=i) (x:=x) (y:=y) h1 h2 h3)
 have HSY:=Lib.hid (fun h1 h2=>sameL_yes (p:=sameA) (l:=l) (m:=m) h1 h2)
 clear h1 h2
 generalize sameL sameA l m=r at *
 by_cases hlm:l.length=m.length
 ·have hlm':((l.length:Int) != (m.length:Int))=false:=by simp [hlm]
  have HLM:=Lib.hid hlm
  clear hlm
  go_enter Tryz.func37,Tryz.ntmps37
  go_wp2
  clear hlm'
  go_loopw [5] (fun s5 wr=>∃k:Nat,k≤l.length∧s5=.int .i64 k∧Hid (Below w.heap.size w wr)∧Hid (∀(j:Nat) (x y:AttrL),j < k→l[j]? = some x→m[j]? = some y→sameA x y=true)) (fun s5 _=>l.length - (intOf s5).toNat)
  case atStart=>exact⟨0,Nat.zero_le _,rfl,Lib.hid (Below.refl _ _),Lib.hid (fun j x y hj=>absurd hj (by omega))⟩
  case round=>
   obtain⟨k,hk,rfl,HB,HN⟩:=hrel
   by_cases hlt:k < l.length
   ·have hlt2:k < m.length:=by have:=HLM.out;omega
    obtain⟨a,ha⟩:∃a,l[k]? = some a:=⟨_,List.getElem?_eq_getElem hlt⟩
    obtain⟨b,hb⟩:∃b,m[k]? = some b:=⟨_,List.getElem?_eq_getElem hlt2⟩
    have HXA:=Lib.hid ha
    have HXB:=Lib.hid hb
    obtain⟨b1,o1,rfl,hb1,hc1⟩:=H1.out (by omega)
    obtain⟨b2,o2,rfl,hb2,hc2⟩:=H2.out (by omega)
    have G1:=Lib.hid (fun W (hW:Ext wr.drew W)=>(show AtAt W b1 (o1+k*3) a from(hc1 k a ha).keep hb1 (fun p hp=>(HB.out.trans ((ext_below hW).mono HB.out.size)).cell hp)))
    have G2:=Lib.hid (fun W (hW:Ext wr.drew W)=>(show AtAt W b2 (o2+k*3) b from(hc2 k b hb).keep hb2 (fun p hp=>(HB.out.trans ((ext_below hW).mono HB.out.size)).cell hp)))
    clear hc1 hc2 ha hb
    cases hq:sameA a b
    all_goals
     have HQ:=Lib.hid hq
     clear hq
     go_wp2
     refine wp_region_typed rfl (by kernel_rfl) (by kernel_rfl) ?_
     repeat (first|refine tw_ixA hlt hn rfl rfl rfl (wdA rfl) ?_|refine tw_ixA hlt2 hm rfl rfl rfl (wdA rfl) ?_|refine tw_ldAt rfl rfl G1.out (wdA rfl) ?_|refine tw_ldAt rfl rfl G2.out (wdA rfl) ?_|refine tw_nbA _ HQ.out rfl rfl rfl (wdA rfl) ?_|refine tw_skip (wd_no rfl rfl rfl) ?_|refine tw_mv (.inl rfl) rfl (wdA rfl) ?_|refine tw_mv (.inr rfl) rfl (wdA rfl) ?_|refine tw_pickL rfl rfl rfl (wdA rfl) ?_|refine tw_op1 _ rfl rfl (wdA rfl) (fun ρ W hW h1=>by simp only [execOp,h1];go_simp;first|done|rfl) ?_|refine tw_op2 _ rfl rfl rfl (wdA rfl) (fun ρ W hW h1 h2=>by simp only [execOp,h1,h2];go_simp;first|done|rfl) ?_)
     dsimp only [wpT,List.reverse,List.reverseAux,FinT]
     intro W7 hW7 _
     simp only [Act.put,List.setIfInBounds_toArray,List.set_cons_zero,List.set_cons_succ]
     have HB7:=Lib.hid (HB.out.trans ((ext_below hW7).mono HB.out.size))
     clear hW7 G1 G2
    ·have HF:=Lib.hid (HSA.out k a b HXA.out HXB.out HQ.out)
     go_wp2
     go_ret
     exact⟨ret_bool HF.out.symm,HB7.out⟩
    ·have HF:Hid (∀(j:Nat) (x y:AttrL),j < k+1→l[j]? = some x→m[j]? = some y→sameA x y=true):=Lib.hid (fun j x' y' hj hx' hy'=>by
      rcases Nat.lt_or_ge j k with h1|h1
      ·exact HN.out j x' y' h1 hx' hy'
      ·obtain rfl:j=k:=by omega
       rw [HXA.out] at hx'
       rw [HXB.out] at hy'
       simp only [Option.some.injEq] at hx' hy'
       rw [←hx',←hy'];exact HQ.out)
     go_wp2
     go_roundw
     case rel=>exact⟨k+1,by omega,by go_num,HB7,HF⟩
     case measure=>simp [intOf];omega
   ·have HF:=Lib.hid (HSY.out HLM.out (fun j x y hx hy=>HN.out j x y (by have:=(List.getElem?_eq_some_iff.1 hx).1;omega) hx hy))
    obtain rfl:k=l.length:=by omega
    go_wp2
    go_ret
    exact⟨ret_bool HF.out.symm,HB.out⟩
 ·have hlm':((l.length:Int) != (m.length:Int))=true:=by rw [bne_iff_ne];omega
  have HF:=Lib.hid (HSN.out hlm)
  clear hlm
  go_enter Tryz.func37,Tryz.ntmps37
  go_wp2
  go_ret
  exact⟨ret_bool HF.out.symm,Below.refl _ _⟩
set_option maxHeartbeats 16000000 in
set_option maxRecDepth 10000 in
theorem refsame_any (v u:List NodeL) (A1 A2:Option Addr) (c1 c2:Nat) (w:World) (h1:RdV w w.heap.size A1 v) (h2:RdV w w.heap.size A2 u) (hz:SzV 1000000000 v) (hz2:SzV 1000000000 u) :
  Calls Tryz.prog 11 #[.slice A1 v.length c1,.slice A2 u.length c2] w fun e w'=>e=.returned (.bool (sameV v u))∧Below w.heap.size w w':=by
 have H1:=Lib.hid h1
 have H2:=Lib.hid h2
 have HZ:=Lib.hid hz
 have HZ2:=Lib.hid hz2
 have hn:=hz.1
 have hm:=hz2.1
 have HNO:Hid (¬v.length=u.length→sameV v u=false):=Lib.hid (fun h=>sameL_no h)
 have HAT:Hid (∀i x y,v[i]? = some x→u[i]? = some y→sameN x y=false→sameV v u=false):=Lib.hid (fun i x y h1 h2 h3=>sameL_at h1 h2 h3)
 have HYE:Hid (v.length=u.length→(∀i x y,v[i]? = some x→u[i]? = some y→sameN x y=true)→sameV v u=true):=Lib.hid (fun h1 h2=>sameL_yes h1 h2)
 clear h1 h2 hz hz2
 generalize sameV v u=r at *
 have ES:=Lib.hid (enters_of (P:=Tryz.prog) Tryz.func37 (by kernel_rfl) rfl)
 by_cases hlm:v.length=u.length
 ·have hlm':((v.length:Int) != (u.length:Int))=false:=by simp [hlm]
  have HLM:=Lib.hid hlm
  clear hlm
  go_enter Tryz.func11,Tryz.ntmps11
  go_wp2
  clear hlm'
  go_loopw [5] (fun s5 wr=>∃k:Nat,k≤v.length∧s5=.int .i64 k∧Hid (Below w.heap.size w wr)∧Hid (∀(j:Nat) (x y:NodeL),j < k→v[j]? = some x→u[j]? = some y→sameN x y=true)) (fun s5 _=>v.length - (intOf s5).toNat)
  case atStart=>exact⟨0,Nat.zero_le _,rfl,Lib.hid (Below.refl _ _),Lib.hid (fun j x y hj=>absurd hj (by omega))⟩
  case round=>
   obtain⟨k,hk,rfl,HB,HN⟩:=hrel
   by_cases hlt:k < v.length
   ·have hlt2:k < u.length:=by have:=HLM.out;omega
    obtain⟨n,hnn⟩:∃n,v[k]? = some n:=⟨_,List.getElem?_eq_getElem hlt⟩
    obtain⟨n',hnn'⟩:∃n,u[k]? = some n:=⟨_,List.getElem?_eq_getElem hlt2⟩
    have HXA:=Lib.hid hnn
    have HXB:=Lib.hid hnn'
    have hat:=(szv_get HZ.out hnn).2.2.2.1.1
    have hat':=(szv_get HZ2.out hnn').2.2.2.1.1
    obtain⟨b1,o1,rfl,hb1,hc1⟩:=(H1.out.below HB.out (Nat.le_refl _)) (by omega)
    obtain⟨b2,o2,rfl,hb2,hc2⟩:=(H2.out.below HB.out (Nat.le_refl _)) (by omega)
    obtain⟨d0,d1,d2,⟨A3,c3,d3,hl3,hA3⟩,d4,d5⟩:=hc1 k n hnn
    obtain⟨f0,f1,f2,⟨A4,c4,f3,hl4,hA4⟩,f4,f5⟩:=hc2 k n' hnn'
    have HSA:=Lib.hid (fun W (hW:Below wr.heap.size wr W)=>refsameattrs_any n.attrs n'.attrs A3 A4 c3 c4 W ((hA3.more HB.out.size).below hW (Nat.le_refl _) |>.more hW.size) ((hA4.more HB.out.size).below hW (Nat.le_refl _) |>.more hW.size) hat hat')
    have hb1r:=Nat.lt_of_lt_of_le hb1 HB.out.size
    have hb2r:=Nat.lt_of_lt_of_le hb2 HB.out.size
    have HSN':Box (sameN n n'=((n.kind == n'.kind) && (n.space.toList == n'.space.toList) && (n.name.toList == n'.name.toList) && (n.text.toList == n'.text.toList) && (n.many == n'.many) && sameL sameA n.attrs n'.attrs)):=⟨rfl⟩
    generalize sameL sameA n.attrs n'.attrs=q at *
    clear hc1 hc2 hnn hnn' hA3 hA4
    have G10:=Lib.hid (fun W (hW:Ext wr.drew W)=>((ext_below hW).cell (p:=⟨b1,o1+k*6,none⟩) hb1r).trans d0)
    have G11:=Lib.hid (fun W (hW:Ext wr.drew W)=>((ext_below hW).cell (p:=⟨b1,o1+k*6+1,none⟩) hb1r).trans d1)
    have G12:=Lib.hid (fun W (hW:Ext wr.drew W)=>((ext_below hW).cell (p:=⟨b1,o1+k*6+2,none⟩) hb1r).trans d2)
    have G13:=Lib.hid (fun W (hW:Ext wr.drew W)=>((ext_below hW).cell (p:=⟨b1,o1+k*6+3,none⟩) hb1r).trans d3)
    have G14:=Lib.hid (fun W (hW:Ext wr.drew W)=>((ext_below hW).cell (p:=⟨b1,o1+k*6+4,none⟩) hb1r).trans d4)
    have G15:=Lib.hid (fun W (hW:Ext wr.drew W)=>((ext_below hW).cell (p:=⟨b1,o1+k*6+5,none⟩) hb1r).trans d5)
    have G20:=Lib.hid (fun W (hW:Ext wr.drew W)=>((ext_below hW).cell (p:=⟨b2,o2+k*6,none⟩) hb2r).trans f0)
    have G21:=Lib.hid (fun W (hW:Ext wr.drew W)=>((ext_below hW).cell (p:=⟨b2,o2+k*6+1,none⟩) hb2r).trans f1)
    have G22:=Lib.hid (fun W (hW:Ext wr.drew W)=>((ext_below hW).cell (p:=⟨b2,o2+k*6+2,none⟩) hb2r).trans f2)
    have G23:=Lib.hid (fun W (hW:Ext wr.drew W)=>((ext_below hW).cell (p:=⟨b2,o2+k*6+3,none⟩) hb2r).trans f3)
    have G24:=Lib.hid (fun W (hW:Ext wr.drew W)=>((ext_below hW).cell (p:=⟨b2,o2+k*6+4,none⟩) hb2r).trans f4)
    have G25:=Lib.hid (fun W (hW:Ext wr.drew W)=>((ext_below hW).cell (p:=⟨b2,o2+k*6+5,none⟩) hb2r).trans f5)
    clear d0 d1 d2 d3 d4 d5 f0 f1 f2 f3 f4 f5
    cases hq0:(n.kind == n'.kind)
    all_goals
     have H0:=Lib.hid hq0
     clear hq0
    ·have HF:=Lib.hid (HAT.out k n n' HXA.out HXB.out (by rw [HSN'.out,H0.out];rfl))
     go_wp2
     refine wp_region_typed rfl (by kernel_rfl) (by kernel_rfl) ?_
     repeat (first|refine tw_ixN hlt hn rfl rfl rfl (wdA rfl) ?_|refine tw_ixN hlt2 hm rfl rfl rfl (wdA rfl) ?_|refine tw_ldU rfl rfl G10.out (wdA rfl) ?_|refine tw_ldU rfl rfl G20.out (wdA rfl) ?_|refine tw_ldS rfl rfl G11.out (wdA rfl) ?_|refine tw_ldS rfl rfl G21.out (wdA rfl) ?_|refine tw_ldS rfl rfl G12.out (wdA rfl) ?_|refine tw_ldS rfl rfl G22.out (wdA rfl) ?_|refine tw_ldS rfl rfl G14.out (wdA rfl) ?_|refine tw_ldS rfl rfl G24.out (wdA rfl) ?_|refine tw_ldI rfl rfl G15.out (wdA rfl) ?_|refine tw_ldI rfl rfl G25.out (wdA rfl) ?_|refine tw_ldA rfl rfl G13.out (wdA rfl) ?_|refine tw_ldA rfl rfl G23.out (wdA rfl) ?_|refine tw_nbU _ H0.out rfl rfl rfl (wdA rfl) ?_|refine tw_nbS _ H1'.out rfl rfl rfl (wdA rfl) ?_|refine tw_nbS _ H2'.out rfl rfl rfl (wdA rfl) ?_|refine tw_nbS _ H4.out rfl rfl rfl (wdA rfl) ?_|refine tw_nbI _ H5.out rfl rfl rfl (wdA rfl) ?_|refine tw_fnB #[.slice A3 n.attrs.length c3,.slice A4 n'.attrs.length c4] (.bool _) rfl (fun W=>ES.out _ W) rfl (wdA rfl) (fun W hW=>HSA.out W (ext_below hW)) ?_|refine tw_skip (wd_no rfl rfl rfl) ?_|refine tw_mv (.inl rfl) rfl (wdA rfl) ?_|refine tw_mv (.inr rfl) rfl (wdA rfl) ?_|refine tw_pickL rfl rfl rfl (wdA rfl) ?_|refine tw_op1 _ rfl rfl (wdA rfl) (fun ρ W hW h1=>by simp only [execOp,h1];go_simp;first|done|rfl) ?_|refine tw_op2 _ rfl rfl rfl (wdA rfl) (fun ρ W hW h1 h2=>by simp only [execOp,h1,h2];go_simp;first|done|rfl) ?_)
     dsimp only [wpT,List.reverse,List.reverseAux,FinT]
     intro W7 hW7 _
     simp only [Act.put,List.setIfInBounds_toArray,List.set_cons_zero,List.set_cons_succ]
     have HB7:=Lib.hid (HB.out.trans ((ext_below hW7).mono HB.out.size))
     clear hW7 G10 G11 G12 G13 G14 G15 G20 G21 G22 G23 G24 G25
     go_wp2
     go_ret
     exact⟨ret_bool HF.out.symm,HB7.out⟩
    ·cases hq1:(n.space.toList == n'.space.toList)
     all_goals
      have H1':=Lib.hid hq1
      clear hq1
     ·have HF:=Lib.hid (HAT.out k n n' HXA.out HXB.out (by rw [HSN'.out,H0.out,H1'.out];rfl))
      go_wp2
      refine wp_region_typed rfl (by kernel_rfl) (by kernel_rfl) ?_
      repeat (first|refine tw_ixN hlt hn rfl rfl rfl (wdA rfl) ?_|refine tw_ixN hlt2 hm rfl rfl rfl (wdA rfl) ?_|refine tw_ldU rfl rfl G10.out (wdA rfl) ?_|refine tw_ldU rfl rfl G20.out (wdA rfl) ?_|refine tw_ldS rfl rfl G11.out (wdA rfl) ?_|refine tw_ldS rfl rfl G21.out (wdA rfl) ?_|refine tw_ldS rfl rfl G12.out (wdA rfl) ?_|refine tw_ldS rfl rfl G22.out (wdA rfl) ?_|refine tw_ldS rfl rfl G14.out (wdA rfl) ?_|refine tw_ldS rfl rfl G24.out (wdA rfl) ?_|refine tw_ldI rfl rfl G15.out (wdA rfl) ?_|refine tw_ldI rfl rfl G25.out (wdA rfl) ?_|refine tw_ldA rfl rfl G13.out (wdA rfl) ?_|refine tw_ldA rfl rfl G23.out (wdA rfl) ?_|refine tw_nbU _ H0.out rfl rfl rfl (wdA rfl) ?_|refine tw_nbS _ H1'.out rfl rfl rfl (wdA rfl) ?_|refine tw_nbS _ H2'.out rfl rfl rfl (wdA rfl) ?_|refine tw_nbS _ H4.out rfl rfl rfl (wdA rfl) ?_|refine tw_nbI _ H5.out rfl rfl rfl (wdA rfl) ?_|refine tw_fnB #[.slice A3 n.attrs.length c3,.slice A4 n'.attrs.length c4] (.bool _) rfl (fun W=>ES.out _ W) rfl (wdA rfl) (fun W hW=>HSA.out W (ext_below hW)) ?_|refine tw_skip (wd_no rfl rfl rfl) ?_|refine tw_mv (.inl rfl) rfl (wdA rfl) ?_|refine tw_mv (.inr rfl) rfl (wdA rfl) ?_|refine tw_pickL rfl rfl rfl (wdA rfl) ?_|refine tw_op1 _ rfl rfl (wdA rfl) (fun ρ W hW h1=>by simp only [execOp,h1];go_simp;first|done|rfl) ?_|refine tw_op2 _ rfl rfl rfl (wdA rfl) (fun ρ W hW h1 h2=>by simp only [execOp,h1,h2];go_simp;first|done|rfl) ?_)
      dsimp only [wpT,List.reverse,List.reverseAux,FinT]
      intro W7 hW7 _
      simp only [Act.put,List.setIfInBounds_toArray,List.set_cons_zero,List.set_cons_succ]
      have HB7:=Lib.hid (HB.out.trans ((ext_below hW7).mono HB.out.size))
      clear hW7 G10 G11 G12 G13 G14 G15 G20 G21 G22 G23 G24 G25
      go_wp2
      go_ret
      exact⟨ret_bool HF.out.symm,HB7.out⟩
     ·cases hq2:(n.name.toList == n'.name.toList)
      all_goals
       have H2':=Lib.hid hq2
       clear hq2
      ·have HF:=Lib.hid (HAT.out k n n' HXA.out HXB.out (by rw [HSN'.out,H0.out,H1'.out,H2'.out];rfl))
       go_wp2
       refine wp_region_typed rfl (by kernel_rfl) (by kernel_rfl) ?_
       repeat (first|refine tw_ixN hlt hn rfl rfl rfl (wdA rfl) ?_|refine tw_ixN hlt2 hm rfl rfl rfl (wdA rfl) ?_|refine tw_ldU rfl rfl G10.out (wdA rfl) ?_|refine tw_ldU rfl rfl G20.out (wdA rfl) ?_|refine tw_ldS rfl rfl G11.out (wdA rfl) ?_|refine tw_ldS rfl rfl G21.out (wdA rfl) ?_|refine tw_ldS rfl rfl G12.out (wdA rfl) ?_|refine tw_ldS rfl rfl G22.out (wdA rfl) ?_|refine tw_ldS rfl rfl G14.out (wdA rfl) ?_|refine tw_ldS rfl rfl G24.out (wdA rfl) ?_|refine tw_ldI rfl rfl G15.out (wdA rfl) ?_|refine tw_ldI rfl rfl G25.out (wdA rfl) ?_|refine tw_ldA rfl rfl G13.out (wdA rfl) ?_|refine tw_ldA rfl rfl G23.out (wdA rfl) ?_|refine tw_nbU _ H0.out rfl rfl rfl (wdA rfl) ?_|refine tw_nbS _ H1'.out rfl rfl rfl (wdA rfl) ?_|refine tw_nbS _ H2'.out rfl rfl rfl (wdA rfl) ?_|refine tw_nbS _ H4.out rfl rfl rfl (wdA rfl) ?_|refine tw_nbI _ H5.out rfl rfl rfl (wdA rfl) ?_|refine tw_fnB #[.slice A3 n.attrs.length c3,.slice A4 n'.attrs.length c4] (.bool _) rfl (fun W=>ES.out _ W) rfl (wdA rfl) (fun W hW=>HSA.out W (ext_below hW)) ?_|refine tw_skip (wd_no rfl rfl rfl) ?_|refine tw_mv (.inl rfl) rfl (wdA rfl) ?_|refine tw_mv (.inr rfl) rfl (wdA rfl) ?_|refine tw_pickL rfl rfl rfl (wdA rfl) ?_|refine tw_op1 _ rfl rfl (wdA rfl) (fun ρ W hW h1=>by simp only [execOp,h1];go_simp;first|done|rfl) ?_|refine tw_op2 _ rfl rfl rfl (wdA rfl) (fun ρ W hW h1 h2=>by simp only [execOp,h1,h2];go_simp;first|done|rfl) ?_)
       dsimp only [wpT,List.reverse,List.reverseAux,FinT]
       intro W7 hW7 _
       simp only [Act.put,List.setIfInBounds_toArray,List.set_cons_zero,List.set_cons_succ]
       have HB7:=Lib.hid (HB.out.trans ((ext_below hW7).mono HB.out.size))
       clear hW7 G10 G11 G12 G13 G14 G15 G20 G21 G22 G23 G24 G25
       go_wp2
       go_ret
       exact⟨ret_bool HF.out.symm,HB7.out⟩
      ·cases hq3:(n.text.toList == n'.text.toList)
       all_goals
        have H4:=Lib.hid hq3
        clear hq3
       ·have HF:=Lib.hid (HAT.out k n n' HXA.out HXB.out (by rw [HSN'.out,H0.out,H1'.out,H2'.out,H4.out];rfl))
        go_wp2
        refine wp_region_typed rfl (by kernel_rfl) (by kernel_rfl) ?_
        repeat (first|refine tw_ixN hlt hn rfl rfl rfl (wdA rfl) ?_|refine tw_ixN hlt2 hm rfl rfl rfl (wdA rfl) ?_|refine tw_ldU rfl rfl G10.out (wdA rfl) ?_|refine tw_ldU rfl rfl G20.out (wdA rfl) ?_|refine tw_ldS rfl rfl G11.out (wdA rfl) ?_|refine tw_ldS rfl rfl G21.out (wdA rfl) ?_|refine tw_ldS rfl rfl G12.out (wdA rfl) ?_|refine tw_ldS rfl rfl G22.out (wdA rfl) ?_|refine tw_ldS rfl rfl G14.out (wdA rfl) ?_|refine tw_ldS rfl rfl G24.out (wdA rfl) ?_|refine tw_ldI rfl rfl G15.out (wdA rfl) ?_|refine tw_ldI rfl rfl G25.out (wdA rfl) ?_|refine tw_ldA rfl rfl G13.out (wdA rfl) ?_|refine tw_ldA rfl rfl G23.out (wdA rfl) ?_|refine tw_nbU _ H0.out rfl rfl rfl (wdA rfl) ?_|refine tw_nbS _ H1'.out rfl rfl rfl (wdA rfl) ?_|refine tw_nbS _ H2'.out rfl rfl rfl (wdA rfl) ?_|refine tw_nbS _ H4.out rfl rfl rfl (wdA rfl) ?_|refine tw_nbI _ H5.out rfl rfl rfl (wdA rfl) ?_|refine tw_fnB #[.slice A3 n.attrs.length c3,.slice A4 n'.attrs.length c4] (.bool _) rfl (fun W=>ES.out _ W) rfl (wdA rfl) (fun W hW=>HSA.out W (ext_below hW)) ?_|refine tw_skip (wd_no rfl rfl rfl) ?_|refine tw_mv (.inl rfl) rfl (wdA rfl) ?_|refine tw_mv (.inr rfl) rfl (wdA rfl) ?_|refine tw_pickL rfl rfl rfl (wdA rfl) ?_|refine tw_op1 _ rfl rfl (wdA rfl) (fun ρ W hW h1=>by simp only [execOp,h1];go_simp;first|done|rfl) ?_|refine tw_op2 _ rfl rfl rfl (wdA rfl) (fun ρ W hW h1 h2=>by simp only [execOp,h1,h2];go_simp;first|done|rfl) ?_)
        dsimp only [wpT,List.reverse,List.reverseAux,FinT]
        intro W7 hW7 _
        simp only [Act.put,List.setIfInBounds_toArray,List.set_cons_zero,List.set_cons_succ]
        have HB7:=Lib.hid (HB.out.trans ((ext_below hW7).mono HB.out.size))
        clear hW7 G10 G11 G12 G13 G14 G15 G20 G21 G22 G23 G24 G25
        go_wp2
        go_ret
        exact⟨ret_bool HF.out.symm,HB7.out⟩
       ·cases hq4:(n.many == n'.many)
        all_goals
         have H5:=Lib.hid hq4
         clear hq4
        ·have HF:=Lib.hid (HAT.out k n n' HXA.out HXB.out (by rw [HSN'.out,H0.out,H1'.out,H2'.out,H4.out,H5.out];rfl))
         go_wp2
         refine wp_region_typed rfl (by kernel_rfl) (by kernel_rfl) ?_
         repeat (first|refine tw_ixN hlt hn rfl rfl rfl (wdA rfl) ?_|refine tw_ixN hlt2 hm rfl rfl rfl (wdA rfl) ?_|refine tw_ldU rfl rfl G10.out (wdA rfl) ?_|refine tw_ldU rfl rfl G20.out (wdA rfl) ?_|refine tw_ldS rfl rfl G11.out (wdA rfl) ?_|refine tw_ldS rfl rfl G21.out (wdA rfl) ?_|refine tw_ldS rfl rfl G12.out (wdA rfl) ?_|refine tw_ldS rfl rfl G22.out (wdA rfl) ?_|refine tw_ldS rfl rfl G14.out (wdA rfl) ?_|refine tw_ldS rfl rfl G24.out (wdA rfl) ?_|refine tw_ldI rfl rfl G15.out (wdA rfl) ?_|refine tw_ldI rfl rfl G25.out (wdA rfl) ?_|refine tw_ldA rfl rfl G13.out (wdA rfl) ?_|refine tw_ldA rfl rfl G23.out (wdA rfl) ?_|refine tw_nbU _ H0.out rfl rfl rfl (wdA rfl) ?_|refine tw_nbS _ H1'.out rfl rfl rfl (wdA rfl) ?_|refine tw_nbS _ H2'.out rfl rfl rfl (wdA rfl) ?_|refine tw_nbS _ H4.out rfl rfl rfl (wdA rfl) ?_|refine tw_nbI _ H5.out rfl rfl rfl (wdA rfl) ?_|refine tw_fnB #[.slice A3 n.attrs.length c3,.slice A4 n'.attrs.length c4] (.bool _) rfl (fun W=>ES.out _ W) rfl (wdA rfl) (fun W hW=>HSA.out W (ext_below hW)) ?_|refine tw_skip (wd_no rfl rfl rfl) ?_|refine tw_mv (.inl rfl) rfl (wdA rfl) ?_|refine tw_mv (.inr rfl) rfl (wdA rfl) ?_|refine tw_pickL rfl rfl rfl (wdA rfl) ?_|refine tw_op1 _ rfl rfl (wdA rfl) (fun ρ W hW h1=>by simp only [execOp,h1];go_simp;first|done|rfl) ?_|refine tw_op2 _ rfl rfl rfl (wdA rfl) (fun ρ W hW h1 h2=>by simp only [execOp,h1,h2];go_simp;first|done|rfl) ?_)
         dsimp only [wpT,List.reverse,List.reverseAux,FinT]
         intro W7 hW7 _
         simp only [Act.put,List.setIfInBounds_toArray,List.set_cons_zero,List.set_cons_succ]
         have HB7:=Lib.hid (HB.out.trans ((ext_below hW7).mono HB.out.size))
         clear hW7 G10 G11 G12 G13 G14 G15 G20 G21 G22 G23 G24 G25
         go_wp2
         go_ret
         exact⟨ret_bool HF.out.symm,HB7.out⟩
        ·cases q
         all_goals
          go_wp2
          refine wp_region_typed rfl (by kernel_rfl) (by kernel_rfl) ?_
          repeat (first|refine tw_ixN hlt hn rfl rfl rfl (wdA rfl) ?_|refine tw_ixN hlt2 hm rfl rfl rfl (wdA rfl) ?_|refine tw_ldU rfl rfl G10.out (wdA rfl) ?_|refine tw_ldU rfl rfl G20.out (wdA rfl) ?_|refine tw_ldS rfl rfl G11.out (wdA rfl) ?_|refine tw_ldS rfl rfl G21.out (wdA rfl) ?_|refine tw_ldS rfl rfl G12.out (wdA rfl) ?_|refine tw_ldS rfl rfl G22.out (wdA rfl) ?_|refine tw_ldS rfl rfl G14.out (wdA rfl) ?_|refine tw_ldS rfl rfl G24.out (wdA rfl) ?_|refine tw_ldI rfl rfl G15.out (wdA rfl) ?_|refine tw_ldI rfl rfl G25.out (wdA rfl) ?_|refine tw_ldA rfl rfl G13.out (wdA rfl) ?_|refine tw_ldA rfl rfl G23.out (wdA rfl) ?_|refine tw_nbU _ H0.out rfl rfl rfl (wdA rfl) ?_|refine tw_nbS _ H1'.out rfl rfl rfl (wdA rfl) ?_|refine tw_nbS _ H2'.out rfl rfl rfl (wdA rfl) ?_|refine tw_nbS _ H4.out rfl rfl rfl (wdA rfl) ?_|refine tw_nbI _ H5.out rfl rfl rfl (wdA rfl) ?_|refine tw_fnB #[.slice A3 n.attrs.length c3,.slice A4 n'.attrs.length c4] (.bool _) rfl (fun W=>ES.out _ W) rfl (wdA rfl) (fun W hW=>HSA.out W (ext_below hW)) ?_|refine tw_skip (wd_no rfl rfl rfl) ?_|refine tw_mv (.inl rfl) rfl (wdA rfl) ?_|refine tw_mv (.inr rfl) rfl (wdA rfl) ?_|refine tw_pickL rfl rfl rfl (wdA rfl) ?_|refine tw_op1 _ rfl rfl (wdA rfl) (fun ρ W hW h1=>by simp only [execOp,h1];go_simp;first|done|rfl) ?_|refine tw_op2 _ rfl rfl rfl (wdA rfl) (fun ρ W hW h1 h2=>by simp only [execOp,h1,h2];go_simp;first|done|rfl) ?_)
          dsimp only [wpT,List.reverse,List.reverseAux,FinT]
          intro W7 hW7 _
          simp only [Act.put,List.setIfInBounds_toArray,List.set_cons_zero,List.set_cons_succ]
          have HB7:=Lib.hid (HB.out.trans ((ext_below hW7).mono HB.out.size))
          clear hW7 G10 G11 G12 G13 G14 G15 G20 G21 G22 G23 G24 G25
         ·have HF:=Lib.hid (HAT.out k n n' HXA.out HXB.out (by rw [HSN'.out,H0.out,H1'.out,H2'.out,H4.out,H5.out];rfl))
          go_wp2
          go_ret
          exact⟨ret_bool HF.out.symm,HB7.out⟩
         ·have HF:Hid (∀(j:Nat) (x y:NodeL),j < k+1→v[j]? = some x→u[j]? = some y→sameN x y=true):=Lib.hid (fun j x' y' hj hx' hy'=>by
           rcases Nat.lt_or_ge j k with h1|h1
           ·exact HN.out j x' y' h1 hx' hy'
           ·obtain rfl:j=k:=by omega
            rw [HXA.out] at hx'
            rw [HXB.out] at hy'
            simp only [Option.some.injEq] at hx' hy'
            rw [←hx',←hy',HSN'.out,H0.out,H1'.out,H2'.out,H4.out,H5.out];rfl)
          go_wp2
          go_roundw
          case rel=>exact⟨k+1,by omega,by go_num,HB7,HF⟩
          case measure=>simp [intOf];omega
   ·have HF:=Lib.hid (HYE.out HLM.out (fun j x y hx hy=>HN.out j x y (by have:=(List.getElem?_eq_some_iff.1 hx).1;omega) hx hy))
    obtain rfl:k=v.length:=by omega
    go_wp2
    go_ret
    exact⟨ret_bool HF.out.symm,HB.out⟩
 ·have hlm':((v.length:Int) != (u.length:Int))=true:=by rw [bne_iff_ne];omega
  have HF:=Lib.hid (HNO.out hlm)
  clear hlm
  go_enter Tryz.func11,Tryz.ntmps11
  go_wp2
  go_ret
  exact⟨ret_bool HF.out.symm,Below.refl _ _⟩
end Go.Proofs.YtnmnpnofdgdigaaGreatDoor
end
section
namespace Go.Proofs.YtnmnpnofdgdigaaGreatDoor
open Go.RowKit
set_option linter.unusedSimpArgs false
set_option linter.unusedVariables false
set_option maxHeartbeats 16000000 in
set_option maxRecDepth 10000 in
theorem same22_any (s t:StL) (A1 A2:Option Addr) (c1 c2:Nat) (w:World) (h1:RdW w w.heap.size A1 s.load) (h2:RdW w w.heap.size A2 t.load) (hz:SzW s.load) (hz2:SzW t.load) :
  Calls Tryz.prog 10 #[encS s A1 c1,encS t A2 c2] w fun e w'=>e=.returned (.bool (sameS s t))∧Below w.heap.size w w':=by
 have HS:Box (sameS s t=((s.kind == t.kind) && (s.typ.toList == t.typ.toList) && (s.id.toList == t.id.toList) && (s.frm.toList == t.frm.toList) && (s.to.toList == t.to.toList) && sameL sameV s.load t.load)):=⟨rfl⟩
 have HNO:Hid (¬s.load.length=t.load.length→sameL sameV s.load t.load=false):=Lib.hid (fun h=>sameL_no h)
 have HAT:Hid (∀i x y,s.load[i]? = some x→t.load[i]? = some y→sameV x y=false→sameL sameV s.load t.load=false):=Lib.hid (fun i x y h1 h2 h3=>sameL_at h1 h2 h3)
 have HYE:Hid (s.load.length=t.load.length→(∀i x y,s.load[i]? = some x→t.load[i]? = some y→sameV x y=true)→sameL sameV s.load t.load=true):=Lib.hid (fun h1 h2=>sameL_yes h1 h2)
 generalize sameS s t=r at *
 generalize sameL sameV s.load t.load=q at *
 have HOFF:Hid (q=false→r=false):=Lib.hid (fun h=>by rw [HS.out,h,Bool.and_false])
 obtain⟨W1,hW1⟩:∃W1,W1=w.alloc (.cells #[.int .u8 s.kind,.string s.typ,.string s.id,.string s.frm,.string s.to,.slice A1 s.load.length c1] 27):=⟨_,rfl⟩
 have hX1:Below w.heap.size w W1:=by rw [hW1];exact(Below.refl _ _).alloc (Nat.le_refl _) _
 have hS1:SAt W1 w.heap.size s A1 c1:=by rw [hW1];exact SAt.new _ _ _ _ _
 have hs1:W1.heap.size=w.heap.size+1:=by rw [hW1];simp
 obtain⟨W2,hW2⟩:∃W2,W2=W1.alloc (.cells #[.int .u8 t.kind,.string t.typ,.string t.id,.string t.frm,.string t.to,.slice A2 t.load.length c2] 27):=⟨_,rfl⟩
 have hX2:Below W1.heap.size W1 W2:=by rw [hW2];exact(Below.refl _ _).alloc (Nat.le_refl _) _
 have hS2:SAt W2 W1.heap.size t A2 c2:=by rw [hW2];exact SAt.new _ _ _ _ _
 rw [hs1] at hS2
 have S1:=Lib.hid (hS1.ext hX2)
 have S2:=Lib.hid hS2
 have X:=Lib.hid (hX1.trans (hX2.mono hX1.size))
 have H1:=Lib.hid (RdW.ext h1 X.out)
 have H2:=Lib.hid (RdW.ext h2 X.out)
 have HW1:=Lib.hid hW1
 have HW2:=Lib.hid hW2
 have HZ:=Lib.hid hz
 have HZ2:=Lib.hid hz2
 have hn:=hz.1
 have hm:=hz2.1
 clear hW1 hW2 hX1 hX2 hS1 hS2 h1 h2 hz hz2 hs1
 have a0:=S1.out.c0
 have a1:=S1.out.c1
 have a2:=S1.out.c2
 have a3:=S1.out.c3
 have a4:=S1.out.c4
 have a5:=S1.out.c5
 have b0:=S2.out.c0
 have b1:=S2.out.c1
 have b2:=S2.out.c2
 have b3:=S2.out.c3
 have b4:=S2.out.c4
 have b5:=S2.out.c5
 rw [HW2.out,HW1.out] at a5 b5
 by_cases hlm:s.load.length=t.load.length
 ·have hlm':((s.load.length:Int) != (t.load.length:Int))=false:=by simp [hlm]
  have HLM:=Lib.hid hlm
  clear hlm
  unfold encS
  go_enter Tryz.func10,Tryz.ntmps10
  go_wp2
  rw [←HW1.out,←HW2.out]
  clear a0 a1 a2 a3 a4 a5 b0 b1 b2 b3 b4 b5 hlm'
  go_loopw [5] (fun s5 wr=>∃k:Nat,k≤s.load.length∧s5=.int .i64 k∧Hid (Below W2.heap.size W2 wr)∧Hid (∀(j:Nat) (x y:List NodeL),j < k→s.load[j]? = some x→t.load[j]? = some y→sameV x y=true)) (fun s5 _=>s.load.length - (intOf s5).toNat)
  case atStart=>exact⟨0,Nat.zero_le _,rfl,Lib.hid (Below.refl _ _),Lib.hid (fun j x y hj=>absurd hj (by omega))⟩
  case round=>
   obtain⟨k,hk,rfl,HB,HN⟩:=hrel
   have T1:=Lib.hid (S1.out.ext HB.out)
   have T2:=Lib.hid (S2.out.ext HB.out)
   have HXB:=Lib.hid (X.out.trans (HB.out.mono X.out.size))
   have a5:=T1.out.c5
   have b5:=T2.out.c5
   by_cases hlt:k < s.load.length
   ·have hlt2:k < t.load.length:=by have:=HLM.out;omega
    obtain⟨v,hv⟩:∃v,s.load[k]? = some v:=⟨_,List.getElem?_eq_getElem hlt⟩
    obtain⟨u,hu⟩:∃v,t.load[k]? = some v:=⟨_,List.getElem?_eq_getElem hlt2⟩
    have HV:=Lib.hid hv
    have HU:=Lib.hid hu
    have hzv:=HZ.out.2 v (List.mem_of_getElem? hv)
    have hzu:=HZ2.out.2 u (List.mem_of_getElem? hu)
    obtain⟨g1,o1,rfl,hg1,hc1⟩:=(RdW.ext H1.out HB.out) (by omega)
    obtain⟨g2,o2,rfl,hg2,hc2⟩:=(RdW.ext H2.out HB.out) (by omega)
    obtain⟨A3,c3,d1,hl3,hA3⟩:=hc1 k v hv
    obtain⟨A4,c4,d2,hl4,hA4⟩:=hc2 k u hu
    have HSA:=Lib.hid (fun W (hW:Below wr.heap.size wr W)=>refsame_any v u A3 A4 c3 c4 W (hA3.below hW (Nat.le_refl _) |>.more hW.size) (hA4.below hW (Nat.le_refl _) |>.more hW.size) hzv hzu)
    have ES:=Lib.hid (enters_of (P:=Tryz.prog) Tryz.func11 (by kernel_rfl) rfl)
    have G1:=Lib.hid (fun W (hW:Ext wr.drew W)=>(T1.out.ext (ext_below hW)).c5)
    have G2:=Lib.hid (fun W (hW:Ext wr.drew W)=>(T2.out.ext (ext_below hW)).c5)
    have G3:=Lib.hid (fun W (hW:Ext wr.drew W)=>((ext_below hW).cell (p:=⟨g1,o1+k,none⟩) hg1).trans d1)
    have G4:=Lib.hid (fun W (hW:Ext wr.drew W)=>((ext_below hW).cell (p:=⟨g2,o2+k,none⟩) hg2).trans d2)
    have HQ:Hid (sameV v u=false→q=false):=Lib.hid (fun h=>HAT.out k v u HV.out HU.out h)
    have HSV:Box (sameV v u=sameV v u):=⟨rfl⟩
    obtain⟨z,hz⟩:∃z,sameV v u=z:=⟨_,rfl⟩
    rw [hz] at HSA
    have HZV:=Lib.hid hz
    clear d1 d2 hc1 hc2 hv hu hA3 hA4 hz HSV hzv hzu
    cases z
    all_goals
     go_wp2
     refine wp_region_typed rfl (by kernel_rfl) (by kernel_rfl) ?_
     repeat (first|refine tw_ixW hlt hn rfl rfl rfl (wdA rfl) ?_|refine tw_ixW hlt2 hm rfl rfl rfl (wdA rfl) ?_|refine tw_ldW rfl rfl G1.out (wdA rfl) ?_|refine tw_ldW rfl rfl G2.out (wdA rfl) ?_|refine tw_ldV rfl rfl G3.out (wdA rfl) ?_|refine tw_ldV rfl rfl G4.out (wdA rfl) ?_|refine tw_fnB #[.slice A3 v.length c3,.slice A4 u.length c4] (.bool _) rfl (fun W=>ES.out _ W) rfl (wdA rfl) (fun W hW=>HSA.out W (ext_below hW)) ?_|refine tw_skip (wd_no rfl rfl rfl) ?_|refine tw_mv (.inl rfl) rfl (wdA rfl) ?_|refine tw_mv (.inr rfl) rfl (wdA rfl) ?_|refine tw_pickL rfl rfl rfl (wdA rfl) ?_|refine tw_op1 _ rfl rfl (wdA rfl) (fun ρ W hW h1=>by simp only [execOp,h1];go_simp;first|done|rfl) ?_|refine tw_op2 _ rfl rfl rfl (wdA rfl) (fun ρ W hW h1 h2=>by simp only [execOp,h1,h2];go_simp;first|done|rfl) ?_)
     dsimp only [wpT,List.reverse,List.reverseAux,FinT]
     intro W7 hW7 _
     simp only [Act.put,List.setIfInBounds_toArray,List.set_cons_zero,List.set_cons_succ]
     have HB1:=Lib.hid (HB.out.trans ((ext_below hW7).mono HB.out.size))
     have HXB1:=Lib.hid (X.out.trans (HB1.out.mono X.out.size))
     clear hW7 G1 G2 G3 G4
    ·have HF:=Lib.hid (HOFF.out (HQ.out HZV.out))
     go_wp2
     go_ret
     exact⟨ret_bool HF.out.symm,HXB1.out⟩
    ·have HN1:Hid (∀(j:Nat) (x y:List NodeL),j < k+1→s.load[j]? = some x→t.load[j]? = some y→sameV x y=true):=Lib.hid (fun j x y hj hx hy=>by
      rcases Nat.lt_or_ge j k with h1|h1
      ·exact HN.out j x y h1 hx hy
      ·obtain rfl:j=k:=by omega
       rw [HV.out] at hx
       rw [HU.out] at hy
       simp only [Option.some.injEq] at hx hy
       rw [←hx,←hy,HZV.out])
     go_wp2
     go_roundw
     case rel=>exact⟨k+1,by omega,by go_num,HB1,HN1⟩
     case measure=>simp [intOf];omega
   ·have HQ:=Lib.hid (HYE.out HLM.out (fun j x y hx hy=>HN.out j x y (by have:=(List.getElem?_eq_some_iff.1 hx).1;omega) hx hy))
    obtain rfl:k=s.load.length:=by omega
    have a0:=T1.out.c0
    have a1:=T1.out.c1
    have a2:=T1.out.c2
    have a3:=T1.out.c3
    have a4:=T1.out.c4
    have b0:=T2.out.c0
    have b1:=T2.out.c1
    have b2:=T2.out.c2
    have b3:=T2.out.c3
    have b4:=T2.out.c4
    cases h1:(s.kind == t.kind)
    ·have HF:Box (r=false):=⟨by rw [HS.out,h1];rfl⟩
     go_wp2
     go_ret
     exact⟨ret_bool HF.out.symm,HXB.out⟩
    ·cases h2:(s.typ.toList == t.typ.toList)
     ·have HF:Box (r=false):=⟨by rw [HS.out,h1,h2];rfl⟩
      go_wp2
      go_ret
      exact⟨ret_bool HF.out.symm,HXB.out⟩
     ·cases h3:(s.id.toList == t.id.toList)
      ·have HF:Box (r=false):=⟨by rw [HS.out,h1,h2,h3];rfl⟩
       go_wp2
       go_ret
       exact⟨ret_bool HF.out.symm,HXB.out⟩
      ·cases h4:(s.frm.toList == t.frm.toList)
       ·have HF:Box (r=false):=⟨by rw [HS.out,h1,h2,h3,h4];rfl⟩
        go_wp2
        go_ret
        exact⟨ret_bool HF.out.symm,HXB.out⟩
       ·cases h5:(s.to.toList == t.to.toList)
        ·have HF:Box (r=false):=⟨by rw [HS.out,h1,h2,h3,h4,h5];rfl⟩
         go_wp2
         go_ret
         exact⟨ret_bool HF.out.symm,HXB.out⟩
        ·have HF:Box (r=true):=⟨by rw [HS.out,HQ.out,h1,h2,h3,h4,h5];rfl⟩
         go_wp2
         go_ret
         exact⟨ret_bool HF.out.symm,HXB.out⟩
 ·have hlm':((s.load.length:Int) != (t.load.length:Int))=true:=by rw [bne_iff_ne];omega
  have HF:=Lib.hid (HOFF.out (HNO.out hlm))
  clear hlm
  have HX:=Lib.hid X.out
  unfold encS
  go_enter Tryz.func10,Tryz.ntmps10
  go_wp2
  rw [←HW1.out,←HW2.out]
  go_ret
  exact⟨ret_bool HF.out.symm,X.out⟩
end Go.Proofs.YtnmnpnofdgdigaaGreatDoor
end
section
namespace Go.Proofs.YtnmnpnofdgdigaaGreatDoor
open Go.RowKit
set_option linter.unusedSimpArgs false
set_option linter.unusedVariables false
theorem flatMap_le {α:Type} (f:α→List UInt8) (B:Nat):∀(l:List α),(∀x∈l,(f x).length≤B)→(l.flatMap f).length≤l.length*B
 | [],_=>by simp
 | x :: t,h=>by
  have h1:=h x (by simp)
  have h2:=flatMap_le f B t (fun y hy=>h y (by simp [hy]))
  rw [List.flatMap_cons,List.length_append,List.length_cons,Nat.add_mul]
  omega
theorem said_small {v:List NodeL} (ht:treeI v=true) (hs:SmallV5 v):(saidI v).size≤1000000000:=by
 have hk:=kids_512 ht
 have h:((kidsI v 0).flatMap (saidT v)).length≤(kidsI v 0).length*500:=flatMap_le _ _ _ (fun k _=>by
  unfold saidT nodeAt
  rw [List.getD_eq_getElem?_getD]
  cases hv:v[k]? with
  | none=>exact Nat.zero_le _
  | some n=>
   have:=(hs.2 k n (List.getElem?_eq_some_iff.1 hv).1 hv).2.2.1
   exact this)
 show((kidsI v 0).flatMap (saidT v)).toArray.size≤_
 rw [List.size_toArray]
 omega
theorem small_part {v:List NodeL} (hs:SmallV5 v) (k:Nat):SmallV5 (partI v k):=by
 unfold partI
 refine⟨by rw [List.length_take,List.length_drop];have:=hs.1;omega,fun i n hi hn=>?_⟩
 have h:v[k+i]? = some n:=by
  rw [List.getElem?_take] at hn
  split at hn
  ·rw [List.getElem?_drop] at hn;exact hn
  ·cases hn
 exact hs.2 (k+i) n (List.getElem?_eq_some_iff.1 h).1 h
theorem ask_small {s:StL} (h:stnI s=true) (hs:∀v∈s.load,SmallV5 v):(askW s).res.size≤1000000000:=by
 have h0:emB.size≤1000000000:=by decide
 unfold askW
 split
 ·rename_i h1
  obtain⟨v,hv⟩:=List.length_eq_one_iff.1 h1
  have ht:treeI v=true:=stn_trees h v (by rw [hv];simp)
  have hsv:=hs v (by rw [hv];simp)
  rw [hv]
  show(askV s v).res.size≤_
  unfold askV
  split
  ·unfold bindW
   dsimp only
   split
   ·rename_i hf
    have hin:=first_in hf
    have hin2:=hin
    unfold elemsI elemsK at hin2
    obtain⟨k,hk,hp⟩:=List.mem_map.1 hin2
    exact said_small (elems_tree ht _ hin) (by unfold elemsI elemsK;rw [←hp];exact small_part hsv k)
   ·exact h0
  ·split
   ·exact h0
   ·split
    ·unfold setW
     split <;> exact h0
    ·exact h0
 ·exact h0
theorem join_szv {n:NodeL} {l:List (List NodeL)} (hn:SzN 1000000000 n) (hl:SzW l) (h5:(joinV n l).length≤1000000000):SzV 1000000000 (joinV n l):=⟨h5,joinV_sz hn hl.1 (fun v hv=>(hl.2 v hv).2)⟩
theorem build_szv {s:StL} (h:SzS s):SzV 1000000000 (buildV s):=by
 have h0:SzV 1000000000 []:=⟨by decide,fun x hx=>by cases hx⟩
 unfold buildV
 split
 ·unfold putV
  split
  ·rename_i he
   refine join_szv (elemS_sz h) h.2.2.2.2.2 ?_
   unfold putE at he
   split at he
   ·split at he
    ·cases he
    ·split at he
     ·cases he
     ·omega
   ·cases he
  ·exact h0
 ·exact h0
theorem fail_szw {s:StL} {word:ByteArray} (h:word.size≤1000000000):SzW (failR s word).load:=by
 have h0:SzW emS.load:=⟨by decide,fun x hx=>by cases hx⟩
 unfold failR
 split
 ·split
  ·refine⟨by show(1:Nat)≤_;omega,fun v hv=>?_⟩
   rw [List.mem_singleton.1 hv]
   refine⟨by show(2:Nat)≤_;omega,fun n hn=>?_⟩
   rcases List.mem_cons.1 hn with rfl|hn
   ·exact errH_sz 1 (by omega) (by omega)
   ·exact((errN_szw h).2 [errN word] (by simp)).2 n hn
  ·exact h0
 ·exact h0
theorem sameL_self {α:Type} {f:α→α→Bool} (h:∀x,f x x=true):∀l:List α,sameL f l l=true
 | []=>by unfold sameL;rfl
 | x :: t=>by
  have:=sameL_self h t
  unfold sameL
  simp_all
def RowZ (base:Nat) (u:Value) (w:World) (ts:List TreeH):Prop:=
 w.ownsRow base 22 1 u ts.length (cellsT ts)∧∀x∈ts,x.1.length≤x.2.2∧(0 < x.1.length→NewVX base u w x.2.1 x.2.2 x.1)
theorem RowZ.nil (base:Nat) (w:World):RowZ base (.slice none 0 0) w []:=⟨World.ownsRow_nil _ _ _ _,fun x hx=>by cases hx⟩
theorem NewVX.at' {base:Nat} {u:Value} {w w':World} {A:Option Addr} {c:Nat} {v:List NodeL} (h:NewVX base u w A c v) (hs:w.heap.size≤w'.heap.size) (hk:∀k,base≤k→k < w.heap.size→w'.heap[k]? = w.heap[k]?):NewVX base u w' A c v:=by
 obtain⟨l,h1,h2,h3,h4⟩:=h
 exact⟨l,h1,own_at h2 hk,h3,fun i x hi=>⟨(h4 i x hi).1,(h4 i x hi).2.at hs hk⟩⟩
theorem RowZ.at' {base:Nat} {u:Value} {w w':World} {ts:List TreeH} (h:RowZ base u w ts) (hs:w.heap.size≤w'.heap.size) (hk:∀k,base≤k→k < w.heap.size→w'.heap[k]? = w.heap[k]?):RowZ base u w' ts:=
 ⟨own_at h.1 hk,fun x hx=>⟨(h.2 x hx).1,fun h0=>((h.2 x hx).2 h0).at' hs hk⟩⟩
theorem RowZ.ext {base:Nat} {u:Value} {w w':World} {ts:List TreeH} (h:RowZ base u w ts) (hb:Below w.heap.size w w'):RowZ base u w' ts:=h.at' hb.size (fun k _ hk=>hb.block k hk)
theorem RowZ.set {base g o:Nat} {u x:Value} {w:World} {ts:List TreeH} (h:RowZ base u w ts) (hg:g < base):RowZ base u (w.setCell ⟨g,o,none⟩ x) ts:=
 h.at' (by simp [World.setCell]) (fun k hk _=>heap_setCell_other w _ k _ (by show k≠g;omega))
theorem RowZ.app {base:Nat} {u u':Value} {w w':World} {ts:List TreeH} {t:TreeH} (h:RowZ base u w ts) (ht:t.1.length≤t.2.2∧(0 < t.1.length→NewVX base u w t.2.1 t.2.2 t.1))
  (hown:w'.ownsRow base 22 1 u' (ts.length+1) (cellsT (ts++[t]))) (hg:w.grownBy w' u.ownBlock) (hr:u'.ownBlock=u.ownBlock∨u'.ownBlock=some w.heap.size):RowZ base u' w' (ts++[t]):=by
 refine⟨by rw [List.length_append];exact hown,fun x hx=>?_⟩
 rw [List.mem_append,List.mem_singleton] at hx
 rcases hx with hx|rfl
 ·exact⟨(h.2 x hx).1,fun h0=>((h.2 x hx).2 h0).app h0 hg hr⟩
 ·exact⟨ht.1,fun h0=>(ht.2 h0).app h0 hg hr⟩
theorem RowZ.rdw {base n c:Nat} {A:Option Addr} {w:World} {ts:List TreeH} (h:RowZ base (.slice A n c) w ts) (hn:n=ts.length):RdW w w.heap.size A (ts.map (·.1)):=fun h0=>by
 subst hn
 rw [List.length_map] at h0
 obtain⟨g,rfl,h1,h2⟩:=own_some h.1 h0
 refine⟨g,0,rfl,h2,fun i v hv=>?_⟩
 rw [List.getElem?_map,Option.map_eq_some_iff] at hv
 obtain⟨x,hx,rfl⟩:=hv
 obtain⟨q2,q3⟩:=h.2 x (List.mem_of_getElem? hx)
 refine⟨x.2.1,x.2.2,?_,q2,fun h00=>(q3 h00).rdv h00⟩
 rw [Nat.zero_add,h.1.cellAt i (by have:=(List.getElem?_eq_some_iff.1 hx).1;omega)]
 simp [cellsT,hx,cT]
end Go.Proofs.YtnmnpnofdgdigaaGreatDoor
end
