/- Part 29 of a proof laid in parts, one behind the other; no condition of its own. -/
import Derived.Test.YtnmnpnofdgdigaaGreatDoorZ28
import Derived.Laws.StructEq
set_option linter.all false
section
namespace Go.Proofs.YtnmnpnofdgdigaaGreatDoor
open Go.RowKit
set_option linter.unusedSimpArgs false
set_option linter.unusedVariables false
section
variable {ops:Array Oper} {w0:World} {Fin:List Ty→Prop} {rest:List Oper} {E:Env} {Ts:List Ty} {o:Oper}
theorem tw_ixA {x y:Operand} {b off n c k:Nat} (hk:k < n) (hn:n≤1000000000) (hop:o.op=.indexAddr 34 x y) (hx:evalE E x=some (.slice (some ⟨b,off,none⟩) n c)) (hy:evalE E y=some (.int .i64 (k:Int))) (hw:Wd ops o E true)
  (hr:wpT Tryz.prog ops w0 Fin rest (E.put o.dst (.inl (.pointer (some ⟨b,off+k*3,none⟩)))) (.inl (.pointer (some ⟨b,off+k*3,none⟩)) :: Ts)):wpT Tryz.prog ops w0 Fin (o :: rest) E Ts:=
 tw_pure _ hw (fun a W hW hs=>by
  have h1:a.eval x=_:=evalE_of hx (by rw [hop];simp [Op.operands]) hs
  have h2:a.eval y=_:=evalE_of hy (by rw [hop];simp [Op.operands]) hs
  unfold execOp
  simp only [hop,h1,h2]
  go_simp) hr
theorem tw_ixW {x y:Operand} {b off n c k:Nat} (hk:k < n) (hn:n≤1000000000) (hop:o.op=.indexAddr 25 x y) (hx:evalE E x=some (.slice (some ⟨b,off,none⟩) n c)) (hy:evalE E y=some (.int .i64 (k:Int))) (hw:Wd ops o E true)
  (hr:wpT Tryz.prog ops w0 Fin rest (E.put o.dst (.inl (.pointer (some ⟨b,off+k,none⟩)))) (.inl (.pointer (some ⟨b,off+k,none⟩)) :: Ts)):wpT Tryz.prog ops w0 Fin (o :: rest) E Ts:=
 tw_pure _ hw (fun a W hW hs=>by
  have h1:a.eval x=_:=evalE_of hx (by rw [hop];simp [Op.operands]) hs
  have h2:a.eval y=_:=evalE_of hy (by rw [hop];simp [Op.operands]) hs
  unfold execOp
  simp only [hop,h1,h2]
  go_simp) hr
theorem tw_ixN {x y:Operand} {b off n c k:Nat} (hk:k < n) (hn:n≤1000000000) (hop:o.op=.indexAddr 22 x y) (hx:evalE E x=some (.slice (some ⟨b,off,none⟩) n c)) (hy:evalE E y=some (.int .i64 (k:Int))) (hw:Wd ops o E true)
  (hr:wpT Tryz.prog ops w0 Fin rest (E.put o.dst (.inl (.pointer (some ⟨b,off+k*6,none⟩)))) (.inl (.pointer (some ⟨b,off+k*6,none⟩)) :: Ts)):wpT Tryz.prog ops w0 Fin (o :: rest) E Ts:=
 tw_pure _ hw (fun a W hW hs=>by
  have h1:a.eval x=_:=evalE_of hx (by rw [hop];simp [Op.operands]) hs
  have h2:a.eval y=_:=evalE_of hy (by rw [hop];simp [Op.operands]) hs
  unfold execOp
  simp only [hop,h1,h2]
  go_simp) hr
theorem tw_neqU {x y:Operand} {i:Int} (hop:o.op=.binOp .neq 5 x y 5) (hx:evalE E x=some (.int .u8 i)) (hy:evalE E y=some (.int .u8 i)) (hw:Wd ops o E true)
  (hr:wpT Tryz.prog ops w0 Fin rest (E.put o.dst (.inl (.bool false))) (.inl (.bool false) :: Ts)):wpT Tryz.prog ops w0 Fin (o :: rest) E Ts:=
 tw_pure _ hw (fun a W hW hs=>by
  have h1:a.eval x=_:=evalE_of hx (by rw [hop];simp [Op.operands]) hs
  have h2:a.eval y=_:=evalE_of hy (by rw [hop];simp [Op.operands]) hs
  unfold execOp
  simp only [hop,h1,h2]
  go_simp) hr
theorem tw_neqI {x y:Operand} {i:Int} (hop:o.op=.binOp .neq 3 x y 3) (hx:evalE E x=some (.int .i64 i)) (hy:evalE E y=some (.int .i64 i)) (hw:Wd ops o E true)
  (hr:wpT Tryz.prog ops w0 Fin rest (E.put o.dst (.inl (.bool false))) (.inl (.bool false) :: Ts)):wpT Tryz.prog ops w0 Fin (o :: rest) E Ts:=
 tw_pure _ hw (fun a W hW hs=>by
  have h1:a.eval x=_:=evalE_of hx (by rw [hop];simp [Op.operands]) hs
  have h2:a.eval y=_:=evalE_of hy (by rw [hop];simp [Op.operands]) hs
  unfold execOp
  simp only [hop,h1,h2]
  go_simp) hr
theorem tw_neqS {x y:Operand} {s:ByteArray} (hop:o.op=.binOp .neq 9 x y 9) (hx:evalE E x=some (.string s)) (hy:evalE E y=some (.string s)) (hw:Wd ops o E true)
  (hr:wpT Tryz.prog ops w0 Fin rest (E.put o.dst (.inl (.bool false))) (.inl (.bool false) :: Ts)):wpT Tryz.prog ops w0 Fin (o :: rest) E Ts:=
 tw_pure _ hw (fun a W hW hs=>by
  have h1:a.eval x=_:=evalE_of hx (by rw [hop];simp [Op.operands]) hs
  have h2:a.eval y=_:=evalE_of hy (by rw [hop];simp [Op.operands]) hs
  unfold execOp
  simp only [hop,h1,h2]
  go_simp) hr
theorem tw_ldAt {x:Operand} {b off:Nat} {t:AttrL} (hop:o.op=.load 75 x) (hE:evalE E x=some (.pointer (some ⟨b,off,none⟩))) (hc:∀W,Ext w0 W→AtAt W b off t) (hw:Wd ops o E true)
  (hr:wpT Tryz.prog ops w0 Fin rest (E.put o.dst (.inl (encA t))) (.inl (encA t) :: Ts)):wpT Tryz.prog ops w0 Fin (o :: rest) E Ts:=
 tw_pure _ hw (fun a W hW hs=>by
  have h1:a.eval x=_:=evalE_of hE (by rw [hop];simp [Op.operands]) hs
  obtain⟨c0,c1,c2⟩:=hc W hW
  unfold execOp encA
  simp only [hop,h1]
  go_simp) hr
theorem tw_neqA {x y:Operand} {t:AttrL} (hop:o.op=.binOp .neq 75 x y 75) (hx:evalE E x=some (encA t)) (hy:evalE E y=some (encA t)) (hw:Wd ops o E true)
  (hr:wpT Tryz.prog ops w0 Fin rest (E.put o.dst (.inl (.bool false))) (.inl (.bool false) :: Ts)):wpT Tryz.prog ops w0 Fin (o :: rest) E Ts:=
 tw_pure _ hw (fun a W hW hs=>by
  have h1:a.eval x=_:=evalE_of hx (by rw [hop];simp [Op.operands]) hs
  have h2:a.eval y=_:=evalE_of hy (by rw [hop];simp [Op.operands]) hs
  unfold encA at h1 h2
  unfold execOp
  simp only [hop,h1,h2]
  go_simp) hr
end
set_option maxHeartbeats 8000000 in
set_option maxRecDepth 10000 in
theorem sameattrs_one (l:List AttrL) (A1 A2:Option Addr) (c1 c2:Nat) (w:World) (h1:RdA w w.heap.size A1 l) (h2:RdA w w.heap.size A2 l) (hn:l.length≤1000000000) :
  Calls Tryz.prog 37 #[.slice A1 l.length c1,.slice A2 l.length c2] w fun e w'=>e=.returned (.bool true)∧Below w.heap.size w w':=by
 have H1:=Lib.hid h1
 have H2:=Lib.hid h2
 clear h1 h2
 go_enter Tryz.func37,Tryz.ntmps37
 go_wp2
 go_loopw [5] (fun s5 wr=>∃k:Nat,k≤l.length∧s5=.int .i64 k∧Hid (Below w.heap.size w wr)) (fun s5 _=>l.length - (intOf s5).toNat)
 case atStart=>exact⟨0,Nat.zero_le _,rfl,Lib.hid (Below.refl _ _)⟩
 case round=>
  obtain⟨k,hk,rfl,HB⟩:=hrel
  by_cases hlt:k < l.length
  ·obtain⟨a,ha⟩:∃a,l[k]? = some a:=⟨_,List.getElem?_eq_getElem hlt⟩
   obtain⟨b1,o1,rfl,hb1,hc1⟩:=H1.out (by omega)
   obtain⟨b2,o2,rfl,hb2,hc2⟩:=H2.out (by omega)
   obtain⟨d0,d1,d2⟩:=hc1 k a ha
   obtain⟨f0,f1,f2⟩:=hc2 k a ha
   have G1:=Lib.hid (fun W (hW:Ext wr.drew W)=>(show AtAt W b1 (o1+k*3) a from(hc1 k a ha).keep hb1 (fun p hp=>(HB.out.trans ((ext_below hW).mono HB.out.size)).cell hp)))
   have G2:=Lib.hid (fun W (hW:Ext wr.drew W)=>(show AtAt W b2 (o2+k*3) a from(hc2 k a ha).keep hb2 (fun p hp=>(HB.out.trans ((ext_below hW).mono HB.out.size)).cell hp)))
   clear d0 d1 d2 f0 f1 f2 hc1 hc2 ha
   go_wp2
   refine wp_region_typed rfl (by kernel_rfl) (by kernel_rfl) ?_
   repeat (first|refine tw_ixA hlt hn rfl rfl rfl (wdA rfl) ?_|refine tw_ldAt rfl rfl G1.out (wdA rfl) ?_|refine tw_ldAt rfl rfl G2.out (wdA rfl) ?_|refine tw_neqA rfl rfl rfl (wdA rfl) ?_|refine tw_skip (wd_no rfl rfl rfl) ?_|refine tw_mv (.inl rfl) rfl (wdA rfl) ?_|refine tw_mv (.inr rfl) rfl (wdA rfl) ?_|refine tw_pickL rfl rfl rfl (wdA rfl) ?_|refine tw_op1 _ rfl rfl (wdA rfl) (fun ρ W hW h1=>by simp only [execOp,h1];go_simp;first|done|rfl) ?_|refine tw_op2 _ rfl rfl rfl (wdA rfl) (fun ρ W hW h1 h2=>by simp only [execOp,h1,h2];go_simp;first|done|rfl) ?_)
   dsimp only [wpT,List.reverse,List.reverseAux,FinT]
   intro W7 hW7 _
   simp only [Act.put,List.setIfInBounds_toArray,List.set_cons_zero,List.set_cons_succ]
   have HB7:=Lib.hid (HB.out.trans ((ext_below hW7).mono HB.out.size))
   clear hW7 G1 G2
   go_wp2
   go_roundw
   case rel=>exact⟨k+1,by omega,by go_num,HB7⟩
   case measure=>simp [intOf];omega
  ·obtain rfl:k=l.length:=by omega
   go_wp2
   go_ret
   exact⟨rfl,HB.out⟩
set_option maxHeartbeats 8000000 in
set_option maxRecDepth 10000 in
theorem same_one (v:List NodeL) (A1 A2:Option Addr) (c1 c2:Nat) (w:World) (h1:RdV w w.heap.size A1 v) (h2:RdV w w.heap.size A2 v) (hz:SzV 1000000000 v) :
  Calls Tryz.prog 11 #[.slice A1 v.length c1,.slice A2 v.length c2] w fun e w'=>e=.returned (.bool true)∧Below w.heap.size w w':=by
 have H1:=Lib.hid h1
 have H2:=Lib.hid h2
 have HZ:=Lib.hid hz
 have hn:=hz.1
 clear h1 h2 hz
 go_enter Tryz.func11,Tryz.ntmps11
 go_wp2
 go_loopw [5] (fun s5 wr=>∃k:Nat,k≤v.length∧s5=.int .i64 k∧Hid (Below w.heap.size w wr)) (fun s5 _=>v.length - (intOf s5).toNat)
 case atStart=>exact⟨0,Nat.zero_le _,rfl,Lib.hid (Below.refl _ _)⟩
 case round=>
  obtain⟨k,hk,rfl,HB⟩:=hrel
  by_cases hlt:k < v.length
  ·obtain⟨n,hnn⟩:∃n,v[k]? = some n:=⟨_,List.getElem?_eq_getElem hlt⟩
   have hat:=(szv_get HZ.out hnn).2.2.2.1.1
   obtain⟨b1,o1,rfl,hb1,hc1⟩:=(H1.out.below HB.out (Nat.le_refl _)) (by omega)
   obtain⟨b2,o2,rfl,hb2,hc2⟩:=(H2.out.below HB.out (Nat.le_refl _)) (by omega)
   obtain⟨d0,d1,d2,⟨A3,c3,d3,hl3,hA3⟩,d4,d5⟩:=hc1 k n hnn
   obtain⟨f0,f1,f2,⟨A4,c4,f3,hl4,hA4⟩,f4,f5⟩:=hc2 k n hnn
   have HSA:=Lib.hid (fun W (hW:Below wr.heap.size wr W)=>sameattrs_one n.attrs A3 A4 c3 c4 W ((hA3.more HB.out.size).below hW (Nat.le_refl _) |>.more hW.size) ((hA4.more HB.out.size).below hW (Nat.le_refl _) |>.more hW.size) hat)
   have ES:=Lib.hid (enters_of (P:=Tryz.prog) Tryz.func37 (by kernel_rfl) rfl)
   have hb1r:=Nat.lt_of_lt_of_le hb1 HB.out.size
   have hb2r:=Nat.lt_of_lt_of_le hb2 HB.out.size
   clear hc1 hc2 hnn hA3 hA4
   have G10:=Lib.hid (fun W (hW:Ext wr.drew W)=>((ext_below hW).cell (p:=⟨b1,o1+k*6,none⟩) hb1r).trans d0)
   have G11:=Lib.hid (fun W (hW:Ext wr.drew W)=>((ext_below hW).cell (p:=⟨b1,o1+k*6+1,none⟩) hb1r).trans d1)
   have G12:=Lib.hid (fun W (hW:Ext wr.drew W)=>((ext_below hW).cell (p:=⟨b1,o1+k*6+2,none⟩) hb1r).trans d2)
   have G13:=Lib.hid (fun W (hW:Ext wr.drew W)=>((ext_below hW).cell (p:=⟨b1,o1+k*6+3,none⟩) hb1r).trans d3)
   have G14:=Lib.hid (fun W (hW:Ext wr.drew W)=>((ext_below hW).cell (p:=⟨b1,o1+k*6+4,none⟩) hb1r).trans d4)
   have G15:=Lib.hid (fun W (hW:Ext wr.drew W)=>((ext_below hW).cell (p:=⟨b1,o1+k*6+5,none⟩) hb1r).trans d5)
   have G20:=Lib.hid (fun W (hW:Ext wr.drew W)=>((ext_below hW).cell (p:=⟨b2,o2+k*6,none⟩) hb2r).trans f0)
   have G21:=Lib.hid (fun W (hW:Ext wr.drew W)=>((ext_below hW).cell (p:=⟨b2,o2+k*6+1,none⟩) hb2r).trans f1)
   have G22:=Lib.hid (fun W (hW:Ext wr.drew W)=>((ext_below hW).cell (p:=⟨b2,o2+k*6+2,none⟩) hb2r).trans f2)
   have G23:=Lib.hid (fun W (hW:Ext wr.drew W)=>((ext_below hW).cell (p:=⟨b2,o2+k*6+3,none⟩) hb2r).trans f3)
   have G24:=Lib.hid (fun W (hW:Ext wr.drew W)=>((ext_below hW).cell (p:=⟨b2,o2+k*6+4,none⟩) hb2r).trans f4)
   have G25:=Lib.hid (fun W (hW:Ext wr.drew W)=>((ext_below hW).cell (p:=⟨b2,o2+k*6+5,none⟩) hb2r).trans f5)
   clear d0 d1 d2 d3 d4 d5 f0 f1 f2 f3 f4 f5
   go_wp2
   refine wp_region_typed rfl (by kernel_rfl) (by kernel_rfl) ?_
   repeat (first|refine tw_ixN hlt hn rfl rfl rfl (wdA rfl) ?_|refine tw_ldU rfl rfl G10.out (wdA rfl) ?_|refine tw_ldU rfl rfl G20.out (wdA rfl) ?_|refine tw_ldS rfl rfl G11.out (wdA rfl) ?_|refine tw_ldS rfl rfl G21.out (wdA rfl) ?_|refine tw_ldS rfl rfl G12.out (wdA rfl) ?_|refine tw_ldS rfl rfl G22.out (wdA rfl) ?_|refine tw_ldS rfl rfl G14.out (wdA rfl) ?_|refine tw_ldS rfl rfl G24.out (wdA rfl) ?_|refine tw_ldI rfl rfl G15.out (wdA rfl) ?_|refine tw_ldI rfl rfl G25.out (wdA rfl) ?_|refine tw_ldA rfl rfl G13.out (wdA rfl) ?_|refine tw_ldA rfl rfl G23.out (wdA rfl) ?_|refine tw_neqU rfl rfl rfl (wdA rfl) ?_|refine tw_neqI rfl rfl rfl (wdA rfl) ?_|refine tw_neqS rfl rfl rfl (wdA rfl) ?_|refine tw_fnB #[.slice A3 n.attrs.length c3,.slice A4 n.attrs.length c4] (.bool true) rfl (fun W=>ES.out _ W) rfl (wdA rfl) (fun W hW=>HSA.out W (ext_below hW)) ?_|refine tw_skip (wd_no rfl rfl rfl) ?_|refine tw_mv (.inl rfl) rfl (wdA rfl) ?_|refine tw_mv (.inr rfl) rfl (wdA rfl) ?_|refine tw_pickL rfl rfl rfl (wdA rfl) ?_|refine tw_op1 _ rfl rfl (wdA rfl) (fun ρ W hW h1=>by simp only [execOp,h1];go_simp;first|done|rfl) ?_|refine tw_op2 _ rfl rfl rfl (wdA rfl) (fun ρ W hW h1 h2=>by simp only [execOp,h1,h2];go_simp;first|done|rfl) ?_)
   dsimp only [wpT,List.reverse,List.reverseAux,FinT]
   intro W7 hW7 _
   simp only [Act.put,List.setIfInBounds_toArray,List.set_cons_zero,List.set_cons_succ]
   have HB1:=Lib.hid (HB.out.trans ((ext_below hW7).mono HB.out.size))
   clear hW7 G10 G11 G12 G13 G14 G15 G20 G21 G22 G23 G24 G25
   go_wp2
   go_roundw
   case rel=>exact⟨k+1,by omega,by go_num,HB1⟩
   case measure=>simp [intOf];omega
  ·obtain rfl:k=v.length:=by omega
   go_wp2
   go_ret
   exact⟨rfl,HB.out⟩
end Go.Proofs.YtnmnpnofdgdigaaGreatDoor
end
section
namespace Go.Proofs.YtnmnpnofdgdigaaGreatDoor
open Go.RowKit
set_option linter.unusedSimpArgs false
set_option linter.unusedVariables false
def mn (x:Nat):Int:=min (x:Int) 20000
theorem mn_bd (x:Nat):0≤mn x∧mn x≤20000:=by unfold mn;omega
def SmallN (n:NodeL):Prop:=n.space.size≤2000∧n.name.size≤2000∧n.text.size≤2000∧n.attrs.length≤30∧∀(i:Nat) (a:AttrL),i < n.attrs.length→n.attrs[i]? = some a→SzA 2000 a
section
variable {ops:Array Oper} {w0:World} {Fin:List Ty→Prop} {rest:List Oper} {E:Env} {Ts:List Ty} {o:Oper}
theorem tw_ixN0 {x y:Operand} {b off n c k:Nat} (hk:k < n) (hop:o.op=.indexAddr 22 x y) (hx:evalE E x=some (.slice (some ⟨b,off,none⟩) n c)) (hy:evalE E y=some (.int .i64 (k:Int))) (hw:Wd ops o E true)
  (hr:wpT Tryz.prog ops w0 Fin rest (E.put o.dst (.inl (.pointer (some ⟨b,off+k*6,none⟩)))) (.inl (.pointer (some ⟨b,off+k*6,none⟩)) :: Ts)):wpT Tryz.prog ops w0 Fin (o :: rest) E Ts:=
 tw_pure _ hw (fun a W hW hs=>by
  have h1:a.eval x=_:=evalE_of hx (by rw [hop];simp [Op.operands]) hs
  have h2:a.eval y=_:=evalE_of hy (by rw [hop];simp [Op.operands]) hs
  unfold execOp
  simp only [hop,h1,h2]
  go_simp) hr
theorem tw_min20 {x:Operand} (m:Nat) (hop:o.op=.call { callee:=.builtin .min,args:=#[x,.const (.int .i64 20000)],argTypes:=#[3,3]}) (hx:evalE E x=some (.int .i64 (m:Int))) (hw:Wd ops o E true)
  (hr:wpT Tryz.prog ops w0 Fin rest (E.put o.dst (.inl (.int .i64 (mn m)))) (.inl (.int .i64 (mn m)) :: Ts)):wpT Tryz.prog ops w0 Fin (o :: rest) E Ts:=
 tw_pure _ hw (fun a W hW hs=>by
  have h1:a.eval x=.int .i64 (m:Int):=evalE_of hx (by rw [hop];simp [Op.operands,Call.operands]) hs
  have h2:a.eval (.const (.int .i64 20000))=.int .i64 20000:=rfl
  unfold execOp mn
  simp only [hop,resolve,invoke,builtin,Sem.run_bind,Sem.run_pure,Result.andThen_ok,List.map_toArray,List.map_cons,List.map_nil,h1,h2]
  go_simp
  first|done|omega|(split <;> omega)) hr
theorem tw_addI {x y:Operand} {p q:Int} (hb:-9000000000000000000≤p+q∧p+q≤9000000000000000000) (hop:o.op=.binOp .add 3 x y 3) (hx:evalE E x=some (.int .i64 p)) (hy:evalE E y=some (.int .i64 q)) (hw:Wd ops o E true)
  (hr:wpT Tryz.prog ops w0 Fin rest (E.put o.dst (.inl (.int .i64 (p+q)))) (.inl (.int .i64 (p+q)) :: Ts)):wpT Tryz.prog ops w0 Fin (o :: rest) E Ts:=
 tw_pure _ hw (fun a W hW hs=>by
  have h1:a.eval x=_:=evalE_of hx (by rw [hop];simp [Op.operands]) hs
  have h2:a.eval y=_:=evalE_of hy (by rw [hop];simp [Op.operands]) hs
  unfold execOp
  simp only [hop,h1,h2]
  go_simp
  have hwr:IntKind.wrap .i64 (p+q)=p+q:=by simp only [IntKind.wrap,IntKind.bits,IntKind.signed];simp;split <;> omega
  rw [hwr]) hr
end
def GreatPost (v:List NodeL) (w:World) (e:Ending) (w':World):Prop:=
 ∃g,e=.returned (.bool g)∧Below w.heap.size w w'∧(g=false→v.length≤60∧∀(i:Nat) (n:NodeL),i < v.length→v[i]? = some n→SmallN n)
theorem GreatPost.yes {v:List NodeL} {w w':World} (h:Below w.heap.size w w'):GreatPost v w (.returned (.bool true)) w':=⟨true,rfl,h,fun h=>by cases h⟩
theorem GreatPost.no {v:List NodeL} {w w':World} (h:Below w.heap.size w w') (h1:v.length≤60) (h2:∀(i:Nat) (n:NodeL),i < v.length→v[i]? = some n→SmallN n):GreatPost v w (.returned (.bool false)) w':=⟨false,rfl,h,fun _=>⟨h1,h2⟩⟩
end Go.Proofs.YtnmnpnofdgdigaaGreatDoor
end
section
namespace Go.Proofs.YtnmnpnofdgdigaaGreatDoor
open Go.RowKit
set_option linter.unusedSimpArgs false
set_option linter.unusedVariables false
def isEl (space name:ByteArray) (v:List NodeL):Bool:=((nodeAt v 0).space.toList == space.toList) && ((nodeAt v 0).name.toList == name.toList)
def firstV (space name:ByteArray) (l:List (List NodeL)):List NodeL:=match fstP (isEl space name) l with
 | some i=>l.getD i []
 | none=>[]
def firstB (space name:ByteArray) (l:List (List NodeL)):Bool:=(fstP (isEl space name) l).isSome
def FirstPost (space name:ByteArray) (l:List (List NodeL)) (w:World) (e:Ending) (w':World):Prop:=
 ∃A c,e=.returned (.tuple #[.slice A (firstV space name l).length c,.bool (firstB space name l)])∧(firstV space name l).length≤c∧RdV w' w'.heap.size A (firstV space name l)∧Below w.heap.size w w'
theorem FirstPost.no {space name:ByteArray} {l:List (List NodeL)} {w w':World} (h:Below w.heap.size w w') (h1:fstP (isEl space name) l=none):FirstPost space name l w (.returned (.tuple #[.slice none 0 0,.bool false])) w':=by
 unfold FirstPost firstV firstB
 rw [h1]
 exact⟨none,0,rfl,Nat.le_refl _,fun h=>absurd h (by simp),h⟩
theorem FirstPost.yes {space name:ByteArray} {l:List (List NodeL)} {w w':World} {i:Nat} {v:List NodeL} {A:Option Addr} {c:Nat} (h:Below w.heap.size w w') (h1:fstP (isEl space name) l=some i) (hv:l[i]? = some v) (hc:v.length≤c) (hr:RdV w' w'.heap.size A v) :
  FirstPost space name l w (.returned (.tuple #[.slice A v.length c,.bool true])) w':=by
 have e:firstV space name l=v:=by unfold firstV;rw [h1];simp [List.getD_eq_getElem?_getD,hv]
 unfold FirstPost
 rw [e]
 unfold firstB
 rw [h1]
 exact⟨A,c,rfl,hc,hr,h⟩
set_option maxHeartbeats 2000000 in
set_option maxRecDepth 10000 in
theorem first1_any (v:List NodeL) (A:Option Addr) (c:Nat) (space name:ByteArray) (B1 B2:Nat) (w:World) (h0:0 < v.length) (hr:RdV w w.heap.size A v) (hB1:w.cell? ⟨B1,0,none⟩=some (.string space)) (hB2:w.cell? ⟨B2,0,none⟩=some (.string name)) :
  Calls Tryz.prog 99 (#[.slice A v.length c]++#[.pointer (some ⟨B1,0,none⟩),.pointer (some ⟨B2,0,none⟩)]) w fun e w'=>e=.returned (.bool (isEl space name v))∧Below w.heap.size w w':=by
 obtain⟨n,hn⟩:∃n,v[0]? = some n:=⟨_,List.getElem?_eq_getElem h0⟩
 have HG:Box (isEl space name v=((n.space.toList == space.toList) && (n.name.toList == name.toList))):=⟨by
  have e:nodeAt v 0=n:=by unfold nodeAt;rw [List.getD_eq_getElem?_getD,hn];rfl
  unfold isEl
  rw [e]⟩
 obtain⟨b,off,rfl,hb,hcc⟩:=hr h0
 obtain⟨d0,d1,d2,-⟩:=hcc 0 n hn
 rw [Nat.zero_mul,Nat.add_zero] at d1 d2
 have G1:=Lib.hid (fun W (hW:Ext w.drew W)=>((ext_below hW).cell (p:=⟨b,off+1,none⟩) hb).trans d1)
 have G2:=Lib.hid (fun W (hW:Ext w.drew W)=>((ext_below hW).cell (p:=⟨b,off+2,none⟩) hb).trans d2)
 have G3:=Lib.hid (fun W (hW:Ext w.drew W)=>((ext_below hW).cell (p:=⟨B1,0,none⟩) (World.block_lt_of_cell? w _ hB1)).trans hB1)
 have G4:=Lib.hid (fun W (hW:Ext w.drew W)=>((ext_below hW).cell (p:=⟨B2,0,none⟩) (World.block_lt_of_cell? w _ hB2)).trans hB2)
 clear hcc d0 d1 d2 hB1 hB2 hr
 generalize isEl space name v=r at *
 rw [List.append_toArray,List.singleton_append]
 obtain⟨q1,h1⟩:∃q,(n.space.toList == space.toList)=q:=⟨_,rfl⟩
 obtain⟨q2,h2⟩:∃q,(n.name.toList == name.toList)=q:=⟨_,rfl⟩
 rw [h1,h2] at HG
 have H1:=Lib.hid h1
 have H2:=Lib.hid h2
 clear h1 h2
 generalize v.length=N at *
 cases q1
 all_goals
  go_enter Tryz.func99,Tryz.ntmps99
  go_wp2_with fail
  refine wp_region_typed rfl (by kernel_rfl) (by kernel_rfl) ?_
  repeat (first|refine tw_ixN0 (k:=0) h0 rfl rfl rfl (wdA rfl) ?_|refine tw_ldS rfl rfl G1.out (wdA rfl) ?_|refine tw_ldS rfl rfl G2.out (wdA rfl) ?_|refine tw_ldS rfl rfl G3.out (wdA rfl) ?_|refine tw_ldS rfl rfl G4.out (wdA rfl) ?_|refine tw_eqS n.space space _ H1.out rfl rfl rfl (wdA rfl) ?_|refine tw_eqS n.name name _ H2.out rfl rfl rfl (wdA rfl) ?_|refine tw_skip (wd_no rfl rfl rfl) ?_|refine tw_mv (.inl rfl) rfl (wdA rfl) ?_|refine tw_mv (.inr rfl) rfl (wdA rfl) ?_|refine tw_pickL rfl rfl rfl (wdA rfl) ?_|refine tw_op1 _ rfl rfl (wdA rfl) (fun ρ W hW h1=>by simp only [execOp,h1];go_simp;first|done|rfl) ?_|refine tw_op2 _ rfl rfl rfl (wdA rfl) (fun ρ W hW h1 h2=>by simp only [execOp,h1,h2];go_simp;first|done|rfl) ?_)
  dsimp only [wpT,List.reverse,List.reverseAux,FinT]
  intro W7 hW7 _
  simp only [Act.put,List.setIfInBounds_toArray,List.set_cons_zero,List.set_cons_succ]
  have X7:=Lib.hid (ext_below hW7)
  clear hW7 G1 G2 G3 G4
  go_wp2
  go_ret
  exact⟨ret_bool (by rw [HG.out];rfl),X7.out⟩
set_option maxHeartbeats 2000000 in
set_option maxRecDepth 10000 in
theorem first_any (l:List (List NodeL)) (A:Option Addr) (c:Nat) (space name:ByteArray) (w:World) (hr:RdW w w.heap.size A l) (hn:l.length≤1000000000) (h0:∀v∈l,0 < v.length) :
  Calls Tryz.prog 46 #[.slice A l.length c,.string space,.string name] w (FirstPost space name l w):=by
 obtain⟨W0,hW0⟩:∃W0,W0=(w.alloc (.cells #[.string space] 9)).alloc (.cells #[.string name] 9):=⟨_,rfl⟩
 have hX0:Below w.heap.size w W0:=by rw [hW0];exact((Below.refl _ _).alloc (Nat.le_refl _) _).alloc (by simp) _
 have hB0:W0.heap[w.heap.size]? = some (.cells #[.string space] 9 (0,0)):=by rw [hW0];exact al_at w _ _ _ rfl ((Below.refl _ _).alloc (by simp) _)
 have hB1:W0.heap[w.heap.size+1]? = some (.cells #[.string name] 9 (0,0)):=by rw [hW0];exact al_at (w.alloc (.cells #[.string space] 9)) _ _ _ (by simp) (Below.refl _ _)
 have eg:=enters_of (P:=Tryz.prog) Tryz.func99 (by kernel_rfl) rfl
 have H:=Lib.hid (idxT_any 99 #[.pointer (some ⟨w.heap.size,0,none⟩),.pointer (some ⟨w.heap.size+1,0,none⟩)] A c l (isEl space name) W0 (RdW.ext hr hX0) hn eg
  (fun W i x A' c' hW hx hl hA=>(first1_any x A' c' space name w.heap.size (w.heap.size+1) W (h0 x (List.mem_of_getElem? hx)) ((hA.below hW (Nat.le_refl _)).more hW.size) (by simp [World.cell?,heap_ext hB0 hW]) (by simp [World.cell?,heap_ext hB1 hW])).mono fun e w' h=>⟨h.1,hW.trans (h.2.mono hW.size)⟩))
 have HX0:=Lib.hid hX0
 have HR:=Lib.hid hr
 have HW0:=Lib.hid hW0
 clear hW0 hX0 hB0 hB1 eg hr h0
 cases hf:fstP (isEl space name) l with
 | none=>
  rw [hf] at H
  have HF:=Lib.hid hf
  unfold placeI at H
  clear hf
  go_enter Tryz.func46,Tryz.ntmps46
  go_wp2_with fail
  rw [←HW0.out]
  refine H.out.mono ?_
  rintro e w1 ⟨rfl,hb1⟩
  have X1:=Lib.hid (HX0.out.trans (hb1.mono HX0.out.size))
  clear hb1
  go_wp2
  go_ret2
  exact FirstPost.no X1.out HF.out
 | some i=>
  obtain⟨x,hx,-,-⟩:=fstP_some hf
  have hil:=(List.getElem?_eq_some_iff.1 hx).1
  rw [hf] at H
  have HF:=Lib.hid hf
  have HX:=Lib.hid hx
  unfold placeI at H
  obtain⟨b,off,rfl,hb,hcc⟩:=HR.out (by omega)
  obtain⟨A',c',d0,hl',hA'⟩:=hcc i x hx
  have D0:=Lib.hid d0
  have HL:=Lib.hid hl'
  have HA:=Lib.hid hA'
  have hi0:¬(i:Int) < 0:=by omega
  clear hf hx hcc d0 hl' hA'
  go_enter Tryz.func46,Tryz.ntmps46
  go_wp2_with fail
  rw [←HW0.out]
  refine H.out.mono ?_
  rintro e w1 ⟨rfl,hb1⟩
  have X1:=Lib.hid (HX0.out.trans (hb1.mono HX0.out.size))
  have e0:=(X1.out.cell (p:=⟨b,off+i,none⟩) hb).trans D0.out
  clear hb1
  go_wp2
  go_ret2
  exact FirstPost.yes X1.out HF.out HX.out HL.out ((HA.out.below X1.out (Nat.le_refl _)).more X1.out.size)
set_option maxHeartbeats 2000000 in
set_option maxRecDepth 10000 in
theorem reffirst_any (l:List (List NodeL)) (A:Option Addr) (c:Nat) (space name:ByteArray) (w:World) (hr:RdW w w.heap.size A l) (hn:l.length≤1000000000) (h0:∀v∈l,0 < v.length) :
  Calls Tryz.prog 103 #[.slice A l.length c,.string space,.string name] w (FirstPost space name l w):=by
 have HR:=Lib.hid hr
 have HH:=Lib.hid h0
 clear hr h0
 go_enter Tryz.func103,Tryz.ntmps103
 go_wp2
 go_loop [8] (fun s8=>∃k:Nat,k≤l.length∧s8=.int .i64 k∧Hid (∀(j:Nat) (y:List NodeL),j < k→l[j]? = some y→isEl space name y=false)) (fun s8=>l.length - (intOf s8).toNat)
 case atStart=>exact⟨0,Nat.zero_le _,rfl,Lib.hid (fun j y hj=>absurd hj (by omega))⟩
 case round=>
  obtain⟨k,hk,rfl,HN⟩:=hrel
  by_cases hlt:k < l.length
  ·obtain⟨x,hx⟩:∃x,l[k]? = some x:=⟨_,List.getElem?_eq_getElem hlt⟩
   have HX:=Lib.hid hx
   obtain⟨b,off,rfl,hb,hcc⟩:=HR.out (by omega)
   obtain⟨A',c',e0,hl',hA'⟩:=hcc k x hx
   have h0:=HH.out x (List.mem_of_getElem? hx)
   obtain⟨n,hn1⟩:∃n,x[0]? = some n:=⟨_,List.getElem?_eq_getElem h0⟩
   have HG:Box (isEl space name x=((n.space.toList == space.toList) && (n.name.toList == name.toList))):=⟨by
    have e:nodeAt x 0=n:=by unfold nodeAt;rw [List.getD_eq_getElem?_getD,hn1];rfl
    unfold isEl
    rw [e]⟩
   have HL:=Lib.hid hl'
   have HA:=Lib.hid hA'
   obtain⟨b1,o1,rfl,hb1,hc1⟩:=hA' h0
   obtain⟨d0,d1,d2,-⟩:=hc1 0 n hn1
   rw [Nat.zero_mul,Nat.add_zero] at d1 d2
   have h0i:(0:Int) < (x.length:Int):=by omega
   have HNX:Hid (isEl space name x=false→∀(j:Nat) (y:List NodeL),j < k+1→l[j]? = some y→isEl space name y=false):=Lib.hid (fun h j y hj hy=>by
    rcases Nat.lt_or_ge j k with h1|h1
    ·exact HN.out j y h1 hy
    ·obtain rfl:j=k:=by omega
     rw [HX.out] at hy
     simp only [Option.some.injEq] at hy
     rw [←hy];exact h)
   have HFX:Hid (isEl space name x=true→fstP (isEl space name) l=some k):=Lib.hid (fun h=>fstP_is HX.out h HN.out)
   clear hx hcc hn1 hc1 hl' hA' d0
   generalize isEl space name x=r at *
   cases h1:(n.space.toList == space.toList)
   ·have HY:=Lib.hid (HNX.out (by rw [HG.out,h1];rfl))
    clear HG HNX HFX
    go_wp2
    go_round
    case rel=>exact⟨k+1,by omega,by go_num,HY⟩
    case measure=>simp [intOf];omega
   ·cases h2:(n.name.toList == name.toList)
    ·have HY:=Lib.hid (HNX.out (by rw [HG.out,h1,h2];rfl))
     clear HG HNX HFX
     go_wp2
     go_round
     case rel=>exact⟨k+1,by omega,by go_num,HY⟩
     case measure=>simp [intOf];omega
    ·have HY:=Lib.hid (HFX.out (by rw [HG.out,h1,h2];rfl))
     clear HG HNX HFX
     go_wp2
     go_ret2
     exact FirstPost.yes (Below.refl _ _) HY.out HX.out HL.out HA.out
  ·have HY:=Lib.hid (FirstPost.no (w:=w) (Below.refl _ _) (fstP_not (fun j y hy=>HN.out j y (by have:=(List.getElem?_eq_some_iff.1 hy).1;omega) hy)))
   obtain rfl:k=l.length:=by omega
   go_wp2
   go_ret2
   exact HY.out
end Go.Proofs.YtnmnpnofdgdigaaGreatDoor
end
