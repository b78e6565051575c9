/- Part 18 of a proof laid in parts, one behind the other; no condition of its own. -/
import Derived.Test.YtnmnpnofdgdigaaGreatDoorZ17
import Derived.Laws.StructEq
import Derived.Test.YtnmnpnofdgdigaaGreatDoorZ16
import Derived.Deep.RegionHeld3
import Derived.Deep.Cut
import Derived.Test.YtnmnpnofdgdigaaGreatDoorZ14
import Derived.Laws.Tables
import Derived.Laws.CopyOwn
set_option linter.all false
section
namespace Go.Proofs.YtnmnpnofdgdigaaGreatDoor
open Go.RowKit
set_option linter.unusedSimpArgs false
set_option linter.unusedVariables false
section
variable {ops:Array Oper} {w0:World} {Fin:List Ty→Prop} {rest:List Oper} {E:Env} {Ts:List Ty} {o:Oper}
theorem tw_ixA {x y:Operand} {b off n c k:Nat} (hk:k < n) (hn:n≤1000000000) (hop:o.op=.indexAddr 34 x y) (hx:evalE E x=some (.slice (some ⟨b,off,none⟩) n c)) (hy:evalE E y=some (.int .i64 (k:Int))) (hw:Wd ops o E true)
  (hr:wpT Tryz.prog ops w0 Fin rest (E.put o.dst (.inl (.pointer (some ⟨b,off+k*3,none⟩)))) (.inl (.pointer (some ⟨b,off+k*3,none⟩)) :: Ts)):wpT Tryz.prog ops w0 Fin (o :: rest) E Ts:=
 tw_pure _ hw (fun a W hW hs=>by
  have h1:a.eval x=_:=evalE_of hx (by rw [hop];simp [Op.operands]) hs
  have h2:a.eval y=_:=evalE_of hy (by rw [hop];simp [Op.operands]) hs
  unfold execOp
  simp only [hop,h1,h2]
  go_simp) hr
theorem tw_ixN {x y:Operand} {b off n c k:Nat} (hk:k < n) (hn:n≤1000000000) (hop:o.op=.indexAddr 22 x y) (hx:evalE E x=some (.slice (some ⟨b,off,none⟩) n c)) (hy:evalE E y=some (.int .i64 (k:Int))) (hw:Wd ops o E true)
  (hr:wpT Tryz.prog ops w0 Fin rest (E.put o.dst (.inl (.pointer (some ⟨b,off+k*6,none⟩)))) (.inl (.pointer (some ⟨b,off+k*6,none⟩)) :: Ts)):wpT Tryz.prog ops w0 Fin (o :: rest) E Ts:=
 tw_pure _ hw (fun a W hW hs=>by
  have h1:a.eval x=_:=evalE_of hx (by rw [hop];simp [Op.operands]) hs
  have h2:a.eval y=_:=evalE_of hy (by rw [hop];simp [Op.operands]) hs
  unfold execOp
  simp only [hop,h1,h2]
  go_simp) hr
theorem tw_neqU {x y:Operand} {i:Int} (hop:o.op=.binOp .neq 5 x y 5) (hx:evalE E x=some (.int .u8 i)) (hy:evalE E y=some (.int .u8 i)) (hw:Wd ops o E true)
  (hr:wpT Tryz.prog ops w0 Fin rest (E.put o.dst (.inl (.bool false))) (.inl (.bool false) :: Ts)):wpT Tryz.prog ops w0 Fin (o :: rest) E Ts:=
 tw_pure _ hw (fun a W hW hs=>by
  have h1:a.eval x=_:=evalE_of hx (by rw [hop];simp [Op.operands]) hs
  have h2:a.eval y=_:=evalE_of hy (by rw [hop];simp [Op.operands]) hs
  unfold execOp
  simp only [hop,h1,h2]
  go_simp) hr
theorem tw_neqI {x y:Operand} {i:Int} (hop:o.op=.binOp .neq 3 x y 3) (hx:evalE E x=some (.int .i64 i)) (hy:evalE E y=some (.int .i64 i)) (hw:Wd ops o E true)
  (hr:wpT Tryz.prog ops w0 Fin rest (E.put o.dst (.inl (.bool false))) (.inl (.bool false) :: Ts)):wpT Tryz.prog ops w0 Fin (o :: rest) E Ts:=
 tw_pure _ hw (fun a W hW hs=>by
  have h1:a.eval x=_:=evalE_of hx (by rw [hop];simp [Op.operands]) hs
  have h2:a.eval y=_:=evalE_of hy (by rw [hop];simp [Op.operands]) hs
  unfold execOp
  simp only [hop,h1,h2]
  go_simp) hr
theorem tw_neqS {x y:Operand} {s:ByteArray} (hop:o.op=.binOp .neq 9 x y 9) (hx:evalE E x=some (.string s)) (hy:evalE E y=some (.string s)) (hw:Wd ops o E true)
  (hr:wpT Tryz.prog ops w0 Fin rest (E.put o.dst (.inl (.bool false))) (.inl (.bool false) :: Ts)):wpT Tryz.prog ops w0 Fin (o :: rest) E Ts:=
 tw_pure _ hw (fun a W hW hs=>by
  have h1:a.eval x=_:=evalE_of hx (by rw [hop];simp [Op.operands]) hs
  have h2:a.eval y=_:=evalE_of hy (by rw [hop];simp [Op.operands]) hs
  unfold execOp
  simp only [hop,h1,h2]
  go_simp) hr
theorem tw_ldAt {x:Operand} {b off:Nat} {t:AttrL} (hop:o.op=.load 75 x) (hE:evalE E x=some (.pointer (some ⟨b,off,none⟩))) (hc:∀W,Ext w0 W→AtAt W b off t) (hw:Wd ops o E true)
  (hr:wpT Tryz.prog ops w0 Fin rest (E.put o.dst (.inl (encA t))) (.inl (encA t) :: Ts)):wpT Tryz.prog ops w0 Fin (o :: rest) E Ts:=
 tw_pure _ hw (fun a W hW hs=>by
  have h1:a.eval x=_:=evalE_of hE (by rw [hop];simp [Op.operands]) hs
  obtain⟨c0,c1,c2⟩:=hc W hW
  unfold execOp encA
  simp only [hop,h1]
  go_simp) hr
theorem tw_neqA {x y:Operand} {t:AttrL} (hop:o.op=.binOp .neq 75 x y 75) (hx:evalE E x=some (encA t)) (hy:evalE E y=some (encA t)) (hw:Wd ops o E true)
  (hr:wpT Tryz.prog ops w0 Fin rest (E.put o.dst (.inl (.bool false))) (.inl (.bool false) :: Ts)):wpT Tryz.prog ops w0 Fin (o :: rest) E Ts:=
 tw_pure _ hw (fun a W hW hs=>by
  have h1:a.eval x=_:=evalE_of hx (by rw [hop];simp [Op.operands]) hs
  have h2:a.eval y=_:=evalE_of hy (by rw [hop];simp [Op.operands]) hs
  unfold encA at h1 h2
  unfold execOp
  simp only [hop,h1,h2]
  go_simp) hr
end
set_option maxHeartbeats 8000000 in
set_option maxRecDepth 10000 in
theorem sameattrs_one (l:List AttrL) (A1 A2:Option Addr) (c1 c2:Nat) (w:World) (h1:RdA w w.heap.size A1 l) (h2:RdA w w.heap.size A2 l) (hn:l.length≤1000000000) :
  Calls Tryz.prog 37 #[.slice A1 l.length c1,.slice A2 l.length c2] w fun e w'=>e=.returned (.bool true)∧Below w.heap.size w w':=by
 have H1:=Lib.hid h1
 have H2:=Lib.hid h2
 clear h1 h2
 go_enter Tryz.func37,Tryz.ntmps37
 go_wp2
 go_loopw [5] (fun s5 wr=>∃k:Nat,k≤l.length∧s5=.int .i64 k∧Hid (Below w.heap.size w wr)) (fun s5 _=>l.length - (intOf s5).toNat)
 case atStart=>exact⟨0,Nat.zero_le _,rfl,Lib.hid (Below.refl _ _)⟩
 case round=>
  obtain⟨k,hk,rfl,HB⟩:=hrel
  by_cases hlt:k < l.length
  ·obtain⟨a,ha⟩:∃a,l[k]? = some a:=⟨_,List.getElem?_eq_getElem hlt⟩
   obtain⟨b1,o1,rfl,hb1,hc1⟩:=H1.out (by omega)
   obtain⟨b2,o2,rfl,hb2,hc2⟩:=H2.out (by omega)
   obtain⟨d0,d1,d2⟩:=hc1 k a ha
   obtain⟨f0,f1,f2⟩:=hc2 k a ha
   have G1:=Lib.hid (fun W (hW:Ext wr.drew W)=>(show AtAt W b1 (o1+k*3) a from(hc1 k a ha).keep hb1 (fun p hp=>(HB.out.trans ((ext_below hW).mono HB.out.size)).cell hp)))
   have G2:=Lib.hid (fun W (hW:Ext wr.drew W)=>(show AtAt W b2 (o2+k*3) a from(hc2 k a ha).keep hb2 (fun p hp=>(HB.out.trans ((ext_below hW).mono HB.out.size)).cell hp)))
   clear d0 d1 d2 f0 f1 f2 hc1 hc2 ha
   go_wp2
   refine wp_region_typed rfl (by kernel_rfl) (by kernel_rfl) ?_
   repeat (first|refine tw_ixA hlt hn rfl rfl rfl (wdA rfl) ?_|refine tw_ldAt rfl rfl G1.out (wdA rfl) ?_|refine tw_ldAt rfl rfl G2.out (wdA rfl) ?_|refine tw_neqA rfl rfl rfl (wdA rfl) ?_|refine tw_skip (wd_no rfl rfl rfl) ?_|refine tw_mv (.inl rfl) rfl (wdA rfl) ?_|refine tw_mv (.inr rfl) rfl (wdA rfl) ?_|refine tw_pickL rfl rfl rfl (wdA rfl) ?_|refine tw_op1 _ rfl rfl (wdA rfl) (fun ρ W hW h1=>by simp only [execOp,h1];go_simp;first|done|rfl) ?_|refine tw_op2 _ rfl rfl rfl (wdA rfl) (fun ρ W hW h1 h2=>by simp only [execOp,h1,h2];go_simp;first|done|rfl) ?_)
   dsimp only [wpT,List.reverse,List.reverseAux,FinT]
   intro W7 hW7 _
   simp only [Act.put,List.setIfInBounds_toArray,List.set_cons_zero,List.set_cons_succ]
   have HB7:=Lib.hid (HB.out.trans ((ext_below hW7).mono HB.out.size))
   clear hW7 G1 G2
   go_wp2
   go_roundw
   case rel=>exact⟨k+1,by omega,by go_num,HB7⟩
   case measure=>simp [intOf];omega
  ·obtain rfl:k=l.length:=by omega
   go_wp2
   go_ret
   exact⟨rfl,HB.out⟩
set_option maxHeartbeats 8000000 in
set_option maxRecDepth 10000 in
theorem same_one (v:List NodeL) (A1 A2:Option Addr) (c1 c2:Nat) (w:World) (h1:RdV w w.heap.size A1 v) (h2:RdV w w.heap.size A2 v) (hz:SzV 1000000000 v) :
  Calls Tryz.prog 11 #[.slice A1 v.length c1,.slice A2 v.length c2] w fun e w'=>e=.returned (.bool true)∧Below w.heap.size w w':=by
 have H1:=Lib.hid h1
 have H2:=Lib.hid h2
 have HZ:=Lib.hid hz
 have hn:=hz.1
 clear h1 h2 hz
 go_enter Tryz.func11,Tryz.ntmps11
 go_wp2
 go_loopw [5] (fun s5 wr=>∃k:Nat,k≤v.length∧s5=.int .i64 k∧Hid (Below w.heap.size w wr)) (fun s5 _=>v.length - (intOf s5).toNat)
 case atStart=>exact⟨0,Nat.zero_le _,rfl,Lib.hid (Below.refl _ _)⟩
 case round=>
  obtain⟨k,hk,rfl,HB⟩:=hrel
  by_cases hlt:k < v.length
  ·obtain⟨n,hnn⟩:∃n,v[k]? = some n:=⟨_,List.getElem?_eq_getElem hlt⟩
   have hat:=(szv_get HZ.out hnn).2.2.2.1.1
   obtain⟨b1,o1,rfl,hb1,hc1⟩:=(H1.out.below HB.out (Nat.le_refl _)) (by omega)
   obtain⟨b2,o2,rfl,hb2,hc2⟩:=(H2.out.below HB.out (Nat.le_refl _)) (by omega)
   obtain⟨d0,d1,d2,⟨A3,c3,d3,hl3,hA3⟩,d4,d5⟩:=hc1 k n hnn
   obtain⟨f0,f1,f2,⟨A4,c4,f3,hl4,hA4⟩,f4,f5⟩:=hc2 k n hnn
   have HSA:=Lib.hid (fun W (hW:Below wr.heap.size wr W)=>sameattrs_one n.attrs A3 A4 c3 c4 W ((hA3.more HB.out.size).below hW (Nat.le_refl _) |>.more hW.size) ((hA4.more HB.out.size).below hW (Nat.le_refl _) |>.more hW.size) hat)
   have ES:=Lib.hid (enters_of (P:=Tryz.prog) Tryz.func37 (by kernel_rfl) rfl)
   have hb1r:=Nat.lt_of_lt_of_le hb1 HB.out.size
   have hb2r:=Nat.lt_of_lt_of_le hb2 HB.out.size
   clear hc1 hc2 hnn hA3 hA4
   have G10:=Lib.hid (fun W (hW:Ext wr.drew W)=>((ext_below hW).cell (p:=⟨b1,o1+k*6,none⟩) hb1r).trans d0)
   have G11:=Lib.hid (fun W (hW:Ext wr.drew W)=>((ext_below hW).cell (p:=⟨b1,o1+k*6+1,none⟩) hb1r).trans d1)
   have G12:=Lib.hid (fun W (hW:Ext wr.drew W)=>((ext_below hW).cell (p:=⟨b1,o1+k*6+2,none⟩) hb1r).trans d2)
   have G13:=Lib.hid (fun W (hW:Ext wr.drew W)=>((ext_below hW).cell (p:=⟨b1,o1+k*6+3,none⟩) hb1r).trans d3)
   have G14:=Lib.hid (fun W (hW:Ext wr.drew W)=>((ext_below hW).cell (p:=⟨b1,o1+k*6+4,none⟩) hb1r).trans d4)
   have G15:=Lib.hid (fun W (hW:Ext wr.drew W)=>((ext_below hW).cell (p:=⟨b1,o1+k*6+5,none⟩) hb1r).trans d5)
   have G20:=Lib.hid (fun W (hW:Ext wr.drew W)=>((ext_below hW).cell (p:=⟨b2,o2+k*6,none⟩) hb2r).trans f0)
   have G21:=Lib.hid (fun W (hW:Ext wr.drew W)=>((ext_below hW).cell (p:=⟨b2,o2+k*6+1,none⟩) hb2r).trans f1)
   have G22:=Lib.hid (fun W (hW:Ext wr.drew W)=>((ext_below hW).cell (p:=⟨b2,o2+k*6+2,none⟩) hb2r).trans f2)
   have G23:=Lib.hid (fun W (hW:Ext wr.drew W)=>((ext_below hW).cell (p:=⟨b2,o2+k*6+3,none⟩) hb2r).trans f3)
   have G24:=Lib.hid (fun W (hW:Ext wr.drew W)=>((ext_below hW).cell (p:=⟨b2,o2+k*6+4,none⟩) hb2r).trans f4)
   have G25:=Lib.hid (fun W (hW:Ext wr.drew W)=>((ext_below hW).cell (p:=⟨b2,o2+k*6+5,none⟩) hb2r).trans f5)
   clear d0 d1 d2 d3 d4 d5 f0 f1 f2 f3 f4 f5
   go_wp2
   refine wp_region_typed rfl (by kernel_rfl) (by kernel_rfl) ?_
   repeat (first|refine tw_ixN hlt hn rfl rfl rfl (wdA rfl) ?_|refine tw_ldU rfl rfl G10.out (wdA rfl) ?_|refine tw_ldU rfl rfl G20.out (wdA rfl) ?_|refine tw_ldS rfl rfl G11.out (wdA rfl) ?_|refine tw_ldS rfl rfl G21.out (wdA rfl) ?_|refine tw_ldS rfl rfl G12.out (wdA rfl) ?_|refine tw_ldS rfl rfl G22.out (wdA rfl) ?_|refine tw_ldS rfl rfl G14.out (wdA rfl) ?_|refine tw_ldS rfl rfl G24.out (wdA rfl) ?_|refine tw_ldI rfl rfl G15.out (wdA rfl) ?_|refine tw_ldI rfl rfl G25.out (wdA rfl) ?_|refine tw_ldA rfl rfl G13.out (wdA rfl) ?_|refine tw_ldA rfl rfl G23.out (wdA rfl) ?_|refine tw_neqU rfl rfl rfl (wdA rfl) ?_|refine tw_neqI rfl rfl rfl (wdA rfl) ?_|refine tw_neqS rfl rfl rfl (wdA rfl) ?_|refine tw_fnB #[.slice A3 n.attrs.length c3,.slice A4 n.attrs.length c4] (.bool true) rfl (fun W=>ES.out _ W) rfl (wdA rfl) (fun W hW=>HSA.out W (ext_below hW)) ?_|refine tw_skip (wd_no rfl rfl rfl) ?_|refine tw_mv (.inl rfl) rfl (wdA rfl) ?_|refine tw_mv (.inr rfl) rfl (wdA rfl) ?_|refine tw_pickL rfl rfl rfl (wdA rfl) ?_|refine tw_op1 _ rfl rfl (wdA rfl) (fun ρ W hW h1=>by simp only [execOp,h1];go_simp;first|done|rfl) ?_|refine tw_op2 _ rfl rfl rfl (wdA rfl) (fun ρ W hW h1 h2=>by simp only [execOp,h1,h2];go_simp;first|done|rfl) ?_)
   dsimp only [wpT,List.reverse,List.reverseAux,FinT]
   intro W7 hW7 _
   simp only [Act.put,List.setIfInBounds_toArray,List.set_cons_zero,List.set_cons_succ]
   have HB1:=Lib.hid (HB.out.trans ((ext_below hW7).mono HB.out.size))
   clear hW7 G10 G11 G12 G13 G14 G15 G20 G21 G22 G23 G24 G25
   go_wp2
   go_roundw
   case rel=>exact⟨k+1,by omega,by go_num,HB1⟩
   case measure=>simp [intOf];omega
  ·obtain rfl:k=v.length:=by omega
   go_wp2
   go_ret
   exact⟨rfl,HB.out⟩
end Go.Proofs.YtnmnpnofdgdigaaGreatDoor
end
section
namespace Go.Proofs.YtnmnpnofdgdigaaGreatDoor
open Go.RowKit
set_option linter.unusedSimpArgs false
set_option linter.unusedVariables false
def SmallN (n:NodeL):Prop:=n.space.size≤2000∧n.name.size≤2000∧n.text.size≤2000∧n.attrs.length≤30∧∀(i:Nat) (a:AttrL),i < n.attrs.length→n.attrs[i]? = some a→SzA 2000 a
section
variable {ops:Array Oper} {w0:World} {Fin:List Ty→Prop} {rest:List Oper} {E:Env} {Ts:List Ty} {o:Oper}
end
def GreatPost (v:List NodeL) (w:World) (e:Ending) (w':World):Prop:=
 ∃g,e=.returned (.bool g)∧Below w.heap.size w w'∧(g=false→v.length≤60∧∀(i:Nat) (n:NodeL),i < v.length→v[i]? = some n→SmallN n)
theorem GreatPost.no {v:List NodeL} {w w':World} (h:Below w.heap.size w w') (h1:v.length≤60) (h2:∀(i:Nat) (n:NodeL),i < v.length→v[i]? = some n→SmallN n):GreatPost v w (.returned (.bool false)) w':=⟨false,rfl,h,fun _=>⟨h1,h2⟩⟩
end Go.Proofs.YtnmnpnofdgdigaaGreatDoor
end
section
namespace Go.Proofs.YtnmnpnofdgdigaaGreatDoor
open Go.RowKit
set_option linter.unusedSimpArgs false
set_option linter.unusedVariables false
def isEl (space name:ByteArray) (v:List NodeL):Bool:=((nodeAt v 0).space.toList == space.toList) && ((nodeAt v 0).name.toList == name.toList)
def firstV (space name:ByteArray) (l:List (List NodeL)):List NodeL:=match fstP (isEl space name) l with
 | some i=>l.getD i []
 | none=>[]
def firstB (space name:ByteArray) (l:List (List NodeL)):Bool:=(fstP (isEl space name) l).isSome
def FirstPost (space name:ByteArray) (l:List (List NodeL)) (w:World) (e:Ending) (w':World):Prop:=
 ∃A c,e=.returned (.tuple #[.slice A (firstV space name l).length c,.bool (firstB space name l)])∧(firstV space name l).length≤c∧RdV w' w'.heap.size A (firstV space name l)∧Below w.heap.size w w'
theorem FirstPost.no {space name:ByteArray} {l:List (List NodeL)} {w w':World} (h:Below w.heap.size w w') (h1:fstP (isEl space name) l=none):FirstPost space name l w (.returned (.tuple #[.slice none 0 0,.bool false])) w':=by
 unfold FirstPost firstV firstB
 rw [h1]
 exact⟨none,0,rfl,Nat.le_refl _,fun h=>absurd h (by simp),h⟩
end Go.Proofs.YtnmnpnofdgdigaaGreatDoor
end
section
namespace Go.Proofs.YtnmnpnofdgdigaaGreatDoor
open Go.RowKit
set_option linter.unusedSimpArgs false
set_option linter.unusedVariables false
def prioV (s:StL):List NodeL:=firstV (⟨#[106,97,98,98,101,114,58,99,108,105,101,110,116]⟩:ByteArray) (⟨#[112,114,105,111,114,105,116,121]⟩:ByteArray) s.load
def prioB (s:StL):Bool:=firstB (⟨#[106,97,98,98,101,114,58,99,108,105,101,110,116]⟩:ByteArray) (⟨#[112,114,105,111,114,105,116,121]⟩:ByteArray) s.load
def lvV (s:StL):Int:=if prioB s then levV (saidI (prioV s)) else 0
def lvB (s:StL):Bool:=!prioB s || levOK (saidI (prioV s))
def prV (s:StL):Int:=if stnI s && decide (s.kind=2) && lvB s then lvV s else 0
def prE (s:StL):Int:=if stnI s then(if s.kind=2 then(if lvB s then 0 else 220) else 2) else 8
def PrioPost (s:StL) (w:World) (e:Ending) (w':World):Prop:=e=.returned (.tuple #[.int .i64 (prV s),.int .i64 (prE s)])∧Below w.heap.size w w'
theorem PrioPost.bad {s:StL} {w w':World} (h:stnI s=false) (hb:Below w.heap.size w w'):PrioPost s w (.returned (.tuple #[.int .i64 0,.int .i64 8])) w':=by
 unfold PrioPost prV prE
 rw [h]
 exact⟨rfl,hb⟩
theorem PrioPost.kind {s:StL} {w w':World} (h:stnI s=true) (hk:¬s.kind=2) (hb:Below w.heap.size w w'):PrioPost s w (.returned (.tuple #[.int .i64 0,.int .i64 2])) w':=by
 unfold PrioPost prV prE
 rw [h,decide_eq_false hk,if_pos rfl,if_neg hk]
 exact⟨rfl,hb⟩
theorem PrioPost.none {s:StL} {w w':World} (h:stnI s=true) (hk:s.kind=2) (hp:prioB s=false) (hb:Below w.heap.size w w'):PrioPost s w (.returned (.tuple #[.int .i64 0,.int .i64 0])) w':=by
 unfold PrioPost prV prE lvB lvV
 rw [h,decide_eq_true hk,if_pos rfl,if_pos hk,hp]
 exact⟨rfl,hb⟩
theorem PrioPost.no {s:StL} {w w':World} (h:stnI s=true) (hk:s.kind=2) (hp:prioB s=true) (hl:levOK (saidI (prioV s))=false) (hb:Below w.heap.size w w'):PrioPost s w (.returned (.tuple #[.int .i64 0,.int .i64 220])) w':=by
 unfold PrioPost prV prE lvB lvV
 rw [h,decide_eq_true hk,if_pos rfl,if_pos hk,hp,hl]
 exact⟨rfl,hb⟩
end Go.Proofs.YtnmnpnofdgdigaaGreatDoor
end
section
namespace Go.Proofs.YtnmnpnofdgdigaaGreatDoor
structure WantL where
 kind:Int
 res:ByteArray
 jid:ByteArray
 name:ByteArray
 groups:List ByteArray
 gone:Bool
end Go.Proofs.YtnmnpnofdgdigaaGreatDoor
end
section
namespace Go.Proofs.YtnmnpnofdgdigaaGreatDoor
open Go.RowKit
set_option linter.unusedSimpArgs false
set_option linter.unusedVariables false
set_option maxHeartbeats 2000000 in
set_option maxRecDepth 10000 in
theorem same04_one (l:List ByteArray) (A1 A2:Option Addr) (c1 c2:Nat) (w:World) (h1:RdS w A1 l) (h2:RdS w A2 l) (hn:l.length≤1000000000) :
  Calls Tryz.prog 113 #[.slice A1 l.length c1,.slice A2 l.length c2] w fun e w'=>e=.returned (.bool true)∧Below w.heap.size w w':=by
 have H1:=Lib.hid h1
 have H2:=Lib.hid h2
 clear h1 h2
 go_enter Tryz.func113,Tryz.ntmps113
 go_wp2
 go_loopw [5] (fun s5 wr=>∃k:Nat,k≤l.length∧s5=.int .i64 k∧Hid (Below w.heap.size w wr)) (fun s5 _=>l.length - (intOf s5).toNat)
 case atStart=>exact⟨0,Nat.zero_le _,rfl,Lib.hid (Below.refl _ _)⟩
 case round=>
  obtain⟨k,hk,rfl,HB⟩:=hrel
  by_cases hlt:k < l.length
  ·obtain⟨s,hs⟩:∃s,l[k]? = some s:=⟨_,List.getElem?_eq_getElem hlt⟩
   obtain⟨b1,o1,rfl,hb1,hc1⟩:=H1.out (by omega)
   obtain⟨b2,o2,rfl,hb2,hc2⟩:=H2.out (by omega)
   have G1:=Lib.hid (fun W (hW:Ext wr.drew W)=>((HB.out.trans ((ext_below hW).mono HB.out.size)).cell (p:=⟨b1,o1+k,none⟩) hb1).trans (hc1 k s hs))
   have G2:=Lib.hid (fun W (hW:Ext wr.drew W)=>((HB.out.trans ((ext_below hW).mono HB.out.size)).cell (p:=⟨b2,o2+k,none⟩) hb2).trans (hc2 k s hs))
   clear hc1 hc2 hs
   go_wp2
   refine wp_region_typed rfl (by kernel_rfl) (by kernel_rfl) ?_
   repeat (first|refine tw_ixS hlt rfl rfl rfl (wdA rfl) ?_|refine tw_ldS rfl rfl G1.out (wdA rfl) ?_|refine tw_ldS rfl rfl G2.out (wdA rfl) ?_|refine tw_neqS rfl rfl rfl (wdA rfl) ?_|refine tw_skip (wd_no rfl rfl rfl) ?_|refine tw_mv (.inl rfl) rfl (wdA rfl) ?_|refine tw_mv (.inr rfl) rfl (wdA rfl) ?_|refine tw_pickL rfl rfl rfl (wdA rfl) ?_|refine tw_op1 _ rfl rfl (wdA rfl) (fun ρ W hW h1=>by simp only [execOp,h1];go_simp;first|done|rfl) ?_|refine tw_op2 _ rfl rfl rfl (wdA rfl) (fun ρ W hW h1 h2=>by simp only [execOp,h1,h2];go_simp;first|done|rfl) ?_)
   dsimp only [wpT,List.reverse,List.reverseAux,FinT]
   intro W7 hW7 _
   simp only [Act.put,List.setIfInBounds_toArray,List.set_cons_zero,List.set_cons_succ]
   have HB7:=Lib.hid (HB.out.trans ((ext_below hW7).mono HB.out.size))
   clear hW7 G1 G2
   go_wp2
   go_roundw
   case rel=>exact⟨k+1,by omega,by go_num,HB7⟩
   case measure=>simp [intOf];omega
  ·obtain rfl:k=l.length:=by omega
   go_wp2
   go_ret
   exact⟨rfl,HB.out⟩
def Row (w:World) (g:Nat) (cs:Array Value):Prop:=∃t,w.heap[g]? = some (.cells cs t (0,0))
section
variable {w w':World} {g:Nat} {cs:Array Value}
theorem Row.at' {v:Value} (h:Row w g cs) (i:Nat) (hv:cs[i]? = some v):w.cell? ⟨g,i,none⟩=some v:=by
 obtain⟨t,h⟩:=h
 rw [cell_of_row w g i cs t (0,0) h]
 exact hv
theorem Row.fz (h:Row w g cs) (i:Nat):w.frozen? ⟨g,i,none⟩=false:=by obtain⟨t,h⟩:=h;exact frozen_of_row w g i _ _ h
theorem Row.lt (h:Row w g cs):g < w.heap.size:=by obtain⟨t,h⟩:=h;exact(Array.getElem?_eq_some_iff.1 h).1
theorem Row.ext (h:Row w g cs) (hb:Below w.heap.size w w'):Row w' g cs:=by obtain⟨t,h⟩:=h;exact⟨t,heap_ext h hb⟩
theorem Row.extB {B:Nat} (h:Row w g cs) (hb:Below B w w') (hg:g < B):Row w' g cs:=by obtain⟨t,h⟩:=h;exact⟨t,(hb.block g hg).trans h⟩
theorem Row.set (h:Row w g cs) (i:Nat) (v:Value):Row (w.setCell ⟨g,i,none⟩ v) g (cs.setIfInBounds i v):=by obtain⟨t,h⟩:=h;exact⟨t,heap_setCell_same w g i _ _ _ h⟩
theorem Row.other (h:Row w g cs) {k:Nat} (hk:g≠k) (i:Nat) (v:Value):Row (w.setCell ⟨k,i,none⟩ v) g cs:=by obtain⟨t,h⟩:=h;exact⟨t,(heap_setCell_other w _ g _ hk).trans h⟩
theorem Row.new (w:World) (t:TypeId) (cs:Array Value):Row (w.alloc (.cells cs t)) w.heap.size cs:=⟨t,heap_alloc_new w _⟩
end
end Go.Proofs.YtnmnpnofdgdigaaGreatDoor
end
section
namespace Go.Proofs.YtnmnpnofdgdigaaGreatDoor
open Go.RowKit
set_option linter.unusedSimpArgs false
set_option linter.unusedVariables false
def cmp3 (x0 x1 x2 y0 y1 y2:ByteArray):Int:=if cmpB x0 y0≠0 then cmpB x0 y0 else if cmpB x1 y1≠0 then cmpB x1 y1 else if cmpB x2 y2≠0 then cmpB x2 y2 else 0
set_option maxHeartbeats 2000000 in
theorem scmp_any (b1 b2:Nat) (x0 x1 x2 y0 y1 y2:ByteArray) (w:World) (hx0:w.cell? ⟨b1,0,none⟩=some (.string x0)) (hx1:w.cell? ⟨b1,1,none⟩=some (.string x1)) (hx2:w.cell? ⟨b1,2,none⟩=some (.string x2))
  (hy0:w.cell? ⟨b2,0,none⟩=some (.string y0)) (hy1:w.cell? ⟨b2,1,none⟩=some (.string y1)) (hy2:w.cell? ⟨b2,2,none⟩=some (.string y2)) :
  Calls Tryz.prog 203 #[.slice (some ⟨b1,0,none⟩) 3 3,.slice (some ⟨b2,0,none⟩) 3 3] w fun e w'=>e=.returned (.int .i64 (cmp3 x0 x1 x2 y0 y1 y2))∧w'=w:=by
 have HC:Box (cmp3 x0 x1 x2 y0 y1 y2=if cmpB x0 y0≠0 then cmpB x0 y0 else if cmpB x1 y1≠0 then cmpB x1 y1 else if cmpB x2 y2≠0 then cmpB x2 y2 else 0):=⟨rfl⟩
 have H0:=Lib.hid (fun W=>cmp_any x0 y0 W)
 have H1:=Lib.hid (fun W=>cmp_any x1 y1 W)
 have H2:=Lib.hid (fun W=>cmp_any x2 y2 W)
 generalize cmp3 x0 x1 x2 y0 y1 y2=r at *
 generalize cmpB x0 y0=q0 at *
 generalize cmpB x1 y1=q1 at *
 generalize cmpB x2 y2=q2 at *
 go_enter Tryz.func203,Tryz.ntmps203
 go_wp2
 refine wp_loop_rounds 4 ?_
 rw [rounds_succ]
 go_wp2_with fail
 refine(H0.out _).mono ?_
 rintro e w1 ⟨rfl,rfl⟩
 by_cases h0:q0=0
 ·have h0n:(q0 != 0)=false:=by simp [h0]
  have HC1:Box (r=if q1≠0 then q1 else if q2≠0 then q2 else 0):=⟨by rw [HC.out,if_neg (by omega)]⟩
  clear HC h0
  go_wp2
  rw [rounds_succ]
  go_wp2_with fail
  refine(H1.out _).mono ?_
  rintro e w1 ⟨rfl,rfl⟩
  by_cases h1:q1=0
  ·have h1n:(q1 != 0)=false:=by simp [h1]
   have HC2:Box (r=if q2≠0 then q2 else 0):=⟨by rw [HC1.out,if_neg (by omega)]⟩
   clear HC1 h1
   go_wp2
   rw [rounds_succ]
   go_wp2_with fail
   refine(H2.out _).mono ?_
   rintro e w1 ⟨rfl,rfl⟩
   by_cases h2:q2=0
   ·have h2n:(q2 != 0)=false:=by simp [h2]
    have HC3:Box (r=0):=⟨by rw [HC2.out,if_neg (by omega)]⟩
    clear HC2 h2
    go_wp2
    rw [rounds_succ]
    go_wp2
    go_ret
    exact⟨ret_int HC3.out.symm,rfl⟩
   ·have h2n:(q2 != 0)=true:=by simp [h2]
    have HC3:Box (r=q2):=⟨by rw [HC2.out,if_pos h2]⟩
    clear HC2 h2
    go_wp2
    go_ret
    exact⟨ret_int HC3.out.symm,rfl⟩
  ·have h1n:(q1 != 0)=true:=by simp [h1]
   have HC3:Box (r=q1):=⟨by rw [HC1.out,if_pos h1]⟩
   clear HC1 h1
   go_wp2
   go_ret
   exact⟨ret_int HC3.out.symm,rfl⟩
 ·have h0n:(q0 != 0)=true:=by simp [h0]
  have HC3:Box (r=q0):=⟨by rw [HC.out,if_pos h0]⟩
  clear HC h0
  go_wp2
  go_ret
  exact⟨ret_int HC3.out.symm,rfl⟩
theorem cmpB_0 (a b:ByteArray):(cmpB a b=0)↔eqS a b=true:=by
 unfold cmpB lessB eqS
 cases h1:Op.bytesLess a.toList b.toList <;> cases h2:Op.bytesLess b.toList a.toList
 ·have:=less_tri _ _ h1 h2
  simp [this]
 ·simp
  intro e
  rw [e,less_irr] at h2
  exact absurd h2 (by decide)
 ·simp
  intro e
  rw [e,less_irr] at h1
  exact absurd h1 (by decide)
 ·simp
  intro e
  rw [e,less_irr] at h1
  exact absurd h1 (by decide)
theorem cmpB_neg (a b:ByteArray):decide (cmpB a b < 0)=lessB a b:=by
 unfold cmpB
 split
 ·rename_i h;rw [h];decide
 ·rename_i h
  simp only [Bool.not_eq_true] at h
  rw [h]
  split <;> decide
theorem cmp3_less (a b:JidL):decide (cmp3 a.dom a.loc a.res b.dom b.loc b.res < 0)=lessJ a b:=by
 unfold cmp3 lessJ
 by_cases h0:cmpB a.dom b.dom=0
 ·rw [if_neg (by omega),if_pos ((cmpB_0 _ _).1 h0)]
  by_cases h1:cmpB a.loc b.loc=0
  ·rw [if_neg (by omega),if_pos ((cmpB_0 _ _).1 h1),←cmpB_neg]
   by_cases h2:cmpB a.res b.res=0
   ·rw [if_neg (by omega),h2]
   ·rw [if_pos h2]
  ·rw [if_pos h1,if_neg (fun h=>h1 ((cmpB_0 _ _).2 h)),cmpB_neg]
 ·rw [if_pos h0,if_neg (fun h=>h0 ((cmpB_0 _ _).2 h)),cmpB_neg]
set_option maxHeartbeats 4000000 in
set_option maxRecDepth 10000 in
theorem less_any (a b:JidL) (w:World):Calls Tryz.prog 174 #[encJ a,encJ b] w fun e w'=>e=.returned (.bool (lessJ a b))∧Below w.heap.size w w':=by
 have HL:=Box.mk (cmp3_less a b)
 obtain⟨al,ad,ar⟩:=a
 obtain⟨bl,bd,br⟩:=b
 obtain⟨W0,hW0⟩:∃W0,W0=(w.alloc (.cells #[.string al,.string ad,.string ar] 102)).alloc (.cells #[.string bl,.string bd,.string br] 102):=⟨_,rfl⟩
 have hX0:Below w.heap.size w W0:=by rw [hW0];exact((Below.refl _ _).alloc (Nat.le_refl _) _).alloc (by simp) _
 have hR1:Row W0 w.heap.size #[.string al,.string ad,.string ar]:=by rw [hW0];exact(Row.new w _ _).ext ((Below.refl _ _).alloc (Nat.le_refl _) _)
 have hR2:Row W0 (w.heap.size+1) #[.string bl,.string bd,.string br]:=by
  rw [hW0]
  exact⟨_,al_at (w.alloc (.cells #[.string al,.string ad,.string ar] 102)) _ _ _ (by simp) (Below.refl _ _)⟩
 have HX0:=Lib.hid hX0
 have HW0:=Lib.hid hW0
 have R1:=Lib.hid hR1
 have R2:=Lib.hid hR2
 have hl1:=hR1.lt
 have hl2:=hR2.lt
 clear hX0 hW0 hR1 hR2
 unfold encJ
 dsimp only at HL
 generalize lessJ _ _=q at *
 go_enter Tryz.func174,Tryz.ntmps174
 go_upto_region 1 with fail
 rw [←HW0.out]
 have a0:W0.cell? ⟨w.heap.size,0,none⟩=some _:=R1.out.at' 0 rfl
 have a1:W0.cell? ⟨w.heap.size,1,none⟩=some _:=R1.out.at' 1 rfl
 have a2:W0.cell? ⟨w.heap.size,2,none⟩=some _:=R1.out.at' 2 rfl
 have b0:W0.cell? ⟨w.heap.size+1,0,none⟩=some _:=R2.out.at' 0 rfl
 have b1:W0.cell? ⟨w.heap.size+1,1,none⟩=some _:=R2.out.at' 1 rfl
 have b2:W0.cell? ⟨w.heap.size+1,2,none⟩=some _:=R2.out.at' 2 rfl
 go_region_held3 (fun w'=>w'.cell? ⟨w.heap.size,0,none⟩=some (.string al)∧w'.cell? ⟨w.heap.size,1,none⟩=some (.string ad)∧w'.cell? ⟨w.heap.size,2,none⟩=some (.string ar)∧w'.cell? ⟨w.heap.size+1,0,none⟩=some (.string bl)∧w'.cell? ⟨w.heap.size+1,1,none⟩=some (.string bd)∧w'.cell? ⟨w.heap.size+1,2,none⟩=some (.string br)) (go_keep) (fail)
 all_goals
  go_wp2_with fail
  go_region_held3 (fun _=>True) (trivial) ((go_at_call 203;refine(scmp_any _ _ ad al ar bd bl br _ (by simp) (by simp) (by simp) (by simp) (by simp) (by simp)).mono ?_;rintro e w' ⟨rfl,rfl⟩))
  go_wp2
  go_ret
  refine⟨ret_bool HL.out,?_⟩
  exact(((HX0.out.alloc HX0.out.size _).alloc (by have:=HX0.out.size;simp;omega) _).drew).drew
end Go.Proofs.YtnmnpnofdgdigaaGreatDoor
end
section
namespace Go.Proofs.YtnmnpnofdgdigaaGreatDoor.TI
open Go.RowKit
set_option linter.unusedSimpArgs false
set_option linter.unusedVariables false
def Fam (w0:World) (L:List (Nat×Array Value)):Nat→World→Prop:=fun i W=>match i with
 | 0=>w0.heap.size≤W.heap.size∧W.os=w0.os∧W.tape=w0.tape∧W.output=w0.output∧∀b,b < w0.heap.size→(∀x∈L,b≠x.1)→W.heap[b]? = w0.heap[b]?
 | i+1=>match L[i / 2]? with
  | none=>True
  | some x=>if i % 2=0 then ∃cs t,W.heap[x.1]? = some (.cells cs t (0,0))∧cs.size=x.2.size else Row W x.1 x.2
section
variable {w0:World} {L:List (Nat×Array Value)}
theorem fam_keep {W W':World} (h:Ext (Fam w0 L) w0 W):w0.heap.size≤W.heap.size∧W.os=w0.os∧W.tape=w0.tape∧W.output=w0.output∧∀b,b < w0.heap.size→(∀x∈L,b≠x.1)→W.heap[b]? = w0.heap[b]?:=
 h 0 ⟨Nat.le_refl _,rfl,rfl,rfl,fun _ _ _=>rfl⟩
theorem fam_row {W:World} (h:Ext (Fam w0 L) w0 W) {g:Nat} {cs:Array Value} (hr:Row w0 g cs) (hg:∀x∈L,g≠x.1):Row W g cs:=by
 obtain⟨t,hr⟩:=hr
 exact⟨t,((fam_keep (W':=W) h).2.2.2.2 g (Array.getElem?_eq_some_iff.1 hr).1 hg).trans hr⟩
theorem fam_below {W:World} (h:Ext (Fam w0 L) w0 W) {B:Nat} (hB:B≤w0.heap.size) (hL:∀x∈L,B≤x.1):Below B w0 W:=by
 obtain⟨h1,h2,h3,h4,h5⟩:=fam_keep (W':=W) h
 exact⟨h2,h3,h4,h1,fun b hb=>h5 b (by omega) (fun x hx=>by have:=hL x hx;omega)⟩
theorem fam_new {W W':World} (h:Ext (Fam w0 L) w0 W) (hL:∀x∈L,x.1 < w0.heap.size) (hb:Below W.heap.size W W'):Ext (Fam w0 L) W W':=fun i hi=>by
 obtain⟨k1,k2,k3,k4,k5⟩:=fam_keep (W':=W) h
 unfold Fam at hi ⊢
 split
 ·exact⟨Nat.le_trans k1 hb.size,hb.os.trans k2,hb.tape.trans k3,hb.output.trans k4,fun b hb1 hb2=>(hb.block b (by omega)).trans (k5 b hb1 hb2)⟩
 ·rename_i i
  dsimp only at hi
  split
  ·trivial
  ·rename_i x hx
   rw [hx] at hi
   dsimp only at hi
   have hlt:=hL x (List.mem_of_getElem? hx)
   split
   ·rename_i hc
    rw [if_pos hc] at hi
    obtain⟨cs,t,h1,h2⟩:=hi
    exact⟨cs,t,(hb.block _ (by omega)).trans h1,h2⟩
   ·rename_i hc
    rw [if_neg hc] at hi
    obtain⟨t,h1⟩:=hi
    exact⟨t,(hb.block _ (by omega)).trans h1⟩
theorem fam_old {W:World} (h:Ext (Fam w0 L) w0 W) {k:Nat} {x:Nat×Array Value} (hk:L[k]? = some x) {cs:Array Value} (hr:Row w0 x.1 cs) (hs:cs.size=x.2.size):∃cs t,W.heap[x.1]? = some (.cells cs t (0,0))∧cs.size=x.2.size:=by
 have h1:=h (2*k+1)
 unfold Fam at h1
 have e1:2*k / 2=k:=by omega
 have e2:2*k % 2=0:=by omega
 simp only [e1,e2,hk,if_true] at h1
 obtain⟨t,hr⟩:=hr
 exact h1 ⟨cs,t,hr,hs⟩
theorem fam_set {W:World} (h:Ext (Fam w0 L) w0 W) (hd:(L.map (·.1)).Nodup) {k:Nat} {x:Nat×Array Value} (hk:L[k]? = some x) {cs:Array Value} (hr:Row w0 x.1 cs) (hs:cs.size=x.2.size):Ext (Fam w0 L) W (W.setRow x.1 x.2):=fun i hi=>by
 obtain⟨cur,t,h1,h2⟩:=fam_old h hk hr hs
 have hset:=setRow_heap W x.1 cur x.2 t (0,0) h1
 unfold Fam at hi ⊢
 split
 ·obtain⟨k1,k2,k3,k4,k5⟩:=hi
  exact⟨by rw [size_setRow];exact k1,k2,k3,k4,fun b hb1 hb2=>(setRow_other W _ b _ (hb2 x (List.mem_of_getElem? hk))).trans (k5 b hb1 hb2)⟩
 ·rename_i i
  dsimp only at hi
  split
  ·trivial
  ·rename_i y hy
   rw [hy] at hi
   dsimp only at hi
   by_cases he:y.1=x.1
   ·have hyx:y=x:=by
     have hi1:=(List.getElem?_eq_some_iff.1 hy).1
     have hi2:=(List.getElem?_eq_some_iff.1 hk).1
     have:=(List.getElem?_inj (l:=L.map (·.1)) (i:=i / 2) (j:=k) (by rw [List.length_map];exact hi1) hd).1 (by rw [List.getElem?_map,List.getElem?_map,hy,hk];simp [he])
     rw [this,hk] at hy
     exact(Option.some.inj hy).symm
    subst hyx
    split
    ·exact⟨y.2,t,hset,rfl⟩
    ·exact⟨t,hset⟩
   ·split
    ·rename_i hc
     rw [if_pos hc] at hi
     obtain⟨cs',t',q1,q2⟩:=hi
     exact⟨cs',t',(setRow_other W _ _ _ he).trans q1,q2⟩
    ·rename_i hc
     rw [if_neg hc] at hi
     obtain⟨t',q1⟩:=hi
     exact⟨t',(setRow_other W _ _ _ he).trans q1⟩
theorem fam_stable {g:Nat} {cs:Array Value} {k:Nat} (hk:L[k]? = some (g,cs)):Stable (Fam w0 L) (.inr fun _ W=>Row W g cs):=fun v W W' h hx=>by
 have h1:=hx (2*k+2)
 unfold Fam at h1
 have e1:(2*k+1) / 2=k:=by omega
 have e2:¬(2*k+1) % 2=0:=by omega
 simp only [e1,e2,hk,if_false] at h1
 exact h1 h
end
section
variable {I:Nat→World→Prop} {ops:Array Oper} {w0:World} {Fin:List Ty→Prop} {rest:List Oper} {E:Env} {Ts:List Ty} {o:Oper}
theorem tw_store {x y:Operand} {ty:TypeId} {L:List (Nat×Array Value)} (k g:Nat) (new old:Array Value) (hk:L[k]? = some (g,new)) (hd:(L.map (·.1)).Nodup) (hr0:Row w0 g old) (hs:old.size=new.size) (hi:(Tryz.prog.info? ty).map (·.size)=some new.size) (h1:new.all (·.oneCell')=true)
  (hop:o.op=.store ty x y) (hx:evalE E x=some (.pointer (some ⟨g,0,none⟩))) (hy:evalE E y=some (.agg new)) (hw:Wd ops o E true)
  (hr:wpT (Fam w0 L) Tryz.prog ops w0 Fin rest (E.put o.dst (.inr fun _ W=>Row W g new)) ((.inr fun _ W=>Row W g new) :: Ts)):wpT (Fam w0 L) Tryz.prog ops w0 Fin (o :: rest) E Ts:=
 ⟨.inr fun _ W=>Row W g new,fam_stable hk,fun a W hW hs'=>by
  have e1:a.eval x=_:=evalE_of hx (by rw [hop];simp [Op.operands]) hs'
  have e2:a.eval y=_:=evalE_of hy (by rw [hop];simp [Op.operands]) hs'
  obtain⟨cur,t,q1,q2⟩:=fam_old hW hk hr0 hs
  rw [if_pos (hw a W hs')]
  exact wp_store_row ty x y hop g new e1 e2 t cur q1 hi q2 h1 ⟨undef,rfl,fam_set hW hd hk hr0 hs,t,setRow_heap W g cur new t (0,0) q1⟩,hr⟩
theorem tw_eqS {x y:Operand} (s t:ByteArray) (b:Bool) (hb:(s.toList == t.toList)=b) (hop:o.op=.binOp .eql 9 x y 9) (hx:evalE E x=some (.string s)) (hy:evalE E y=some (.string t)) (hw:Wd ops o E true)
  (hr:wpT I Tryz.prog ops w0 Fin rest (E.put o.dst (.inl (.bool b))) (.inl (.bool b) :: Ts)):wpT I Tryz.prog ops w0 Fin (o :: rest) E Ts:=
 tw_pure _ hw (fun a W hW hs=>by
  have h1:a.eval x=.string s:=evalE_of hx (by rw [hop];simp [Op.operands]) hs
  have h2:a.eval y=.string t:=evalE_of hy (by rw [hop];simp [Op.operands]) hs
  subst hb
  unfold execOp
  simp only [hop,h1,h2]
  go_simp) hr
set_option maxRecDepth 10000 in
theorem tw_ldRow {x:Operand} {g:Nat} {ty:TypeId} {fs:Array Field} (cs:Array Value) (hu:Tryz.prog.underlying ty=some (.struct fs)) (hi:(Tryz.prog.info? ty).map (·.size)=some cs.size) (hop:o.op=.load ty x) (hE:evalE E x=some (.pointer (some ⟨g,0,none⟩))) (hc:∀W,Ext I w0 W→Row W g cs) (hw:Wd ops o E true)
  (hr:wpT I Tryz.prog ops w0 Fin rest (E.put o.dst (.inl (.agg cs))) (.inl (.agg cs) :: Ts)):wpT I Tryz.prog ops w0 Fin (o :: rest) E Ts:=
 tw_pure (.agg cs) hw (fun a W hW hs=>by
  have h1:a.eval x=.pointer (some ⟨g,0,none⟩):=evalE_of hE (by rw [hop];simp [Op.operands]) hs
  obtain⟨t,h2⟩:=hc W hW
  have h3:=run_loadVar_row (P:=Tryz.prog) W g t ty _ (0,0) _ h2 hu rfl hi
  unfold execOp
  have h4:(Instr.sureAddr (.pointer (some ⟨g,0,none⟩))).run Tryz.prog W=.ok ⟨g,0,none⟩ W:=by first|rfl|(go_simp;done)|(simp [Instr.sureAddr,asAddr];done)
  simp only [hop,h1,Instr.loadAt,Sem.run_bind,Sem.run_pure,Result.andThen_ok,h4,h3]) hr
theorem tw_ldS {x:Operand} {g i:Nat} {s:ByteArray} (hop:o.op=.load 9 x) (hE:evalE E x=some (.pointer (some ⟨g,i,none⟩))) (hc:∀W,Ext I w0 W→W.cell? ⟨g,i,none⟩=some (.string s)) (hw:Wd ops o E true)
  (hr:wpT I Tryz.prog ops w0 Fin rest (E.put o.dst (.inl (.string s))) (.inl (.string s) :: Ts)):wpT I Tryz.prog ops w0 Fin (o :: rest) E Ts:=
 tw_pure (.string s) hw (fun a W hW hs=>by
  have h1:a.eval x=.pointer (some ⟨g,i,none⟩):=evalE_of hE (by rw [hop];simp [Op.operands]) hs
  have h2:=hc W hW
  unfold execOp
  simp only [hop,h1]
  go_simp) hr
theorem tw_ldB {x:Operand} {g i:Nat} {b:Bool} (hop:o.op=.load 4 x) (hE:evalE E x=some (.pointer (some ⟨g,i,none⟩))) (hc:∀W,Ext I w0 W→W.cell? ⟨g,i,none⟩=some (.bool b)) (hw:Wd ops o E true)
  (hr:wpT I Tryz.prog ops w0 Fin rest (E.put o.dst (.inl (.bool b))) (.inl (.bool b) :: Ts)):wpT I Tryz.prog ops w0 Fin (o :: rest) E Ts:=
 tw_pure (.bool b) hw (fun a W hW hs=>by
  have h1:a.eval x=.pointer (some ⟨g,i,none⟩):=evalE_of hE (by rw [hop];simp [Op.operands]) hs
  have h2:=hc W hW
  unfold execOp
  simp only [hop,h1]
  go_simp) hr
theorem tw_fnB {f:FuncId} {xs:Array Operand} {ts:Array TypeId} {L:List (Nat×Array Value)} (args:Array Value) (v:Value) (hL:∀x∈L,x.1 < w0.heap.size) (hop:o.op=.call { callee:=.value (.func f),args:=xs,argTypes:=ts})
  (hcf:∀(W:World),(callFunc f args).run Tryz.prog W=.ok (.enter f args) W) (hx:xs.toList.map (evalE E)=args.toList.map some) (hw:Wd ops o E true)
  (hc:∀W,Calls Tryz.prog f args W fun e w'=>e=.returned v∧Below W.heap.size W w')
  (hr:wpT (Fam w0 L) Tryz.prog ops w0 Fin rest (E.put o.dst (.inl v)) (.inl v :: Ts)):wpT (Fam w0 L) Tryz.prog ops w0 Fin (o :: rest) E Ts:=
 tw_fn args (.inl v) (stable_is _) hop hcf hx hw (fun W hW=>(hc W).mono fun e w' h=>⟨v,h.1,fam_new hW hL h.2,rfl⟩) hr
end
end Go.Proofs.YtnmnpnofdgdigaaGreatDoor.TI
end
