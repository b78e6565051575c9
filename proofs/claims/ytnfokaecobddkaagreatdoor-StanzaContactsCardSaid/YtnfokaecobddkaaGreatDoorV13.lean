/- Part 13 of a proof laid in parts, one behind the other; no condition of its own. -/
import Derived.Test.YtnfokaecobddkaaGreatDoorV12
import Derived.Test.YtnfokaecobddkaaGreatDoorV10
import Derived.Laws.StructEq
import Derived.WalkLawsBesides
import Derived.Deep.RegionHeld3
import Derived.Deep.Cut
import Derived.Test.YtnfokaecobddkaaGreatDoorV09
import Derived.Laws.Tables
import Derived.Laws.CopyOwn
set_option linter.all false
section
namespace Go.Proofs.YtnfokaecobddkaaGreatDoor
open Go.RowKit
set_option linter.unusedSimpArgs false
set_option linter.unusedVariables false
section
variable {ops:Array Oper} {w0:World} {Fin:List Ty→Prop} {rest:List Oper} {E:Env} {Ts:List Ty} {o:Oper}
theorem tw_eqS {x y:Operand} (s t:ByteArray) (b:Bool) (hb:(s.toList == t.toList)=b) (hop:o.op=.binOp .eql 9 x y 9) (hx:evalE E x=some (.string s)) (hy:evalE E y=some (.string t)) (hw:Wd ops o E true)
  (hr:wpT Tryz.prog ops w0 Fin rest (E.put o.dst (.inl (.bool b))) (.inl (.bool b) :: Ts)):wpT Tryz.prog ops w0 Fin (o :: rest) E Ts:=
 tw_pure _ hw (fun a W hW hs=>by
  have h1:a.eval x=.string s:=evalE_of hx (by rw [hop];simp [Op.operands]) hs
  have h2:a.eval y=.string t:=evalE_of hy (by rw [hop];simp [Op.operands]) hs
  subst hb
  unfold execOp
  simp only [hop,h1,h2]
  go_simp) hr
end
end Go.Proofs.YtnfokaecobddkaaGreatDoor
end
section
namespace Go.Proofs.YtnfokaecobddkaaGreatDoor
open Go.RowKit
set_option linter.unusedSimpArgs false
set_option linter.unusedVariables false
end Go.Proofs.YtnfokaecobddkaaGreatDoor
end
section
namespace Go.Proofs.YtnfokaecobddkaaGreatDoor
open Go.RowKit
set_option linter.unusedSimpArgs false
set_option linter.unusedVariables false
section
variable {ops:Array Oper} {w0:World} {Fin:List Ty→Prop} {rest:List Oper} {E:Env} {Ts:List Ty} {o:Oper}
theorem tw_ixW {x y:Operand} {b off n c k:Nat} (hk:k < n) (hn:n≤1000000000) (hop:o.op=.indexAddr 22 x y) (hx:evalE E x=some (.slice (some ⟨b,off,none⟩) n c)) (hy:evalE E y=some (.int .i64 (k:Int))) (hw:Wd ops o E true)
  (hr:wpT Tryz.prog ops w0 Fin rest (E.put o.dst (.inl (.pointer (some ⟨b,off+k,none⟩)))) (.inl (.pointer (some ⟨b,off+k,none⟩)) :: Ts)):wpT Tryz.prog ops w0 Fin (o :: rest) E Ts:=
 tw_pure _ hw (fun a W hW hs=>by
  have h1:a.eval x=_:=evalE_of hx (by rw [hop];simp [Op.operands]) hs
  have h2:a.eval y=_:=evalE_of hy (by rw [hop];simp [Op.operands]) hs
  unfold execOp
  simp only [hop,h1,h2]
  go_simp) hr
theorem tw_neqS {x y:Operand} {s:ByteArray} (hop:o.op=.binOp .neq 9 x y 9) (hx:evalE E x=some (.string s)) (hy:evalE E y=some (.string s)) (hw:Wd ops o E true)
  (hr:wpT Tryz.prog ops w0 Fin rest (E.put o.dst (.inl (.bool false))) (.inl (.bool false) :: Ts)):wpT Tryz.prog ops w0 Fin (o :: rest) E Ts:=
 tw_pure _ hw (fun a W hW hs=>by
  have h1:a.eval x=_:=evalE_of hx (by rw [hop];simp [Op.operands]) hs
  have h2:a.eval y=_:=evalE_of hy (by rw [hop];simp [Op.operands]) hs
  unfold execOp
  simp only [hop,h1,h2]
  go_simp) hr
end
end Go.Proofs.YtnfokaecobddkaaGreatDoor
end
section
namespace Go.Proofs.YtnfokaecobddkaaGreatDoor
open Go.RowKit
set_option linter.unusedSimpArgs false
set_option linter.unusedVariables false
def mn (x:Nat):Int:=min (x:Int) 20000
def SmallN (n:NodeL):Prop:=n.space.size≤2000∧n.name.size≤2000∧n.text.size≤2000∧n.attrs.length≤30∧∀(i:Nat) (a:AttrL),i < n.attrs.length→n.attrs[i]? = some a→SzA 2000 a
section
variable {ops:Array Oper} {w0:World} {Fin:List Ty→Prop} {rest:List Oper} {E:Env} {Ts:List Ty} {o:Oper}
theorem tw_ixN0 {x y:Operand} {b off n c k:Nat} (hk:k < n) (hop:o.op=.indexAddr 30 x y) (hx:evalE E x=some (.slice (some ⟨b,off,none⟩) n c)) (hy:evalE E y=some (.int .i64 (k:Int))) (hw:Wd ops o E true)
  (hr:wpT Tryz.prog ops w0 Fin rest (E.put o.dst (.inl (.pointer (some ⟨b,off+k*6,none⟩)))) (.inl (.pointer (some ⟨b,off+k*6,none⟩)) :: Ts)):wpT Tryz.prog ops w0 Fin (o :: rest) E Ts:=
 tw_pure _ hw (fun a W hW hs=>by
  have h1:a.eval x=_:=evalE_of hx (by rw [hop];simp [Op.operands]) hs
  have h2:a.eval y=_:=evalE_of hy (by rw [hop];simp [Op.operands]) hs
  unfold execOp
  simp only [hop,h1,h2]
  go_simp) hr
end
def GreatPost (v:List NodeL) (w:World) (e:Ending) (w':World):Prop:=
 ∃g,e=.returned (.bool g)∧Below w.heap.size w w'∧(g=false→v.length≤60∧∀(i:Nat) (n:NodeL),i < v.length→v[i]? = some n→SmallN n)
theorem GreatPost.yes {v:List NodeL} {w w':World} (h:Below w.heap.size w w'):GreatPost v w (.returned (.bool true)) w':=⟨true,rfl,h,fun h=>by cases h⟩
theorem GreatPost.no {v:List NodeL} {w w':World} (h:Below w.heap.size w w') (h1:v.length≤60) (h2:∀(i:Nat) (n:NodeL),i < v.length→v[i]? = some n→SmallN n):GreatPost v w (.returned (.bool false)) w':=⟨false,rfl,h,fun _=>⟨h1,h2⟩⟩
end Go.Proofs.YtnfokaecobddkaaGreatDoor
end
section
namespace Go.Proofs.YtnfokaecobddkaaGreatDoor
open Go.RowKit
set_option linter.unusedSimpArgs false
set_option linter.unusedVariables false
def isEl (space name:ByteArray) (v:List NodeL):Bool:=((nodeAt v 0).space.toList == space.toList) && ((nodeAt v 0).name.toList == name.toList)
def firstV (space name:ByteArray) (l:List (List NodeL)):List NodeL:=match fstP (isEl space name) l with
 | some i=>l.getD i []
 | none=>[]
def firstB (space name:ByteArray) (l:List (List NodeL)):Bool:=(fstP (isEl space name) l).isSome
def FirstPost (space name:ByteArray) (l:List (List NodeL)) (w:World) (e:Ending) (w':World):Prop:=
 ∃A c,e=.returned (.tuple #[.slice A (firstV space name l).length c,.bool (firstB space name l)])∧(firstV space name l).length≤c∧RdV w' w'.heap.size A (firstV space name l)∧Below w.heap.size w w'
theorem FirstPost.no {space name:ByteArray} {l:List (List NodeL)} {w w':World} (h:Below w.heap.size w w') (h1:fstP (isEl space name) l=none):FirstPost space name l w (.returned (.tuple #[.slice none 0 0,.bool false])) w':=by
 unfold FirstPost firstV firstB
 rw [h1]
 exact⟨none,0,rfl,Nat.le_refl _,fun h=>absurd h (by simp),h⟩
theorem FirstPost.yes {space name:ByteArray} {l:List (List NodeL)} {w w':World} {i:Nat} {v:List NodeL} {A:Option Addr} {c:Nat} (h:Below w.heap.size w w') (h1:fstP (isEl space name) l=some i) (hv:l[i]? = some v) (hc:v.length≤c) (hr:RdV w' w'.heap.size A v) :
  FirstPost space name l w (.returned (.tuple #[.slice A v.length c,.bool true])) w':=by
 have e:firstV space name l=v:=by unfold firstV;rw [h1];simp [List.getD_eq_getElem?_getD,hv]
 unfold FirstPost
 rw [e]
 unfold firstB
 rw [h1]
 exact⟨A,c,rfl,hc,hr,h⟩
set_option maxHeartbeats 2000000 in
set_option maxRecDepth 10000 in
theorem first1_any (v:List NodeL) (A:Option Addr) (c:Nat) (space name:ByteArray) (B1 B2:Nat) (w:World) (h0:0 < v.length) (hr:RdV w w.heap.size A v) (hB1:w.cell? ⟨B1,0,none⟩=some (.string space)) (hB2:w.cell? ⟨B2,0,none⟩=some (.string name)) :
  Calls Tryz.prog 115 (#[.slice A v.length c]++#[.pointer (some ⟨B1,0,none⟩),.pointer (some ⟨B2,0,none⟩)]) w fun e w'=>e=.returned (.bool (isEl space name v))∧Below w.heap.size w w':=by
 obtain⟨n,hn⟩:∃n,v[0]? = some n:=⟨_,List.getElem?_eq_getElem h0⟩
 have HG:Box (isEl space name v=((n.space.toList == space.toList) && (n.name.toList == name.toList))):=⟨by
  have e:nodeAt v 0=n:=by unfold nodeAt;rw [List.getD_eq_getElem?_getD,hn];rfl
  unfold isEl
  rw [e]⟩
 obtain⟨b,off,rfl,hb,hcc⟩:=hr h0
 obtain⟨d0,d1,d2,-⟩:=hcc 0 n hn
 rw [Nat.zero_mul,Nat.add_zero] at d1 d2
 have G1:=Lib.hid (fun W (hW:Ext w.drew W)=>((ext_below hW).cell (p:=⟨b,off+1,none⟩) hb).trans d1)
 have G2:=Lib.hid (fun W (hW:Ext w.drew W)=>((ext_below hW).cell (p:=⟨b,off+2,none⟩) hb).trans d2)
 have G3:=Lib.hid (fun W (hW:Ext w.drew W)=>((ext_below hW).cell (p:=⟨B1,0,none⟩) (World.block_lt_of_cell? w _ hB1)).trans hB1)
 have G4:=Lib.hid (fun W (hW:Ext w.drew W)=>((ext_below hW).cell (p:=⟨B2,0,none⟩) (World.block_lt_of_cell? w _ hB2)).trans hB2)
 clear hcc d0 d1 d2 hB1 hB2 hr
 generalize isEl space name v=r at *
 rw [List.append_toArray,List.singleton_append]
 obtain⟨q1,h1⟩:∃q,(n.space.toList == space.toList)=q:=⟨_,rfl⟩
 obtain⟨q2,h2⟩:∃q,(n.name.toList == name.toList)=q:=⟨_,rfl⟩
 rw [h1,h2] at HG
 have H1:=Lib.hid h1
 have H2:=Lib.hid h2
 clear h1 h2
 generalize v.length=N at *
 cases q1
 all_goals
  go_enter Tryz.func115,Tryz.ntmps115
  go_wp2_with fail
  refine wp_region_typed rfl (by kernel_rfl) (by kernel_rfl) ?_
  repeat (first|refine tw_ixN0 (k:=0) h0 rfl rfl rfl (wdA rfl) ?_|refine tw_ldS rfl rfl G1.out (wdA rfl) ?_|refine tw_ldS rfl rfl G2.out (wdA rfl) ?_|refine tw_ldS rfl rfl G3.out (wdA rfl) ?_|refine tw_ldS rfl rfl G4.out (wdA rfl) ?_|refine tw_eqS n.space space _ H1.out rfl rfl rfl (wdA rfl) ?_|refine tw_eqS n.name name _ H2.out rfl rfl rfl (wdA rfl) ?_|refine tw_skip (wd_no rfl rfl rfl) ?_|refine tw_mv (.inl rfl) rfl (wdA rfl) ?_|refine tw_mv (.inr rfl) rfl (wdA rfl) ?_|refine tw_pickL rfl rfl rfl (wdA rfl) ?_|refine tw_op1 _ rfl rfl (wdA rfl) (fun ρ W hW h1=>by simp only [execOp,h1];go_simp;first|done|rfl) ?_|refine tw_op2 _ rfl rfl rfl (wdA rfl) (fun ρ W hW h1 h2=>by simp only [execOp,h1,h2];go_simp;first|done|rfl) ?_)
  dsimp only [wpT,List.reverse,List.reverseAux,FinT]
  intro W7 hW7 _
  simp only [Act.put,List.setIfInBounds_toArray,List.set_cons_zero,List.set_cons_succ]
  have X7:=Lib.hid (ext_below hW7)
  clear hW7 G1 G2 G3 G4
  go_wp2
  go_ret
  exact⟨ret_bool (by rw [HG.out];rfl),X7.out⟩
set_option maxHeartbeats 2000000 in
set_option maxRecDepth 10000 in
theorem first_any (l:List (List NodeL)) (A:Option Addr) (c:Nat) (space name:ByteArray) (w:World) (hr:RdW w w.heap.size A l) (hn:l.length≤1000000000) (h0:∀v∈l,0 < v.length) :
  Calls Tryz.prog 62 #[.slice A l.length c,.string space,.string name] w (FirstPost space name l w):=by
 obtain⟨W0,hW0⟩:∃W0,W0=(w.alloc (.cells #[.string space] 9)).alloc (.cells #[.string name] 9):=⟨_,rfl⟩
 have hX0:Below w.heap.size w W0:=by rw [hW0];exact((Below.refl _ _).alloc (Nat.le_refl _) _).alloc (by simp) _
 have hB0:W0.heap[w.heap.size]? = some (.cells #[.string space] 9 (0,0)):=by rw [hW0];exact al_at w _ _ _ rfl ((Below.refl _ _).alloc (by simp) _)
 have hB1:W0.heap[w.heap.size+1]? = some (.cells #[.string name] 9 (0,0)):=by rw [hW0];exact al_at (w.alloc (.cells #[.string space] 9)) _ _ _ (by simp) (Below.refl _ _)
 have eg:=enters_of (P:=Tryz.prog) Tryz.func115 (by kernel_rfl) rfl
 have H:=Lib.hid (idxT_any 115 #[.pointer (some ⟨w.heap.size,0,none⟩),.pointer (some ⟨w.heap.size+1,0,none⟩)] A c l (isEl space name) W0 (RdW.ext hr hX0) hn eg
  (fun W i x A' c' hW hx hl hA=>(first1_any x A' c' space name w.heap.size (w.heap.size+1) W (h0 x (List.mem_of_getElem? hx)) ((hA.below hW (Nat.le_refl _)).more hW.size) (by simp [World.cell?,heap_ext hB0 hW]) (by simp [World.cell?,heap_ext hB1 hW])).mono fun e w' h=>⟨h.1,hW.trans (h.2.mono hW.size)⟩))
 have HX0:=Lib.hid hX0
 have HR:=Lib.hid hr
 have HW0:=Lib.hid hW0
 clear hW0 hX0 hB0 hB1 eg hr h0
 cases hf:fstP (isEl space name) l with
 | none=>
  rw [hf] at H
  have HF:=Lib.hid hf
  unfold placeI at H
  clear hf
  go_enter Tryz.func62,Tryz.ntmps62
  go_wp2_with fail
  rw [←HW0.out]
  refine H.out.mono ?_
  rintro e w1 ⟨rfl,hb1⟩
  have X1:=Lib.hid (HX0.out.trans (hb1.mono HX0.out.size))
  clear hb1
  go_wp2
  go_ret2
  exact FirstPost.no X1.out HF.out
 | some i=>
  obtain⟨x,hx,-,-⟩:=fstP_some hf
  have hil:=(List.getElem?_eq_some_iff.1 hx).1
  rw [hf] at H
  have HF:=Lib.hid hf
  have HX:=Lib.hid hx
  unfold placeI at H
  obtain⟨b,off,rfl,hb,hcc⟩:=HR.out (by omega)
  obtain⟨A',c',d0,hl',hA'⟩:=hcc i x hx
  have D0:=Lib.hid d0
  have HL:=Lib.hid hl'
  have HA:=Lib.hid hA'
  have hi0:¬(i:Int) < 0:=by omega
  clear hf hx hcc d0 hl' hA'
  go_enter Tryz.func62,Tryz.ntmps62
  go_wp2_with fail
  rw [←HW0.out]
  refine H.out.mono ?_
  rintro e w1 ⟨rfl,hb1⟩
  have X1:=Lib.hid (HX0.out.trans (hb1.mono HX0.out.size))
  have e0:=(X1.out.cell (p:=⟨b,off+i,none⟩) hb).trans D0.out
  clear hb1
  go_wp2
  go_ret2
  exact FirstPost.yes X1.out HF.out HX.out HL.out ((HA.out.below X1.out (Nat.le_refl _)).more X1.out.size)
end Go.Proofs.YtnfokaecobddkaaGreatDoor
end
section
namespace Go.Proofs.YtnfokaecobddkaaGreatDoor
open Go.RowKit
set_option linter.unusedSimpArgs false
set_option linter.unusedVariables false
def prioV (s:StL):List NodeL:=firstV (⟨#[106,97,98,98,101,114,58,99,108,105,101,110,116]⟩:ByteArray) (⟨#[112,114,105,111,114,105,116,121]⟩:ByteArray) s.load
def prioB (s:StL):Bool:=firstB (⟨#[106,97,98,98,101,114,58,99,108,105,101,110,116]⟩:ByteArray) (⟨#[112,114,105,111,114,105,116,121]⟩:ByteArray) s.load
def lvV (s:StL):Int:=if prioB s then levV (saidI (prioV s)) else 0
def lvB (s:StL):Bool:=!prioB s || levOK (saidI (prioV s))
def prV (s:StL):Int:=if stnI s && decide (s.kind=2) && lvB s then lvV s else 0
def prE (s:StL):Int:=if stnI s then(if s.kind=2 then(if lvB s then 0 else 220) else 2) else 8
def PrioPost (s:StL) (w:World) (e:Ending) (w':World):Prop:=e=.returned (.tuple #[.int .i64 (prV s),.int .i64 (prE s)])∧Below w.heap.size w w'
theorem PrioPost.kind {s:StL} {w w':World} (h:stnI s=true) (hk:¬s.kind=2) (hb:Below w.heap.size w w'):PrioPost s w (.returned (.tuple #[.int .i64 0,.int .i64 2])) w':=by
 unfold PrioPost prV prE
 rw [h,decide_eq_false hk,if_pos rfl,if_neg hk]
 exact⟨rfl,hb⟩
theorem PrioPost.none {s:StL} {w w':World} (h:stnI s=true) (hk:s.kind=2) (hp:prioB s=false) (hb:Below w.heap.size w w'):PrioPost s w (.returned (.tuple #[.int .i64 0,.int .i64 0])) w':=by
 unfold PrioPost prV prE lvB lvV
 rw [h,decide_eq_true hk,if_pos rfl,if_pos hk,hp]
 exact⟨rfl,hb⟩
theorem PrioPost.no {s:StL} {w w':World} (h:stnI s=true) (hk:s.kind=2) (hp:prioB s=true) (hl:levOK (saidI (prioV s))=false) (hb:Below w.heap.size w w'):PrioPost s w (.returned (.tuple #[.int .i64 0,.int .i64 220])) w':=by
 unfold PrioPost prV prE lvB lvV
 rw [h,decide_eq_true hk,if_pos rfl,if_pos hk,hp,hl]
 exact⟨rfl,hb⟩
theorem PrioPost.yes {s:StL} {w w':World} {v:Int} (h:stnI s=true) (hk:s.kind=2) (hp:prioB s=true) (hl:levOK (saidI (prioV s))=true) (hv:v=levV (saidI (prioV s))) (hb:Below w.heap.size w w'):PrioPost s w (.returned (.tuple #[.int .i64 v,.int .i64 0])) w':=by
 unfold PrioPost prV prE lvB lvV
 rw [h,decide_eq_true hk,if_pos rfl,if_pos hk,hp,hl,hv]
 exact⟨rfl,hb⟩
theorem stn_trees {s:StL} (h:stnI s=true):∀v∈s.load,treeI v=true:=fun v hv=>by
 unfold stnI at h
 simp only [Bool.and_eq_true,List.all_eq_true] at h
 have h1:=h.2 v hv
 unfold spaceI at h1
 simp only [Bool.and_eq_true] at h1
 exact h1.2
theorem first_in {space name:ByteArray} {l:List (List NodeL)} (h:firstB space name l=true):firstV space name l∈l:=by
 unfold firstB at h
 unfold firstV
 cases hf:fstP (isEl space name) l with
 | none=>rw [hf] at h;cases h
 | some i=>
  obtain⟨x,hx,-,-⟩:=fstP_some hf
  simp only
  rw [List.getD_eq_getElem?_getD,hx]
  exact List.mem_of_getElem? hx
end Go.Proofs.YtnfokaecobddkaaGreatDoor
end
section
namespace Go.Proofs.YtnfokaecobddkaaGreatDoor
structure WantL where
 kind:Int
 res:ByteArray
 jid:ByteArray
 name:ByteArray
 groups:List ByteArray
 gone:Bool
def emW:WantL:=⟨0,emB,emB,emB,[],false⟩
def rosB:ByteArray:=(⟨#[106,97,98,98,101,114,58,105,113,58,114,111,115,116,101,114]⟩:ByteArray)
def bindB:ByteArray:=(⟨#[117,114,110,58,105,101,116,102,58,112,97,114,97,109,115,58,120,109,108,58,110,115,58,120,109,112,112,45,98,105,110,100]⟩:ByteArray)
def bindW (v:List NodeL):WantL:=⟨1,if firstB bindB (⟨#[114,101,115,111,117,114,99,101]⟩:ByteArray) (elemsI v) then saidI (firstV bindB (⟨#[114,101,115,111,117,114,99,101]⟩:ByteArray) (elemsI v)) else emB,emB,emB,[],false⟩
def groupsW (l:List (List NodeL)):List ByteArray:=(l.filter (isEl rosB (⟨#[103,114,111,117,112]⟩:ByteArray))).map saidI
def itemV (v:List NodeL):List NodeL:=(elemsI v).getD 0 []
def oneIt (v:List NodeL):Bool:=decide ((elemsI v).length=1) && isEl rosB (⟨#[105,116,101,109]⟩:ByteArray) (itemV v)
def goneI (v:List NodeL):Bool:=(findI (nodeAt (itemV v) 0) (⟨#[115,117,98,115,99,114,105,112,116,105,111,110]⟩:ByteArray)).toList == [114,101,109,111,118,101]
def setW (v:List NodeL):WantL:=if goneI v then⟨3,emB,findI (nodeAt (itemV v) 0) (⟨#[106,105,100]⟩:ByteArray),emB,[],true⟩ else⟨3,emB,findI (nodeAt (itemV v) 0) (⟨#[106,105,100]⟩:ByteArray),findI (nodeAt (itemV v) 0) (⟨#[110,97,109,101]⟩:ByteArray),groupsW (elemsI (itemV v)),false⟩
def getW:WantL:=⟨2,emB,emB,emB,[],false⟩
def typS (s:StL):Bool:=s.typ.toList == [115,101,116]
def typG (s:StL):Bool:=s.typ.toList == [103,101,116]
def askV (s:StL) (v:List NodeL):WantL:=if typS s && isEl bindB (⟨#[98,105,110,100]⟩:ByteArray) v then bindW v else if isEl rosB (⟨#[113,117,101,114,121]⟩:ByteArray) v && typG s then getW else if isEl rosB (⟨#[113,117,101,114,121]⟩:ByteArray) v && typS s && oneIt v then setW v else emW
def askW (s:StL):WantL:=if s.load.length=1 then askV s (s.load.getD 0 []) else emW
def resBad (x:WantL):Bool:=!isEmp x.res && !resI x.res
def askE (s:StL):Int:=if stnI s then(if s.kind=3 then(if resBad (askW s) then 220 else 0) else 2) else 8
def askR (s:StL):WantL:=if askE s=0 then askW s else emW
def groupsK (l:List (List NodeL)) (k:Nat):List ByteArray:=groupsW (l.take k)
theorem groupsK_succ (l:List (List NodeL)) {k:Nat} {v:List NodeL} (h:l[k]? = some v):groupsK l (k+1)=if isEl rosB (⟨#[103,114,111,117,112]⟩:ByteArray) v then groupsK l k++[saidI v] else groupsK l k:=by
 unfold groupsK groupsW
 rw [List.take_add_one,h,Option.toList_some,List.filter_append,List.map_append]
 cases hq:isEl rosB (⟨#[103,114,111,117,112]⟩:ByteArray) v <;> simp [hq]
end Go.Proofs.YtnfokaecobddkaaGreatDoor
end
section
namespace Go.Proofs.YtnfokaecobddkaaGreatDoor
theorem valN_none (name:ByteArray):∀(ps:List (ByteArray×ByteArray)),(∀p∈ps,(p.1.toList == name.toList)=false)→valN (fineL (ps.filter fun p=>!isEmp p.2)) name=emB
 | [],_=>rfl
 | q :: t,h=>by
  have h0:=h q (by simp)
  have ih:=valN_none name t (fun p hp=>h p (by simp [hp]))
  rw [List.filter_cons]
  cases he:isEmp q.2
  ·rw [if_pos (by rfl)]
   show valN (⟨emB,q.1,q.2⟩ :: fineL (t.filter fun p=>!isEmp p.2)) name=emB
   rw [valN_cons,is_attr,h0,if_neg (by decide)]
   exact ih
  ·rw [if_neg (by decide)]
   exact ih
theorem valN_get:∀(ps:List (ByteArray×ByteArray)) (i:Nat) (p:ByteArray×ByteArray),ps[i]? = some p→(ps.map fun p=>p.1.toList).Nodup→valN (fineL (ps.filter fun p=>!isEmp p.2)) p.1=p.2
 | [],i,p,h,_=>by simp at h
 | q :: t,i,p,h,hn=>by
  rw [List.map_cons,List.nodup_cons] at hn
  obtain⟨h1,h2⟩:=hn
  rw [List.filter_cons]
  cases i with
  | zero=>
   simp only [List.getElem?_cons_zero,Option.some.injEq] at h
   subst h
   cases he:isEmp q.2
   ·rw [if_pos (by rfl)]
    show valN (⟨emB,q.1,q.2⟩ :: fineL (t.filter fun p=>!isEmp p.2)) q.1=q.2
    rw [valN_cons,is_attr,beq_self_eq_true,if_pos rfl]
   ·rw [if_neg (by decide),valN_none q.1 t,emp_emB he]
    intro p hp
    rw [beq_eq_false_iff_ne]
    exact fun e=>h1 (List.mem_map.2 ⟨p,hp,e⟩)
  | succ i=>
   rw [List.getElem?_cons_succ] at h
   have ih:=valN_get t i p h h2
   cases he:isEmp q.2
   ·rw [if_pos (by rfl)]
    show valN (⟨emB,q.1,q.2⟩ :: fineL (t.filter fun p=>!isEmp p.2)) p.1=p.2
    have hne:(q.1.toList == p.1.toList)=false:=by
     rw [beq_eq_false_iff_ne]
     exact fun e=>h1 (List.mem_map.2 ⟨p,List.mem_of_getElem? h,e.symm⟩)
    rw [valN_cons,is_attr,hne,if_neg (by decide)]
    exact ih
   ·rw [if_neg (by decide)]
    exact ih
def evenN (nm:ByteArray):Bool:=!(!nameI nm || (emB.toList.isEmpty && (nm.toList == [120,109,108,110,115])) || (emB.toList == [104,116,116,112,58,47,47,119,119,119,46,119,51,46,111,114,103,47,50,48,48,48,47,120,109,108,110,115,47]))
theorem even_fine (ps:List (ByteArray×ByteArray)) (h:(ps.map (·.1)).all evenN=true):(fineL (ps.filter fun p=>!isEmp p.2)).any oddA=false:=by
 rw [List.any_eq_false]
 intro a ha
 unfold fineL at ha
 obtain⟨p,hp,rfl⟩:=List.mem_map.1 ha
 have:=List.all_eq_true.1 h p.1 (List.mem_map.2 ⟨p,(List.mem_filter.1 hp).1,rfl⟩)
 unfold evenN at this
 rw [Bool.not_eq_true'] at this
 unfold oddA
 simp only [this]
 decide
def fourI (x:ItemL):List (ByteArray×ByteArray):=[((⟨#[106,105,100]⟩:ByteArray),x.jid),((⟨#[110,97,109,101]⟩:ByteArray),x.name),((⟨#[115,117,98,115,99,114,105,112,116,105,111,110]⟩:ByteArray),wordSub x),((⟨#[97,115,107]⟩:ByteArray),asksB x)]
def threeI (x:ItemL):List (ByteArray×ByteArray):=[((⟨#[106,105,100]⟩:ByteArray),x.jid),((⟨#[110,97,109,101]⟩:ByteArray),x.name),((⟨#[115,117,98,115,99,114,105,112,116,105,111,110]⟩:ByteArray),(⟨#[114,101,109,111,118,101]⟩:ByteArray))]
theorem attrsIt_four (x:ItemL):attrsIt x=fineL ((fourI x).filter fun p=>!isEmp p.2):=by
 unfold attrsIt withA fourI fineL
 cases h1:isEmp x.jid <;> cases h2:isEmp x.name <;> cases h3:isEmp (wordSub x) <;> cases h4:isEmp (asksB x) <;> simp [h1,h2,h3,h4]
theorem attrsGo_three (x:ItemL):attrsGo x=fineL ((threeI x).filter fun p=>!isEmp p.2):=by
 unfold attrsGo withA threeI fineL
 cases h1:isEmp x.jid <;> cases h2:isEmp x.name <;> cases h3:isEmp ((⟨#[114,101,109,111,118,101]⟩:ByteArray):ByteArray) <;> simp [h1,h2,h3]
theorem nod_four:(([(⟨#[106,105,100]⟩:ByteArray),(⟨#[110,97,109,101]⟩:ByteArray),(⟨#[115,117,98,115,99,114,105,112,116,105,111,110]⟩:ByteArray),(⟨#[97,115,107]⟩:ByteArray)]:List ByteArray).map (·.toList)).Nodup:=by decide +kernel
theorem nod_three:(([(⟨#[106,105,100]⟩:ByteArray),(⟨#[110,97,109,101]⟩:ByteArray),(⟨#[115,117,98,115,99,114,105,112,116,105,111,110]⟩:ByteArray)]:List ByteArray).map (·.toList)).Nodup:=by decide +kernel
theorem vals_it (x:ItemL):valN (attrsIt x) (⟨#[106,105,100]⟩:ByteArray)=x.jid∧valN (attrsIt x) (⟨#[110,97,109,101]⟩:ByteArray)=x.name∧valN (attrsIt x) (⟨#[115,117,98,115,99,114,105,112,116,105,111,110]⟩:ByteArray)=wordSub x:=by
 rw [attrsIt_four]
 exact⟨valN_get (fourI x) 0 _ rfl nod_four,valN_get (fourI x) 1 _ rfl nod_four,valN_get (fourI x) 2 _ rfl nod_four⟩
theorem vals_go (x:ItemL):valN (attrsGo x) (⟨#[106,105,100]⟩:ByteArray)=x.jid∧valN (attrsGo x) (⟨#[115,117,98,115,99,114,105,112,116,105,111,110]⟩:ByteArray)=(⟨#[114,101,109,111,118,101]⟩:ByteArray):=by
 rw [attrsGo_three]
 exact⟨valN_get (threeI x) 0 _ rfl nod_three,valN_get (threeI x) 2 _ rfl nod_three⟩
theorem said_group (g:ByteArray):saidI (gtree g)=g:=by
 have h:(kidsI (gtree g) 0).flatMap (saidT (gtree g))=g.data.toList:=by
  show([1].flatMap (saidT (gtree g)))=_
  rw [List.flatMap_cons,List.flatMap_nil,List.append_nil]
  rfl
 unfold saidI
 rw [h]
theorem el_group (g:ByteArray):isEl rosB (⟨#[103,114,111,117,112]⟩:ByteArray) (gtree g)=true:=by
 have h:((rosN.toList == rosB.toList) && (((⟨#[103,114,111,117,112]⟩:ByteArray):ByteArray).toList == ((⟨#[103,114,111,117,112]⟩:ByteArray):ByteArray).toList))=true:=by decide +kernel
 exact h
theorem groups_back (l:List ByteArray):groupsW (l.map gtree)=l:=by
 unfold groupsW
 rw [List.filter_eq_self.2 (fun v hv=>by
  obtain⟨g,-,rfl⟩:=List.mem_map.1 hv
  exact el_group g),List.map_map]
 have:(saidI ∘ gtree)=id:=funext said_group
 rw [this,List.map_id]
theorem item_tre12 {x:ItemL} (h:itemI x=true) (gone:Bool):Tre 12 (itemT gone x):=tre_more (item_tre h gone).1 (by omega)
theorem elems_query {x:ItemL} (h:itemI x=true) (gone:Bool) (ver:Int):elemsI (queryV [x] gone ver)=[itemT gone x]:=by
 have:=(elems_join (n:=queryN ver) (l:=[itemT gone x]) (fun v hv=>by rw [List.mem_singleton.1 hv];exact item_tre12 h gone)).1
 exact this
theorem elems_item {x:ItemL} (h:itemI x=true):elemsI (itemT false x)=x.groups.map gtree:=by
 obtain⟨h1,h2⟩:=groups_ok h
 exact(elems_join (n:=itemN x) (l:=x.groups.map gtree) (fun v hv=>by
  obtain⟨g,hg,rfl⟩:=List.mem_map.1 hv
  exact tre_more (gtree_tre (h2 g hg).1 (h2 g hg).2) (by omega))).1
theorem odd_gtree (g:ByteArray):(gtree g).any oddN=false:=by
 have h1:oddN (groupN 1)=false:=by decide +kernel
 have h2:oddN (textN g)=false:=by
  show((decide ((2:Int)=1) && !nameI emB) || givenB emB || ([]:List AttrL).any oddA)=false
  decide +kernel
 unfold gtree
 rw [List.any_cons,List.any_cons,h1,h2]
 rfl
theorem ros_plain:givenB rosN=false∧nameI ((⟨#[105,116,101,109]⟩:ByteArray):ByteArray)=true∧nameI ((⟨#[113,117,101,114,121]⟩:ByteArray):ByteArray)=true:=by decide +kernel
theorem odd_item {x:ItemL} (gone:Bool):(itemT gone x).any oddN=false:=by
 obtain⟨g1,g2,-⟩:=ros_plain
 unfold itemT
 cases gone
 ·have ha:(attrsIt x).any oddA=false:=by rw [attrsIt_four];exact even_fine (fourI x) (by show([(⟨#[106,105,100]⟩:ByteArray),(⟨#[110,97,109,101]⟩:ByteArray),(⟨#[115,117,98,115,99,114,105,112,116,105,111,110]⟩:ByteArray),(⟨#[97,115,107]⟩:ByteArray)]:List ByteArray).all evenN=true;decide +kernel)
  have e1:oddN (manyM (itemN x) (x.groups.map gtree).length)=false:=by
   unfold oddN
   show((decide ((1:Int)=1) && !nameI (⟨#[105,116,101,109]⟩:ByteArray)) || givenB rosN || (attrsIt x).any oddA)=false
   rw [g1,g2,ha]
   rfl
  show(joinV (itemN x) (x.groups.map gtree)).any oddN=false
  unfold joinV
  rw [List.any_cons,e1,Bool.false_or,List.any_eq_false]
  intro n hn
  obtain⟨v,hv,hnv⟩:=List.mem_flatten.1 hn
  obtain⟨g,-,rfl⟩:=List.mem_map.1 hv
  exact List.any_eq_false.1 (odd_gtree g) n hnv
 ·have ha:(attrsGo x).any oddA=false:=by rw [attrsGo_three];exact even_fine (threeI x) (by show([(⟨#[106,105,100]⟩:ByteArray),(⟨#[110,97,109,101]⟩:ByteArray),(⟨#[115,117,98,115,99,114,105,112,116,105,111,110]⟩:ByteArray)]:List ByteArray).all evenN=true;decide +kernel)
  show([⟨1,rosN,(⟨#[105,116,101,109]⟩:ByteArray),attrsGo x,emB,0⟩]:List NodeL).any oddN=false
  rw [List.any_cons,List.any_nil,Bool.or_false]
  unfold oddN
  show((decide ((1:Int)=1) && !nameI (⟨#[105,116,101,109]⟩:ByteArray)) || givenB rosN || (attrsGo x).any oddA)=false
  rw [g1,g2,ha]
  rfl
theorem ros_one {x:ItemL} (h:itemI x=true):rosI [x]=true:=by
 have:rosT [x] 1=true:=by
  rw [rosT_succ [x] 0 x rfl]
  unfold rowOK
  rw [h]
  rfl
 unfold rosI
 rw [Bool.and_eq_true]
 exact⟨this,rfl⟩
theorem query_space {x:ItemL} (h:itemI x=true) (gone:Bool) (ver:Int):spaceI (queryV [x] gone ver)=true:=by
 obtain⟨g1,-,g2⟩:=ros_plain
 have ht:treeI (queryV [x] gone ver)=true:=(put_tree (query_put (l:=[x]) (gone:=gone) (ver:=ver) (ros_one h)).1).1
 have hv:evenN ((⟨#[118,101,114]⟩:ByteArray):ByteArray)=true:=by decide +kernel
 have hd:oddA ⟨emB,(⟨#[118,101,114]⟩:ByteArray),digS ver.toNat⟩=false:=by
  unfold evenN at hv
  rw [Bool.not_eq_true'] at hv
  unfold oddA
  simp only [hv]
 have e1:oddN (manyM (queryN ver) ([x].map (itemT gone)).length)=false:=by
  unfold oddN
  show((decide ((1:Int)=1) && !nameI (⟨#[113,117,101,114,121]⟩:ByteArray)) || givenB rosN || ([⟨emB,(⟨#[118,101,114]⟩:ByteArray),digS ver.toNat⟩]:List AttrL).any oddA)=false
  rw [g1,g2,List.any_cons,hd]
  rfl
 unfold spaceI
 rw [ht,Bool.and_true,Bool.not_eq_true']
 show(manyM (queryN ver) ([x].map (itemT gone)).length :: ([x].map (itemT gone)).flatten).any oddN=false
 rw [List.any_cons,e1,Bool.false_or]
 show([itemT gone x].flatten).any oddN=false
 rw [List.flatten_cons,List.flatten_nil,List.append_nil]
 exact odd_item gone
def setS (v:List NodeL):StL:=⟨3,(⟨#[115,101,116]⟩:ByteArray),(⟨#[49]⟩:ByteArray),emB,emB,[v]⟩
def wantX (x:ItemL):WantL:=⟨3,emB,x.jid,x.name,x.groups,false⟩
def goneX (x:ItemL):WantL:=⟨3,emB,x.jid,emB,[],true⟩
theorem set_stn {v:List NodeL} (h:spaceI v=true):stnI (setS v)=true:=by
 have h1:typedI 3 (⟨#[115,101,116]⟩:ByteArray)=true:=by decide +kernel
 have h2:idI 3 (⟨#[49]⟩:ByteArray)=true:=by decide +kernel
 have h3:addressI emB=true:=by unfold addressI;rw [show isEmp emB=true by decide];rfl
 unfold stnI setS
 simp only [h1,h2,h3,List.all_cons,List.all_nil,h]
 rfl
theorem set_words:(rosN.toList == bindB.toList)=false∧(rosN.toList == rosB.toList)=true∧(((⟨#[113,117,101,114,121]⟩:ByteArray):ByteArray).toList == ((⟨#[113,117,101,114,121]⟩:ByteArray):ByteArray).toList)=true∧(((⟨#[115,101,116]⟩:ByteArray):ByteArray).toList == [103,101,116])=false∧(((⟨#[115,101,116]⟩:ByteArray):ByteArray).toList == [115,101,116])=true∧(((⟨#[105,116,101,109]⟩:ByteArray):ByteArray).toList == ((⟨#[105,116,101,109]⟩:ByteArray):ByteArray).toList)=true:=by decide +kernel
theorem word_stays (x:ItemL):((wordSub x).toList == [114,101,109,111,118,101])=false:=by
 unfold wordSub
 split
 ·decide +kernel
 ·split
  ·decide +kernel
  ·split <;> decide +kernel
theorem ask_set {x:ItemL} (h:itemI x=true) (gone:Bool) (ver:Int):askV (setS (queryV [x] gone ver)) (queryV [x] gone ver)=setW (queryV [x] gone ver):=by
 obtain⟨w1,w2,w3,w4,w5,w6⟩:=set_words
 have e:=elems_query h gone ver
 have n0:nodeAt (queryV [x] gone ver) 0=manyM (queryN ver) ([x].map (itemT gone)).length:=rfl
 have i0:isEl bindB (⟨#[98,105,110,100]⟩:ByteArray) (queryV [x] gone ver)=false:=by
  unfold isEl
  rw [n0]
  show((rosN.toList == bindB.toList) && _)=false
  rw [w1]
  rfl
 have i1:isEl rosB (⟨#[113,117,101,114,121]⟩:ByteArray) (queryV [x] gone ver)=true:=by
  unfold isEl
  rw [n0]
  show((rosN.toList == rosB.toList) && (((⟨#[113,117,101,114,121]⟩:ByteArray):ByteArray).toList == ((⟨#[113,117,101,114,121]⟩:ByteArray):ByteArray).toList))=true
  rw [w2,w3]
  rfl
 have it:isEl rosB (⟨#[105,116,101,109]⟩:ByteArray) (itemT gone x)=true:=by
  have:(nodeAt (itemT gone x) 0).space=rosN∧(nodeAt (itemT gone x) 0).name=(⟨#[105,116,101,109]⟩:ByteArray):=by cases gone <;> exact⟨rfl,rfl⟩
  unfold isEl
  rw [this.1,this.2,w2,w6]
  rfl
 have o1:oneIt (queryV [x] gone ver)=true:=by
  unfold oneIt itemV
  rw [e]
  show(decide (1=1) && isEl rosB (⟨#[105,116,101,109]⟩:ByteArray) (itemT gone x))=true
  rw [it]
  rfl
 have t1:typS (setS (queryV [x] gone ver))=true:=w5
 have t2:typG (setS (queryV [x] gone ver))=false:=w4
 unfold askV
 rw [i0,i1,t1,t2,o1]
 rfl
theorem set_want {x:ItemL} (h:itemI x=true) (ver:Int):setW (queryV [x] false ver)=wantX x:=by
 obtain⟨v1,v2,v3⟩:=vals_it x
 have e:=elems_query h false ver
 have hi:itemV (queryV [x] false ver)=itemT false x:=by unfold itemV;rw [e];rfl
 have f:∀nm,findI (nodeAt (itemT false x) 0) nm=valN (attrsIt x) nm:=fun nm=>rfl
 unfold setW goneI
 rw [hi,f,f,f,v1,v2,v3,word_stays,elems_item h,groups_back]
 rfl
theorem set_gone {x:ItemL} (h:itemI x=true) (ver:Int):setW (queryV [x] true ver)=goneX x:=by
 obtain⟨v1,v2⟩:=vals_go x
 have e:=elems_query h true ver
 have hi:itemV (queryV [x] true ver)=itemT true x:=by unfold itemV;rw [e];rfl
 have f:∀nm,findI (nodeAt (itemT true x) 0) nm=valN (attrsGo x) nm:=fun nm=>rfl
 have hr:(((⟨#[114,101,109,111,118,101]⟩:ByteArray):ByteArray).toList == [114,101,109,111,118,101])=true:=by decide +kernel
 unfold setW goneI
 rw [hi,f,f,v1,v2,hr]
 rfl
def askX (gone:Bool) (x:ItemL):WantL:=if gone then goneX x else wantX x
theorem told_set {x:ItemL} (h:itemI x=true) (gone:Bool) {ver:Int} (h0:0≤ver) (h1:ver≤9007199254740991) :
  rosE [x] gone ver=0∧rosV [x] gone ver=queryV [x] gone ver∧stnI (setS (queryV [x] gone ver))=true∧askE (setS (queryV [x] gone ver))=0∧askR (setS (queryV [x] gone ver))=askX gone x:=by
 have hr:rosE [x] gone ver=0:=by
  have hd:decide (0≤ver∧ver≤9007199254740991)=true:=decide_eq_true ⟨h0,h1⟩
  unfold rosE
  rw [hd,ros_one h]
  cases gone <;> rfl
 have hs:=set_stn (query_space h gone ver)
 have ha:askW (setS (queryV [x] gone ver))=askX gone x:=by
  have:askW (setS (queryV [x] gone ver))=askV (setS (queryV [x] gone ver)) (queryV [x] gone ver):=rfl
  rw [this,ask_set h]
  cases gone
  ·exact set_want h ver
  ·exact set_gone h ver
 have hb:resBad (askX gone x)=false:=by
  have:(askX gone x).res=emB:=by cases gone <;> rfl
  unfold resBad
  rw [this]
  rfl
 have he:askE (setS (queryV [x] gone ver))=0:=by
  unfold askE
  rw [hs,ha,hb]
  rfl
 exact⟨hr,by unfold rosV;rw [if_pos hr],hs,he,by unfold askR;rw [if_pos he,ha]⟩
end Go.Proofs.YtnfokaecobddkaaGreatDoor
end
section
namespace Go.Proofs.YtnfokaecobddkaaGreatDoor
open Go.RowKit
set_option linter.unusedSimpArgs false
set_option linter.unusedVariables false
def Pow (w:World):Prop:=Lib.TabIs Tryz.prog w "internal/strconv.uint64pow10" .u64 Lib.pow10Tab
theorem Pow.below {w w':World} (h:Pow w) (hb:Below w.heap.size w w'):Pow w':=by
 unfold Pow Lib.TabIs World.var? at *
 cases hg:Tryz.prog.globalNamed "internal/strconv.uint64pow10" with
 | none=>simp [hg] at h
 | some g=>
  simp only [hg,Option.bind_some] at h ⊢
  have hlt:g < w.heap.size:=by
   rcases Nat.lt_or_ge g w.heap.size with h'|h'
   ·exact h'
   ·rw [Array.getElem?_eq_none h'] at h;simp at h
  rw [hb.block g hlt]
  exact h
theorem from_any (n a b:Int) (w:World):Calls Tryz.prog 92 #[.int .i64 n,.int .i64 a,.int .i64 b] w fun e w'=>e=.returned (.bool (decide (a≤n∧n≤b)))∧w'=w:=by
 by_cases h1:a≤n <;> by_cases h2:n≤b
 all_goals
  go_enter Tryz.func92,Tryz.ntmps92
  go_wp2
  go_ret
  refine⟨ret_bool ?_,rfl⟩
  simp [h1,h2]
theorem itoa_any (n:Nat) (w:World) (hn:n≤9007199254740991) (ht:Pow w):Calls Tryz.prog 93 #[.int .i64 (n:Int)] w fun e w'=>e=.returned (.string ⟨(Lib.itoa (n:Int)).toArray⟩)∧Below w.heap.size w w':=by
 refine(Tryz.strconv_Itoa (n:Int) (by omega) (by omega) w ht).mono ?_
 rintro e w' ⟨h1,k,os,rfl⟩
 have hs:(w.drewN k).heap=w.heap:=rfl
 refine⟨h1,rfl,rfl,rfl,?_,fun b hb=>?_⟩
 ·show w.heap.size≤(w.heap++os).size
  rw [Array.size_append]
  omega
 ·show(w.heap++os)[b]? = w.heap[b]?
  rw [Array.getElem?_append_left hb]
theorem subcheck_any (a b c d:Bool) (w:World):Calls Tryz.prog 90 #[.agg #[.bool a,.bool b,.bool c,.bool d]] w fun e w'=>e=.returned (.int .i64 (if !(a && b) && !(c && d) then 0 else 8))∧Below w.heap.size w w':=by
 cases a <;> cases b <;> cases c <;> cases d
 all_goals
  go_enter Tryz.func90,Tryz.ntmps90
  go_wp2
  go_ret
  exact⟨rfl,(Below.refl _ _).alloc (Nat.le_refl _) _⟩
theorem isnan_any (s:ByteArray) (w:World):Calls Tryz.prog 211 #[.string s] w fun e w'=>e=.returned (.bool false)∧w'=w:=by
 go_enter Tryz.func211,Tryz.ntmps211
 go_wp2
 go_ret
 simp
def cmpB (a b:ByteArray):Int:=if lessB a b then -1 else if lessB b a then 1 else 0
theorem cmp_any (a b:ByteArray) (w:World):Calls Tryz.prog 180 #[.string a,.string b] w fun e w'=>e=.returned (.int .i64 (cmpB a b))∧w'=w:=by
 have HC:Box (cmpB a b=if lessB a b then -1 else if lessB b a then 1 else 0):=⟨rfl⟩
 generalize cmpB a b=r at *
 unfold lessB at HC
 cases h1:Op.bytesLess a.toList b.toList <;> cases h2:Op.bytesLess b.toList a.toList
 all_goals
  have h:=HC.out
  simp only [h1,h2,if_true,if_false,Bool.false_eq_true] at h
  subst h
  clear HC
  have he:(a.toList == b.toList)=(!Op.bytesLess a.toList b.toList && !Op.bytesLess b.toList a.toList):=by
   rw [h1,h2]
   first
    | (rw [less_tri _ _ h1 h2];simp;done)
    | (rw [beq_eq_false_iff_ne.2 (fun e=>by rw [e,less_irr] at h1;exact absurd h1 (by decide))];rfl)
    | (rw [beq_eq_false_iff_ne.2 (fun e=>by rw [e,less_irr] at h2;exact absurd h2 (by decide))];rfl)
  rw [h1,h2] at he
  simp only [Bool.not_true,Bool.not_false,Bool.and_true,Bool.and_false,Bool.false_and,Bool.and_self] at he
  go_enter Tryz.func180,Tryz.ntmps180
  go_wp2_with fail
  refine(isnan_any a _).mono ?_
  rintro e w1 ⟨rfl,rfl⟩
  go_wp2_with fail
  refine(isnan_any b _).mono ?_
  rintro e w1 ⟨rfl,rfl⟩
  go_wp2
  go_ret
  exact⟨rfl,rfl⟩
end Go.Proofs.YtnfokaecobddkaaGreatDoor
end
section
namespace Go.Proofs.YtnfokaecobddkaaGreatDoor
open Go.RowKit
set_option linter.unusedSimpArgs false
set_option linter.unusedVariables false
def encI (x:WantL) (A:Option Addr) (c:Nat):Value:=.agg #[.string x.jid,.string x.name,.slice A x.groups.length c,.bool false,.bool false,.bool false,.bool false,.bool false]
def encW (x:WantL) (A:Option Addr) (c:Nat):Value:=.agg #[.int .u8 x.kind,.string x.res,.string x.jid,.string x.name,.slice A x.groups.length c,.bool false,.bool false,.bool false,.bool false,.bool false,.bool x.gone]
set_option maxHeartbeats 2000000 in
set_option maxRecDepth 10000 in
theorem same04_one (l:List ByteArray) (A1 A2:Option Addr) (c1 c2:Nat) (w:World) (h1:RdS w A1 l) (h2:RdS w A2 l) (hn:l.length≤1000000000) :
  Calls Tryz.prog 101 #[.slice A1 l.length c1,.slice A2 l.length c2] w fun e w'=>e=.returned (.bool true)∧Below w.heap.size w w':=by
 have H1:=Lib.hid h1
 have H2:=Lib.hid h2
 clear h1 h2
 go_enter Tryz.func101,Tryz.ntmps101
 go_wp2
 go_loopw [5] (fun s5 wr=>∃k:Nat,k≤l.length∧s5=.int .i64 k∧Hid (Below w.heap.size w wr)) (fun s5 _=>l.length - (intOf s5).toNat)
 case atStart=>exact⟨0,Nat.zero_le _,rfl,Lib.hid (Below.refl _ _)⟩
 case round=>
  obtain⟨k,hk,rfl,HB⟩:=hrel
  by_cases hlt:k < l.length
  ·obtain⟨s,hs⟩:∃s,l[k]? = some s:=⟨_,List.getElem?_eq_getElem hlt⟩
   obtain⟨b1,o1,rfl,hb1,hc1⟩:=H1.out (by omega)
   obtain⟨b2,o2,rfl,hb2,hc2⟩:=H2.out (by omega)
   have G1:=Lib.hid (fun W (hW:Ext wr.drew W)=>((HB.out.trans ((ext_below hW).mono HB.out.size)).cell (p:=⟨b1,o1+k,none⟩) hb1).trans (hc1 k s hs))
   have G2:=Lib.hid (fun W (hW:Ext wr.drew W)=>((HB.out.trans ((ext_below hW).mono HB.out.size)).cell (p:=⟨b2,o2+k,none⟩) hb2).trans (hc2 k s hs))
   clear hc1 hc2 hs
   go_wp2
   refine wp_region_typed rfl (by kernel_rfl) (by kernel_rfl) ?_
   repeat (first|refine tw_ixS hlt rfl rfl rfl (wdA rfl) ?_|refine tw_ldS rfl rfl G1.out (wdA rfl) ?_|refine tw_ldS rfl rfl G2.out (wdA rfl) ?_|refine tw_neqS rfl rfl rfl (wdA rfl) ?_|refine tw_skip (wd_no rfl rfl rfl) ?_|refine tw_mv (.inl rfl) rfl (wdA rfl) ?_|refine tw_mv (.inr rfl) rfl (wdA rfl) ?_|refine tw_pickL rfl rfl rfl (wdA rfl) ?_|refine tw_op1 _ rfl rfl (wdA rfl) (fun ρ W hW h1=>by simp only [execOp,h1];go_simp;first|done|rfl) ?_|refine tw_op2 _ rfl rfl rfl (wdA rfl) (fun ρ W hW h1 h2=>by simp only [execOp,h1,h2];go_simp;first|done|rfl) ?_)
   dsimp only [wpT,List.reverse,List.reverseAux,FinT]
   intro W7 hW7 _
   simp only [Act.put,List.setIfInBounds_toArray,List.set_cons_zero,List.set_cons_succ]
   have HB7:=Lib.hid (HB.out.trans ((ext_below hW7).mono HB.out.size))
   clear hW7 G1 G2
   go_wp2
   go_roundw
   case rel=>exact⟨k+1,by omega,by go_num,HB7⟩
   case measure=>simp [intOf];omega
  ·obtain rfl:k=l.length:=by omega
   go_wp2
   go_ret
   exact⟨rfl,HB.out⟩
def Row (w:World) (g:Nat) (cs:Array Value):Prop:=∃t,w.heap[g]? = some (.cells cs t (0,0))
section
variable {w w':World} {g:Nat} {cs:Array Value}
theorem Row.at' {v:Value} (h:Row w g cs) (i:Nat) (hv:cs[i]? = some v):w.cell? ⟨g,i,none⟩=some v:=by
 obtain⟨t,h⟩:=h
 rw [cell_of_row w g i cs t (0,0) h]
 exact hv
theorem Row.fz (h:Row w g cs) (i:Nat):w.frozen? ⟨g,i,none⟩=false:=by obtain⟨t,h⟩:=h;exact frozen_of_row w g i _ _ h
theorem Row.lt (h:Row w g cs):g < w.heap.size:=by obtain⟨t,h⟩:=h;exact(Array.getElem?_eq_some_iff.1 h).1
theorem Row.ext (h:Row w g cs) (hb:Below w.heap.size w w'):Row w' g cs:=by obtain⟨t,h⟩:=h;exact⟨t,heap_ext h hb⟩
theorem Row.extB {B:Nat} (h:Row w g cs) (hb:Below B w w') (hg:g < B):Row w' g cs:=by obtain⟨t,h⟩:=h;exact⟨t,(hb.block g hg).trans h⟩
theorem Row.set (h:Row w g cs) (i:Nat) (v:Value):Row (w.setCell ⟨g,i,none⟩ v) g (cs.setIfInBounds i v):=by obtain⟨t,h⟩:=h;exact⟨t,heap_setCell_same w g i _ _ _ h⟩
theorem Row.other (h:Row w g cs) {k:Nat} (hk:g≠k) (i:Nat) (v:Value):Row (w.setCell ⟨k,i,none⟩ v) g cs:=by obtain⟨t,h⟩:=h;exact⟨t,(heap_setCell_other w _ g _ hk).trans h⟩
theorem Row.new (w:World) (t:TypeId) (cs:Array Value):Row (w.alloc (.cells cs t)) w.heap.size cs:=⟨t,heap_alloc_new w _⟩
end
set_option maxHeartbeats 2000000 in
set_option maxRecDepth 10000 in
theorem sameitem_one (x:WantL) (A1 A2:Option Addr) (c1 c2:Nat) (w:World) (h1:RdS w A1 x.groups) (h2:RdS w A2 x.groups) (hn:x.groups.length≤1000000000) :
  Calls Tryz.prog 50 #[encI x A1 c1,encI x A2 c2] w fun e w'=>e=.returned (.bool true)∧Below w.heap.size w w':=by
 obtain⟨W0,hW0⟩:∃W0,W0=(w.alloc (.cells #[.string x.jid,.string x.name,.slice A1 x.groups.length c1,.bool false,.bool false,.bool false,.bool false,.bool false] 48)).alloc (.cells #[.string x.jid,.string x.name,.slice A2 x.groups.length c2,.bool false,.bool false,.bool false,.bool false,.bool false] 48):=⟨_,rfl⟩
 have hX0:Below w.heap.size w W0:=by rw [hW0];exact((Below.refl _ _).alloc (Nat.le_refl _) _).alloc (by simp) _
 have hR1:Row W0 w.heap.size #[.string x.jid,.string x.name,.slice A1 x.groups.length c1,.bool false,.bool false,.bool false,.bool false,.bool false]:=by rw [hW0];exact(Row.new w _ _).ext ((Below.refl _ _).alloc (Nat.le_refl _) _)
 have hR2:Row W0 (w.heap.size+1) #[.string x.jid,.string x.name,.slice A2 x.groups.length c2,.bool false,.bool false,.bool false,.bool false,.bool false]:=by
  rw [hW0]
  exact⟨_,al_at (w.alloc (.cells #[.string x.jid,.string x.name,.slice A1 x.groups.length c1,.bool false,.bool false,.bool false,.bool false,.bool false] 48)) _ _ _ (by simp) (Below.refl _ _)⟩
 have H:=Lib.hid (same04_one x.groups A1 A2 c1 c2 W0 (h1.ext hX0) (h2.ext hX0) hn)
 have HX0:=Lib.hid hX0
 have HW0:=Lib.hid hW0
 have R1:=Lib.hid hR1
 have R2:=Lib.hid hR2
 clear h1 h2 hX0 hW0 hR1 hR2
 unfold encI
 go_enter Tryz.func50,Tryz.ntmps50
 go_wp2_with fail
 rw [←HW0.out]
 refine H.out.mono ?_
 rintro e w1 ⟨rfl,hb1⟩
 have X1:=Lib.hid (HX0.out.trans (hb1.mono HX0.out.size))
 have Q1:=Lib.hid (R1.out.ext hb1)
 have Q2:=Lib.hid (R2.out.ext hb1)
 clear hb1
 have a0:w1.cell? ⟨w.heap.size,0,none⟩=some _:=Q1.out.at' 0 rfl
 have a1:w1.cell? ⟨w.heap.size,1,none⟩=some _:=Q1.out.at' 1 rfl
 have a2:w1.cell? ⟨w.heap.size,2,none⟩=some _:=Q1.out.at' 2 rfl
 have a3:w1.cell? ⟨w.heap.size,3,none⟩=some _:=Q1.out.at' 3 rfl
 have a4:w1.cell? ⟨w.heap.size,4,none⟩=some _:=Q1.out.at' 4 rfl
 have a5:w1.cell? ⟨w.heap.size,5,none⟩=some _:=Q1.out.at' 5 rfl
 have a6:w1.cell? ⟨w.heap.size,6,none⟩=some _:=Q1.out.at' 6 rfl
 have a7:w1.cell? ⟨w.heap.size,7,none⟩=some _:=Q1.out.at' 7 rfl
 have b0:w1.cell? ⟨w.heap.size+1,0,none⟩=some _:=Q2.out.at' 0 rfl
 have b1:w1.cell? ⟨w.heap.size+1,1,none⟩=some _:=Q2.out.at' 1 rfl
 have b2:w1.cell? ⟨w.heap.size+1,2,none⟩=some _:=Q2.out.at' 2 rfl
 have b3:w1.cell? ⟨w.heap.size+1,3,none⟩=some _:=Q2.out.at' 3 rfl
 have b4:w1.cell? ⟨w.heap.size+1,4,none⟩=some _:=Q2.out.at' 4 rfl
 have b5:w1.cell? ⟨w.heap.size+1,5,none⟩=some _:=Q2.out.at' 5 rfl
 have b6:w1.cell? ⟨w.heap.size+1,6,none⟩=some _:=Q2.out.at' 6 rfl
 have b7:w1.cell? ⟨w.heap.size+1,7,none⟩=some _:=Q2.out.at' 7 rfl
 go_wp2
 go_ret
 exact⟨rfl,X1.out⟩
set_option maxHeartbeats 2000000 in
set_option maxRecDepth 10000 in
theorem samewant_one (x:WantL) (A1 A2:Option Addr) (c1 c2:Nat) (w:World) (h1:RdS w A1 x.groups) (h2:RdS w A2 x.groups) (hn:x.groups.length≤1000000000) :
  Calls Tryz.prog 19 #[encW x A1 c1,encW x A2 c2] w fun e w'=>e=.returned (.bool true)∧Below w.heap.size w w':=by
 obtain⟨W0,hW0⟩:∃W0,W0=(w.alloc (.cells #[.int .u8 x.kind,.string x.res,.string x.jid,.string x.name,.slice A1 x.groups.length c1,.bool false,.bool false,.bool false,.bool false,.bool false,.bool x.gone] 51)).alloc (.cells #[.int .u8 x.kind,.string x.res,.string x.jid,.string x.name,.slice A2 x.groups.length c2,.bool false,.bool false,.bool false,.bool false,.bool false,.bool x.gone] 51):=⟨_,rfl⟩
 have hX0:Below w.heap.size w W0:=by rw [hW0];exact((Below.refl _ _).alloc (Nat.le_refl _) _).alloc (by simp) _
 have H:=Lib.hid (sameitem_one x A1 A2 c1 c2 W0 (h1.ext hX0) (h2.ext hX0) hn)
 have HX0:=Lib.hid hX0
 have HW0:=Lib.hid hW0
 unfold encI at H
 clear h1 h2 hX0 hW0
 unfold encW
 cases hgn:x.gone
 all_goals
  rw [hgn] at HW0
  clear hgn
  go_enter Tryz.func19,Tryz.ntmps19
  go_wp2_with fail
  rw [←HW0.out]
  refine H.out.mono ?_
  rintro e w1 ⟨rfl,hb1⟩
  have X1:=Lib.hid (HX0.out.trans (hb1.mono HX0.out.size))
  clear hb1
  go_wp2
  go_ret
  exact⟨rfl,X1.out⟩
end Go.Proofs.YtnfokaecobddkaaGreatDoor
end
section
namespace Go.Proofs.YtnfokaecobddkaaGreatDoor
open Go.RowKit
set_option linter.unusedSimpArgs false
set_option linter.unusedVariables false
def cmp3 (x0 x1 x2 y0 y1 y2:ByteArray):Int:=if cmpB x0 y0≠0 then cmpB x0 y0 else if cmpB x1 y1≠0 then cmpB x1 y1 else if cmpB x2 y2≠0 then cmpB x2 y2 else 0
set_option maxHeartbeats 2000000 in
theorem scmp_any (b1 b2:Nat) (x0 x1 x2 y0 y1 y2:ByteArray) (w:World) (hx0:w.cell? ⟨b1,0,none⟩=some (.string x0)) (hx1:w.cell? ⟨b1,1,none⟩=some (.string x1)) (hx2:w.cell? ⟨b1,2,none⟩=some (.string x2))
  (hy0:w.cell? ⟨b2,0,none⟩=some (.string y0)) (hy1:w.cell? ⟨b2,1,none⟩=some (.string y1)) (hy2:w.cell? ⟨b2,2,none⟩=some (.string y2)) :
  Calls Tryz.prog 138 #[.slice (some ⟨b1,0,none⟩) 3 3,.slice (some ⟨b2,0,none⟩) 3 3] w fun e w'=>e=.returned (.int .i64 (cmp3 x0 x1 x2 y0 y1 y2))∧w'=w:=by
 have HC:Box (cmp3 x0 x1 x2 y0 y1 y2=if cmpB x0 y0≠0 then cmpB x0 y0 else if cmpB x1 y1≠0 then cmpB x1 y1 else if cmpB x2 y2≠0 then cmpB x2 y2 else 0):=⟨rfl⟩
 have H0:=Lib.hid (fun W=>cmp_any x0 y0 W)
 have H1:=Lib.hid (fun W=>cmp_any x1 y1 W)
 have H2:=Lib.hid (fun W=>cmp_any x2 y2 W)
 generalize cmp3 x0 x1 x2 y0 y1 y2=r at *
 generalize cmpB x0 y0=q0 at *
 generalize cmpB x1 y1=q1 at *
 generalize cmpB x2 y2=q2 at *
 go_enter Tryz.func138,Tryz.ntmps138
 go_wp2
 refine wp_loop_rounds 4 ?_
 rw [rounds_succ]
 go_wp2_with fail
 refine(H0.out _).mono ?_
 rintro e w1 ⟨rfl,rfl⟩
 by_cases h0:q0=0
 ·have h0n:(q0 != 0)=false:=by simp [h0]
  have HC1:Box (r=if q1≠0 then q1 else if q2≠0 then q2 else 0):=⟨by rw [HC.out,if_neg (by omega)]⟩
  clear HC h0
  go_wp2
  rw [rounds_succ]
  go_wp2_with fail
  refine(H1.out _).mono ?_
  rintro e w1 ⟨rfl,rfl⟩
  by_cases h1:q1=0
  ·have h1n:(q1 != 0)=false:=by simp [h1]
   have HC2:Box (r=if q2≠0 then q2 else 0):=⟨by rw [HC1.out,if_neg (by omega)]⟩
   clear HC1 h1
   go_wp2
   rw [rounds_succ]
   go_wp2_with fail
   refine(H2.out _).mono ?_
   rintro e w1 ⟨rfl,rfl⟩
   by_cases h2:q2=0
   ·have h2n:(q2 != 0)=false:=by simp [h2]
    have HC3:Box (r=0):=⟨by rw [HC2.out,if_neg (by omega)]⟩
    clear HC2 h2
    go_wp2
    rw [rounds_succ]
    go_wp2
    go_ret
    exact⟨ret_int HC3.out.symm,rfl⟩
   ·have h2n:(q2 != 0)=true:=by simp [h2]
    have HC3:Box (r=q2):=⟨by rw [HC2.out,if_pos h2]⟩
    clear HC2 h2
    go_wp2
    go_ret
    exact⟨ret_int HC3.out.symm,rfl⟩
  ·have h1n:(q1 != 0)=true:=by simp [h1]
   have HC3:Box (r=q1):=⟨by rw [HC1.out,if_pos h1]⟩
   clear HC1 h1
   go_wp2
   go_ret
   exact⟨ret_int HC3.out.symm,rfl⟩
 ·have h0n:(q0 != 0)=true:=by simp [h0]
  have HC3:Box (r=q0):=⟨by rw [HC.out,if_pos h0]⟩
  clear HC h0
  go_wp2
  go_ret
  exact⟨ret_int HC3.out.symm,rfl⟩
theorem cmpB_0 (a b:ByteArray):(cmpB a b=0)↔eqS a b=true:=by
 unfold cmpB lessB eqS
 cases h1:Op.bytesLess a.toList b.toList <;> cases h2:Op.bytesLess b.toList a.toList
 ·have:=less_tri _ _ h1 h2
  simp [this]
 ·simp
  intro e
  rw [e,less_irr] at h2
  exact absurd h2 (by decide)
 ·simp
  intro e
  rw [e,less_irr] at h1
  exact absurd h1 (by decide)
 ·simp
  intro e
  rw [e,less_irr] at h1
  exact absurd h1 (by decide)
theorem cmpB_neg (a b:ByteArray):decide (cmpB a b < 0)=lessB a b:=by
 unfold cmpB
 split
 ·rename_i h;rw [h];decide
 ·rename_i h
  simp only [Bool.not_eq_true] at h
  rw [h]
  split <;> decide
theorem cmp3_less (a b:JidL):decide (cmp3 a.dom a.loc a.res b.dom b.loc b.res < 0)=lessJ a b:=by
 unfold cmp3 lessJ
 by_cases h0:cmpB a.dom b.dom=0
 ·rw [if_neg (by omega),if_pos ((cmpB_0 _ _).1 h0)]
  by_cases h1:cmpB a.loc b.loc=0
  ·rw [if_neg (by omega),if_pos ((cmpB_0 _ _).1 h1),←cmpB_neg]
   by_cases h2:cmpB a.res b.res=0
   ·rw [if_neg (by omega),h2]
   ·rw [if_pos h2]
  ·rw [if_pos h1,if_neg (fun h=>h1 ((cmpB_0 _ _).2 h)),cmpB_neg]
 ·rw [if_pos h0,if_neg (fun h=>h0 ((cmpB_0 _ _).2 h)),cmpB_neg]
set_option maxHeartbeats 4000000 in
set_option maxRecDepth 10000 in
theorem less_any (a b:JidL) (w:World):Calls Tryz.prog 91 #[encJ a,encJ b] w fun e w'=>e=.returned (.bool (lessJ a b))∧Below w.heap.size w w':=by
 have HL:=Box.mk (cmp3_less a b)
 obtain⟨al,ad,ar⟩:=a
 obtain⟨bl,bd,br⟩:=b
 obtain⟨W0,hW0⟩:∃W0,W0=(w.alloc (.cells #[.string al,.string ad,.string ar] 97)).alloc (.cells #[.string bl,.string bd,.string br] 97):=⟨_,rfl⟩
 have hX0:Below w.heap.size w W0:=by rw [hW0];exact((Below.refl _ _).alloc (Nat.le_refl _) _).alloc (by simp) _
 have hR1:Row W0 w.heap.size #[.string al,.string ad,.string ar]:=by rw [hW0];exact(Row.new w _ _).ext ((Below.refl _ _).alloc (Nat.le_refl _) _)
 have hR2:Row W0 (w.heap.size+1) #[.string bl,.string bd,.string br]:=by
  rw [hW0]
  exact⟨_,al_at (w.alloc (.cells #[.string al,.string ad,.string ar] 97)) _ _ _ (by simp) (Below.refl _ _)⟩
 have HX0:=Lib.hid hX0
 have HW0:=Lib.hid hW0
 have R1:=Lib.hid hR1
 have R2:=Lib.hid hR2
 have hl1:=hR1.lt
 have hl2:=hR2.lt
 clear hX0 hW0 hR1 hR2
 unfold encJ
 dsimp only at HL
 generalize lessJ _ _=q at *
 go_enter Tryz.func91,Tryz.ntmps91
 go_upto_region 1 with fail
 rw [←HW0.out]
 have a0:W0.cell? ⟨w.heap.size,0,none⟩=some _:=R1.out.at' 0 rfl
 have a1:W0.cell? ⟨w.heap.size,1,none⟩=some _:=R1.out.at' 1 rfl
 have a2:W0.cell? ⟨w.heap.size,2,none⟩=some _:=R1.out.at' 2 rfl
 have b0:W0.cell? ⟨w.heap.size+1,0,none⟩=some _:=R2.out.at' 0 rfl
 have b1:W0.cell? ⟨w.heap.size+1,1,none⟩=some _:=R2.out.at' 1 rfl
 have b2:W0.cell? ⟨w.heap.size+1,2,none⟩=some _:=R2.out.at' 2 rfl
 go_region_held3 (fun w'=>w'.cell? ⟨w.heap.size,0,none⟩=some (.string al)∧w'.cell? ⟨w.heap.size,1,none⟩=some (.string ad)∧w'.cell? ⟨w.heap.size,2,none⟩=some (.string ar)∧w'.cell? ⟨w.heap.size+1,0,none⟩=some (.string bl)∧w'.cell? ⟨w.heap.size+1,1,none⟩=some (.string bd)∧w'.cell? ⟨w.heap.size+1,2,none⟩=some (.string br)) (go_keep) (fail)
 all_goals
  go_wp2_with fail
  go_region_held3 (fun _=>True) (trivial) ((go_at_call 138;refine(scmp_any _ _ ad al ar bd bl br _ (by simp) (by simp) (by simp) (by simp) (by simp) (by simp)).mono ?_;rintro e w' ⟨rfl,rfl⟩))
  go_wp2
  go_ret
  refine⟨ret_bool HL.out,?_⟩
  exact(((HX0.out.alloc HX0.out.size _).alloc (by have:=HX0.out.size;simp;omega) _).drew).drew
end Go.Proofs.YtnfokaecobddkaaGreatDoor
end
section
namespace Go.Proofs.YtnfokaecobddkaaGreatDoor.TI
open Go.RowKit
set_option linter.unusedSimpArgs false
set_option linter.unusedVariables false
def Fam (w0:World) (L:List (Nat×Array Value)):Nat→World→Prop:=fun i W=>match i with
 | 0=>w0.heap.size≤W.heap.size∧W.os=w0.os∧W.tape=w0.tape∧W.output=w0.output∧∀b,b < w0.heap.size→(∀x∈L,b≠x.1)→W.heap[b]? = w0.heap[b]?
 | i+1=>match L[i / 2]? with
  | none=>True
  | some x=>if i % 2=0 then ∃cs t,W.heap[x.1]? = some (.cells cs t (0,0))∧cs.size=x.2.size else Row W x.1 x.2
section
variable {w0:World} {L:List (Nat×Array Value)}
theorem fam_keep {W W':World} (h:Ext (Fam w0 L) w0 W):w0.heap.size≤W.heap.size∧W.os=w0.os∧W.tape=w0.tape∧W.output=w0.output∧∀b,b < w0.heap.size→(∀x∈L,b≠x.1)→W.heap[b]? = w0.heap[b]?:=
 h 0 ⟨Nat.le_refl _,rfl,rfl,rfl,fun _ _ _=>rfl⟩
theorem fam_row {W:World} (h:Ext (Fam w0 L) w0 W) {g:Nat} {cs:Array Value} (hr:Row w0 g cs) (hg:∀x∈L,g≠x.1):Row W g cs:=by
 obtain⟨t,hr⟩:=hr
 exact⟨t,((fam_keep (W':=W) h).2.2.2.2 g (Array.getElem?_eq_some_iff.1 hr).1 hg).trans hr⟩
theorem fam_below {W:World} (h:Ext (Fam w0 L) w0 W) {B:Nat} (hB:B≤w0.heap.size) (hL:∀x∈L,B≤x.1):Below B w0 W:=by
 obtain⟨h1,h2,h3,h4,h5⟩:=fam_keep (W':=W) h
 exact⟨h2,h3,h4,h1,fun b hb=>h5 b (by omega) (fun x hx=>by have:=hL x hx;omega)⟩
theorem fam_new {W W':World} (h:Ext (Fam w0 L) w0 W) (hL:∀x∈L,x.1 < w0.heap.size) (hb:Below W.heap.size W W'):Ext (Fam w0 L) W W':=fun i hi=>by
 obtain⟨k1,k2,k3,k4,k5⟩:=fam_keep (W':=W) h
 unfold Fam at hi ⊢
 split
 ·exact⟨Nat.le_trans k1 hb.size,hb.os.trans k2,hb.tape.trans k3,hb.output.trans k4,fun b hb1 hb2=>(hb.block b (by omega)).trans (k5 b hb1 hb2)⟩
 ·rename_i i
  dsimp only at hi
  split
  ·trivial
  ·rename_i x hx
   rw [hx] at hi
   dsimp only at hi
   have hlt:=hL x (List.mem_of_getElem? hx)
   split
   ·rename_i hc
    rw [if_pos hc] at hi
    obtain⟨cs,t,h1,h2⟩:=hi
    exact⟨cs,t,(hb.block _ (by omega)).trans h1,h2⟩
   ·rename_i hc
    rw [if_neg hc] at hi
    obtain⟨t,h1⟩:=hi
    exact⟨t,(hb.block _ (by omega)).trans h1⟩
theorem fam_old {W:World} (h:Ext (Fam w0 L) w0 W) {k:Nat} {x:Nat×Array Value} (hk:L[k]? = some x) {cs:Array Value} (hr:Row w0 x.1 cs) (hs:cs.size=x.2.size):∃cs t,W.heap[x.1]? = some (.cells cs t (0,0))∧cs.size=x.2.size:=by
 have h1:=h (2*k+1)
 unfold Fam at h1
 have e1:2*k / 2=k:=by omega
 have e2:2*k % 2=0:=by omega
 simp only [e1,e2,hk,if_true] at h1
 obtain⟨t,hr⟩:=hr
 exact h1 ⟨cs,t,hr,hs⟩
theorem fam_set {W:World} (h:Ext (Fam w0 L) w0 W) (hd:(L.map (·.1)).Nodup) {k:Nat} {x:Nat×Array Value} (hk:L[k]? = some x) {cs:Array Value} (hr:Row w0 x.1 cs) (hs:cs.size=x.2.size):Ext (Fam w0 L) W (W.setRow x.1 x.2):=fun i hi=>by
 obtain⟨cur,t,h1,h2⟩:=fam_old h hk hr hs
 have hset:=setRow_heap W x.1 cur x.2 t (0,0) h1
 unfold Fam at hi ⊢
 split
 ·obtain⟨k1,k2,k3,k4,k5⟩:=hi
  exact⟨by rw [size_setRow];exact k1,k2,k3,k4,fun b hb1 hb2=>(setRow_other W _ b _ (hb2 x (List.mem_of_getElem? hk))).trans (k5 b hb1 hb2)⟩
 ·rename_i i
  dsimp only at hi
  split
  ·trivial
  ·rename_i y hy
   rw [hy] at hi
   dsimp only at hi
   by_cases he:y.1=x.1
   ·have hyx:y=x:=by
     have hi1:=(List.getElem?_eq_some_iff.1 hy).1
     have hi2:=(List.getElem?_eq_some_iff.1 hk).1
     have:=(List.getElem?_inj (l:=L.map (·.1)) (i:=i / 2) (j:=k) (by rw [List.length_map];exact hi1) hd).1 (by rw [List.getElem?_map,List.getElem?_map,hy,hk];simp [he])
     rw [this,hk] at hy
     exact(Option.some.inj hy).symm
    subst hyx
    split
    ·exact⟨y.2,t,hset,rfl⟩
    ·exact⟨t,hset⟩
   ·split
    ·rename_i hc
     rw [if_pos hc] at hi
     obtain⟨cs',t',q1,q2⟩:=hi
     exact⟨cs',t',(setRow_other W _ _ _ he).trans q1,q2⟩
    ·rename_i hc
     rw [if_neg hc] at hi
     obtain⟨t',q1⟩:=hi
     exact⟨t',(setRow_other W _ _ _ he).trans q1⟩
theorem fam_stable {g:Nat} {cs:Array Value} {k:Nat} (hk:L[k]? = some (g,cs)):Stable (Fam w0 L) (.inr fun _ W=>Row W g cs):=fun v W W' h hx=>by
 have h1:=hx (2*k+2)
 unfold Fam at h1
 have e1:(2*k+1) / 2=k:=by omega
 have e2:¬(2*k+1) % 2=0:=by omega
 simp only [e1,e2,hk,if_false] at h1
 exact h1 h
end
section
variable {I:Nat→World→Prop} {ops:Array Oper} {w0:World} {Fin:List Ty→Prop} {rest:List Oper} {E:Env} {Ts:List Ty} {o:Oper}
theorem tw_store {x y:Operand} {ty:TypeId} {L:List (Nat×Array Value)} (k g:Nat) (new old:Array Value) (hk:L[k]? = some (g,new)) (hd:(L.map (·.1)).Nodup) (hr0:Row w0 g old) (hs:old.size=new.size) (hi:(Tryz.prog.info? ty).map (·.size)=some new.size) (h1:new.all (·.oneCell')=true)
  (hop:o.op=.store ty x y) (hx:evalE E x=some (.pointer (some ⟨g,0,none⟩))) (hy:evalE E y=some (.agg new)) (hw:Wd ops o E true)
  (hr:wpT (Fam w0 L) Tryz.prog ops w0 Fin rest (E.put o.dst (.inr fun _ W=>Row W g new)) ((.inr fun _ W=>Row W g new) :: Ts)):wpT (Fam w0 L) Tryz.prog ops w0 Fin (o :: rest) E Ts:=
 ⟨.inr fun _ W=>Row W g new,fam_stable hk,fun a W hW hs'=>by
  have e1:a.eval x=_:=evalE_of hx (by rw [hop];simp [Op.operands]) hs'
  have e2:a.eval y=_:=evalE_of hy (by rw [hop];simp [Op.operands]) hs'
  obtain⟨cur,t,q1,q2⟩:=fam_old hW hk hr0 hs
  rw [if_pos (hw a W hs')]
  exact wp_store_row ty x y hop g new e1 e2 t cur q1 hi q2 h1 ⟨undef,rfl,fam_set hW hd hk hr0 hs,t,setRow_heap W g cur new t (0,0) q1⟩,hr⟩
theorem tw_eqS {x y:Operand} (s t:ByteArray) (b:Bool) (hb:(s.toList == t.toList)=b) (hop:o.op=.binOp .eql 9 x y 9) (hx:evalE E x=some (.string s)) (hy:evalE E y=some (.string t)) (hw:Wd ops o E true)
  (hr:wpT I Tryz.prog ops w0 Fin rest (E.put o.dst (.inl (.bool b))) (.inl (.bool b) :: Ts)):wpT I Tryz.prog ops w0 Fin (o :: rest) E Ts:=
 tw_pure _ hw (fun a W hW hs=>by
  have h1:a.eval x=.string s:=evalE_of hx (by rw [hop];simp [Op.operands]) hs
  have h2:a.eval y=.string t:=evalE_of hy (by rw [hop];simp [Op.operands]) hs
  subst hb
  unfold execOp
  simp only [hop,h1,h2]
  go_simp) hr
set_option maxRecDepth 10000 in
theorem tw_ldRow {x:Operand} {g:Nat} {ty:TypeId} {fs:Array Field} (cs:Array Value) (hu:Tryz.prog.underlying ty=some (.struct fs)) (hi:(Tryz.prog.info? ty).map (·.size)=some cs.size) (hop:o.op=.load ty x) (hE:evalE E x=some (.pointer (some ⟨g,0,none⟩))) (hc:∀W,Ext I w0 W→Row W g cs) (hw:Wd ops o E true)
  (hr:wpT I Tryz.prog ops w0 Fin rest (E.put o.dst (.inl (.agg cs))) (.inl (.agg cs) :: Ts)):wpT I Tryz.prog ops w0 Fin (o :: rest) E Ts:=
 tw_pure (.agg cs) hw (fun a W hW hs=>by
  have h1:a.eval x=.pointer (some ⟨g,0,none⟩):=evalE_of hE (by rw [hop];simp [Op.operands]) hs
  obtain⟨t,h2⟩:=hc W hW
  have h3:=run_loadVar_row (P:=Tryz.prog) W g t ty _ (0,0) _ h2 hu rfl hi
  unfold execOp
  have h4:(Instr.sureAddr (.pointer (some ⟨g,0,none⟩))).run Tryz.prog W=.ok ⟨g,0,none⟩ W:=by first|rfl|(go_simp;done)|(simp [Instr.sureAddr,asAddr];done)
  simp only [hop,h1,Instr.loadAt,Sem.run_bind,Sem.run_pure,Result.andThen_ok,h4,h3]) hr
theorem tw_ldS {x:Operand} {g i:Nat} {s:ByteArray} (hop:o.op=.load 9 x) (hE:evalE E x=some (.pointer (some ⟨g,i,none⟩))) (hc:∀W,Ext I w0 W→W.cell? ⟨g,i,none⟩=some (.string s)) (hw:Wd ops o E true)
  (hr:wpT I Tryz.prog ops w0 Fin rest (E.put o.dst (.inl (.string s))) (.inl (.string s) :: Ts)):wpT I Tryz.prog ops w0 Fin (o :: rest) E Ts:=
 tw_pure (.string s) hw (fun a W hW hs=>by
  have h1:a.eval x=.pointer (some ⟨g,i,none⟩):=evalE_of hE (by rw [hop];simp [Op.operands]) hs
  have h2:=hc W hW
  unfold execOp
  simp only [hop,h1]
  go_simp) hr
theorem tw_ldB {x:Operand} {g i:Nat} {b:Bool} (hop:o.op=.load 4 x) (hE:evalE E x=some (.pointer (some ⟨g,i,none⟩))) (hc:∀W,Ext I w0 W→W.cell? ⟨g,i,none⟩=some (.bool b)) (hw:Wd ops o E true)
  (hr:wpT I Tryz.prog ops w0 Fin rest (E.put o.dst (.inl (.bool b))) (.inl (.bool b) :: Ts)):wpT I Tryz.prog ops w0 Fin (o :: rest) E Ts:=
 tw_pure (.bool b) hw (fun a W hW hs=>by
  have h1:a.eval x=.pointer (some ⟨g,i,none⟩):=evalE_of hE (by rw [hop];simp [Op.operands]) hs
  have h2:=hc W hW
  unfold execOp
  simp only [hop,h1]
  go_simp) hr
theorem tw_fnB {f:FuncId} {xs:Array Operand} {ts:Array TypeId} {L:List (Nat×Array Value)} (args:Array Value) (v:Value) (hL:∀x∈L,x.1 < w0.heap.size) (hop:o.op=.call { callee:=.value (.func f),args:=xs,argTypes:=ts})
  (hcf:∀(W:World),(callFunc f args).run Tryz.prog W=.ok (.enter f args) W) (hx:xs.toList.map (evalE E)=args.toList.map some) (hw:Wd ops o E true)
  (hc:∀W,Calls Tryz.prog f args W fun e w'=>e=.returned v∧Below W.heap.size W w')
  (hr:wpT (Fam w0 L) Tryz.prog ops w0 Fin rest (E.put o.dst (.inl v)) (.inl v :: Ts)):wpT (Fam w0 L) Tryz.prog ops w0 Fin (o :: rest) E Ts:=
 tw_fn args (.inl v) (stable_is _) hop hcf hx hw (fun W hW=>(hc W).mono fun e w' h=>⟨v,h.1,fam_new hW hL h.2,rfl⟩) hr
end
end Go.Proofs.YtnfokaecobddkaaGreatDoor.TI
end
