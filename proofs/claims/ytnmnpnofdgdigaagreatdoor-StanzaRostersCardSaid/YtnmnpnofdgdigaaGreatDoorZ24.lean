/- Part 24 of a proof laid in parts, one behind the other; no condition of its own. -/
import Derived.Test.YtnmnpnofdgdigaaGreatDoorZ23
import Derived.Test.YtnmnpnofdgdigaaGreatDoorZ18
import Derived.Test.YtnmnpnofdgdigaaGreatDoorZ17
set_option linter.all false
section
namespace Go.Proofs.YtnmnpnofdgdigaaGreatDoor
open Go.RowKit
set_option linter.unusedSimpArgs false
set_option linter.unusedVariables false
set_option maxHeartbeats 8000000 in
set_option maxRecDepth 10000 in
theorem sameit_one (x:ItemL) (A1 A2:Option Addr) (c1 c2:Nat) (w:World) (h1:RdS w A1 x.groups) (h2:RdS w A2 x.groups) (hn:x.groups.length≤1000000000) :
  Calls Tryz.prog 56 #[encT x A1 c1,encT x A2 c2] w fun e w'=>e=.returned (.bool true)∧Below w.heap.size w w':=by
 obtain⟨W0,hW0⟩:∃W0,W0=(w.alloc (.cells (cI x A1 c1) 54)).alloc (.cells (cI x A2 c2) 54):=⟨_,rfl⟩
 have hX0:Below w.heap.size w W0:=by rw [hW0];exact((Below.refl _ _).alloc (Nat.le_refl _) _).alloc (by simp) _
 have hR1:Row W0 w.heap.size (cI x A1 c1):=by rw [hW0];exact(Row.new w _ _).ext ((Below.refl _ _).alloc (Nat.le_refl _) _)
 have hR2:Row W0 (w.heap.size+1) (cI x A2 c2):=by
  rw [hW0]
  exact⟨_,al_at (w.alloc (.cells (cI x A1 c1) 54)) _ _ _ (by simp) (Below.refl _ _)⟩
 have H:=Lib.hid (same04_one x.groups A1 A2 c1 c2 W0 (h1.ext hX0) (h2.ext hX0) hn)
 have HX0:=Lib.hid hX0
 have HW0:=Lib.hid hW0
 have R1:=Lib.hid hR1
 have R2:=Lib.hid hR2
 clear h1 h2 hX0 hW0 hR1 hR2
 unfold encT
 unfold cI at *
 generalize x.to=xt at *
 generalize x.out=xo at *
 generalize x.frm=xf at *
 generalize x.inn=xi at *
 generalize x.known=xk at *
 cases xt <;> cases xo <;> cases xf <;> cases xi <;> cases xk
 all_goals
  go_enter Tryz.func56,Tryz.ntmps56
  go_wp2_with fail
  rw [←HW0.out]
  refine H.out.mono ?_
  rintro e w1 ⟨rfl,hb1⟩
  have X1:=Lib.hid (HX0.out.trans (hb1.mono HX0.out.size))
  have Q1:=Lib.hid (R1.out.ext hb1)
  have Q2:=Lib.hid (R2.out.ext hb1)
  clear hb1
  have a0:w1.cell? ⟨w.heap.size,0,none⟩=some _:=Q1.out.at' 0 rfl
  have a1:w1.cell? ⟨w.heap.size,1,none⟩=some _:=Q1.out.at' 1 rfl
  have a2:w1.cell? ⟨w.heap.size,2,none⟩=some _:=Q1.out.at' 2 rfl
  have a3:w1.cell? ⟨w.heap.size,3,none⟩=some _:=Q1.out.at' 3 rfl
  have a4:w1.cell? ⟨w.heap.size,4,none⟩=some _:=Q1.out.at' 4 rfl
  have a5:w1.cell? ⟨w.heap.size,5,none⟩=some _:=Q1.out.at' 5 rfl
  have a6:w1.cell? ⟨w.heap.size,6,none⟩=some _:=Q1.out.at' 6 rfl
  have a7:w1.cell? ⟨w.heap.size,7,none⟩=some _:=Q1.out.at' 7 rfl
  have b0:w1.cell? ⟨w.heap.size+1,0,none⟩=some _:=Q2.out.at' 0 rfl
  have b1:w1.cell? ⟨w.heap.size+1,1,none⟩=some _:=Q2.out.at' 1 rfl
  have b2:w1.cell? ⟨w.heap.size+1,2,none⟩=some _:=Q2.out.at' 2 rfl
  have b3:w1.cell? ⟨w.heap.size+1,3,none⟩=some _:=Q2.out.at' 3 rfl
  have b4:w1.cell? ⟨w.heap.size+1,4,none⟩=some _:=Q2.out.at' 4 rfl
  have b5:w1.cell? ⟨w.heap.size+1,5,none⟩=some _:=Q2.out.at' 5 rfl
  have b6:w1.cell? ⟨w.heap.size+1,6,none⟩=some _:=Q2.out.at' 6 rfl
  have b7:w1.cell? ⟨w.heap.size+1,7,none⟩=some _:=Q2.out.at' 7 rfl
  go_wp2
  go_ret
  exact⟨rfl,X1.out⟩
set_option maxHeartbeats 8000000 in
set_option maxRecDepth 10000 in
theorem sameitems_one (l:List ItemL) (A1 A2:Option Addr) (c1 c2:Nat) (w:World) (hz:SzL l) (h1:RdI w A1 l) (h2:RdI w A2 l) :
  Calls Tryz.prog 70 #[.slice A1 l.length c1,.slice A2 l.length c2] w fun e w'=>e=.returned (.bool true)∧Below w.heap.size w w':=by
 have HR1:=Lib.hid h1
 have HR2:=Lib.hid h2
 have HZ:=Lib.hid hz
 have hln:=hz.1
 clear h1 h2 hz
 have ES:=Lib.hid (enters_of (P:=Tryz.prog) Tryz.func56 (by kernel_rfl) rfl)
 go_enter Tryz.func70,Tryz.ntmps70
 go_wp2
 go_loopw [5] (fun s5 wr=>∃k:Nat,k≤l.length∧s5=.int .i64 k∧Hid (Below w.heap.size w wr)) (fun s5 _=>l.length - (intOf s5).toNat)
 case atStart=>exact⟨0,Nat.zero_le _,rfl,Lib.hid (Below.refl _ _)⟩
 case round=>
  obtain⟨k,hk,rfl,HB⟩:=hrel
  by_cases hlt:k < l.length
  ·obtain⟨x,hx⟩:∃x,l[k]? = some x:=⟨_,List.getElem?_eq_getElem hlt⟩
   have hxm:=List.mem_of_getElem? hx
   obtain⟨b1,off1,rfl,hb1,hcc1⟩:=(HR1.out.ext HB.out) (by omega)
   obtain⟨b2,off2,rfl,hb2,hcc2⟩:=(HR2.out.ext HB.out) (by omega)
   obtain⟨A3,c3,hcell3,hl3,hA3⟩:=hcc1 k x hx
   obtain⟨A4,c4,hcell4,hl4,hA4⟩:=hcc2 k x hx
   have hg:=(HZ.out.2 x hxm).2.2.1
   have G1:=Lib.hid (fun W (hW:Ext wr.drew W) (r:Nat) (u:Value) (hu:(cI x A3 c3)[r]? = some u)=>((ext_below hW).cell (p:=⟨b1,off1+k*8+r,none⟩) hb1).trans (hcell3 r u hu))
   have G2:=Lib.hid (fun W (hW:Ext wr.drew W) (r:Nat) (u:Value) (hu:(cI x A4 c4)[r]? = some u)=>((ext_below hW).cell (p:=⟨b2,off2+k*8+r,none⟩) hb2).trans (hcell4 r u hu))
   have FT1:=Lib.hid (fun W (hW:Ext wr.drew W)=>sameit_one x A3 A4 c3 c4 W (hA3.ext (ext_below hW)) (hA4.ext (ext_below hW)) (by omega))
   clear hcc1 hcc2 hcell3 hcell4 hA3 hA4 hx
   go_wp2_with fail
   refine wp_region_typed rfl (by kernel_rfl) (by kernel_rfl) ?_
   repeat (first|refine tw_ixI hlt (by omega) rfl rfl rfl (wdA rfl) ?_|refine tw_ldIt rfl rfl G1.out (wdA rfl) ?_|refine tw_ldIt rfl rfl G2.out (wdA rfl) ?_|refine tw_fnB #[encT x A3 c3,encT x A4 c4] _ rfl (fun W=>ES.out _ W) rfl (wdA rfl) FT1.out ?_|refine tw_skip (wd_no rfl rfl rfl) ?_|refine tw_mv (.inl rfl) rfl (wdA rfl) ?_|refine tw_mv (.inr rfl) rfl (wdA rfl) ?_|refine tw_pickL rfl rfl rfl (wdA rfl) ?_|refine tw_op1 _ rfl rfl (wdA rfl) (fun ρ W hW h1=>by simp only [execOp,h1];go_simp;first|done|rfl) ?_|refine tw_op2 _ rfl rfl rfl (wdA rfl) (fun ρ W hW h1 h2=>by simp only [execOp,h1,h2];go_simp;first|done|rfl) ?_)
   dsimp only [wpT,List.reverse,List.reverseAux,FinT]
   intro W5 hW5 _
   simp only [Act.put,List.setIfInBounds_toArray,List.set_cons_zero,List.set_cons_succ]
   have B5:=Lib.hid (HB.out.trans ((ext_below hW5).mono HB.out.size))
   clear hW5
   go_wp2
   go_roundw
   case rel=>exact⟨k+1,by omega,by go_num,B5⟩
   case measure=>simp [intOf];omega
  ·obtain rfl:k=l.length:=by omega
   go_wp2
   go_ret
   exact⟨rfl,HB.out⟩
set_option maxHeartbeats 8000000 in
set_option maxRecDepth 10000 in
theorem same21_one (l:List ItemL) (v:Int) (A1 A2:Option Addr) (c1 c2:Nat) (w:World) (hz:SzL l) (h1:RdI w A1 l) (h2:RdI w A2 l) :
  Calls Tryz.prog 29 #[.agg #[.slice A1 l.length c1,.int .i64 v],.agg #[.slice A2 l.length c2,.int .i64 v]] w fun e w'=>e=.returned (.bool true)∧Below w.heap.size w w':=by
 obtain⟨W0,hW0⟩:∃W0,W0=(w.alloc (.cells #[.slice A1 l.length c1,.int .i64 v] 67)).alloc (.cells #[.slice A2 l.length c2,.int .i64 v] 67):=⟨_,rfl⟩
 have hX0:Below w.heap.size w W0:=by rw [hW0];exact((Below.refl _ _).alloc (Nat.le_refl _) _).alloc (by simp) _
 have hR1:Row W0 w.heap.size #[.slice A1 l.length c1,.int .i64 v]:=by rw [hW0];exact(Row.new w _ _).ext ((Below.refl _ _).alloc (Nat.le_refl _) _)
 have hR2:Row W0 (w.heap.size+1) #[.slice A2 l.length c2,.int .i64 v]:=by
  rw [hW0]
  exact⟨_,al_at (w.alloc (.cells #[.slice A1 l.length c1,.int .i64 v] 67)) _ _ _ (by simp) (Below.refl _ _)⟩
 have H:=Lib.hid (sameitems_one l A1 A2 c1 c2 W0 hz (h1.ext hX0) (h2.ext hX0))
 have HX0:=Lib.hid hX0
 have HW0:=Lib.hid hW0
 have R1:=Lib.hid hR1
 have R2:=Lib.hid hR2
 clear h1 h2 hX0 hW0 hR1 hR2 hz
 go_enter Tryz.func29,Tryz.ntmps29
 go_wp2_with fail
 rw [←HW0.out]
 refine H.out.mono ?_
 rintro e w1 ⟨rfl,hb1⟩
 have X1:=Lib.hid (HX0.out.trans (hb1.mono HX0.out.size))
 have Q1:=Lib.hid (R1.out.ext hb1)
 have Q2:=Lib.hid (R2.out.ext hb1)
 clear hb1
 have a0:w1.cell? ⟨w.heap.size,0,none⟩=some _:=Q1.out.at' 0 rfl
 have a1:w1.cell? ⟨w.heap.size,1,none⟩=some _:=Q1.out.at' 1 rfl
 have b0:w1.cell? ⟨w.heap.size+1,0,none⟩=some _:=Q2.out.at' 0 rfl
 have b1:w1.cell? ⟨w.heap.size+1,1,none⟩=some _:=Q2.out.at' 1 rfl
 go_wp2
 go_ret
 exact⟨rfl,X1.out⟩
end Go.Proofs.YtnmnpnofdgdigaaGreatDoor
end
section
namespace Go.Proofs.YtnmnpnofdgdigaaGreatDoor
def laidI (x:ItemL) (i:Nat):List NodeL:=⟨1,rosN,(⟨#[105,116,101,109]⟩:ByteArray),attrsIt x,emB,(x.groups.length:Int)⟩ :: (x.groups.take i).flatMap gtree
theorem laidI_succ {x:ItemL} {i:Nat} {g:ByteArray} (h:x.groups[i]? = some g):laidI x (i+1)=laidI x i++gtree g:=by
 unfold laidI
 rw [List.take_add_one,h,List.flatMap_append,List.cons_append]
 simp
theorem laidI_all (x:ItemL):laidI x x.groups.length=itemT false x:=by
 unfold laidI itemT joinV
 rw [List.take_length,List.length_map,List.flatMap_def]
 rfl
def laidQ (l:List ItemL) (gone:Bool) (ver:Int) (i:Nat):List NodeL:=⟨1,rosN,(⟨#[113,117,101,114,121]⟩:ByteArray),[⟨emB,(⟨#[118,101,114]⟩:ByteArray),digS ver.toNat⟩],emB,(l.length:Int)⟩ :: (l.take i).flatMap (itemT gone)
theorem laidQ_succ {l:List ItemL} {gone:Bool} {ver:Int} {i:Nat} {x:ItemL} (h:l[i]? = some x):laidQ l gone ver (i+1)=laidQ l gone ver i++itemT gone x:=by
 unfold laidQ
 rw [List.take_add_one,h,List.flatMap_append,List.cons_append]
 simp
theorem laidQ_all (l:List ItemL) (gone:Bool) (ver:Int):laidQ l gone ver l.length=queryV l gone ver:=by
 unfold laidQ queryV joinV
 rw [List.take_length,List.length_map,List.flatMap_def]
 rfl
end Go.Proofs.YtnmnpnofdgdigaaGreatDoor
end
section
namespace Go.Proofs.YtnmnpnofdgdigaaGreatDoor
open Go.RowKit
set_option linter.unusedSimpArgs false
set_option linter.unusedVariables false
set_option maxHeartbeats 16000000 in
set_option maxRecDepth 10000 in
theorem refroster_of (l:List ItemL) (gone:Bool) (ver:Int) (A:Option Addr) (c:Nat) (w:World) (hz:SzL l) (hr:RdI w A l) (hc:l.length≤c)
  (hq:rosI l=true→0≤ver→ver≤9007199254740991→∀W,Below w.heap.size w W→Calls Tryz.prog 69 #[.slice A l.length c,.bool gone,.int .i64 ver] W (TwinPost (queryV l gone ver) W)) :
  Calls Tryz.prog 28 #[.slice A l.length c,.bool gone,.int .i64 ver] w (RosPost l gone ver w):=by
 have HM:=Lib.hid (refrmay_any l A c w hz hr hc)
 have HNO:=Lib.hid (fun w'=>@ros_no l gone ver w w')
 have HOK:=Lib.hid (@ros_ok l gone ver)
 have HQ:=Lib.hid hq
 clear hz hr hq
 by_cases h0:0≤ver
 ·by_cases h9:ver≤9007199254740991
  ·have hv:decide (0≤ver∧ver≤9007199254740991)=true:=decide_eq_true ⟨h0,h9⟩
   rw [hv] at HNO HOK
   simp only [Bool.true_and] at HNO HOK
   clear hv
   have h0i:¬(ver < 0):=by omega
   have h9i:¬(9007199254740991 < ver):=by omega
   cases hq:rosI l
   ·rw [hq] at HM HNO
    simp only [Bool.false_and] at HNO
    clear hq h0 h9 HQ HOK
    go_enter Tryz.func28,Tryz.ntmps28
    go_wp2_with fail
    refine HM.out.mono ?_
    rintro e w1 ⟨rfl,hb1⟩
    go_wp2
    go_ret2
    exact HNO.out _ trivial hb1
   ·have HQ1:=Lib.hid (HQ.out hq h0 h9)
    rw [hq] at HM HNO HOK
    simp only [Bool.true_and] at HNO HOK
    clear hq HQ h0 h9
    by_cases hbad:gone=true∧l.length≠1
    ·obtain⟨rfl,h1⟩:=hbad
     have h1j:((l.length:Int) != 1)=true:=by simp;omega
     have HF:=Lib.hid (fun w' (hb:Below w.heap.size w w')=>HNO.out w' (by rw [decide_eq_false h1];rfl) hb)
     clear h1
     go_enter Tryz.func28,Tryz.ntmps28
     go_wp2_with fail
     refine HM.out.mono ?_
     rintro e w1 ⟨rfl,hb1⟩
     go_wp2
     go_ret2
     exact HF.out _ hb1
    ·have hg1:gone=true→l.length=1:=fun hg=>by
      rcases Nat.decEq l.length 1 with h|h
      ·exact absurd ⟨hg,h⟩ hbad
      ·exact h
     have HOK2:=Lib.hid (HOK.out (by
      cases gone
      ·rfl
      ·rw [decide_eq_true (hg1 rfl)];rfl))
     have h1i:gone=false∨((l.length:Int) != 1)=false:=by
      cases gone
      ·exact .inl rfl
      ·exact .inr (by rw [hg1 rfl];rfl)
     clear hbad HNO HOK hg1
     unfold TwinPost at HQ1
     unfold RosPost
     rw [HOK2.out.1,HOK2.out.2]
     clear HOK2
     generalize queryV l gone ver=qv at *
     cases gone
     all_goals
      try replace h1i:=h1i.resolve_left (by decide)
      go_enter Tryz.func28,Tryz.ntmps28
      go_wp2_with fail
      refine HM.out.mono ?_
      rintro e w1 ⟨rfl,hb1⟩
      go_wp2_with fail
      refine(HQ1.out _ hb1).mono ?_
      rintro e w2 ⟨A2,c2,rfl,hl2,hn2,hb2⟩
      go_wp2
      go_ret2
      exact⟨A2,c2,rfl,hl2,hn2.mono hb1.size,hb1.trans (hb2.mono hb1.size)⟩
  ·have hv:decide (0≤ver∧ver≤9007199254740991)=false:=decide_eq_false (fun h=>h9 h.2)
   rw [hv] at HNO
   simp only [Bool.false_and] at HNO
   have h9i:9007199254740991 < ver:=by omega
   have h0i:¬(ver < 0):=by omega
   clear hv h9 h0 HM HQ HOK
   go_enter Tryz.func28,Tryz.ntmps28
   go_wp2
   go_ret2
   exact HNO.out _ trivial (Below.refl _ _)
 ·have hv:decide (0≤ver∧ver≤9007199254740991)=false:=decide_eq_false (fun h=>h0 h.1)
  rw [hv] at HNO
  simp only [Bool.false_and] at HNO
  have h0i:ver < 0:=by omega
  clear hv h0 HM HQ HOK
  go_enter Tryz.func28,Tryz.ntmps28
  go_wp2
  go_ret2
  exact HNO.out _ trivial (Below.refl _ _)
end Go.Proofs.YtnmnpnofdgdigaaGreatDoor
end
section
namespace Go.Proofs.YtnmnpnofdgdigaaGreatDoor
open Go.RowKit
set_option linter.unusedSimpArgs false
set_option linter.unusedVariables false
def WithPost2 (base:Nat) (v:Value) (l:List AttrL) (name value:ByteArray) (w:World) (e:Ending) (w':World):Prop:=
 ∃v',e=.returned v'∧w'.ownsRow base 75 3 v' (withA l name value).length (cellsA (withA l name value))∧Below base w w'∧∀k,k < w.heap.size→some k≠v.ownBlock→w'.heap[k]? = w.heap[k]?
set_option maxHeartbeats 1000000 in
set_option maxRecDepth 10000 in
theorem with_any2 (base:Nat) (v:Value) (l:List AttrL) (name value:ByteArray) (w:World) (h:w.ownsRow base 75 3 v l.length (cellsA l)) (hb:base≤w.heap.size) (hl:l.length≤1000) :
  Calls Tryz.prog 94 #[v,.string name,.string value] w (WithPost2 base v l name value w):=by
 have el:=emp_iff value
 have HD:Box (withA l name value=if isEmp value then l else l++[⟨emB,name,value⟩]):=⟨rfl⟩
 unfold WithPost2
 generalize withA l name value=r at *
 cases he:isEmp value
 all_goals
  rw [he] at el HD
  have hd:=HD.out
  try simp only [Bool.false_eq_true,if_false] at hd
  try simp only [if_true] at hd
  subst hd
  clear HD he
  have HO:=Lib.hid h
  clear h
  go_enter Tryz.func94,Tryz.ntmps94
 ·have HO2:=Lib.hid (HO.out.alloc (.cells #[.string ⟨#[]⟩,.string name,.string value] 75))
  have HRD:Hid (Rd (w.alloc (.cells #[.string ⟨#[]⟩,.string name,.string value] 75)) (w.heap.size+1) 3 (some ⟨w.heap.size,0,none⟩) 1 (cellsA [⟨emB,name,value⟩])):=Lib.hid (Rd.new w 75 #[.string ⟨#[]⟩,.string name,.string value] (s:=3) (n:=1) rfl)
  go_wp2_with (at_builtin;refine app_attrs rfl _ _ rfl base _ l.length l rfl HO2.out _ _ _ _ [⟨emB,name,value⟩] rfl HRD.out (by omega) (by simp;omega) ?_)
  intro v2 w2 hown2 hg _
  have HO3:=Lib.hid hown2
  have HX:Hid (Below base w w2):=Lib.hid (((Below.refl base w).alloc hb _).grown hg (by simp;omega) (fun q hq=>(HO.out.lt q hq).1))
  have HY:Hid (∀k,k < w.heap.size→some k≠v.ownBlock→w2.heap[k]? = w.heap[k]?):=Lib.hid (fun k hk hne=>(hg.block k (by simp;omega) hne).trans (((Below.refl w.heap.size w).alloc (Nat.le_refl _) (.cells #[.string ⟨#[]⟩,.string name,.string value] 75)).block k hk))
  clear hown2 hg
  go_wp2
  go_ret
  exact⟨_,rfl,by rw [List.length_append];exact HO3.out,HX.out,HY.out⟩
 ·go_wp2
  go_ret
  exact⟨_,rfl,HO.out,Below.refl _ _,fun k _ _=>rfl⟩
end Go.Proofs.YtnmnpnofdgdigaaGreatDoor
end
section
namespace Go.Proofs.YtnmnpnofdgdigaaGreatDoor
open Go.RowKit
set_option linter.unusedSimpArgs false
set_option linter.unusedVariables false
def HeldO (base:Nat) (u:Value) (w:World) (hs:List NodeH):Prop:=∀(i:Nat) (x:NodeH),hs[i]? = some x→x.1.attrs.length≤x.2.2∧NewO base u w x.2.1 x.1.attrs
def GrowT (base:Nat) (u:Value) (w:World) (hs:List NodeH):Prop:=w.ownsRow base 36 6 u hs.length (cellsN hs)∧HeldO base u w hs
section
variable {base:Nat} {u u':Value} {w w':World} {hs m:List NodeH}
theorem HeldO.app (h:HeldO base u w hs) (k:HeldO base u w m):HeldO base u w (hs++m):=fun i x hi=>by
 rcases Nat.lt_or_ge i hs.length with h1|h1
 ·rw [List.getElem?_append_left h1] at hi;exact h i x hi
 ·rw [List.getElem?_append_right h1] at hi;exact k _ x hi
theorem GrowT.ext (h:GrowT base u w hs) (hb:Below w.heap.size w w'):GrowT base u w' hs:=⟨own_keep h.1 hb,fun i x hi=>⟨(h.2 i x hi).1,(h.2 i x hi).2.ext hb⟩⟩
theorem GrowT.app (h:GrowT base u w hs) (hm:HeldO base u w m) (hown:w'.ownsRow base 36 6 u' (hs.length+m.length) (cellsN (hs++m))) (hg:w.grownBy w' u.ownBlock) (hr:u'.ownBlock=u.ownBlock∨u'.ownBlock=some w.heap.size):GrowT base u' w' (hs++m):=
 ⟨by rw [List.length_append];exact hown,fun i x hi=>⟨(h.2.app hm i x hi).1,(h.2.app hm i x hi).2.app hg hr⟩⟩
theorem GrowT.newV {A:Option Addr} {n c:Nat} (h:GrowT base (.slice A n c) w hs) (hn:n=hs.length):NewV base w A c (hs.map (·.1)):=by
 subst hn
 refine⟨hs,rfl,by rw [List.length_map];exact h.1,fun i x hi=>⟨(h.2 i x hi).1,?_⟩⟩
 obtain⟨g,rfl,-,-⟩:=own_some h.1 (Nat.lt_of_le_of_lt (Nat.zero_le _) (List.getElem?_eq_some_iff.1 hi).1)
 exact(h.2 i x hi).2.newA rfl
theorem NewA.newO {base' g:Nat} {A:Option Addr} {l:List AttrL} (h:NewA base' g w A l) (hb:base≤base') (hu:∀k,u.ownBlock=some k→k < base'):NewO base u w A l:=fun h0=>by
 obtain⟨b,off,h1,h2,h3,h4,h5⟩:=h h0
 exact⟨b,off,h1,Nat.le_trans hb h2,fun e=>by have:=hu b e;omega,h4,h5⟩
theorem NewV.held {base':Nat} {A:Option Addr} {c:Nat} {v:List NodeL} (h:NewV base' w A c v) (hb:base≤base') (hu:∀k,u.ownBlock=some k→k < base') :
  ∃m:List NodeH,m.map (·.1)=v∧m.length=v.length∧Rd w w.heap.size 6 A v.length (cellsN m)∧HeldO base u w m:=by
 obtain⟨l,rfl,h2,h3⟩:=h
 rw [List.length_map] at h2 ⊢
 exact⟨l,rfl,rfl,Rd.of_own h2,fun i x hi=>⟨(h3 i x hi).1,(h3 i x hi).2.newO hb hu⟩⟩
theorem HeldO.bare (l:List NodeL) (hl:∀n∈l,n.attrs=[]):HeldO base u w (l.map fun n=>(n,none,0)):=fun i x hi=>by
 rw [List.getElem?_map,Option.map_eq_some_iff] at hi
 obtain⟨n,hn,rfl⟩:=hi
 have:=hl n (List.mem_of_getElem? hn)
 dsimp only
 rw [this]
 exact⟨Nat.le_refl _,fun h0=>absurd h0 (by decide)⟩
end
theorem grow_new {base:Nat} {w:World} {n:NodeL} {A:Option Addr} {c:Nat} (hA:NewA base w.heap.size w A n.attrs) (hc:n.attrs.length≤c) (hb:base≤w.heap.size) :
  GrowT base (.slice (some ⟨w.heap.size,0,none⟩) 1 1) (w.alloc (.cells #[.int .u8 n.kind,.string n.space,.string n.name,.slice A n.attrs.length c,.string n.text,.int .i64 n.many] 36)) [(n,A,c)]:=by
 refine⟨⟨rfl,.inr ⟨w.heap.size,1,_,rfl,hb,heap_alloc_new w _,Nat.le_refl _,by unfold maxLen;omega,rfl,rfl⟩⟩,fun i x hi=>?_⟩
 cases i with
 | succ i=>simp at hi
 | zero=>
  simp only [List.getElem?_cons_zero,Option.some.injEq] at hi
  subst hi
  refine⟨hc,fun h0=>?_⟩
  obtain⟨b,off,h1,h2,h3,h4,h5⟩:=(hA.ext ((Below.refl _ _).alloc (Nat.le_refl _) (.cells #[.int .u8 n.kind,.string n.space,.string n.name,.slice A n.attrs.length c,.string n.text,.int .i64 n.many] 36))) h0
  exact⟨b,off,h1,h2,fun e=>h3 (by simpa [Value.ownBlock] using e.symm),h4,h5⟩
theorem newA_one {base g:Nat} {w:World} (a:AttrL) (hb:base≤w.heap.size) (hg:w.heap.size < g):NewA base g (w.alloc (.cells #[.string a.space,.string a.name,.string a.value] 75)) (some ⟨w.heap.size,0,none⟩) [a]:=fun h0=>by
 obtain⟨b,off,h1,h2,h3⟩:=rd_rda (l:=[a]) (Rd.new w 75 #[.string a.space,.string a.name,.string a.value] (s:=3) (n:=1) rfl) h0
 have e:=h1
 simp only [Option.some.injEq,Addr.mk.injEq,and_true] at e
 obtain⟨rfl,rfl⟩:=e
 exact⟨w.heap.size,0,rfl,hb,by omega,by simp,h3⟩
theorem itemT_len (gone:Bool) (x:ItemL):(itemT gone x).length≤1+2*x.groups.length:=by
 unfold itemT
 split
 ·simp
 ·rw [joinV_len]
  have:∀gs:List ByteArray,(gs.map gtree).flatten.length=2*gs.length:=fun gs=>by
   induction gs with
   | nil=>rfl
   | cons g gs ih=>rw [List.map_cons,List.flatten_cons,List.length_append,ih,gtree_two,List.length_cons];omega
  rw [this]
  omega
theorem laidI_len (x:ItemL) (i:Nat) (hi:i≤x.groups.length):(laidI x i).length=1+2*i:=by
 unfold laidI
 have:∀gs:List ByteArray,(gs.flatMap gtree).length=2*gs.length:=fun gs=>by
  induction gs with
  | nil=>rfl
  | cons g gs ih=>rw [List.flatMap_cons,List.length_append,ih,gtree_two,List.length_cons];omega
 rw [List.length_cons,this,List.length_take]
 omega
theorem laidQ_len {l:List ItemL} (gone:Bool) (ver:Int) (hz:SzL l):∀i,i≤l.length→(laidQ l gone ver i).length≤1+2001*i
 | 0,_=>by unfold laidQ;simp
 | i+1,hi=>by
  have hx:l[i]? = some l[i]:=List.getElem?_eq_getElem hi
  rw [laidQ_succ hx,List.length_append]
  have h1:=laidQ_len gone ver hz i (by omega)
  have h2:=itemT_len gone l[i]
  have h3:=(hz.2 _ (List.getElem_mem hi)).2.2.1
  omega
end Go.Proofs.YtnmnpnofdgdigaaGreatDoor
end
section
namespace Go.Proofs.YtnmnpnofdgdigaaGreatDoor
open Go.RowKit
set_option linter.unusedSimpArgs false
set_option linter.unusedVariables false
def NdW (w:World) (g:Nat) (cs:Array Value):Prop:=w.heap[g]? = some (.cells cs 36 (0,0))
section
variable {w w' q:World} {g:Nat} {cs:Array Value}
theorem NdW.row (h:NdW w g cs):Row w g cs:=⟨_,h⟩
theorem NdW.set (h:NdW w g cs) (i:Nat) (v:Value):NdW (w.setCell ⟨g,i,none⟩ v) g (cs.setIfInBounds i v):=heap_setCell_same w g i _ _ _ h
theorem NdW.ne {base s n:Nat} {v:Value} {xs:List Value} (h:NdW w g cs) (ho:w.ownsRow base 75 s v n xs):v.ownBlock≠some g:=fun e=>by
 rcases ho.2 with ⟨rfl,-⟩|⟨k,cap,cur,rfl,-,hk,-⟩
 ·cases e
 ·simp only [Value.ownBlock,Option.some.injEq] at e
  subst e
  have:=hk.symm.trans h
  simp only [Option.some.injEq,Obj.cells.injEq] at this
  exact absurd this.2.1 (by decide)
theorem newA_own {base base' c:Nat} {A:Option Addr} {l:List AttrL} (h:w.ownsRow base' 75 3 (.slice A l.length c) l.length (cellsA l)) (hb:base≤base'):NewA base w.heap.size w A l:=fun h0=>by
 obtain⟨b,off,rfl,h1,hc⟩:=rd_rda (Rd.of_own h) h0
 have hlt:=h.lt b rfl
 exact⟨b,off,rfl,by omega,by omega,hlt.2,hc⟩
end
structure ItS (w:World) (cs:Array Value) (g:Nat) (k:Int) (L:List AttrL) (u:Value) (W:World):Prop where
 b:Below w.heap.size w W
 r:Row W w.heap.size cs
 n:NdW W g #[.int .u8 1,.string (⟨#[106,97,98,98,101,114,58,105,113,58,114,111,115,116,101,114]⟩:ByteArray),.string (⟨#[105,116,101,109]⟩:ByteArray),u,.string ⟨#[]⟩,.int .i64 k]
 o:W.ownsRow (w.heap.size+1) 75 3 u L.length (cellsA L)
 g:w.heap.size < g
section
variable {w q:World} {cs:Array Value} {g:Nat} {k:Int} {L:List AttrL} {u:Value}
theorem itS_new (hb:Below w.heap.size w q) (hr:Row q w.heap.size cs) (ho:q.ownsRow (w.heap.size+1) 75 3 u L.length (cellsA L)) :
  ItS w cs q.heap.size 0 L u (q.alloc (.cells #[.int .u8 1,.string (⟨#[106,97,98,98,101,114,58,105,113,58,114,111,115,116,101,114]⟩:ByteArray),.string (⟨#[105,116,101,109]⟩:ByteArray),u,.string ⟨#[]⟩,.int .i64 0] 36)):=
 ⟨hb.alloc hb.size _,hr.ext ((Below.refl _ _).alloc (Nat.le_refl _) _),heap_alloc_new q _,ho.alloc _,hr.lt⟩
theorem itS_set {z0 z1 z2 z3 z4 z5:Value} (hb:Below w.heap.size w q) (hr:Row q w.heap.size cs) (hn:NdW q g #[z0,z1,z2,z3,z4,z5]) (ho:q.ownsRow (w.heap.size+1) 75 3 u L.length (cellsA L)) (hg:w.heap.size < g) :
  ItS w cs g 0 L u ((((((q.setCell ⟨g,0,none⟩ (.int .u8 1)).setCell ⟨g,1,none⟩ (.string (⟨#[106,97,98,98,101,114,58,105,113,58,114,111,115,116,101,114]⟩:ByteArray))).setCell ⟨g,2,none⟩ (.string (⟨#[105,116,101,109]⟩:ByteArray))).setCell ⟨g,3,none⟩ u).setCell ⟨g,4,none⟩ (.string ⟨#[]⟩)).setCell ⟨g,5,none⟩ (.int .i64 0)):=by
 have hne:=hn.ne ho
 have hl:=Nat.le_of_lt hg
 have hq:w.heap.size≠g:=by omega
 refine⟨(((((hb.setCell (p:=⟨g,0,none⟩) hl _).setCell (p:=⟨g,1,none⟩) hl _).setCell (p:=⟨g,2,none⟩) hl _).setCell (p:=⟨g,3,none⟩) hl _).setCell (p:=⟨g,4,none⟩) hl _).setCell (p:=⟨g,5,none⟩) hl _,
  (((((hr.other hq _ _).other hq _ _).other hq _ _).other hq _ _).other hq _ _).other hq _ _,?_,own_set (own_set (own_set (own_set (own_set (own_set ho hne _) hne _) hne _) hne _) hne _) hne _,hg⟩
 have h:=(((((hn.set 0 (.int .u8 1)).set 1 (.string (⟨#[106,97,98,98,101,114,58,105,113,58,114,111,115,116,101,114]⟩:ByteArray))).set 2 (.string (⟨#[105,116,101,109]⟩:ByteArray))).set 3 u).set 4 (.string ⟨#[]⟩)).set 5 (.int .i64 0)
 simp only [List.setIfInBounds_toArray,List.set_cons_zero,List.set_cons_succ] at h
 exact h
theorem set6_S {b:Nat} {s t:ByteArray} (hne:b≠g) (h:q.cell? ⟨b,0,none⟩=some (.string s)∧q.cell? ⟨b,1,none⟩=some (.string t)) (u0 u1 u2 u3 u4 u5:Value) :
  ((((((q.setCell ⟨g,0,none⟩ u0).setCell ⟨g,1,none⟩ u1).setCell ⟨g,2,none⟩ u2).setCell ⟨g,3,none⟩ u3).setCell ⟨g,4,none⟩ u4).setCell ⟨g,5,none⟩ u5).cell? ⟨b,0,none⟩=some (.string s)∧
  ((((((q.setCell ⟨g,0,none⟩ u0).setCell ⟨g,1,none⟩ u1).setCell ⟨g,2,none⟩ u2).setCell ⟨g,3,none⟩ u3).setCell ⟨g,4,none⟩ u4).setCell ⟨g,5,none⟩ u5).cell? ⟨b,1,none⟩=some (.string t):=
 ⟨(put6_cell q g b 0 hne u0 u1 u2 u3 u4 u5).trans h.1,(put6_cell q g b 1 hne u0 u1 u2 u3 u4 u5).trans h.2⟩
theorem ItS.node {W W':World} (h:ItS w cs g k L u W) (hk:∀j,j < W.heap.size→some j≠u.ownBlock→W'.heap[j]? = W.heap[j]?):NdW W' g #[.int .u8 1,.string (⟨#[106,97,98,98,101,114,58,105,113,58,114,111,115,116,101,114]⟩:ByteArray),.string (⟨#[105,116,101,109]⟩:ByteArray),u,.string ⟨#[]⟩,.int .i64 k]:=
 (hk g h.n.row.lt (fun e=>h.n.ne h.o e.symm)).trans h.n
theorem ItS.step {W W':World} {L':List AttrL} {u':Value} (h:ItS w cs g k L u W) (ho:W'.ownsRow (w.heap.size+1) 75 3 u' L'.length (cellsA L')) (hb:Below (w.heap.size+1) W W') (hk:∀j,j < W.heap.size→some j≠u.ownBlock→W'.heap[j]? = W.heap[j]?) :
  ItS w cs g k L' u' (W'.setCell ⟨g,3,none⟩ u'):=by
 have hn:=h.node hk
 have hl:=Nat.le_of_lt h.g
 refine⟨(h.b.trans (hb.mono (Nat.le_succ _))).setCell (p:=⟨g,3,none⟩) hl _,(h.r.extB hb (Nat.lt_succ_self _)).other (by have:=h.g;omega) _ _,?_,own_set ho (hn.ne ho) _,h.g⟩
 have h2:=hn.set 3 u'
 simp only [List.setIfInBounds_toArray,List.set_cons_zero,List.set_cons_succ] at h2
 exact h2
theorem ItS.many {W:World} (h:ItS w cs g k L u W) (j:Int):ItS w cs g j L u (W.setCell ⟨g,5,none⟩ (.int .i64 j)):=by
 have hl:=Nat.le_of_lt h.g
 refine⟨h.b.setCell (p:=⟨g,5,none⟩) hl _,h.r.other (by have:=h.g;omega) _ _,?_,own_set h.o (h.n.ne h.o) _,h.g⟩
 have h2:=h.n.set 5 (.int .i64 j)
 simp only [List.setIfInBounds_toArray,List.set_cons_zero,List.set_cons_succ] at h2
 exact h2
theorem ItS.ext {W W':World} (h:ItS w cs g k L u W) (hb:Below W.heap.size W W'):ItS w cs g k L u W':=
 ⟨h.b.trans (hb.mono h.b.size),h.r.ext hb,(hb.block g h.n.row.lt).trans h.n,own_keep h.o hb,h.g⟩
end
theorem withA_em (l:List AttrL) (name:ByteArray):withA l name emB=l:=by unfold withA;rw [show isEmp emB=true from rfl];rfl
end Go.Proofs.YtnmnpnofdgdigaaGreatDoor
end
