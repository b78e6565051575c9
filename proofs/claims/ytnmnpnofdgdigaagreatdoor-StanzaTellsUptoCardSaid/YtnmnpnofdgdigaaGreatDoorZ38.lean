/- Part 38 of a proof laid in parts, one behind the other; no condition of its own. -/
import Derived.Test.YtnmnpnofdgdigaaGreatDoorZ29
import Derived.Test.YtnmnpnofdgdigaaGreatDoorZ31
import Derived.Laws.StructEq
set_option linter.all false
section
namespace Go.Proofs.YtnmnpnofdgdigaaGreatDoor
open Go.RowKit
set_option linter.unusedSimpArgs false
set_option linter.unusedVariables false
def sameL {α:Type} (p:α→α→Bool) (l m:List α):Bool:=decide (l.length=m.length) && (List.range l.length).all fun i=>match l[i]?,m[i]? with
 | some x,some y=>p x y
 | _,_=>false
theorem sameL_no {α:Type} {p:α→α→Bool} {l m:List α} (h:¬l.length=m.length):sameL p l m=false:=by
 unfold sameL
 rw [decide_eq_false h,Bool.false_and]
theorem sameL_at {α:Type} {p:α→α→Bool} {l m:List α} {i:Nat} {x y:α} (h1:l[i]? = some x) (h2:m[i]? = some y) (h:p x y=false):sameL p l m=false:=by
 unfold sameL
 have hi:=(List.getElem?_eq_some_iff.1 h1).1
 rw [Bool.and_eq_false_iff]
 right
 rw [List.all_eq_false]
 refine⟨i,List.mem_range.2 hi,?_⟩
 rw [h1,h2]
 simp [h]
theorem sameL_yes {α:Type} {p:α→α→Bool} {l m:List α} (h:l.length=m.length) (h2:∀(i:Nat) (x y:α),l[i]? = some x→m[i]? = some y→p x y=true):sameL p l m=true:=by
 unfold sameL
 rw [decide_eq_true h,Bool.true_and,List.all_eq_true]
 intro i hi
 have hil:=List.mem_range.1 hi
 have h1:=List.getElem?_eq_getElem hil
 have h3:=List.getElem?_eq_getElem (show i < m.length by omega)
 rw [h1,h3]
 exact h2 i _ _ h1 h3
set_option maxHeartbeats 2000000 in
theorem eqA_any (g:Nat) (lb:Array Value) (A1 A2:Option Addr) (c1 c2:Nat) (l m:List (AttrL)) (p:AttrL→AttrL→Bool) (w:World) (hr1:RdA w w.heap.size A1 l) (hr2:RdA w w.heap.size A2 m) (hn1:l.length≤1000000000) (hn2:m.length≤1000000000)
  (eg:∀args w,(callFunc g args).run Tryz.prog w=.ok (.enter g args) w)
  (hp:∀(W:World) (i:Nat) (x y:AttrL),Below w.heap.size w W→l[i]? = some x→m[i]? = some y→Calls Tryz.prog g (#[encA x,encA y]++lb) W fun e w'=>e=.returned (.bool (p x y))∧Below w.heap.size w w') :
  Calls Tryz.prog 169 #[.slice A1 l.length c1,.slice A2 m.length c2,.func (.func g) #[] lb] w fun e w'=>e=.returned (.bool (sameL p l m))∧Below w.heap.size w w':=by
 have HP:=Lib.hid hp
 have HR1:=Lib.hid hr1
 have HR2:=Lib.hid hr2
 clear hp hr1 hr2
 have HSN:=Lib.hid (fun h=>sameL_no (p:=p) (l:=l) (m:=m) h)
 have HSA:=Lib.hid (fun i x y h1 h2 h3=>sameL_at (p:=p) (l:=l) (m:=m) (i:=i) (x:=x) (y:=y) h1 h2 h3)
 have HSY:=Lib.hid (fun h1 h2=>sameL_yes (p:=p) (l:=l) (m:=m) h1 h2)
 generalize sameL p l m=r at *
 by_cases hlm:l.length=m.length
 ·have hlm':((l.length:Int) != (m.length:Int))=false:=by simp [hlm]
  have HLM:=Lib.hid hlm
  clear hlm
  go_enter Tryz.func169,Tryz.ntmps169
  go_wp2
  clear hlm'
  go_loopw [7,8,9,17] (fun _ _ _ s17 wr=>∃k:Nat,k≤l.length∧s17=.int .i64 k∧Hid (Below w.heap.size w wr)∧Hid (∀(j:Nat) (x y:AttrL),j < k→l[j]? = some x→m[j]? = some y→p x y=true)) (fun _ _ _ s17 _=>l.length - (intOf s17).toNat)
  case atStart=>exact⟨0,Nat.zero_le _,rfl,Lib.hid (Below.refl _ _),Lib.hid (fun j x y hj=>absurd hj (by omega))⟩
  case round=>
   obtain⟨k,hk,rfl,HB,HN⟩:=hrel
   by_cases hlt:k < l.length
   ·have hlt2:k < m.length:=by have:=HLM.out;omega
    obtain⟨x,hx⟩:∃x,l[k]? = some x:=⟨_,List.getElem?_eq_getElem hlt⟩
    obtain⟨y,hy⟩:∃y,m[k]? = some y:=⟨_,List.getElem?_eq_getElem hlt2⟩
    have HX:=Lib.hid hx
    have HY:=Lib.hid hy
    obtain⟨b1,o1,rfl,hb1,hc1⟩:=HR1.out (by omega)
    obtain⟨d01,d11,d21⟩:=(hc1 k x hx).keep (w':=wr) hb1 (fun q hq=>HB.out.cell hq)
    obtain⟨b2,o2,rfl,hb2,hc2⟩:=HR2.out (by omega)
    obtain⟨d02,d12,d22⟩:=(hc2 k y hy).keep (w':=wr) hb2 (fun q hq=>HB.out.cell hq)
    have hne1:b1≠wr.heap.size:=by have:=HB.out.size;omega
    have hne2:b2≠wr.heap.size:=by have:=HB.out.size;omega
    have hlw2:b2 < wr.heap.size:=by have:=HB.out.size;omega
    have e02:=(World.cell?_alloc_lt wr (.cells #[.string x.space,.string x.name,.string x.value] 75) ⟨b2,o2+k*3,none⟩ hlw2).trans d02
    have e12:=(World.cell?_alloc_lt wr (.cells #[.string x.space,.string x.name,.string x.value] 75) ⟨b2,o2+k*3+1,none⟩ hlw2).trans d12
    have e22:=(World.cell?_alloc_lt wr (.cells #[.string x.space,.string x.name,.string x.value] 75) ⟨b2,o2+k*3+2,none⟩ hlw2).trans d22
    have hcall:=HP.out ((wr.alloc (.cells #[.string x.space,.string x.name,.string x.value] 75)).alloc (.cells #[.string y.space,.string y.name,.string y.value] 75)) k x y ((HB.out.alloc HB.out.size _).alloc (by have:=HB.out.size;simp;omega) _) hx hy
    have eg':=eg (#[encA x,encA y]++lb)
    try unfold encA at hcall eg'
    try unfold encN at hcall eg'
    clear hx hy hc1 hc2
    cases hq:p x y with
    | false=>
     have HF:=Lib.hid (HSA.out k x y HX.out HY.out hq)
     rw [hq] at hcall
     clear hq
     have HCALL:=Lib.hid hcall
     clear hcall
     go_wp2_with fail
     refine HCALL.out.mono ?_
     rintro e w1 ⟨rfl,hb9⟩
     have X1:=Lib.hid hb9
     clear hb9
     go_wp2
     go_ret
     exact⟨ret_bool HF.out.symm,X1.out⟩
    | true=>
     have HF:Hid (∀(j:Nat) (x y:AttrL),j < k+1→l[j]? = some x→m[j]? = some y→p x y=true):=Lib.hid (fun j x' y' hj hx' hy'=>by
      rcases Nat.lt_or_ge j k with h1|h1
      ·exact HN.out j x' y' h1 hx' hy'
      ·obtain rfl:j=k:=by omega
       rw [HX.out] at hx'
       rw [HY.out] at hy'
       simp only [Option.some.injEq] at hx' hy'
       rw [←hx',←hy'];exact hq)
     rw [hq] at hcall
     clear hq
     have HCALL:=Lib.hid hcall
     clear hcall
     go_wp2_with fail
     refine HCALL.out.mono ?_
     rintro e w1 ⟨rfl,hb9⟩
     have X1:=Lib.hid hb9
     clear hb9
     go_wp2
     go_roundw
     case rel=>exact⟨k+1,by omega,by go_num,X1,HF⟩
     case measure=>simp [intOf];omega
   ·have HF:=Lib.hid (HSY.out HLM.out (fun j x y hx hy=>HN.out j x y (by have:=(List.getElem?_eq_some_iff.1 hx).1;omega) hx hy))
    obtain rfl:k=l.length:=by omega
    go_wp2
    go_ret
    exact⟨ret_bool HF.out.symm,HB.out⟩
 ·have hlm':((l.length:Int) != (m.length:Int))=true:=by rw [bne_iff_ne];omega
  have HF:=Lib.hid (HSN.out hlm)
  clear hlm
  go_enter Tryz.func169,Tryz.ntmps169
  go_wp2
  go_ret
  exact⟨ret_bool HF.out.symm,Below.refl _ _⟩
set_option maxHeartbeats 2000000 in
theorem eqN_any (g:Nat) (lb:Array Value) (A1 A2:Option Addr) (c1 c2:Nat) (l m:List (NodeL)) (p:NodeL→NodeL→Bool) (w:World) (hr1:RdV w w.heap.size A1 l) (hr2:RdV w w.heap.size A2 m) (hn1:l.length≤1000000000) (hn2:m.length≤1000000000)
  (eg:∀args w,(callFunc g args).run Tryz.prog w=.ok (.enter g args) w)
  (hp:∀(W:World) (i:Nat) (x y:NodeL) (A':Option Addr) (c':Nat) (A'':Option Addr) (c'':Nat),Below w.heap.size w W→l[i]? = some x→m[i]? = some y→x.attrs.length≤c'→RdA w w.heap.size A' x.attrs→y.attrs.length≤c''→RdA w w.heap.size A'' y.attrs→Calls Tryz.prog g (#[encN x A' c',encN y A'' c'']++lb) W fun e w'=>e=.returned (.bool (p x y))∧Below w.heap.size w w') :
  Calls Tryz.prog 168 #[.slice A1 l.length c1,.slice A2 m.length c2,.func (.func g) #[] lb] w fun e w'=>e=.returned (.bool (sameL p l m))∧Below w.heap.size w w':=by
 have HP:=Lib.hid hp
 have HR1:=Lib.hid hr1
 have HR2:=Lib.hid hr2
 clear hp hr1 hr2
 have HSN:=Lib.hid (fun h=>sameL_no (p:=p) (l:=l) (m:=m) h)
 have HSA:=Lib.hid (fun i x y h1 h2 h3=>sameL_at (p:=p) (l:=l) (m:=m) (i:=i) (x:=x) (y:=y) h1 h2 h3)
 have HSY:=Lib.hid (fun h1 h2=>sameL_yes (p:=p) (l:=l) (m:=m) h1 h2)
 generalize sameL p l m=r at *
 by_cases hlm:l.length=m.length
 ·have hlm':((l.length:Int) != (m.length:Int))=false:=by simp [hlm]
  have HLM:=Lib.hid hlm
  clear hlm
  go_enter Tryz.func168,Tryz.ntmps168
  go_wp2
  clear hlm'
  go_loopw [7,8,9,17] (fun _ _ _ s17 wr=>∃k:Nat,k≤l.length∧s17=.int .i64 k∧Hid (Below w.heap.size w wr)∧Hid (∀(j:Nat) (x y:NodeL),j < k→l[j]? = some x→m[j]? = some y→p x y=true)) (fun _ _ _ s17 _=>l.length - (intOf s17).toNat)
  case atStart=>exact⟨0,Nat.zero_le _,rfl,Lib.hid (Below.refl _ _),Lib.hid (fun j x y hj=>absurd hj (by omega))⟩
  case round=>
   obtain⟨k,hk,rfl,HB,HN⟩:=hrel
   by_cases hlt:k < l.length
   ·have hlt2:k < m.length:=by have:=HLM.out;omega
    obtain⟨x,hx⟩:∃x,l[k]? = some x:=⟨_,List.getElem?_eq_getElem hlt⟩
    obtain⟨y,hy⟩:∃y,m[k]? = some y:=⟨_,List.getElem?_eq_getElem hlt2⟩
    have HX:=Lib.hid hx
    have HY:=Lib.hid hy
    obtain⟨b1,o1,rfl,hb1,hc1⟩:=HR1.out (by omega)
    obtain⟨p01,p11,p21,⟨A',c',p31,hl1,hA1⟩,p41,p51⟩:=hc1 k x hx
    have d01:=(HB.out.cell (p:=⟨b1,o1+k*6,none⟩) hb1).trans p01
    have d11:=(HB.out.cell (p:=⟨b1,o1+k*6+1,none⟩) hb1).trans p11
    have d21:=(HB.out.cell (p:=⟨b1,o1+k*6+2,none⟩) hb1).trans p21
    have d31:=(HB.out.cell (p:=⟨b1,o1+k*6+3,none⟩) hb1).trans p31
    have d41:=(HB.out.cell (p:=⟨b1,o1+k*6+4,none⟩) hb1).trans p41
    have d51:=(HB.out.cell (p:=⟨b1,o1+k*6+5,none⟩) hb1).trans p51
    have HL1:=Lib.hid hl1
    have HA1:=Lib.hid hA1
    clear hl1 hA1 p01 p11 p21 p31 p41 p51
    obtain⟨b2,o2,rfl,hb2,hc2⟩:=HR2.out (by omega)
    obtain⟨p02,p12,p22,⟨A'',c'',p32,hl2,hA2⟩,p42,p52⟩:=hc2 k y hy
    have d02:=(HB.out.cell (p:=⟨b2,o2+k*6,none⟩) hb2).trans p02
    have d12:=(HB.out.cell (p:=⟨b2,o2+k*6+1,none⟩) hb2).trans p12
    have d22:=(HB.out.cell (p:=⟨b2,o2+k*6+2,none⟩) hb2).trans p22
    have d32:=(HB.out.cell (p:=⟨b2,o2+k*6+3,none⟩) hb2).trans p32
    have d42:=(HB.out.cell (p:=⟨b2,o2+k*6+4,none⟩) hb2).trans p42
    have d52:=(HB.out.cell (p:=⟨b2,o2+k*6+5,none⟩) hb2).trans p52
    have HL2:=Lib.hid hl2
    have HA2:=Lib.hid hA2
    clear hl2 hA2 p02 p12 p22 p32 p42 p52
    have hne1:b1≠wr.heap.size:=by have:=HB.out.size;omega
    have hne2:b2≠wr.heap.size:=by have:=HB.out.size;omega
    have hlw2:b2 < wr.heap.size:=by have:=HB.out.size;omega
    have e02:=(World.cell?_alloc_lt wr (.cells #[.int .u8 x.kind,.string x.space,.string x.name,.slice A' x.attrs.length c',.string x.text,.int .i64 x.many] 36) ⟨b2,o2+k*6,none⟩ hlw2).trans d02
    have e12:=(World.cell?_alloc_lt wr (.cells #[.int .u8 x.kind,.string x.space,.string x.name,.slice A' x.attrs.length c',.string x.text,.int .i64 x.many] 36) ⟨b2,o2+k*6+1,none⟩ hlw2).trans d12
    have e22:=(World.cell?_alloc_lt wr (.cells #[.int .u8 x.kind,.string x.space,.string x.name,.slice A' x.attrs.length c',.string x.text,.int .i64 x.many] 36) ⟨b2,o2+k*6+2,none⟩ hlw2).trans d22
    have e32:=(World.cell?_alloc_lt wr (.cells #[.int .u8 x.kind,.string x.space,.string x.name,.slice A' x.attrs.length c',.string x.text,.int .i64 x.many] 36) ⟨b2,o2+k*6+3,none⟩ hlw2).trans d32
    have e42:=(World.cell?_alloc_lt wr (.cells #[.int .u8 x.kind,.string x.space,.string x.name,.slice A' x.attrs.length c',.string x.text,.int .i64 x.many] 36) ⟨b2,o2+k*6+4,none⟩ hlw2).trans d42
    have e52:=(World.cell?_alloc_lt wr (.cells #[.int .u8 x.kind,.string x.space,.string x.name,.slice A' x.attrs.length c',.string x.text,.int .i64 x.many] 36) ⟨b2,o2+k*6+5,none⟩ hlw2).trans d52
    have hcall:=HP.out ((wr.alloc (.cells #[.int .u8 x.kind,.string x.space,.string x.name,.slice A' x.attrs.length c',.string x.text,.int .i64 x.many] 36)).alloc (.cells #[.int .u8 y.kind,.string y.space,.string y.name,.slice A'' y.attrs.length c'',.string y.text,.int .i64 y.many] 36)) k x y A' c' A'' c'' ((HB.out.alloc HB.out.size _).alloc (by have:=HB.out.size;simp;omega) _) hx hy HL1.out HA1.out HL2.out HA2.out
    have eg':=eg (#[encN x A' c',encN y A'' c'']++lb)
    try unfold encA at hcall eg'
    try unfold encN at hcall eg'
    clear hx hy hc1 hc2
    cases hq:p x y with
    | false=>
     have HF:=Lib.hid (HSA.out k x y HX.out HY.out hq)
     rw [hq] at hcall
     clear hq
     have HCALL:=Lib.hid hcall
     clear hcall
     go_wp2_with fail
     refine HCALL.out.mono ?_
     rintro e w1 ⟨rfl,hb9⟩
     have X1:=Lib.hid hb9
     clear hb9
     go_wp2
     go_ret
     exact⟨ret_bool HF.out.symm,X1.out⟩
    | true=>
     have HF:Hid (∀(j:Nat) (x y:NodeL),j < k+1→l[j]? = some x→m[j]? = some y→p x y=true):=Lib.hid (fun j x' y' hj hx' hy'=>by
      rcases Nat.lt_or_ge j k with h1|h1
      ·exact HN.out j x' y' h1 hx' hy'
      ·obtain rfl:j=k:=by omega
       rw [HX.out] at hx'
       rw [HY.out] at hy'
       simp only [Option.some.injEq] at hx' hy'
       rw [←hx',←hy'];exact hq)
     rw [hq] at hcall
     clear hq
     have HCALL:=Lib.hid hcall
     clear hcall
     go_wp2_with fail
     refine HCALL.out.mono ?_
     rintro e w1 ⟨rfl,hb9⟩
     have X1:=Lib.hid hb9
     clear hb9
     go_wp2
     go_roundw
     case rel=>exact⟨k+1,by omega,by go_num,X1,HF⟩
     case measure=>simp [intOf];omega
   ·have HF:=Lib.hid (HSY.out HLM.out (fun j x y hx hy=>HN.out j x y (by have:=(List.getElem?_eq_some_iff.1 hx).1;omega) hx hy))
    obtain rfl:k=l.length:=by omega
    go_wp2
    go_ret
    exact⟨ret_bool HF.out.symm,HB.out⟩
 ·have hlm':((l.length:Int) != (m.length:Int))=true:=by rw [bne_iff_ne];omega
  have HF:=Lib.hid (HSN.out hlm)
  clear hlm
  go_enter Tryz.func168,Tryz.ntmps168
  go_wp2
  go_ret
  exact⟨ret_bool HF.out.symm,Below.refl _ _⟩
set_option maxHeartbeats 2000000 in
theorem eqT_any (g:Nat) (lb:Array Value) (A1 A2:Option Addr) (c1 c2:Nat) (l m:List (List NodeL)) (p:List NodeL→List NodeL→Bool) (w:World) (hr1:RdW w w.heap.size A1 l) (hr2:RdW w w.heap.size A2 m) (hn1:l.length≤1000000000) (hn2:m.length≤1000000000)
  (eg:∀args w,(callFunc g args).run Tryz.prog w=.ok (.enter g args) w)
  (hp:∀(W:World) (i:Nat) (x y:List NodeL) (A':Option Addr) (c':Nat) (A'':Option Addr) (c'':Nat),Below w.heap.size w W→l[i]? = some x→m[i]? = some y→x.length≤c'→RdV w w.heap.size A' x→y.length≤c''→RdV w w.heap.size A'' y→Calls Tryz.prog g (#[.slice A' x.length c',.slice A'' y.length c'']++lb) W fun e w'=>e=.returned (.bool (p x y))∧Below w.heap.size w w') :
  Calls Tryz.prog 63 #[.slice A1 l.length c1,.slice A2 m.length c2,.func (.func g) #[] lb] w fun e w'=>e=.returned (.bool (sameL p l m))∧Below w.heap.size w w':=by
 have HP:=Lib.hid hp
 have HR1:=Lib.hid hr1
 have HR2:=Lib.hid hr2
 clear hp hr1 hr2
 have HSN:=Lib.hid (fun h=>sameL_no (p:=p) (l:=l) (m:=m) h)
 have HSA:=Lib.hid (fun i x y h1 h2 h3=>sameL_at (p:=p) (l:=l) (m:=m) (i:=i) (x:=x) (y:=y) h1 h2 h3)
 have HSY:=Lib.hid (fun h1 h2=>sameL_yes (p:=p) (l:=l) (m:=m) h1 h2)
 generalize sameL p l m=r at *
 by_cases hlm:l.length=m.length
 ·have hlm':((l.length:Int) != (m.length:Int))=false:=by simp [hlm]
  have HLM:=Lib.hid hlm
  clear hlm
  go_enter Tryz.func63,Tryz.ntmps63
  go_wp2
  clear hlm'
  go_loopw [7,8,9,17] (fun _ _ _ s17 wr=>∃k:Nat,k≤l.length∧s17=.int .i64 k∧Hid (Below w.heap.size w wr)∧Hid (∀(j:Nat) (x y:List NodeL),j < k→l[j]? = some x→m[j]? = some y→p x y=true)) (fun _ _ _ s17 _=>l.length - (intOf s17).toNat)
  case atStart=>exact⟨0,Nat.zero_le _,rfl,Lib.hid (Below.refl _ _),Lib.hid (fun j x y hj=>absurd hj (by omega))⟩
  case round=>
   obtain⟨k,hk,rfl,HB,HN⟩:=hrel
   by_cases hlt:k < l.length
   ·have hlt2:k < m.length:=by have:=HLM.out;omega
    obtain⟨x,hx⟩:∃x,l[k]? = some x:=⟨_,List.getElem?_eq_getElem hlt⟩
    obtain⟨y,hy⟩:∃y,m[k]? = some y:=⟨_,List.getElem?_eq_getElem hlt2⟩
    have HX:=Lib.hid hx
    have HY:=Lib.hid hy
    obtain⟨b1,o1,rfl,hb1,hc1⟩:=HR1.out (by omega)
    obtain⟨A',c',p01,hl1,hA1⟩:=hc1 k x hx
    have d01:=(HB.out.cell (p:=⟨b1,o1+k,none⟩) hb1).trans p01
    have HL1:=Lib.hid hl1
    have HA1:=Lib.hid hA1
    clear hl1 hA1 p01
    obtain⟨b2,o2,rfl,hb2,hc2⟩:=HR2.out (by omega)
    obtain⟨A'',c'',p02,hl2,hA2⟩:=hc2 k y hy
    have d02:=(HB.out.cell (p:=⟨b2,o2+k,none⟩) hb2).trans p02
    have HL2:=Lib.hid hl2
    have HA2:=Lib.hid hA2
    clear hl2 hA2 p02
    have hne1:b1≠wr.heap.size:=by have:=HB.out.size;omega
    have hne2:b2≠wr.heap.size:=by have:=HB.out.size;omega
    have hcall:=HP.out wr k x y A' c' A'' c'' HB.out hx hy HL1.out HA1.out HL2.out HA2.out
    have eg':=eg (#[.slice A' x.length c',.slice A'' y.length c'']++lb)
    try unfold encA at hcall eg'
    try unfold encN at hcall eg'
    clear hx hy hc1 hc2
    cases hq:p x y with
    | false=>
     have HF:=Lib.hid (HSA.out k x y HX.out HY.out hq)
     rw [hq] at hcall
     clear hq
     have HCALL:=Lib.hid hcall
     clear hcall
     go_wp2_with fail
     refine HCALL.out.mono ?_
     rintro e w1 ⟨rfl,hb9⟩
     have X1:=Lib.hid hb9
     clear hb9
     go_wp2
     go_ret
     exact⟨ret_bool HF.out.symm,X1.out⟩
    | true=>
     have HF:Hid (∀(j:Nat) (x y:List NodeL),j < k+1→l[j]? = some x→m[j]? = some y→p x y=true):=Lib.hid (fun j x' y' hj hx' hy'=>by
      rcases Nat.lt_or_ge j k with h1|h1
      ·exact HN.out j x' y' h1 hx' hy'
      ·obtain rfl:j=k:=by omega
       rw [HX.out] at hx'
       rw [HY.out] at hy'
       simp only [Option.some.injEq] at hx' hy'
       rw [←hx',←hy'];exact hq)
     rw [hq] at hcall
     clear hq
     have HCALL:=Lib.hid hcall
     clear hcall
     go_wp2_with fail
     refine HCALL.out.mono ?_
     rintro e w1 ⟨rfl,hb9⟩
     have X1:=Lib.hid hb9
     clear hb9
     go_wp2
     go_roundw
     case rel=>exact⟨k+1,by omega,by go_num,X1,HF⟩
     case measure=>simp [intOf];omega
   ·have HF:=Lib.hid (HSY.out HLM.out (fun j x y hx hy=>HN.out j x y (by have:=(List.getElem?_eq_some_iff.1 hx).1;omega) hx hy))
    obtain rfl:k=l.length:=by omega
    go_wp2
    go_ret
    exact⟨ret_bool HF.out.symm,HB.out⟩
 ·have hlm':((l.length:Int) != (m.length:Int))=true:=by rw [bne_iff_ne];omega
  have HF:=Lib.hid (HSN.out hlm)
  clear hlm
  go_enter Tryz.func63,Tryz.ntmps63
  go_wp2
  go_ret
  exact⟨ret_bool HF.out.symm,Below.refl _ _⟩
end Go.Proofs.YtnmnpnofdgdigaaGreatDoor
end
section
namespace Go.Proofs.YtnmnpnofdgdigaaGreatDoor
open Go.RowKit
set_option linter.unusedSimpArgs false
set_option linter.unusedVariables false
def sameA (a b:AttrL):Bool:=(a.space.toList == b.space.toList) && (a.name.toList == b.name.toList) && (a.value.toList == b.value.toList)
def sameN (x y:NodeL):Bool:=(x.kind == y.kind) && (x.space.toList == y.space.toList) && (x.name.toList == y.name.toList) && (x.text.toList == y.text.toList) && (x.many == y.many) && sameL sameA x.attrs y.attrs
def sameV (v u:List NodeL):Bool:=sameL sameN v u
def sameS (s t:StL):Bool:=(s.kind == t.kind) && (s.typ.toList == t.typ.toList) && (s.id.toList == t.id.toList) && (s.frm.toList == t.frm.toList) && (s.to.toList == t.to.toList) && sameL sameV s.load t.load
theorem tsame1_any (a b:AttrL) (w:World) :
  Calls Tryz.prog 117 (#[encA a,encA b]++#[]) w fun e w'=>e=.returned (.bool (sameA a b))∧Below w.heap.size w w':=by
 rw [Array.append_empty]
 have HX:=Lib.hid (((Below.refl w.heap.size w).alloc (Nat.le_refl _) (.cells #[.string a.space,.string a.name,.string a.value] 75)).alloc (by simp) (.cells #[.string b.space,.string b.name,.string b.value] 75))
 have HS:Box (sameA a b=((a.space.toList == b.space.toList) && (a.name.toList == b.name.toList) && (a.value.toList == b.value.toList))):=⟨rfl⟩
 generalize sameA a b=r at *
 unfold encA
 go_enter Tryz.func117,Tryz.ntmps117
 go_wp2
 all_goals
  go_ret
  exact⟨ret_bool (by rw [HS.out];simp [*]),HX.out⟩
theorem tsameA_any (A1 A2:Option Addr) (c1 c2:Nat) (l m:List AttrL) (w:World) (h1:RdA w w.heap.size A1 l) (h2:RdA w w.heap.size A2 m) (n1:l.length≤1000000000) (n2:m.length≤1000000000) :
  Calls Tryz.prog 120 #[.slice A1 l.length c1,.slice A2 m.length c2,.func (.func 117) #[] #[]] w fun e w'=>e=.returned (.bool (sameL sameA l m))∧Below w.heap.size w w':=by
 have eg:=enters_of (P:=Tryz.prog) Tryz.func117 (by kernel_rfl) rfl
 have H:=Lib.hid (eqA_any 117 #[] A1 A2 c1 c2 l m sameA w h1 h2 n1 n2 eg (fun W i x y hW hx hy=>(tsame1_any x y W).mono fun e w' h=>⟨h.1,hW.trans (h.2.mono hW.size)⟩))
 clear h1 h2 eg
 generalize l.length=N1 at *
 generalize m.length=N2 at *
 generalize sameL sameA l m=r at *
 go_enter Tryz.func120,Tryz.ntmps120
 go_wp2_with fail
 refine H.out.mono ?_
 rintro e w1 ⟨rfl,hb1⟩
 go_wp2
 go_ret
 exact⟨rfl,hb1⟩
set_option maxHeartbeats 2000000 in
set_option maxRecDepth 10000 in
theorem tsame2_any (x y:NodeL) (A1 A2:Option Addr) (c1 c2 B:Nat) (w:World) (h1:RdA w w.heap.size A1 x.attrs) (h2:RdA w w.heap.size A2 y.attrs) (n1:x.attrs.length≤1000000000) (n2:y.attrs.length≤1000000000) (hB:w.cell? ⟨B,0,none⟩=some (.func (.func 117) #[] #[])) :
  Calls Tryz.prog 119 (#[encN x A1 c1,encN y A2 c2]++#[.pointer (some ⟨B,0,none⟩)]) w fun e w'=>e=.returned (.bool (sameN x y))∧Below w.heap.size w w':=by
 obtain⟨W0,hW0⟩:∃W0,W0=(w.alloc (.cells #[.int .u8 x.kind,.string x.space,.string x.name,.slice A1 x.attrs.length c1,.string x.text,.int .i64 x.many] 36)).alloc (.cells #[.int .u8 y.kind,.string y.space,.string y.name,.slice A2 y.attrs.length c2,.string y.text,.int .i64 y.many] 36):=⟨_,rfl⟩
 have hX0:Below w.heap.size w W0:=by rw [hW0];exact((Below.refl _ _).alloc (Nat.le_refl _) _).alloc (by simp) _
 have H:=Lib.hid (tsameA_any A1 A2 c1 c2 x.attrs y.attrs W0 ((h1.below hX0 (Nat.le_refl _)).more hX0.size) ((h2.below hX0 (Nat.le_refl _)).more hX0.size) n1 n2)
 have hB0:=(hX0.cell (p:=⟨B,0,none⟩) (World.block_lt_of_cell? w _ hB)).trans hB
 have HX1:=Lib.hid hX0.size
 have HX0:=Lib.hid hX0
 rw [hW0] at HX0 hB0
 have HW0:=Lib.hid hW0
 have HS:Box (sameN x y=((x.kind == y.kind) && (x.space.toList == y.space.toList) && (x.name.toList == y.name.toList) && (x.text.toList == y.text.toList) && (x.many == y.many) && sameL sameA x.attrs y.attrs)):=⟨rfl⟩
 generalize sameN x y=r at *
 generalize sameL sameA x.attrs y.attrs=q at *
 clear h1 h2 hX0 hW0 hB
 unfold encN
 rw [List.append_toArray,List.cons_append,List.cons_append,List.nil_append]
 cases h1:(x.kind == y.kind)
 ·have HF:Box (r=false):=⟨by rw [HS.out,h1];rfl⟩
  go_enter Tryz.func119,Tryz.ntmps119
  go_wp2
  go_ret
  exact⟨ret_bool HF.out.symm,HX0.out⟩
 ·cases h2:(x.space.toList == y.space.toList)
  ·have HF:Box (r=false):=⟨by rw [HS.out,h1,h2];rfl⟩
   go_enter Tryz.func119,Tryz.ntmps119
   go_wp2
   go_ret
   exact⟨ret_bool HF.out.symm,HX0.out⟩
  ·cases h3:(x.name.toList == y.name.toList)
   ·have HF:Box (r=false):=⟨by rw [HS.out,h1,h2,h3];rfl⟩
    go_enter Tryz.func119,Tryz.ntmps119
    go_wp2
    go_ret
    exact⟨ret_bool HF.out.symm,HX0.out⟩
   ·cases h4:(x.text.toList == y.text.toList)
    ·have HF:Box (r=false):=⟨by rw [HS.out,h1,h2,h3,h4];rfl⟩
     go_enter Tryz.func119,Tryz.ntmps119
     go_wp2
     go_ret
     exact⟨ret_bool HF.out.symm,HX0.out⟩
    ·cases h5:(x.many == y.many)
     ·have HF:Box (r=false):=⟨by rw [HS.out,h1,h2,h3,h4,h5];rfl⟩
      go_enter Tryz.func119,Tryz.ntmps119
      go_wp2
      go_ret
      exact⟨ret_bool HF.out.symm,HX0.out⟩
     ·have HF:Box (r=q):=⟨by rw [HS.out,h1,h2,h3,h4,h5];rfl⟩
      go_enter Tryz.func119,Tryz.ntmps119
      go_wp2_with fail
      rw [←HW0.out]
      refine H.out.mono ?_
      rintro e w1 ⟨rfl,hb1⟩
      have X1:=Lib.hid (HX0.out.trans (by rw [←HW0.out];exact hb1.mono HX1.out))
      clear hb1
      go_wp2
      go_ret
      exact⟨ret_bool HF.out.symm,X1.out⟩
theorem tsameN_any (B:Nat) (A1 A2:Option Addr) (c1 c2:Nat) (l m:List NodeL) (w:World) (h1:RdV w w.heap.size A1 l) (h2:RdV w w.heap.size A2 m) (n1:SzV 1000000000 l) (n2:SzV 1000000000 m) (hB:w.cell? ⟨B,0,none⟩=some (.func (.func 117) #[] #[])) :
  Calls Tryz.prog 118 #[.slice A1 l.length c1,.slice A2 m.length c2,.func (.func 119) #[] #[.pointer (some ⟨B,0,none⟩)]] w fun e w'=>e=.returned (.bool (sameV l m))∧Below w.heap.size w w':=by
 have eg:=enters_of (P:=Tryz.prog) Tryz.func119 (by kernel_rfl) rfl
 have H:Hid (Calls Tryz.prog _ _ w fun e w'=>e=.returned (.bool (sameV l m))∧Below w.heap.size w w'):=Lib.hid (eqN_any 119 #[.pointer (some ⟨B,0,none⟩)] A1 A2 c1 c2 l m sameN w h1 h2 n1.1 n2.1 eg (fun W i x y A' c' A'' c'' hW hx hy e1 e2 e3 e4=>
  (tsame2_any x y A' A'' c' c'' B W ((e2.below hW (Nat.le_refl _)).more hW.size) ((e4.below hW (Nat.le_refl _)).more hW.size) (szv_get' n1 hx) (szv_get' n2 hy) ((hW.cell (p:=⟨B,0,none⟩) (World.block_lt_of_cell? w _ hB)).trans hB)).mono fun e w' h=>⟨h.1,hW.trans (h.2.mono hW.size)⟩))
 clear h1 h2 eg n1 n2 hB
 generalize l.length=N1 at *
 generalize m.length=N2 at *
 generalize sameV l m=r at *
 go_enter Tryz.func118,Tryz.ntmps118
 go_wp2_with fail
 refine H.out.mono ?_
 rintro e w1 ⟨rfl,hb1⟩
 go_wp2
 go_ret
 exact⟨rfl,hb1⟩
theorem tsame_any (A1 A2:Option Addr) (c1 c2:Nat) (l m:List NodeL) (w:World) (h1:RdV w w.heap.size A1 l) (h2:RdV w w.heap.size A2 m) (n1:SzV 1000000000 l) (n2:SzV 1000000000 m) :
  Calls Tryz.prog 64 #[.slice A1 l.length c1,.slice A2 m.length c2] w fun e w'=>e=.returned (.bool (sameV l m))∧Below w.heap.size w w':=by
 obtain⟨W0,hW0⟩:∃W0,W0=w.alloc (.cells #[.func (.func 117) #[] #[]] 149):=⟨_,rfl⟩
 have hX0:Below w.heap.size w W0:=by rw [hW0];exact(Below.refl _ _).alloc (Nat.le_refl _) _
 have hB0:W0.heap[w.heap.size]? = some (.cells #[.func (.func 117) #[] #[]] 149 (0,0)):=by rw [hW0];exact heap_alloc_new w _
 have H:=Lib.hid (tsameN_any w.heap.size A1 A2 c1 c2 l m W0 ((h1.below hX0 (Nat.le_refl _)).more hX0.size) ((h2.below hX0 (Nat.le_refl _)).more hX0.size) n1 n2 (by simp [World.cell?,hB0]))
 have HX0:=Lib.hid hX0
 have HW0:=Lib.hid hW0
 clear h1 h2 n1 n2 hX0 hB0 hW0
 generalize l.length=N1 at *
 generalize m.length=N2 at *
 generalize sameV l m=r at *
 go_enter Tryz.func64,Tryz.ntmps64
 go_wp2_with fail
 rw [←HW0.out]
 refine H.out.mono ?_
 rintro e w1 ⟨rfl,hb1⟩
 have X1:=Lib.hid (HX0.out.trans (hb1.mono HX0.out.size))
 clear hb1
 go_wp2
 go_ret
 exact⟨rfl,X1.out⟩
set_option maxHeartbeats 2000000 in
set_option maxRecDepth 10000 in
theorem ssame_any (s t:StL) (A1 A2:Option Addr) (c1 c2:Nat) (w:World) (h1:RdW w w.heap.size A1 s.load) (h2:RdW w w.heap.size A2 t.load) (n1:SzW s.load) (n2:SzW t.load) :
  Calls Tryz.prog 24 #[encS s A1 c1,encS t A2 c2] w fun e w'=>e=.returned (.bool (sameS s t))∧Below w.heap.size w w':=by
 obtain⟨W0,hW0⟩:∃W0,W0=(w.alloc (.cells #[.int .u8 s.kind,.string s.typ,.string s.id,.string s.frm,.string s.to,.slice A1 s.load.length c1] 27)).alloc (.cells #[.int .u8 t.kind,.string t.typ,.string t.id,.string t.frm,.string t.to,.slice A2 t.load.length c2] 27):=⟨_,rfl⟩
 have hX0:Below w.heap.size w W0:=by rw [hW0];exact((Below.refl _ _).alloc (Nat.le_refl _) _).alloc (by simp) _
 have eg:=enters_of (P:=Tryz.prog) Tryz.func64 (by kernel_rfl) rfl
 have H:=Lib.hid (eqT_any 64 #[] A1 A2 c1 c2 s.load t.load sameV W0 (RdW.ext h1 hX0) (RdW.ext h2 hX0) n1.1 n2.1 eg (fun W i x y A' c' A'' c'' hW hx hy e1 e2 e3 e4=>by
  rw [Array.append_empty]
  exact(tsame_any A' A'' c' c'' x y W ((e2.below hW (Nat.le_refl _)).more hW.size) ((e4.below hW (Nat.le_refl _)).more hW.size) (n1.2 x (List.mem_of_getElem? hx)) (n2.2 y (List.mem_of_getElem? hy))).mono fun e w' h=>⟨h.1,hW.trans (h.2.mono hW.size)⟩))
 have HX1:=Lib.hid hX0.size
 have HX0:=Lib.hid hX0
 rw [hW0] at HX0
 have HW0:=Lib.hid hW0
 have HS:Box (sameS s t=((s.kind == t.kind) && (s.typ.toList == t.typ.toList) && (s.id.toList == t.id.toList) && (s.frm.toList == t.frm.toList) && (s.to.toList == t.to.toList) && sameL sameV s.load t.load)):=⟨rfl⟩
 generalize sameS s t=r at *
 generalize sameL sameV s.load t.load=q at *
 clear h1 h2 hX0 hW0 n1 n2 eg
 unfold encS
 cases h1:(s.kind == t.kind)
 ·have HF:Box (r=false):=⟨by rw [HS.out,h1];rfl⟩
  go_enter Tryz.func24,Tryz.ntmps24
  go_wp2
  go_ret
  exact⟨ret_bool HF.out.symm,HX0.out⟩
 ·cases h2:(s.typ.toList == t.typ.toList)
  ·have HF:Box (r=false):=⟨by rw [HS.out,h1,h2];rfl⟩
   go_enter Tryz.func24,Tryz.ntmps24
   go_wp2
   go_ret
   exact⟨ret_bool HF.out.symm,HX0.out⟩
  ·cases h3:(s.id.toList == t.id.toList)
   ·have HF:Box (r=false):=⟨by rw [HS.out,h1,h2,h3];rfl⟩
    go_enter Tryz.func24,Tryz.ntmps24
    go_wp2
    go_ret
    exact⟨ret_bool HF.out.symm,HX0.out⟩
   ·cases h4:(s.frm.toList == t.frm.toList)
    ·have HF:Box (r=false):=⟨by rw [HS.out,h1,h2,h3,h4];rfl⟩
     go_enter Tryz.func24,Tryz.ntmps24
     go_wp2
     go_ret
     exact⟨ret_bool HF.out.symm,HX0.out⟩
    ·cases h5:(s.to.toList == t.to.toList)
     ·have HF:Box (r=false):=⟨by rw [HS.out,h1,h2,h3,h4,h5];rfl⟩
      go_enter Tryz.func24,Tryz.ntmps24
      go_wp2
      go_ret
      exact⟨ret_bool HF.out.symm,HX0.out⟩
     ·have HF:Box (r=q):=⟨by rw [HS.out,h1,h2,h3,h4,h5];rfl⟩
      go_enter Tryz.func24,Tryz.ntmps24
      go_wp2_with fail
      rw [←HW0.out]
      refine H.out.mono ?_
      rintro e w1 ⟨rfl,hb1⟩
      have X1:=Lib.hid (HX0.out.trans (by rw [←HW0.out];exact hb1.mono HX1.out))
      clear hb1
      go_wp2
      go_ret
      exact⟨ret_bool HF.out.symm,X1.out⟩
end Go.Proofs.YtnmnpnofdgdigaaGreatDoor
end
