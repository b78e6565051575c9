/- Part 21 of a proof laid in parts, one behind the other; no condition of its own. -/
import Derived.Test.YtnmnpnofdgdigaaGreatDoorZ11
import Derived.Test.YtnmnpnofdgdigaaGreatDoorZ07
import Derived.Test.YtnmnpnofdgdigaaGreatDoorZ08
import Derived.Laws.EntriesVeiled
import Derived.MapKept
import Derived.Carry
import Derived.Test.YtnmnpnofdgdigaaGreatDoorZ15
import Derived.Test.YtnmnpnofdgdigaaGreatDoorZ04
set_option linter.all false
section
namespace Go.Proofs.YtnmnpnofdgdigaaGreatDoor
open Go.RowKit
set_option linter.unusedSimpArgs false
set_option linter.unusedVariables false
def RdS (w:World) (A:Option Addr) (l:List ByteArray):Prop:=0 < l.length→∃b off,A=some ⟨b,off,none⟩∧b < w.heap.size∧∀(i:Nat) (s:ByteArray),l[i]? = some s→w.cell? ⟨b,off+i,none⟩=some (.string s)
theorem RdS.ext {w w':World} {A:Option Addr} {l:List ByteArray} (h:RdS w A l) (hb:Below w.heap.size w w'):RdS w' A l:=fun h0=>by
 obtain⟨b,off,h1,h2,h3⟩:=h h0
 exact⟨b,off,h1,Nat.lt_of_lt_of_le h2 hb.size,fun i s hi=>(hb.cell (p:=⟨b,off+i,none⟩) h2).trans (h3 i s hi)⟩
theorem RdS.new (w:World) (t:TypeId) (l:List ByteArray):RdS (w.alloc (.cells (l.map Value.string).toArray t)) (some ⟨w.heap.size,0,none⟩) l:=fun _=>
 ⟨w.heap.size,0,rfl,by simp,fun i s hi=>by simp [hi]⟩
def eqT (s x:ByteArray):Bool:=s.toList == x.toList
theorem index_any (A:Option Addr) (c:Nat) (l:List ByteArray) (s:ByteArray) (w:World) (hr:RdS w A l) (hn:l.length≤1000) :
  Calls Tryz.prog 32 #[.slice A l.length c,.string s] w fun e w'=>e=.returned (.int .i64 (placeI (fstP (eqT s) l)))∧w=w':=by
 have HR:=Lib.hid hr
 clear hr
 go_enter Tryz.func32,Tryz.ntmps32
 go_wp2
 go_loop [5,8] (fun _ s8=>∃k:Nat,k≤l.length∧s8=.int .i64 k∧Hid (∀(j:Nat) (y:ByteArray),j < k→l[j]? = some y→eqT s y=false)) (fun _ s8=>l.length - (intOf s8).toNat)
 case atStart=>exact⟨0,Nat.zero_le _,rfl,Lib.hid (fun j y hj=>absurd hj (by omega))⟩
 case round=>
  obtain⟨k,hk,rfl,HN⟩:=hrel
  by_cases hlt:k < l.length
  ·obtain⟨x,hx⟩:∃x,l[k]? = some x:=⟨_,List.getElem?_eq_getElem hlt⟩
   have HX:=Lib.hid hx
   obtain⟨b,off,rfl,hb,hcc⟩:=HR.out (by omega)
   have c0:=hcc k x hx
   clear hx hcc
   cases hq:eqT s x with
   | true=>
    have HF:Hid (fstP (eqT s) l=some k):=fstP_is HX.out hq HN.out
    unfold eqT at hq
    generalize l.length=n at *
    go_wp2
    go_ret
    exact⟨ret_int (by rw [HF.out];rfl),rfl⟩
   | false=>
    have HF:Hid (∀(j:Nat) (y:ByteArray),j < k+1→l[j]? = some y→eqT s y=false):=Lib.hid (fun j y hj hy=>by
     rcases Nat.lt_or_ge j k with h1|h1
     ·exact HN.out j y h1 hy
     ·obtain rfl:j=k:=by omega
      rw [HX.out] at hy
      simp only [Option.some.injEq] at hy
      rw [←hy];exact hq)
    unfold eqT at hq
    generalize l.length=n at *
    go_wp2
    go_round
    case rel=>exact⟨k+1,by omega,by go_num,HF⟩
    case measure=>simp [intOf];omega
  ·have HF:Hid (fstP (eqT s) l=none):=fstP_not (fun j y hy=>HN.out j y (by have:=(List.getElem?_eq_some_iff.1 hy).1;omega) hy)
   generalize l.length=n at *
   go_wp2
   go_ret
   exact⟨ret_int (by rw [HF.out];rfl),rfl⟩
theorem has_eq (l:List ByteArray) (s:ByteArray):hasS l s=l.any (eqT s):=by
 unfold hasS eqT
 congr 1
 funext x
 rw [Bool.eq_iff_iff,beq_iff_eq,beq_iff_eq]
 exact⟨Eq.symm,Eq.symm⟩
theorem contains_any (A:Option Addr) (c:Nat) (l:List ByteArray) (s:ByteArray) (w:World) (hr:RdS w A l) (hn:l.length≤1000) :
  Calls Tryz.prog 59 #[.slice A l.length c,.string s] w fun e w'=>e=.returned (.bool (hasS l s))∧w=w':=by
 have H:=Lib.hid (index_any A c l s w hr hn)
 have HX:Box (hasS l s=decide (0≤placeI (fstP (eqT s) l))):=⟨by rw [placeI_ge,has_eq,fstP_any]⟩
 generalize placeI (fstP (eqT s) l)=r at *
 generalize hasS l s=q at *
 generalize l.length=n at *
 clear hr
 go_enter Tryz.func59,Tryz.ntmps59
 go_wp2_with fail
 refine H.out.mono ?_
 rintro e w1 ⟨rfl,rfl⟩
 go_wp2
 go_ret
 exact⟨ret_bool HX.out.symm,rfl⟩
theorem one_any (A:Option Addr) (c:Nat) (l:List ByteArray) (s:ByteArray) (w:World) (hr:RdS w A l) (hn:l.length≤1000) :
  Calls Tryz.prog 147 #[.string s,.slice A l.length c] w fun e w'=>e=.returned (.bool (hasS l s))∧w=w':=by
 have HR:=Lib.hid hr
 have HH:Box (hasS l s=l.any fun x=>x.toList == s.toList):=⟨rfl⟩
 clear hr
 generalize hasS l s=r at *
 go_enter Tryz.func147,Tryz.ntmps147
 go_wp2
 go_loop [5] (fun s5=>∃k:Nat,k≤l.length∧s5=.int .i64 k∧Hid (∀(j:Nat) (y:ByteArray),j < k→l[j]? = some y→(y.toList == s.toList)=false)) (fun s5=>l.length - (intOf s5).toNat)
 case atStart=>exact⟨0,Nat.zero_le _,rfl,Lib.hid (fun j y hj=>absurd hj (by omega))⟩
 case round=>
  obtain⟨k,hk,rfl,HN⟩:=hrel
  by_cases hlt:k < l.length
  ·obtain⟨x,hx⟩:∃x,l[k]? = some x:=⟨_,List.getElem?_eq_getElem hlt⟩
   have HX:=Lib.hid hx
   obtain⟨b,off,rfl,hb,hcc⟩:=HR.out (by omega)
   have c0:=hcc k x hx
   clear hx hcc
   cases hq:x.toList == s.toList with
   | true=>
    have HF:Box (r=true):=⟨by rw [HH.out,List.any_eq_true];exact⟨x,List.mem_of_getElem? HX.out,hq⟩⟩
    generalize l.length=n at *
    go_wp2
    go_ret
    exact⟨ret_bool HF.out.symm,rfl⟩
   | false=>
    have HF:Hid (∀(j:Nat) (y:ByteArray),j < k+1→l[j]? = some y→(y.toList == s.toList)=false):=Lib.hid (fun j y hj hy=>by
     rcases Nat.lt_or_ge j k with h1|h1
     ·exact HN.out j y h1 hy
     ·obtain rfl:j=k:=by omega
      rw [HX.out] at hy
      simp only [Option.some.injEq] at hy
      rw [←hy];exact hq)
    generalize l.length=n at *
    go_wp2
    go_round
    case rel=>exact⟨k+1,by omega,by go_num,HF⟩
    case measure=>simp [intOf];omega
  ·have HF:Box (r=false):=⟨by
    rw [HH.out,List.any_eq_false]
    intro x hx
    obtain⟨j,hj,rfl⟩:=List.mem_iff_getElem.1 hx
    rw [HN.out j _ (by omega) (List.getElem?_eq_getElem hj)]
    simp⟩
   generalize l.length=n at *
   go_wp2
   go_ret
   exact⟨ret_bool HF.out.symm,rfl⟩
theorem names_any (w:World):Calls Tryz.prog 33 #[] w fun e w'=>e=.returned (.slice (some ⟨w.heap.size,0,none⟩) 4 4)∧RdS w' (some ⟨w.heap.size,0,none⟩) kindNames∧Below w.heap.size w w':=by
 have HS:=Lib.hid (RdS.new w 9 kindNames)
 have HX:=Lib.hid ((Below.refl w.heap.size w).alloc (Nat.le_refl _) (.cells (kindNames.map Value.string).toArray 9))
 go_enter Tryz.func33,Tryz.ntmps33
 go_wp2
 go_ret
 exact⟨rfl,HS.out,HX.out⟩
set_option maxHeartbeats 4000000 in
set_option maxRecDepth 10000 in
theorem typed_any (k:Int) (s:ByteArray) (w:World) (h0:0≤k) (h1:k < 256):Calls Tryz.prog 91 #[.int .u8 k,.string s] w fun e w'=>e=.returned (.bool (typedI k s))∧Below w.heap.size w w':=by
 have HS:=Lib.hid (fun l=>RdS.new w 9 l)
 have HX:=Lib.hid (fun l:List ByteArray=>(Below.refl w.heap.size w).alloc (Nat.le_refl _) (.cells (l.map Value.string).toArray 9))
 have H:=Lib.hid (fun l (hl:l.length≤1000)=>one_any (some ⟨w.heap.size,0,none⟩) l.length l s _ (HS.out l) hl)
 have HT:Box (typedI k s=hasS (typesOf k) s):=⟨rfl⟩
 generalize typedI k s=r at *
 by_cases k1:k=1
 ·subst k1
  have H1:=Lib.hid (H.out msgTypes (by decide))
  have HR:Box (r=hasS msgTypes s):=⟨by rw [HT.out];rfl⟩
  generalize hasS msgTypes s=q at *
  go_enter Tryz.func91,Tryz.ntmps91
  go_wp2_with fail
  refine H1.out.mono ?_
  rintro e w1 ⟨rfl,rfl⟩
  go_wp2
  go_ret
  exact⟨ret_bool HR.out.symm,HX.out msgTypes⟩
 ·by_cases k2:k=2
  ·subst k2
   have H1:=Lib.hid (H.out preTypes (by decide))
   have HR:Box (r=hasS preTypes s):=⟨by rw [HT.out];rfl⟩
   generalize hasS preTypes s=q at *
   go_enter Tryz.func91,Tryz.ntmps91
   go_wp2_with fail
   refine H1.out.mono ?_
   rintro e w1 ⟨rfl,rfl⟩
   go_wp2
   go_ret
   exact⟨ret_bool HR.out.symm,HX.out preTypes⟩
  ·have q1:(k == 1)=false:=by simpa using k1
   have q2:(k == 2)=false:=by simpa using k2
   by_cases k3:k=3
   ·subst k3
    have H1:=Lib.hid (H.out iqTypes (by decide))
    have HR:Box (r=hasS iqTypes s):=⟨by rw [HT.out];rfl⟩
    generalize hasS iqTypes s=q at *
    go_enter Tryz.func91,Tryz.ntmps91
    go_wp2_with fail
    refine H1.out.mono ?_
    rintro e w1 ⟨rfl,rfl⟩
    go_wp2
    go_ret
    exact⟨(ret_bool (by first|(rw [HR.out];done)|(rw [HR.out];simp_all;done))),HX.out iqTypes⟩
   ·have q3:(k == 3)=false:=by simpa using k3
    have HR:Box (r=false):=⟨by rw [HT.out];unfold typesOf;rw [if_neg k1,if_neg k2,if_neg k3];rfl⟩
    clear k1 k2 k3
    go_enter Tryz.func91,Tryz.ntmps91
    go_wp2
    go_ret
    exact⟨ret_bool HR.out.symm,Below.refl _ _⟩
def wordI (k:Int):ByteArray:=if k=1 then(⟨#[109,101,115,115,97,103,101]⟩:ByteArray) else if k=2 then(⟨#[112,114,101,115,101,110,99,101]⟩:ByteArray) else if k=3 then(⟨#[105,113]⟩:ByteArray) else emB
theorem word_any (k:Int) (w:World) (h0:0≤k) (h1:k < 256):Calls Tryz.prog 85 #[.int .u8 k] w fun e w'=>e=.returned (.string (wordI k))∧w=w':=by
 have HT:Box (wordI k=if k=1 then(⟨#[109,101,115,115,97,103,101]⟩:ByteArray) else if k=2 then(⟨#[112,114,101,115,101,110,99,101]⟩:ByteArray) else if k=3 then(⟨#[105,113]⟩:ByteArray) else emB):=⟨rfl⟩
 generalize wordI k=r at *
 by_cases k1:k=1
 ·subst k1
  have HR:Box (r=(⟨#[109,101,115,115,97,103,101]⟩:ByteArray)):=⟨HT.out⟩
  go_enter Tryz.func85,Tryz.ntmps85
  go_wp2
  go_ret
  exact⟨ret_strA (by first|(rw [HR.out];done)|(rw [HR.out];rfl)),rfl⟩
 ·by_cases k2:k=2
  ·subst k2
   have HR:Box (r=(⟨#[112,114,101,115,101,110,99,101]⟩:ByteArray)):=⟨HT.out⟩
   go_enter Tryz.func85,Tryz.ntmps85
   go_wp2
   go_ret
   exact⟨ret_strA (by first|(rw [HR.out];done)|(rw [HR.out];rfl)),rfl⟩
  ·have q1:(k == 1)=false:=by simpa using k1
   have q2:(k == 2)=false:=by simpa using k2
   by_cases k3:k=3
   ·subst k3
    have HR:Box (r=(⟨#[105,113]⟩:ByteArray)):=⟨HT.out⟩
    go_enter Tryz.func85,Tryz.ntmps85
    go_wp2
    go_ret
    exact⟨ret_strA (by first|(rw [HR.out];done)|(rw [HR.out];rfl)),rfl⟩
   ·have q3:(k == 3)=false:=by simpa using k3
    have HR:Box (r=emB):=⟨by rw [HT.out,if_neg k1,if_neg k2,if_neg k3]⟩
    clear k1 k2 k3
    go_enter Tryz.func85,Tryz.ntmps85
    go_wp2
    go_ret
    exact⟨ret_strA (by first|(rw [HR.out];done)|(rw [HR.out];rfl)),rfl⟩
end Go.Proofs.YtnmnpnofdgdigaaGreatDoor
end
section
namespace Go.Proofs.YtnmnpnofdgdigaaGreatDoor
open Go.RowKit
set_option maxRecDepth 10000
set_option linter.unusedSimpArgs false
set_option linter.unusedVariables false
theorem check_u8 (em:Bool) (n:Nat) (a:Int) (w:World):(Instr.checkKey em (n+1) 5 (.int .u8 a)).run Tryz.prog w=.ok () w:=by
 simp [Instr.checkKey,run_underlying Tryz.underlying5]
theorem put_u8 (w:World) (b:Nat) (es:Array MapEntry) (clock:Nat) (a:Int) (v:Value) (hb:w.heap[b]? = some (.map es clock)) (hf:Instr.findNow (.int .u8) (.int .u8 a) es.toList 0=some none) :
  (Instr.mapUpdate 107 (.map (some b)) (.int .u8 a) v).run Tryz.prog w=.ok () { w with heap:=w.heap.setIfInBounds b (.map (es.push { key:=.int .u8 a,val:=v,born:=clock}) (clock+1))}:=by
 have hc:=check_u8 false 9999 a w
 simp only [Nat.reduceAdd] at hc
 simp [Instr.mapUpdate,run_underlying Tryz.underlying107,run_underlying Tryz.underlying5,MapKept.run_getObj_map hb,hc,Instr.findKey,hf,MapKept.run_setObj_map _ hb]
theorem get_u8 (w:World) (b:Nat) (es:Array MapEntry) (clock:Nat) (a:Int) (o:Option (Nat×Value)) (hb:w.heap[b]? = some (.map es clock)) (hf:Instr.findNow (.int .u8) (.int .u8 a) es.toList 0=some o) :
  (Instr.lookup 107 (.map (some b)) (.int .u8 a) false).run Tryz.prog w=.ok (match o with|some x=>x.2|none=>.slice none 0 0) w:=by
 have hc:=fun em=>check_u8 em 9999 a w
 simp only [Nat.reduceAdd] at hc
 cases o with
 | none=>simp [Instr.lookup,run_underlying Tryz.underlying107,run_underlying Tryz.underlying5,MapKept.run_getObj_map hb,hc,Instr.findKey,hf,Tryz.zeroValue50]
 | some x=>simp [Instr.lookup,run_underlying Tryz.underlying107,run_underlying Tryz.underlying5,MapKept.run_getObj_map hb,hc,Instr.findKey,hf]
theorem same_u8 (a b:Int):Instr.sameNow (.int .u8) (.int .u8 a) (.int .u8 b)=some (a == b):=by simp [Instr.sameNow]
theorem find_3 (a:Int) (v1 v2 v3:Value):Instr.findNow (.int .u8) (.int .u8 a) [⟨.int .u8 1,v1,0⟩,⟨.int .u8 2,v2,1⟩,⟨.int .u8 3,v3,2⟩] 0=some (if a=1 then some (0,v1) else if a=2 then some (1,v2) else if a=3 then some (2,v3) else none):=by
 unfold Instr.findNow
 simp only [same_u8]
 by_cases h1:a=1
 ·subst h1;rfl
 ·rw [if_neg h1,show(a == 1)=false by simpa using h1]
  simp only []
  unfold Instr.findNow
  simp only [same_u8]
  by_cases h2:a=2
  ·subst h2;rfl
  ·rw [if_neg h2,show(a == 2)=false by simpa using h2]
   simp only []
   unfold Instr.findNow
   simp only [same_u8]
   by_cases h3:a=3
   ·subst h3;rfl
   ·rw [if_neg h3,show(a == 3)=false by simpa using h3]
    rfl
def MapT (u:Value) (W:World):Prop:=∃b A1 A2 A3 ck,u=.map (some b)∧W.heap[b]? = some (.map #[⟨.int .u8 1,.slice A1 6 6,0⟩,⟨.int .u8 2,.slice A2 8 8,1⟩,⟨.int .u8 3,.slice A3 4 4,2⟩] ck)∧RdS W A1 msgTypes∧RdS W A2 preTypes∧RdS W A3 iqTypes
theorem MapT.ext {u:Value} {W W':World} (h:MapT u W) (hb:Below W.heap.size W W'):MapT u W':=by
 obtain⟨b,A1,A2,A3,ck,h1,h2,h3,h4,h5⟩:=h
 exact⟨b,A1,A2,A3,ck,h1,(hb.block b (Array.getElem?_eq_some_iff.1 h2).1).trans h2,h3.ext hb,h4.ext hb,h5.ext hb⟩
theorem MapT.get {u:Value} {W:World} (h:MapT u W) (k:Int):∃b A c,u=.map (some b)∧(Instr.lookup 107 (.map (some b)) (.int .u8 k) false).run Tryz.prog W=.ok (.slice A (typesOf k).length c) W∧RdS W A (typesOf k):=by
 obtain⟨b,A1,A2,A3,ck,h1,h2,h3,h4,h5⟩:=h
 have hg:=fun o=>get_u8 W b _ ck k o h2
 have hf:=find_3 k (.slice A1 6 6) (.slice A2 8 8) (.slice A3 4 4)
 by_cases k1:k=1
 ·subst k1
  exact⟨b,A1,6,h1,hg _ hf,h3⟩
 ·by_cases k2:k=2
  ·subst k2
   exact⟨b,A2,8,h1,hg _ hf,h4⟩
  ·by_cases k3:k=3
   ·subst k3
    exact⟨b,A3,4,h1,hg _ hf,h5⟩
   ·have e:typesOf k=[]:=by unfold typesOf;rw [if_neg k1,if_neg k2,if_neg k3]
    rw [if_neg k1,if_neg k2,if_neg k3] at hf
    have hl:=hg _ hf
    refine⟨b,none,0,h1,?_,fun h0=>?_⟩
    ·rw [e];exact hl
    ·rw [e] at h0;cases h0
theorem set_keep {W:World} {b k:Nat} {o:Obj} (h:k≠b):({ W with heap:=W.heap.setIfInBounds b o}:World).heap[k]? = W.heap[k]?:=by
 show(W.heap.setIfInBounds b o)[k]? = _
 rw [Array.getElem?_setIfInBounds_ne (by omega)]
theorem set_at' {W:World} {b:Nat} {o:Obj} (h:b < W.heap.size):({ W with heap:=W.heap.setIfInBounds b o}:World).heap[b]? = some o:=by
 show(W.heap.setIfInBounds b o)[b]? = _
 rw [Array.getElem?_setIfInBounds_self_of_lt h]
theorem below_set {B b:Nat} {w W:World} {o:Obj} (h:Below B w W) (hb:B≤b):Below B w { W with heap:=W.heap.setIfInBounds b o}:=
 h.trans ⟨rfl,rfl,rfl,by simp,fun k hk=>set_keep (by omega)⟩
def RowS (W:World) (g:Nat) (l:List ByteArray):Prop:=∃t,W.heap[g]? = some (.cells (l.map Value.string).toArray t (0,0))
theorem RowS.rds {W:World} {g:Nat} {l:List ByteArray} (h:RowS W g l):RdS W (some ⟨g,0,none⟩) l:=fun _=>by
 obtain⟨t,h⟩:=h
 exact⟨g,0,rfl,(Array.getElem?_eq_some_iff.1 h).1,fun i s hi=>by simp [World.cell?,h,hi]⟩
theorem RowS.set {W:World} {g b:Nat} {l:List ByteArray} {o:Obj} (h:RowS W g l) (hne:g≠b):RowS { W with heap:=W.heap.setIfInBounds b o} g l:=by
 obtain⟨t,h⟩:=h
 exact⟨t,(set_keep hne).trans h⟩
theorem RowS.alloc {W:World} {g:Nat} {l:List ByteArray} (h:RowS W g l) (o:Obj):RowS (W.alloc o) g l:=by
 obtain⟨t,h⟩:=h
 exact⟨t,heap_ext h ((Below.refl _ _).alloc (Nat.le_refl _) _)⟩
theorem RowS.new (W:World) (g:Nat) (t:TypeId) (l:List ByteArray) (hg:g=W.heap.size):RowS (W.alloc (.cells (l.map Value.string).toArray t)) g l:=by
 subst hg
 exact⟨t,heap_alloc_new W _⟩
set_option maxHeartbeats 4000000 in
theorem types_any (w:World):Calls Tryz.prog 60 #[] w fun e w'=>∃u,e=.returned u∧MapT u w'∧Below w.heap.size w w':=by
 have hm:=fun W=>run_makeMap (P:=Tryz.prog) 107 W
 have hM0:(w.alloc (.map #[] 0)).heap[w.heap.size]? = some (.map #[] 0):=heap_alloc_new w _
 have hS0:(w.alloc (.map #[] 0)).heap.size=w.heap.size+1:=by simp
 have hB0:Below w.heap.size w (w.alloc (.map #[] 0)):=(Below.refl _ _).alloc (Nat.le_refl _) _
 have hR1:RowS ((w.alloc (.map #[] 0)).alloc (.cells #[.string (⟨#[]⟩:ByteArray),.string (⟨#[99,104,97,116]⟩:ByteArray),.string (⟨#[101,114,114,111,114]⟩:ByteArray),.string (⟨#[103,114,111,117,112,99,104,97,116]⟩:ByteArray),.string (⟨#[104,101,97,100,108,105,110,101]⟩:ByteArray),.string (⟨#[110,111,114,109,97,108]⟩:ByteArray)] 9)) (w.heap.size+1) msgTypes:=RowS.new _ _ _ msgTypes (by rw [hS0])
 have hA1:((w.alloc (.map #[] 0)).alloc (.cells #[.string (⟨#[]⟩:ByteArray),.string (⟨#[99,104,97,116]⟩:ByteArray),.string (⟨#[101,114,114,111,114]⟩:ByteArray),.string (⟨#[103,114,111,117,112,99,104,97,116]⟩:ByteArray),.string (⟨#[104,101,97,100,108,105,110,101]⟩:ByteArray),.string (⟨#[110,111,114,109,97,108]⟩:ByteArray)] 9)).heap[w.heap.size]? = some (.map #[] 0):=heap_ext hM0 ((Below.refl _ _).alloc (Nat.le_refl _) _)
 have hC1:Below w.heap.size w ((w.alloc (.map #[] 0)).alloc (.cells #[.string (⟨#[]⟩:ByteArray),.string (⟨#[99,104,97,116]⟩:ByteArray),.string (⟨#[101,114,114,111,114]⟩:ByteArray),.string (⟨#[103,114,111,117,112,99,104,97,116]⟩:ByteArray),.string (⟨#[104,101,97,100,108,105,110,101]⟩:ByteArray),.string (⟨#[110,111,114,109,97,108]⟩:ByteArray)] 9)):=hB0.alloc hB0.size _
 have hp1:=put_u8 ((w.alloc (.map #[] 0)).alloc (.cells #[.string (⟨#[]⟩:ByteArray),.string (⟨#[99,104,97,116]⟩:ByteArray),.string (⟨#[101,114,114,111,114]⟩:ByteArray),.string (⟨#[103,114,111,117,112,99,104,97,116]⟩:ByteArray),.string (⟨#[104,101,97,100,108,105,110,101]⟩:ByteArray),.string (⟨#[110,111,114,109,97,108]⟩:ByteArray)] 9)) w.heap.size #[] 0 1 (.slice (some ⟨w.heap.size+1,0,none⟩) 6 6) hA1 rfl
 obtain⟨W1,hW1⟩:∃W1,W1=({ ((w.alloc (.map #[] 0)).alloc (.cells #[.string (⟨#[]⟩:ByteArray),.string (⟨#[99,104,97,116]⟩:ByteArray),.string (⟨#[101,114,114,111,114]⟩:ByteArray),.string (⟨#[103,114,111,117,112,99,104,97,116]⟩:ByteArray),.string (⟨#[104,101,97,100,108,105,110,101]⟩:ByteArray),.string (⟨#[110,111,114,109,97,108]⟩:ByteArray)] 9)) with heap:=((w.alloc (.map #[] 0)).alloc (.cells #[.string (⟨#[]⟩:ByteArray),.string (⟨#[99,104,97,116]⟩:ByteArray),.string (⟨#[101,114,114,111,114]⟩:ByteArray),.string (⟨#[103,114,111,117,112,99,104,97,116]⟩:ByteArray),.string (⟨#[104,101,97,100,108,105,110,101]⟩:ByteArray),.string (⟨#[110,111,114,109,97,108]⟩:ByteArray)] 9)).heap.setIfInBounds w.heap.size (.map (#[].push { key:=.int .u8 1,val:=.slice (some ⟨w.heap.size+1,0,none⟩) 6 6,born:=0}) (0+1))}:World):=⟨_,rfl⟩
 rw [←hW1] at hp1
 have hM1:W1.heap[w.heap.size]? = some (.map #[⟨.int .u8 1,.slice (some ⟨w.heap.size+1,0,none⟩) 6 6,0⟩] 1):=by rw [hW1];exact set_at' (by have:=hC1.size;have:=(Array.getElem?_eq_some_iff.1 hA1).1;omega)
 have hS1:W1.heap.size=w.heap.size+1+1:=by rw [hW1];show(Array.setIfInBounds _ _ _).size=_;simp [hS0]
 have hB1:Below w.heap.size w W1:=by rw [hW1];exact below_set hC1 (Nat.le_refl _)
 have hR1':RowS W1 (w.heap.size+1) msgTypes:=by rw [hW1];exact RowS.set hR1 (by omega)
 clear hW1
 have hR2:RowS (W1.alloc (.cells #[.string (⟨#[]⟩:ByteArray),.string (⟨#[117,110,97,118,97,105,108,97,98,108,101]⟩:ByteArray),.string (⟨#[115,117,98,115,99,114,105,98,101]⟩:ByteArray),.string (⟨#[115,117,98,115,99,114,105,98,101,100]⟩:ByteArray),.string (⟨#[117,110,115,117,98,115,99,114,105,98,101]⟩:ByteArray),.string (⟨#[117,110,115,117,98,115,99,114,105,98,101,100]⟩:ByteArray),.string (⟨#[112,114,111,98,101]⟩:ByteArray),.string (⟨#[101,114,114,111,114]⟩:ByteArray)] 9)) (w.heap.size+1+1) preTypes:=RowS.new _ _ _ preTypes (by rw [hS1])
 have hr11:RowS (W1.alloc (.cells #[.string (⟨#[]⟩:ByteArray),.string (⟨#[117,110,97,118,97,105,108,97,98,108,101]⟩:ByteArray),.string (⟨#[115,117,98,115,99,114,105,98,101]⟩:ByteArray),.string (⟨#[115,117,98,115,99,114,105,98,101,100]⟩:ByteArray),.string (⟨#[117,110,115,117,98,115,99,114,105,98,101]⟩:ByteArray),.string (⟨#[117,110,115,117,98,115,99,114,105,98,101,100]⟩:ByteArray),.string (⟨#[112,114,111,98,101]⟩:ByteArray),.string (⟨#[101,114,114,111,114]⟩:ByteArray)] 9)) (w.heap.size+1) msgTypes:=RowS.alloc hR1' _
 have hA2:(W1.alloc (.cells #[.string (⟨#[]⟩:ByteArray),.string (⟨#[117,110,97,118,97,105,108,97,98,108,101]⟩:ByteArray),.string (⟨#[115,117,98,115,99,114,105,98,101]⟩:ByteArray),.string (⟨#[115,117,98,115,99,114,105,98,101,100]⟩:ByteArray),.string (⟨#[117,110,115,117,98,115,99,114,105,98,101]⟩:ByteArray),.string (⟨#[117,110,115,117,98,115,99,114,105,98,101,100]⟩:ByteArray),.string (⟨#[112,114,111,98,101]⟩:ByteArray),.string (⟨#[101,114,114,111,114]⟩:ByteArray)] 9)).heap[w.heap.size]? = some (.map #[⟨.int .u8 1,.slice (some ⟨w.heap.size+1,0,none⟩) 6 6,0⟩] 1):=heap_ext hM1 ((Below.refl _ _).alloc (Nat.le_refl _) _)
 have hC2:Below w.heap.size w (W1.alloc (.cells #[.string (⟨#[]⟩:ByteArray),.string (⟨#[117,110,97,118,97,105,108,97,98,108,101]⟩:ByteArray),.string (⟨#[115,117,98,115,99,114,105,98,101]⟩:ByteArray),.string (⟨#[115,117,98,115,99,114,105,98,101,100]⟩:ByteArray),.string (⟨#[117,110,115,117,98,115,99,114,105,98,101]⟩:ByteArray),.string (⟨#[117,110,115,117,98,115,99,114,105,98,101,100]⟩:ByteArray),.string (⟨#[112,114,111,98,101]⟩:ByteArray),.string (⟨#[101,114,114,111,114]⟩:ByteArray)] 9)):=hB1.alloc hB1.size _
 have hp2:=put_u8 (W1.alloc (.cells #[.string (⟨#[]⟩:ByteArray),.string (⟨#[117,110,97,118,97,105,108,97,98,108,101]⟩:ByteArray),.string (⟨#[115,117,98,115,99,114,105,98,101]⟩:ByteArray),.string (⟨#[115,117,98,115,99,114,105,98,101,100]⟩:ByteArray),.string (⟨#[117,110,115,117,98,115,99,114,105,98,101]⟩:ByteArray),.string (⟨#[117,110,115,117,98,115,99,114,105,98,101,100]⟩:ByteArray),.string (⟨#[112,114,111,98,101]⟩:ByteArray),.string (⟨#[101,114,114,111,114]⟩:ByteArray)] 9)) w.heap.size #[⟨.int .u8 1,.slice (some ⟨w.heap.size+1,0,none⟩) 6 6,0⟩] 1 2 (.slice (some ⟨w.heap.size+1+1,0,none⟩) 8 8) hA2 rfl
 obtain⟨W2,hW2⟩:∃W2,W2=({ (W1.alloc (.cells #[.string (⟨#[]⟩:ByteArray),.string (⟨#[117,110,97,118,97,105,108,97,98,108,101]⟩:ByteArray),.string (⟨#[115,117,98,115,99,114,105,98,101]⟩:ByteArray),.string (⟨#[115,117,98,115,99,114,105,98,101,100]⟩:ByteArray),.string (⟨#[117,110,115,117,98,115,99,114,105,98,101]⟩:ByteArray),.string (⟨#[117,110,115,117,98,115,99,114,105,98,101,100]⟩:ByteArray),.string (⟨#[112,114,111,98,101]⟩:ByteArray),.string (⟨#[101,114,114,111,114]⟩:ByteArray)] 9)) with heap:=(W1.alloc (.cells #[.string (⟨#[]⟩:ByteArray),.string (⟨#[117,110,97,118,97,105,108,97,98,108,101]⟩:ByteArray),.string (⟨#[115,117,98,115,99,114,105,98,101]⟩:ByteArray),.string (⟨#[115,117,98,115,99,114,105,98,101,100]⟩:ByteArray),.string (⟨#[117,110,115,117,98,115,99,114,105,98,101]⟩:ByteArray),.string (⟨#[117,110,115,117,98,115,99,114,105,98,101,100]⟩:ByteArray),.string (⟨#[112,114,111,98,101]⟩:ByteArray),.string (⟨#[101,114,114,111,114]⟩:ByteArray)] 9)).heap.setIfInBounds w.heap.size (.map (#[⟨.int .u8 1,.slice (some ⟨w.heap.size+1,0,none⟩) 6 6,0⟩].push { key:=.int .u8 2,val:=.slice (some ⟨w.heap.size+1+1,0,none⟩) 8 8,born:=1}) (1+1))}:World):=⟨_,rfl⟩
 rw [←hW2] at hp2
 have hM2:W2.heap[w.heap.size]? = some (.map #[⟨.int .u8 1,.slice (some ⟨w.heap.size+1,0,none⟩) 6 6,0⟩,⟨.int .u8 2,.slice (some ⟨w.heap.size+1+1,0,none⟩) 8 8,1⟩] 2):=by rw [hW2];exact set_at' (by have:=hC2.size;have:=(Array.getElem?_eq_some_iff.1 hA2).1;omega)
 have hS2:W2.heap.size=w.heap.size+1+1+1:=by rw [hW2];show(Array.setIfInBounds _ _ _).size=_;simp [hS1]
 have hB2:Below w.heap.size w W2:=by rw [hW2];exact below_set hC2 (Nat.le_refl _)
 have hR1'':RowS W2 (w.heap.size+1) msgTypes:=by rw [hW2];exact RowS.set hr11 (by omega)
 have hR2':RowS W2 (w.heap.size+1+1) preTypes:=by rw [hW2];exact RowS.set hR2 (by omega)
 clear hW2
 have hR3:RowS (W2.alloc (.cells #[.string (⟨#[103,101,116]⟩:ByteArray),.string (⟨#[115,101,116]⟩:ByteArray),.string (⟨#[114,101,115,117,108,116]⟩:ByteArray),.string (⟨#[101,114,114,111,114]⟩:ByteArray)] 9)) (w.heap.size+1+1+1) iqTypes:=RowS.new _ _ _ iqTypes (by rw [hS2])
 have hr12:RowS (W2.alloc (.cells #[.string (⟨#[103,101,116]⟩:ByteArray),.string (⟨#[115,101,116]⟩:ByteArray),.string (⟨#[114,101,115,117,108,116]⟩:ByteArray),.string (⟨#[101,114,114,111,114]⟩:ByteArray)] 9)) (w.heap.size+1) msgTypes:=RowS.alloc hR1'' _
 have hr22:RowS (W2.alloc (.cells #[.string (⟨#[103,101,116]⟩:ByteArray),.string (⟨#[115,101,116]⟩:ByteArray),.string (⟨#[114,101,115,117,108,116]⟩:ByteArray),.string (⟨#[101,114,114,111,114]⟩:ByteArray)] 9)) (w.heap.size+1+1) preTypes:=RowS.alloc hR2' _
 have hA3:(W2.alloc (.cells #[.string (⟨#[103,101,116]⟩:ByteArray),.string (⟨#[115,101,116]⟩:ByteArray),.string (⟨#[114,101,115,117,108,116]⟩:ByteArray),.string (⟨#[101,114,114,111,114]⟩:ByteArray)] 9)).heap[w.heap.size]? = some (.map #[⟨.int .u8 1,.slice (some ⟨w.heap.size+1,0,none⟩) 6 6,0⟩,⟨.int .u8 2,.slice (some ⟨w.heap.size+1+1,0,none⟩) 8 8,1⟩] 2):=heap_ext hM2 ((Below.refl _ _).alloc (Nat.le_refl _) _)
 have hC3:Below w.heap.size w (W2.alloc (.cells #[.string (⟨#[103,101,116]⟩:ByteArray),.string (⟨#[115,101,116]⟩:ByteArray),.string (⟨#[114,101,115,117,108,116]⟩:ByteArray),.string (⟨#[101,114,114,111,114]⟩:ByteArray)] 9)):=hB2.alloc hB2.size _
 have hp3:=put_u8 (W2.alloc (.cells #[.string (⟨#[103,101,116]⟩:ByteArray),.string (⟨#[115,101,116]⟩:ByteArray),.string (⟨#[114,101,115,117,108,116]⟩:ByteArray),.string (⟨#[101,114,114,111,114]⟩:ByteArray)] 9)) w.heap.size #[⟨.int .u8 1,.slice (some ⟨w.heap.size+1,0,none⟩) 6 6,0⟩,⟨.int .u8 2,.slice (some ⟨w.heap.size+1+1,0,none⟩) 8 8,1⟩] 2 3 (.slice (some ⟨w.heap.size+1+1+1,0,none⟩) 4 4) hA3 rfl
 obtain⟨W3,hW3⟩:∃W3,W3=({ (W2.alloc (.cells #[.string (⟨#[103,101,116]⟩:ByteArray),.string (⟨#[115,101,116]⟩:ByteArray),.string (⟨#[114,101,115,117,108,116]⟩:ByteArray),.string (⟨#[101,114,114,111,114]⟩:ByteArray)] 9)) with heap:=(W2.alloc (.cells #[.string (⟨#[103,101,116]⟩:ByteArray),.string (⟨#[115,101,116]⟩:ByteArray),.string (⟨#[114,101,115,117,108,116]⟩:ByteArray),.string (⟨#[101,114,114,111,114]⟩:ByteArray)] 9)).heap.setIfInBounds w.heap.size (.map (#[⟨.int .u8 1,.slice (some ⟨w.heap.size+1,0,none⟩) 6 6,0⟩,⟨.int .u8 2,.slice (some ⟨w.heap.size+1+1,0,none⟩) 8 8,1⟩].push { key:=.int .u8 3,val:=.slice (some ⟨w.heap.size+1+1+1,0,none⟩) 4 4,born:=2}) (2+1))}:World):=⟨_,rfl⟩
 rw [←hW3] at hp3
 have hM3:W3.heap[w.heap.size]? = some (.map #[⟨.int .u8 1,.slice (some ⟨w.heap.size+1,0,none⟩) 6 6,0⟩,⟨.int .u8 2,.slice (some ⟨w.heap.size+1+1,0,none⟩) 8 8,1⟩,⟨.int .u8 3,.slice (some ⟨w.heap.size+1+1+1,0,none⟩) 4 4,2⟩] 3):=by rw [hW3];exact set_at' (by have:=hC3.size;have:=(Array.getElem?_eq_some_iff.1 hA3).1;omega)
 have hS3:W3.heap.size=w.heap.size+1+1+1+1:=by rw [hW3];show(Array.setIfInBounds _ _ _).size=_;simp [hS2]
 have hB3:Below w.heap.size w W3:=by rw [hW3];exact below_set hC3 (Nat.le_refl _)
 have hR1''':RowS W3 (w.heap.size+1) msgTypes:=by rw [hW3];exact RowS.set hr12 (by omega)
 have hR2'':RowS W3 (w.heap.size+1+1) preTypes:=by rw [hW3];exact RowS.set hr22 (by omega)
 have hR3':RowS W3 (w.heap.size+1+1+1) iqTypes:=by rw [hW3];exact RowS.set hR3 (by omega)
 clear hW3
 have HM:=Lib.hid hM3
 have HB:=Lib.hid hB3
 have H1:=Lib.hid hR1'''
 have H2:=Lib.hid hR2''
 have H3:=Lib.hid hR3'
 clear hM0 hM1 hM2 hM3 hB0 hB1 hB2 hB3 hR1 hR2 hR3 hR1' hR1'' hR1''' hR2' hR2'' hR3' hr11 hr12 hr22 hA1 hA2 hA3 hC1 hC2 hC3 hS0 hS3
 go_enter Tryz.func60,Tryz.ntmps60
 go_wp2
 go_ret
 exact⟨_,rfl,⟨w.heap.size,_,_,_,3,rfl,HM.out,H1.out.rds,H2.out.rds,H3.out.rds⟩,HB.out⟩
end Go.Proofs.YtnmnpnofdgdigaaGreatDoor
end
section
namespace Go.Proofs.YtnmnpnofdgdigaaGreatDoor
open Go.RowKit
set_option linter.unusedSimpArgs false
set_option linter.unusedVariables false
theorem given_any (s:ByteArray) (w:World):Calls Tryz.prog 73 #[.string s] w fun e w'=>e=.returned (.bool (givenB s))∧w=w':=by
 have HG:Box (givenB s=((s.toList == [104,116,116,112,58,47,47,119,119,119,46,119,51,46,111,114,103,47,88,77,76,47,49,57,57,56,47,110,97,109,101,115,112,97,99,101]) || (s.toList == [104,116,116,112,58,47,47,119,119,119,46,119,51,46,111,114,103,47,50,48,48,48,47,120,109,108,110,115,47]))):=⟨rfl⟩
 generalize givenB s=r at *
 go_enter Tryz.func73,Tryz.ntmps73
 go_wp2
 all_goals
  go_ret
  exact⟨(ret_bool (by first|(rw [HG.out];done)|(rw [HG.out];simp_all;done))),rfl⟩
set_option maxRecDepth 10000 in
theorem space1_any (a:AttrL) (w:World) (hz:SzA 1000000000 a):Calls Tryz.prog 71 (#[encA a]++#[]) w fun e w'=>e=.returned (.bool (oddA a))∧Below w.heap.size w w':=by
 have HX:=Lib.hid ((Below.refl w.heap.size w).alloc (Nat.le_refl _) (.cells #[.string a.space,.string a.name,.string a.value] 75))
 have HG:Box (oddA a=(!nameI a.name || (a.space.toList.isEmpty && (a.name.toList == [120,109,108,110,115])) || (a.space.toList == [104,116,116,112,58,47,47,119,119,119,46,119,51,46,111,114,103,47,50,48,48,48,47,120,109,108,110,115,47]))):=⟨rfl⟩
 have H1:=Lib.hid (fun W=>name_any a.name W hz.2.1)
 generalize oddA a=r at *
 generalize nameI a.name=n1 at *
 unfold encA
 rw [Array.append_empty]
 go_enter Tryz.func71,Tryz.ntmps71
 cases n1
 all_goals
  go_wp2_with fail
  refine(H1.out _).mono ?_
  rintro e w1 ⟨rfl,rfl⟩
  go_wp2
  all_goals
   go_ret
   exact⟨(ret_bool (by first|(rw [HG.out];done)|(rw [HG.out];simp_all;done))),HX.out⟩
set_option maxHeartbeats 4000000 in
set_option maxRecDepth 10000 in
theorem space2_any (n:NodeL) (A:Option Addr) (c B:Nat) (w:World) (hB:w.cell? ⟨B,0,none⟩=some (.func (.func 71) #[] #[])) (hr:RdA w w.heap.size A n.attrs) (hz:SzN 1000000000 n) :
  Calls Tryz.prog 72 (#[encN n A c]++#[.pointer (some ⟨B,0,none⟩)]) w fun e w'=>e=.returned (.bool (oddN n))∧Below w.heap.size w w':=by
 have hBl:=cell_lt hB
 have hne:B≠w.heap.size:=by omega
 obtain⟨W0,hW0⟩:∃W0,W0=w.alloc (.cells #[.int .u8 n.kind,.string n.space,.string n.name,.slice A n.attrs.length c,.string n.text,.int .i64 n.many] 36):=⟨_,rfl⟩
 have hX0:Below w.heap.size w W0:=by rw [hW0];exact(Below.refl _ _).alloc (Nat.le_refl _) _
 have HX0:=Lib.hid hX0
 have HG:Box (oddN n=((decide (n.kind=1) && !nameI n.name) || givenB n.space || n.attrs.any oddA)):=⟨rfl⟩
 have H1:=Lib.hid (fun W=>name_any n.name W hz.2.2.1)
 have H2:=Lib.hid (fun W=>given_any n.space W)
 have eg:=enters_of (P:=Tryz.prog) Tryz.func71 (by kernel_rfl) rfl
 have H3:=Lib.hid (hasA_any 71 #[] A c n.attrs oddA W0 ((hr.below hX0 (Nat.le_refl _)).more hX0.size) hz.2.2.2.1.1 eg
  (fun W i x hW hx=>(space1_any x W (hz.2.2.2.1.2 x (List.mem_of_getElem? hx))).mono fun e w' h=>⟨h.1,hW.trans (h.2.mono hW.size)⟩))
 rw [hW0] at H3
 have HXF:∀w',Below W0.heap.size W0 w'→Below w.heap.size w w':=fun w' h=>hX0.trans (h.mono hX0.size)
 rw [hW0] at HXF HX0
 have HXF':=Lib.hid HXF
 clear hW0 hX0 HXF eg hr
 generalize oddN n=r at *
 generalize nameI n.name=n1 at *
 generalize givenB n.space=g1 at *
 generalize n.attrs.any oddA=a1 at *
 unfold encN
 rw [List.append_toArray,List.singleton_append]
 by_cases hk:n.kind=1
 all_goals
  try rw [hk] at H3 HX0 HXF'
  go_enter Tryz.func72,Tryz.ntmps72
  go_wp2_with (first
    | (go_at_call 42;refine(H1.out _).mono ?_;rintro e w1 ⟨rfl,rfl⟩)
    | (go_at_call 73;refine(H2.out _).mono ?_;rintro e w2 ⟨rfl,rfl⟩)
    | (go_at_call 74;refine(H3.out).mono ?_;rintro e w3 ⟨rfl,hb3⟩))
  all_goals
   go_ret
   first|exact⟨(ret_bool (by first|(rw [HG.out];done)|(rw [HG.out];simp_all;done))),HX0.out⟩|exact⟨(ret_bool (by first|(rw [HG.out];done)|(rw [HG.out];simp_all;done))),HXF'.out _ hb3⟩
end Go.Proofs.YtnmnpnofdgdigaaGreatDoor
end
section
namespace Go.Proofs.YtnmnpnofdgdigaaGreatDoor
open Go.RowKit
set_option linter.unusedSimpArgs false
set_option linter.unusedVariables false
set_option maxHeartbeats 4000000 in
set_option maxRecDepth 10000 in
theorem spcheck_any (v:List NodeL) (A:Option Addr) (c:Nat) (w:World) (hc:v.length≤c) (hz:SzV 1000000000 v) (hr:RdV w w.heap.size A v) :
  Calls Tryz.prog 30 #[.slice A v.length c] w fun e w'=>e=.returned (.int .i64 (spaceErr v))∧Below w.heap.size w w':=by
 obtain⟨W0,hW0⟩:∃W0,W0=w.alloc (.cells #[.func (.func 71) #[] #[]] 117):=⟨_,rfl⟩
 have hX0:Below w.heap.size w W0:=by rw [hW0];exact(Below.refl _ _).alloc (Nat.le_refl _) _
 have hs0:w.heap.size < W0.heap.size:=by rw [hW0];simp
 have hB:∀W,Below W0.heap.size W0 W→W.cell? ⟨w.heap.size,0,none⟩=some (.func (.func 71) #[] #[]):=fun W hW=>(hW.cell hs0).trans (by rw [hW0];simp)
 have eg:=enters_of (P:=Tryz.prog) Tryz.func72 (by kernel_rfl) rfl
 have hr0:=(hr.below hX0 (Nat.le_refl _)).more hX0.size
 have H:=Lib.hid (hasN_any 72 #[.pointer (some ⟨w.heap.size,0,none⟩)] A c v oddN W0 hr0 hz.1 eg
  (fun W i x A' c' hW hx hl hA=>(space2_any x A' c' w.heap.size W (hB W hW) ((hA.below hW (Nat.le_refl _)).more hW.size) (hz.2 x (List.mem_of_getElem? hx))).mono fun e w' h=>⟨h.1,hW.trans (h.2.mono hW.size)⟩))
 have HT:=Lib.hid (fun W (hW:Below W0.heap.size W0 W)=>tcheck_any v A c W hc hz ((hr0.below hW (Nat.le_refl _)).more hW.size))
 have HX0:=Lib.hid hX0
 rw [hW0] at H HT HX0
 have HG:Box (spaceErr v=if v.any oddN then 8 else treeErr v):=⟨by unfold spaceErr spaceI treeErr;cases v.any oddN <;> simp⟩
 clear hW0 hX0 hs0 hB eg hr0 hr hz hc
 generalize spaceErr v=r at *
 generalize treeErr v=te at *
 cases hq:v.any oddN
 all_goals
  rw [hq] at H HG
  go_enter Tryz.func30,Tryz.ntmps30
  go_wp2_with fail
  refine H.out.mono ?_
  rintro e w1 ⟨rfl,hb1⟩
  have X1:=Lib.hid hb1
  clear hb1
  go_wp2_with (first
    | (go_at_call 76;refine(HT.out _ X1.out).mono ?_;rintro e w1 ⟨rfl,hb2⟩))
  go_ret
  first|exact⟨ret_int (by rw [HG.out];rfl),HX0.out.trans (X1.out.mono HX0.out.size)⟩|exact⟨ret_int (by rw [HG.out];rfl),(HX0.out.trans (X1.out.mono HX0.out.size)).trans (hb2.mono (Nat.le_trans HX0.out.size X1.out.size))⟩
end Go.Proofs.YtnmnpnofdgdigaaGreatDoor
end
