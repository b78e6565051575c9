/- Part 12 of a proof laid in parts, one behind the other; no condition of its own. -/
import Derived.Test.YtnmnpnofdgdigaaGreatDoorZ11
import Derived.Test.YtnmnpnofdgdigaaGreatDoorZ06
import Derived.Test.YtnmnpnofdgdigaaGreatDoorZ09
import Derived.Test.YtnmnpnofdgdigaaGreatDoorZ07
import Derived.Laws.EntriesVeiled
import Derived.MapKept
import Derived.Carry
set_option linter.all false
section
namespace Go.Proofs.YtnmnpnofdgdigaaGreatDoor
open Go.RowKit
set_option linter.unusedSimpArgs false
set_option linter.unusedVariables false
def addressI (s:ByteArray):Bool:=isEmp s || ((parseI s).isSome && eqS (textJ (parsedJ s)) s)
theorem parse_jid (s:ByteArray):jidI (parsedJ s)=(parseI s).isSome:=by
 unfold parsedJ
 have h0:jidI emJ=false:=by rfl
 unfold parseI
 split
 ·rw [Option.getD_none,h0];rfl
 ·rename_i h
  rw [Option.getD_some]
  simp only [Bool.or_eq_true,Bool.not_eq_true',not_or,Bool.not_eq_false] at h
  rw [h.2];rfl
theorem parsed_sz (s:ByteArray):(parsedJ s).loc.size≤s.size∧(parsedJ s).dom.size≤s.size∧(parsedJ s).res.size≤s.size:=by
 have h0:emB.size=0:=rfl
 have h1:=readJ_sz s
 unfold parsedJ parseI
 split
 ·rw [Option.getD_none]
  exact⟨by show emB.size≤_;omega,by show emB.size≤_;omega,by show emB.size≤_;omega⟩
 ·rw [Option.getD_some];exact h1
end Go.Proofs.YtnmnpnofdgdigaaGreatDoor
end
section
namespace Go.Proofs.YtnmnpnofdgdigaaGreatDoor
def idI (k:Int) (s:ByteArray):Bool:=decide (s.size≤64) && decide (textErr s=0) && (!decide (k=3) || !isEmp s)
def stnI (s:StL):Bool:=typedI s.kind s.typ && idI s.kind s.id && addressI s.frm && addressI s.to && !decide (16 < s.load.length) && s.load.all spaceI
def SzW (l:List (List NodeL)):Prop:=l.length≤1000000000∧∀v∈l,SzV 1000000000 v
end Go.Proofs.YtnmnpnofdgdigaaGreatDoor
end
section
namespace Go.Proofs.YtnmnpnofdgdigaaGreatDoor
open Go.RowKit
set_option linter.unusedSimpArgs false
set_option linter.unusedVariables false
end Go.Proofs.YtnmnpnofdgdigaaGreatDoor
end
section
namespace Go.Proofs.YtnmnpnofdgdigaaGreatDoor
open Go.RowKit
set_option linter.unusedSimpArgs false
set_option linter.unusedVariables false
def RdS (w:World) (A:Option Addr) (l:List ByteArray):Prop:=0 < l.length→∃b off,A=some ⟨b,off,none⟩∧b < w.heap.size∧∀(i:Nat) (s:ByteArray),l[i]? = some s→w.cell? ⟨b,off+i,none⟩=some (.string s)
theorem RdS.ext {w w':World} {A:Option Addr} {l:List ByteArray} (h:RdS w A l) (hb:Below w.heap.size w w'):RdS w' A l:=fun h0=>by
 obtain⟨b,off,h1,h2,h3⟩:=h h0
 exact⟨b,off,h1,Nat.lt_of_lt_of_le h2 hb.size,fun i s hi=>(hb.cell (p:=⟨b,off+i,none⟩) h2).trans (h3 i s hi)⟩
theorem RdS.new (w:World) (t:TypeId) (l:List ByteArray):RdS (w.alloc (.cells (l.map Value.string).toArray t)) (some ⟨w.heap.size,0,none⟩) l:=fun _=>
 ⟨w.heap.size,0,rfl,by simp,fun i s hi=>by simp [hi]⟩
def eqT (s x:ByteArray):Bool:=s.toList == x.toList
theorem index_any (A:Option Addr) (c:Nat) (l:List ByteArray) (s:ByteArray) (w:World) (hr:RdS w A l) (hn:l.length≤1000) :
  Calls Tryz.prog 32 #[.slice A l.length c,.string s] w fun e w'=>e=.returned (.int .i64 (placeI (fstP (eqT s) l)))∧w=w':=by
 have HR:=Lib.hid hr
 clear hr
 go_enter Tryz.func32,Tryz.ntmps32
 go_wp2
 go_loop [5,8] (fun _ s8=>∃k:Nat,k≤l.length∧s8=.int .i64 k∧Hid (∀(j:Nat) (y:ByteArray),j < k→l[j]? = some y→eqT s y=false)) (fun _ s8=>l.length - (intOf s8).toNat)
 case atStart=>exact⟨0,Nat.zero_le _,rfl,Lib.hid (fun j y hj=>absurd hj (by omega))⟩
 case round=>
  obtain⟨k,hk,rfl,HN⟩:=hrel
  by_cases hlt:k < l.length
  ·obtain⟨x,hx⟩:∃x,l[k]? = some x:=⟨_,List.getElem?_eq_getElem hlt⟩
   have HX:=Lib.hid hx
   obtain⟨b,off,rfl,hb,hcc⟩:=HR.out (by omega)
   have c0:=hcc k x hx
   clear hx hcc
   cases hq:eqT s x with
   | true=>
    have HF:Hid (fstP (eqT s) l=some k):=fstP_is HX.out hq HN.out
    unfold eqT at hq
    generalize l.length=n at *
    go_wp2
    go_ret
    exact⟨ret_int (by rw [HF.out];rfl),rfl⟩
   | false=>
    have HF:Hid (∀(j:Nat) (y:ByteArray),j < k+1→l[j]? = some y→eqT s y=false):=Lib.hid (fun j y hj hy=>by
     rcases Nat.lt_or_ge j k with h1|h1
     ·exact HN.out j y h1 hy
     ·obtain rfl:j=k:=by omega
      rw [HX.out] at hy
      simp only [Option.some.injEq] at hy
      rw [←hy];exact hq)
    unfold eqT at hq
    generalize l.length=n at *
    go_wp2
    go_round
    case rel=>exact⟨k+1,by omega,by go_num,HF⟩
    case measure=>simp [intOf];omega
  ·have HF:Hid (fstP (eqT s) l=none):=fstP_not (fun j y hy=>HN.out j y (by have:=(List.getElem?_eq_some_iff.1 hy).1;omega) hy)
   generalize l.length=n at *
   go_wp2
   go_ret
   exact⟨ret_int (by rw [HF.out];rfl),rfl⟩
theorem has_eq (l:List ByteArray) (s:ByteArray):hasS l s=l.any (eqT s):=by
 unfold hasS eqT
 congr 1
 funext x
 rw [Bool.eq_iff_iff,beq_iff_eq,beq_iff_eq]
 exact⟨Eq.symm,Eq.symm⟩
theorem contains_any (A:Option Addr) (c:Nat) (l:List ByteArray) (s:ByteArray) (w:World) (hr:RdS w A l) (hn:l.length≤1000) :
  Calls Tryz.prog 59 #[.slice A l.length c,.string s] w fun e w'=>e=.returned (.bool (hasS l s))∧w=w':=by
 have H:=Lib.hid (index_any A c l s w hr hn)
 have HX:Box (hasS l s=decide (0≤placeI (fstP (eqT s) l))):=⟨by rw [placeI_ge,has_eq,fstP_any]⟩
 generalize placeI (fstP (eqT s) l)=r at *
 generalize hasS l s=q at *
 generalize l.length=n at *
 clear hr
 go_enter Tryz.func59,Tryz.ntmps59
 go_wp2_with fail
 refine H.out.mono ?_
 rintro e w1 ⟨rfl,rfl⟩
 go_wp2
 go_ret
 exact⟨ret_bool HX.out.symm,rfl⟩
def wordI (k:Int):ByteArray:=if k=1 then(⟨#[109,101,115,115,97,103,101]⟩:ByteArray) else if k=2 then(⟨#[112,114,101,115,101,110,99,101]⟩:ByteArray) else if k=3 then(⟨#[105,113]⟩:ByteArray) else emB
end Go.Proofs.YtnmnpnofdgdigaaGreatDoor
end
section
namespace Go.Proofs.YtnmnpnofdgdigaaGreatDoor
open Go.RowKit
set_option maxRecDepth 10000
set_option linter.unusedSimpArgs false
set_option linter.unusedVariables false
theorem check_u8 (em:Bool) (n:Nat) (a:Int) (w:World):(Instr.checkKey em (n+1) 5 (.int .u8 a)).run Tryz.prog w=.ok () w:=by
 simp [Instr.checkKey,run_underlying Tryz.underlying5]
theorem get_u8 (w:World) (b:Nat) (es:Array MapEntry) (clock:Nat) (a:Int) (o:Option (Nat×Value)) (hb:w.heap[b]? = some (.map es clock)) (hf:Instr.findNow (.int .u8) (.int .u8 a) es.toList 0=some o) :
  (Instr.lookup 107 (.map (some b)) (.int .u8 a) false).run Tryz.prog w=.ok (match o with|some x=>x.2|none=>.slice none 0 0) w:=by
 have hc:=fun em=>check_u8 em 9999 a w
 simp only [Nat.reduceAdd] at hc
 cases o with
 | none=>simp [Instr.lookup,run_underlying Tryz.underlying107,run_underlying Tryz.underlying5,MapKept.run_getObj_map hb,hc,Instr.findKey,hf,Tryz.zeroValue50]
 | some x=>simp [Instr.lookup,run_underlying Tryz.underlying107,run_underlying Tryz.underlying5,MapKept.run_getObj_map hb,hc,Instr.findKey,hf]
theorem same_u8 (a b:Int):Instr.sameNow (.int .u8) (.int .u8 a) (.int .u8 b)=some (a == b):=by simp [Instr.sameNow]
theorem find_3 (a:Int) (v1 v2 v3:Value):Instr.findNow (.int .u8) (.int .u8 a) [⟨.int .u8 1,v1,0⟩,⟨.int .u8 2,v2,1⟩,⟨.int .u8 3,v3,2⟩] 0=some (if a=1 then some (0,v1) else if a=2 then some (1,v2) else if a=3 then some (2,v3) else none):=by
 unfold Instr.findNow
 simp only [same_u8]
 by_cases h1:a=1
 ·subst h1;rfl
 ·rw [if_neg h1,show(a == 1)=false by simpa using h1]
  simp only []
  unfold Instr.findNow
  simp only [same_u8]
  by_cases h2:a=2
  ·subst h2;rfl
  ·rw [if_neg h2,show(a == 2)=false by simpa using h2]
   simp only []
   unfold Instr.findNow
   simp only [same_u8]
   by_cases h3:a=3
   ·subst h3;rfl
   ·rw [if_neg h3,show(a == 3)=false by simpa using h3]
    rfl
def MapT (u:Value) (W:World):Prop:=∃b A1 A2 A3 ck,u=.map (some b)∧W.heap[b]? = some (.map #[⟨.int .u8 1,.slice A1 6 6,0⟩,⟨.int .u8 2,.slice A2 8 8,1⟩,⟨.int .u8 3,.slice A3 4 4,2⟩] ck)∧RdS W A1 msgTypes∧RdS W A2 preTypes∧RdS W A3 iqTypes
theorem MapT.ext {u:Value} {W W':World} (h:MapT u W) (hb:Below W.heap.size W W'):MapT u W':=by
 obtain⟨b,A1,A2,A3,ck,h1,h2,h3,h4,h5⟩:=h
 exact⟨b,A1,A2,A3,ck,h1,(hb.block b (Array.getElem?_eq_some_iff.1 h2).1).trans h2,h3.ext hb,h4.ext hb,h5.ext hb⟩
theorem MapT.get {u:Value} {W:World} (h:MapT u W) (k:Int):∃b A c,u=.map (some b)∧(Instr.lookup 107 (.map (some b)) (.int .u8 k) false).run Tryz.prog W=.ok (.slice A (typesOf k).length c) W∧RdS W A (typesOf k):=by
 obtain⟨b,A1,A2,A3,ck,h1,h2,h3,h4,h5⟩:=h
 have hg:=fun o=>get_u8 W b _ ck k o h2
 have hf:=find_3 k (.slice A1 6 6) (.slice A2 8 8) (.slice A3 4 4)
 by_cases k1:k=1
 ·subst k1
  exact⟨b,A1,6,h1,hg _ hf,h3⟩
 ·by_cases k2:k=2
  ·subst k2
   exact⟨b,A2,8,h1,hg _ hf,h4⟩
  ·by_cases k3:k=3
   ·subst k3
    exact⟨b,A3,4,h1,hg _ hf,h5⟩
   ·have e:typesOf k=[]:=by unfold typesOf;rw [if_neg k1,if_neg k2,if_neg k3]
    rw [if_neg k1,if_neg k2,if_neg k3] at hf
    have hl:=hg _ hf
    refine⟨b,none,0,h1,?_,fun h0=>?_⟩
    ·rw [e];exact hl
    ·rw [e] at h0;cases h0
theorem set_keep {W:World} {b k:Nat} {o:Obj} (h:k≠b):({ W with heap:=W.heap.setIfInBounds b o}:World).heap[k]? = W.heap[k]?:=by
 show(W.heap.setIfInBounds b o)[k]? = _
 rw [Array.getElem?_setIfInBounds_ne (by omega)]
def RowS (W:World) (g:Nat) (l:List ByteArray):Prop:=∃t,W.heap[g]? = some (.cells (l.map Value.string).toArray t (0,0))
theorem RowS.rds {W:World} {g:Nat} {l:List ByteArray} (h:RowS W g l):RdS W (some ⟨g,0,none⟩) l:=fun _=>by
 obtain⟨t,h⟩:=h
 exact⟨g,0,rfl,(Array.getElem?_eq_some_iff.1 h).1,fun i s hi=>by simp [World.cell?,h,hi]⟩
theorem RowS.set {W:World} {g b:Nat} {l:List ByteArray} {o:Obj} (h:RowS W g l) (hne:g≠b):RowS { W with heap:=W.heap.setIfInBounds b o} g l:=by
 obtain⟨t,h⟩:=h
 exact⟨t,(set_keep hne).trans h⟩
theorem RowS.alloc {W:World} {g:Nat} {l:List ByteArray} (h:RowS W g l) (o:Obj):RowS (W.alloc o) g l:=by
 obtain⟨t,h⟩:=h
 exact⟨t,heap_ext h ((Below.refl _ _).alloc (Nat.le_refl _) _)⟩
theorem RowS.new (W:World) (g:Nat) (t:TypeId) (l:List ByteArray) (hg:g=W.heap.size):RowS (W.alloc (.cells (l.map Value.string).toArray t)) g l:=by
 subst hg
 exact⟨t,heap_alloc_new W _⟩
end Go.Proofs.YtnmnpnofdgdigaaGreatDoor
end
section
namespace Go.Proofs.YtnmnpnofdgdigaaGreatDoor
open Go.RowKit
set_option linter.unusedSimpArgs false
set_option linter.unusedVariables false
theorem size_attrs (W:World):(sizeOf (Tryz.prog.elem 34)).run Tryz.prog W=.ok 3 W:=by kernel_rfl
theorem front_attrs (A:Option Addr) (m c K:Nat) (hK:K≤m) (hc:m≤c):∃A',(∀W,(Instr.slice 34 (.slice A m c) none (some (.int .i64 (K:Int))) none).run Tryz.prog W=.ok (.slice A' K c) W)∧
  ∀W B (l:List AttrL),l.length=m→RdA W B A l→RdA W B A' (l.take K):=by
 refine⟨if c=0 then A else A.map (·.add (0*3)),fun W=>?_,fun W B l hl h=>?_⟩
 ·rw [run_slice_h W 34 A m c (by kernel_rfl) .i64 K (by omega) (by omega),size_attrs]
  rfl
 ·intro h0
  rw [List.length_take] at h0
  obtain⟨b,off,rfl,hb,hcell⟩:=h (by omega)
  rw [if_neg (by omega)]
  refine⟨b,off,by simp [Addr.add],hb,fun i a hi=>hcell i a ?_⟩
  rw [List.getElem?_take] at hi
  split at hi
  ·exact hi
  ·cases hi
theorem cell_lt {w:World} {b o:Nat} {v:Value} (h:w.cell? ⟨b,o,none⟩=some v):b < w.heap.size:=World.block_lt_of_cell? w _ h
set_option maxHeartbeats 1000000 in
theorem attrs1_any (a b:AttrL) (B:Nat) (w:World) (c0:w.cell? ⟨B,0,none⟩=some (.string a.space)) (c1:w.cell? ⟨B,1,none⟩=some (.string a.name)) :
  Calls Tryz.prog 184 #[encA b,.pointer (some ⟨B,0,none⟩)] w fun e w'=>e=.returned (.bool (dupA a b))∧Below w.heap.size w w':=by
 have hB:=cell_lt c0
 have hne:B≠w.heap.size:=by omega
 have hX:=Lib.hid ((Below.refl w.heap.size w).alloc (Nat.le_refl _) (.cells #[.string b.space,.string b.name,.string b.value] 75))
 have HD:Box (dupA a b=(eqS a.space b.space && eqS a.name b.name)):=⟨rfl⟩
 unfold eqS at HD
 generalize dupA a b=r at *
 cases hq:a.space.toList == b.space.toList with
 | false=>
  rw [hq] at HD
  unfold encA
  go_enter Tryz.func184,Tryz.ntmps184
  go_wp2
  go_ret
  exact⟨ret_bool (by rw [HD.out];rfl),hX.out⟩
 | true=>
  rw [hq] at HD
  unfold encA
  go_enter Tryz.func184,Tryz.ntmps184
  go_wp2
  go_ret
  exact⟨ret_bool (by rw [HD.out];rfl),hX.out⟩
end Go.Proofs.YtnmnpnofdgdigaaGreatDoor
end
section
namespace Go.Proofs.YtnmnpnofdgdigaaGreatDoor
open Go.RowKit
set_option linter.unusedSimpArgs false
set_option linter.unusedVariables false
theorem sz_get {l:List AttrL} {M:Nat} (h:∀a∈l,SzA M a) {k:Nat} {x:AttrL} (hx:l[k]? = some x):SzA M x:=h x (List.mem_of_getElem? hx)
set_option maxHeartbeats 4000000 in
set_option maxRecDepth 10000 in
theorem attrs_any (A:Option Addr) (c:Nat) (l:List AttrL) (w:World) (hr:RdA w w.heap.size A l) (hc:l.length≤c) (hn:l.length≤1000000000) (hz:∀a∈l,SzA 1000000000 a) :
  Calls Tryz.prog 144 #[.slice A l.length c] w fun e w'=>e=.returned (.bool (attrsI l))∧Below w.heap.size w w':=by
 have HR:=Lib.hid hr
 have HZ:=Lib.hid hz
 have HI:Box (attrsI l=(attrsT l l.length && decide (l.length≤16))):=⟨rfl⟩
 clear hr hz
 generalize attrsI l=ri at *
 go_enter Tryz.func144,Tryz.ntmps144
 go_wp2
 go_loopw [3,4,5,8] (fun _ _ _ s8 wr=>∃k:Nat,k≤l.length∧s8=.int .i64 k∧Hid (Below w.heap.size w wr)∧Hid (attrsT l k=true)) (fun _ _ _ s8 _=>l.length - (intOf s8).toNat)
 case atStart=>exact⟨0,Nat.zero_le _,rfl,Lib.hid (Below.refl _ _),rfl⟩
 case round=>
  obtain⟨k,hk,rfl,HB,HN⟩:=hrel
  by_cases hlt:k < l.length
  ·obtain⟨x,hx⟩:∃x,l[k]? = some x:=⟨_,List.getElem?_eq_getElem hlt⟩
   have HX:=Lib.hid hx
   obtain⟨b,off,rfl,hb,hcc⟩:=HR.out (by omega)
   obtain⟨c0,c1,c2⟩:=(hcc k x hx).keep (w':=wr) hb (fun q hq=>HB.out.cell hq)
   obtain⟨z0,z1,z2⟩:=sz_get HZ.out hx
   have hsz:=HB.out.size
   obtain⟨A',hA',hAr⟩:=front_attrs (some ⟨b,off,none⟩) l.length c k hk hc
   have eg:=enters_of (P:=Tryz.prog) Tryz.func184 (by kernel_rfl) rfl
   have hlk:(l.take k).length=k:=by rw [List.length_take];omega
   have HX0:Hid (Below w.heap.size w (wr.alloc (.cells #[.string x.space,.string x.name,.string x.value] 75))):=HB.out.alloc hsz _
   obtain⟨W0,hW0⟩:∃W0,W0=wr.alloc (.cells #[.string x.space,.string x.name,.string x.value] 75):=⟨_,rfl⟩
   have hs0:wr.heap.size < W0.heap.size:=by rw [hW0];simp
   have HD0:Hid (∀W,Below W0.heap.size W0 W→W.cell? ⟨wr.heap.size,0,none⟩=some (.string x.space)):=Lib.hid (fun W hW=>(hW.cell hs0).trans (by rw [hW0];simp))
   have HD1:Hid (∀W,Below W0.heap.size W0 W→W.cell? ⟨wr.heap.size,1,none⟩=some (.string x.name)):=Lib.hid (fun W hW=>(hW.cell hs0).trans (by rw [hW0];simp))
   have HD2:Hid (∀W,Below W0.heap.size W0 W→W.cell? ⟨wr.heap.size,2,none⟩=some (.string x.value)):=Lib.hid (fun W hW=>(hW.cell hs0).trans (by rw [hW0];simp))
   rw [←hW0] at HX0
   have hcall:=hasA_any 184 #[.pointer (some ⟨wr.heap.size,0,none⟩)] A' c (l.take k) (dupA x) W0 (((hAr w w.heap.size l rfl HR.out).below HX0.out (Nat.le_refl _)).more HX0.out.size) (by omega) eg
    (fun W i y hW hy=>(attrs1_any x y wr.heap.size W (HD0.out W hW) (HD1.out W hW)).mono fun e w' h=>⟨h.1,hW.trans (h.2.mono hW.size)⟩)
   rw [hlk] at hcall
   have HC:=Lib.hid hcall
   have HT:Box (attrsT l (k+1)=(!(l.take k).any (dupA x) && (fullI x.name && decide (textErr x.value=0) && decide (textErr x.space=0)))):=⟨by rw [attrsT_succ l k x hx,HN.out];rfl⟩
   have HNO:=Lib.hid (attrsT_no l (k+1) l.length hlt)
   have H1:=Lib.hid (fun W=>full_any x.name W z1)
   have H2:=Lib.hid (fun W=>check5_any x.value W z2)
   have H3:=Lib.hid (fun W=>check5_any x.space W z0)
   have hWE:=hW0
   clear hx hcc hAr hcall hlk eg
   generalize (l.take k).any (dupA x)=q0 at *
   generalize fullI x.name=q1 at *
   generalize textErr x.value=t2 at *
   generalize textErr x.space=t3 at *
   cases q0 with
   | true=>
    go_wp2_with fail
    rw [←hWE]
    refine HC.out.mono ?_
    rintro e w1 ⟨rfl,hb1⟩
    have X1:=Lib.hid (HX0.out.trans (hb1.mono HX0.out.size))
    clear hb1 hWE hW0
    go_wp2
    go_ret
    exact⟨ret_bool (by rw [HI.out,HNO.out (by rw [HT.out];rfl)];rfl),X1.out⟩
   | false=>
    cases q1 with
    | false=>
     go_wp2_with fail
     rw [←hWE]
     refine HC.out.mono ?_
     rintro e w1 ⟨rfl,hb1⟩
     clear hWE hW0
     have X1:Hid (Below W0.heap.size W0 w1):=Lib.hid (ext_step (Below.refl W0.heap.size W0) (by first|exact e0A|exact e1A|exact e2A|exact e3A|exact e4A|exact e5A) hb1 (Below.refl W0.heap.size W0).size)
     clear hb1
     try clear d0 d1 d2
     have d0:=HD0.out _ X1.out
     have d1:=HD1.out _ X1.out
     have d2:=HD2.out _ X1.out
     go_wp2_with fail
     refine(H1.out _).mono ?_
     rintro e w2 ⟨rfl,hb2⟩
     have X2:Hid (Below W0.heap.size W0 w2):=Lib.hid (ext_step (X1.out) (by first|exact e0A|exact e1A|exact e2A|exact e3A|exact e4A|exact e5A) hb2 (X1.out).size)
     clear hb2
     try clear d0 d1 d2
     have d0:=HD0.out _ X2.out
     have d1:=HD1.out _ X2.out
     have d2:=HD2.out _ X2.out
     go_wp2
     go_ret
     exact⟨ret_bool (by rw [HI.out,HNO.out (by rw [HT.out];rfl)];rfl),HX0.out.trans (X2.out.mono HX0.out.size)⟩
    | true=>
     by_cases e2:t2=0
     ·subst e2
      by_cases e3:t3=0
      ·subst e3
       go_wp2_with fail
       rw [←hWE]
       refine HC.out.mono ?_
       rintro e w1 ⟨rfl,hb1⟩
       clear hWE hW0
       have X1:Hid (Below W0.heap.size W0 w1):=Lib.hid (ext_step (Below.refl W0.heap.size W0) (by first|exact e0A|exact e1A|exact e2A|exact e3A|exact e4A|exact e5A) hb1 (Below.refl W0.heap.size W0).size)
       clear hb1
       try clear d0 d1 d2
       have d0:=HD0.out _ X1.out
       have d1:=HD1.out _ X1.out
       have d2:=HD2.out _ X1.out
       go_wp2_with fail
       refine(H1.out _).mono ?_
       rintro e w2 ⟨rfl,hb2⟩
       have X2:Hid (Below W0.heap.size W0 w2):=Lib.hid (ext_step (X1.out) (by first|exact e0A|exact e1A|exact e2A|exact e3A|exact e4A|exact e5A) hb2 (X1.out).size)
       clear hb2
       try clear d0 d1 d2
       have d0:=HD0.out _ X2.out
       have d1:=HD1.out _ X2.out
       have d2:=HD2.out _ X2.out
       go_wp2_with fail
       refine(H2.out _).mono ?_
       rintro e w3 ⟨rfl,hb3⟩
       have X3:Hid (Below W0.heap.size W0 w3):=Lib.hid (ext_step (X2.out) (by first|exact e0A|exact e1A|exact e2A|exact e3A|exact e4A|exact e5A) hb3 (X2.out).size)
       clear hb3
       try clear d0 d1 d2
       have d0:=HD0.out _ X3.out
       have d1:=HD1.out _ X3.out
       have d2:=HD2.out _ X3.out
       go_wp2_with fail
       refine(H3.out _).mono ?_
       rintro e w4 ⟨rfl,hb4⟩
       have X4:Hid (Below W0.heap.size W0 w4):=Lib.hid (ext_step (X3.out) (by first|exact e0A|exact e1A|exact e2A|exact e3A|exact e4A|exact e5A) hb4 (X3.out).size)
       clear hb4
       go_wp2
       go_roundw
       case rel=>exact⟨k+1,by omega,by go_num,Lib.hid (HX0.out.trans (X4.out.mono HX0.out.size)),HT.out⟩
       case measure=>simp [intOf];omega
      ·have hq3:(t3 != 0)=true:=by simpa using e3
       have HQ3:Box (decide (t3=0)=false):=⟨decide_eq_false e3⟩
       clear e3
       go_wp2_with fail
       rw [←hWE]
       refine HC.out.mono ?_
       rintro e w1 ⟨rfl,hb1⟩
       clear hWE hW0
       have X1:Hid (Below W0.heap.size W0 w1):=Lib.hid (ext_step (Below.refl W0.heap.size W0) (by first|exact e0A|exact e1A|exact e2A|exact e3A|exact e4A|exact e5A) hb1 (Below.refl W0.heap.size W0).size)
       clear hb1
       try clear d0 d1 d2
       have d0:=HD0.out _ X1.out
       have d1:=HD1.out _ X1.out
       have d2:=HD2.out _ X1.out
       go_wp2_with fail
       refine(H1.out _).mono ?_
       rintro e w2 ⟨rfl,hb2⟩
       have X2:Hid (Below W0.heap.size W0 w2):=Lib.hid (ext_step (X1.out) (by first|exact e0A|exact e1A|exact e2A|exact e3A|exact e4A|exact e5A) hb2 (X1.out).size)
       clear hb2
       try clear d0 d1 d2
       have d0:=HD0.out _ X2.out
       have d1:=HD1.out _ X2.out
       have d2:=HD2.out _ X2.out
       go_wp2_with fail
       refine(H2.out _).mono ?_
       rintro e w3 ⟨rfl,hb3⟩
       have X3:Hid (Below W0.heap.size W0 w3):=Lib.hid (ext_step (X2.out) (by first|exact e0A|exact e1A|exact e2A|exact e3A|exact e4A|exact e5A) hb3 (X2.out).size)
       clear hb3
       try clear d0 d1 d2
       have d0:=HD0.out _ X3.out
       have d1:=HD1.out _ X3.out
       have d2:=HD2.out _ X3.out
       go_wp2_with fail
       refine(H3.out _).mono ?_
       rintro e w4 ⟨rfl,hb4⟩
       have X4:Hid (Below W0.heap.size W0 w4):=Lib.hid (ext_step (X3.out) (by first|exact e0A|exact e1A|exact e2A|exact e3A|exact e4A|exact e5A) hb4 (X3.out).size)
       clear hb4
       go_wp2
       go_ret
       exact⟨ret_bool (by rw [HI.out,HNO.out (by rw [HT.out,HQ3.out];rfl)];rfl),HX0.out.trans (X4.out.mono HX0.out.size)⟩
     ·have hq2:(t2 != 0)=true:=by simpa using e2
      have HQ2:Box (decide (t2=0)=false):=⟨decide_eq_false e2⟩
      clear e2
      go_wp2_with fail
      rw [←hWE]
      refine HC.out.mono ?_
      rintro e w1 ⟨rfl,hb1⟩
      clear hWE hW0
      have X1:Hid (Below W0.heap.size W0 w1):=Lib.hid (ext_step (Below.refl W0.heap.size W0) (by first|exact e0A|exact e1A|exact e2A|exact e3A|exact e4A|exact e5A) hb1 (Below.refl W0.heap.size W0).size)
      clear hb1
      try clear d0 d1 d2
      have d0:=HD0.out _ X1.out
      have d1:=HD1.out _ X1.out
      have d2:=HD2.out _ X1.out
      go_wp2_with fail
      refine(H1.out _).mono ?_
      rintro e w2 ⟨rfl,hb2⟩
      have X2:Hid (Below W0.heap.size W0 w2):=Lib.hid (ext_step (X1.out) (by first|exact e0A|exact e1A|exact e2A|exact e3A|exact e4A|exact e5A) hb2 (X1.out).size)
      clear hb2
      try clear d0 d1 d2
      have d0:=HD0.out _ X2.out
      have d1:=HD1.out _ X2.out
      have d2:=HD2.out _ X2.out
      go_wp2_with fail
      refine(H2.out _).mono ?_
      rintro e w3 ⟨rfl,hb3⟩
      have X3:Hid (Below W0.heap.size W0 w3):=Lib.hid (ext_step (X2.out) (by first|exact e0A|exact e1A|exact e2A|exact e3A|exact e4A|exact e5A) hb3 (X2.out).size)
      clear hb3
      go_wp2
      go_ret
      exact⟨ret_bool (by rw [HI.out,HNO.out (by rw [HT.out,HQ2.out];rfl)];rfl),HX0.out.trans (X3.out.mono HX0.out.size)⟩
  ·obtain rfl:k=l.length:=by omega
   have HT:=Box.mk HN.out
   have HB2:=HB
   by_cases h16:l.length≤16
   ·have h16':(l.length:Int)≤16:=by omega
    go_wp2
    go_ret
    exact⟨ret_bool (by rw [HI.out,HT.out,decide_eq_true h16];rfl),HB2.out⟩
   ·have h16':¬(l.length:Int)≤16:=by omega
    go_wp2
    go_ret
    exact⟨ret_bool (by rw [HI.out,HT.out,decide_eq_false h16];rfl),HB2.out⟩
end Go.Proofs.YtnmnpnofdgdigaaGreatDoor
end
section
namespace Go.Proofs.YtnmnpnofdgdigaaGreatDoor
open Go.RowKit
set_option linter.unusedSimpArgs false
set_option linter.unusedVariables false
end Go.Proofs.YtnmnpnofdgdigaaGreatDoor
end
section
namespace Go.Proofs.YtnmnpnofdgdigaaGreatDoor
open Go.RowKit
set_option linter.unusedSimpArgs false
set_option linter.unusedVariables false
theorem emp_is (s:ByteArray):s.toList.isEmpty=isEmp s:=by
 unfold isEmp
 rcases Nat.eq_zero_or_pos s.size with h|h
 ·rw [str_em s h,decide_eq_true h]
 ·rw [str_ne s h,decide_eq_false (by omega)]
set_option maxHeartbeats 4000000 in
set_option maxRecDepth 10000 in
theorem may_node (n:NodeL) (A:Option Addr) (c:Nat) (w:World) (hr:RdA w w.heap.size A n.attrs) (hc:n.attrs.length≤c) (hz:SzN 1000000000 n) :
  Calls Tryz.prog 88 #[encN n A c] w fun e w'=>e=.returned (.bool (nodeI n))∧Below w.heap.size w w':=by
 obtain⟨⟨k0,k1⟩,z1,z2,⟨z3,zA⟩,z4,m0,m1⟩:=hz
 have HXA:Hid (Below w.heap.size w (w.alloc (.cells #[.int .u8 n.kind,.string n.space,.string n.name,.slice A n.attrs.length c,.string n.text,.int .i64 n.many] 36))):=(Below.refl _ w).alloc (Nat.le_refl _) _
 obtain⟨W0,hW0⟩:∃W0,W0=w.alloc (.cells #[.int .u8 n.kind,.string n.space,.string n.name,.slice A n.attrs.length c,.string n.text,.int .i64 n.many] 36):=⟨_,rfl⟩
 have HX0:=HXA
 rw [←hW0] at HX0
 have hs0:w.heap.size < W0.heap.size:=by rw [hW0];simp
 have HD0:Hid (∀W,Below W0.heap.size W0 W→W.cell? ⟨w.heap.size,0,none⟩=some (.int .u8 n.kind)):=Lib.hid (fun W hW=>(hW.cell hs0).trans (by rw [hW0];simp))
 have HD1:Hid (∀W,Below W0.heap.size W0 W→W.cell? ⟨w.heap.size,1,none⟩=some (.string n.space)):=Lib.hid (fun W hW=>(hW.cell hs0).trans (by rw [hW0];simp))
 have HD2:Hid (∀W,Below W0.heap.size W0 W→W.cell? ⟨w.heap.size,2,none⟩=some (.string n.name)):=Lib.hid (fun W hW=>(hW.cell hs0).trans (by rw [hW0];simp))
 have HD3:Hid (∀W,Below W0.heap.size W0 W→W.cell? ⟨w.heap.size,3,none⟩=some (.slice A n.attrs.length c)):=Lib.hid (fun W hW=>(hW.cell hs0).trans (by rw [hW0];simp))
 have HD4:Hid (∀W,Below W0.heap.size W0 W→W.cell? ⟨w.heap.size,4,none⟩=some (.string n.text)):=Lib.hid (fun W hW=>(hW.cell hs0).trans (by rw [hW0];simp))
 have HD5:Hid (∀W,Below W0.heap.size W0 W→W.cell? ⟨w.heap.size,5,none⟩=some (.int .i64 n.many)):=Lib.hid (fun W hW=>(hW.cell hs0).trans (by rw [hW0];simp))
 have HRA:=Lib.hid (fun W (hW:Below w.heap.size w W)=>((hr.below hW (Nat.le_refl _)).more hW.size))
 have HT:=Lib.hid (fun W=>check5_any n.text W z4)
 have HS:=Lib.hid (fun W=>check5_any n.space W z1)
 have HF:=Lib.hid (fun W=>full_any n.name W z2)
 have HA0:=Lib.hid (fun W (hW:Below w.heap.size w W)=>attrs_any A c n.attrs W (HRA.out W hW) hc z3 zA)
 clear hr hc z1 z2 z3 zA z4
 unfold encN
 by_cases hk:n.kind=2
 ·have hk':(n.kind == 2)=true:=by rw [beq_iff_eq];exact hk
  have HI:Box (nodeI n=((isEmp n.name) && (isEmp n.space) && (decide (n.attrs.length=0)) && (decide (n.many=0)) && (!isEmp n.text) && (decide (textErr n.text=0)))):=⟨by unfold nodeI;rw [if_pos hk]⟩
  generalize nodeI n=ri at *
  generalize textErr n.text=t6 at *
  obtain⟨q1,hqq1⟩:∃q,(isEmp n.name)=q:=⟨_,rfl⟩
  rw [hqq1] at HI
  obtain⟨q2,hqq2⟩:∃q,(isEmp n.space)=q:=⟨_,rfl⟩
  rw [hqq2] at HI
  obtain⟨q3,hqq3⟩:∃q,(decide (n.attrs.length=0))=q:=⟨_,rfl⟩
  rw [hqq3] at HI
  obtain⟨q4,hqq4⟩:∃q,(decide (n.many=0))=q:=⟨_,rfl⟩
  rw [hqq4] at HI
  obtain⟨q5,hqq5⟩:∃q,(!isEmp n.text)=q:=⟨_,rfl⟩
  rw [hqq5] at HI
  obtain⟨q6,hqq6⟩:∃q,(decide (t6=0))=q:=⟨_,rfl⟩
  rw [hqq6] at HI
  rw [hk] at HD0 hW0 HXA
  rw [hk]
  cases q1 with
  | false=>
   have fq1:n.name.toList.isEmpty=false:=(emp_is n.name).trans hqq1
   go_enter Tryz.func88,Tryz.ntmps88
   go_wp2
   go_ret
   exact⟨ret_bool (by rw [HI.out];rfl),HXA.out⟩
  | true=>
   have fq1:n.name.toList.isEmpty=true:=(emp_is n.name).trans hqq1
   cases q2 with
   | false=>
    have fq2:n.space.toList.isEmpty=false:=(emp_is n.space).trans hqq2
    go_enter Tryz.func88,Tryz.ntmps88
    go_wp2
    go_ret
    exact⟨ret_bool (by rw [HI.out];rfl),HXA.out⟩
   | true=>
    have fq2:n.space.toList.isEmpty=true:=(emp_is n.space).trans hqq2
    cases q3 with
    | false=>
     have fq3:((n.attrs.length:Int) == 0)=false:=by have:=of_decide_eq_false hqq3;rw [beq_eq_false_iff_ne];omega
     go_enter Tryz.func88,Tryz.ntmps88
     go_wp2
     go_ret
     exact⟨ret_bool (by rw [HI.out];rfl),HXA.out⟩
    | true=>
     have fq3:(n.attrs.length:Int)=0:=by have:=of_decide_eq_true hqq3;omega
     cases q4 with
     | false=>
      have fq4:(n.many == 0)=false:=by have:=of_decide_eq_false hqq4;rw [beq_eq_false_iff_ne];omega
      go_enter Tryz.func88,Tryz.ntmps88
      go_wp2
      go_ret
      exact⟨ret_bool (by rw [HI.out];rfl),HXA.out⟩
     | true=>
      have fq4:n.many=0:=by have:=of_decide_eq_true hqq4;omega
      rw [fq4] at HD5 hW0 HXA
      cases q5 with
      | false=>
       have fq5:n.text.toList.isEmpty=true:=(emp_is n.text).trans (by rw [←Bool.not_not (isEmp n.text),hqq5];rfl)
       go_enter Tryz.func88,Tryz.ntmps88
       go_wp2
       go_ret
       exact⟨ret_bool (by rw [HI.out];rfl),HXA.out⟩
      | true=>
       have fq5:n.text.toList.isEmpty=false:=(emp_is n.text).trans (by rw [←Bool.not_not (isEmp n.text),hqq5];rfl)
       cases q6 with
       | false=>
        have fq6:(t6 == 0)=false:=by rw [beq_eq_false_iff_ne];exact of_decide_eq_false hqq6
        go_enter Tryz.func88,Tryz.ntmps88
        go_wp2_with fail
        rw [←hW0]
        refine(HT.out _).mono ?_
        rintro e w1 ⟨rfl,hb1⟩
        have X1:Hid (Below W0.heap.size W0 w1):=Lib.hid (ext_step (Below.refl W0.heap.size W0) (by first|exact e0A|exact e1A|exact e2A|exact e3A|exact e4A|exact e5A) hb1 (Below.refl W0.heap.size W0).size)
        clear hb1
        try clear d0 d1 d2 d3 d4 d5
        have d0:=HD0.out _ X1.out
        have d1:=HD1.out _ X1.out
        have d2:=HD2.out _ X1.out
        have d3:=HD3.out _ X1.out
        have d4:=HD4.out _ X1.out
        have d5:=HD5.out _ X1.out
        go_wp2
        go_ret
        exact⟨ret_bool (by rw [HI.out];rfl),HX0.out.trans (X1.out.mono HX0.out.size)⟩
       | true=>
        have fq6:t6=0:=of_decide_eq_true hqq6
        subst fq6
        go_enter Tryz.func88,Tryz.ntmps88
        go_wp2_with fail
        rw [←hW0]
        refine(HT.out _).mono ?_
        rintro e w1 ⟨rfl,hb1⟩
        have X1:Hid (Below W0.heap.size W0 w1):=Lib.hid (ext_step (Below.refl W0.heap.size W0) (by first|exact e0A|exact e1A|exact e2A|exact e3A|exact e4A|exact e5A) hb1 (Below.refl W0.heap.size W0).size)
        clear hb1
        try clear d0 d1 d2 d3 d4 d5
        have d0:=HD0.out _ X1.out
        have d1:=HD1.out _ X1.out
        have d2:=HD2.out _ X1.out
        have d3:=HD3.out _ X1.out
        have d4:=HD4.out _ X1.out
        have d5:=HD5.out _ X1.out
        go_wp2
        go_ret
        exact⟨ret_bool (by rw [HI.out];rfl),HX0.out.trans (X1.out.mono HX0.out.size)⟩
 ·have hk':(n.kind == 2)=false:=by rw [beq_eq_false_iff_ne];exact hk
  have HI:Box (nodeI n=((decide (n.kind=1)) && (isEmp n.text) && (fullI n.name) && (decide (textErr n.space=0)) && (attrsI n.attrs))):=⟨by unfold nodeI;rw [if_neg hk]⟩
  generalize nodeI n=ri at *
  generalize fullI n.name=p2 at *
  generalize textErr n.space=t3 at *
  generalize attrsI n.attrs=p4 at *
  obtain⟨p0,hqp0⟩:∃q,(decide (n.kind=1))=q:=⟨_,rfl⟩
  rw [hqp0] at HI
  obtain⟨p1,hqp1⟩:∃q,(isEmp n.text)=q:=⟨_,rfl⟩
  rw [hqp1] at HI
  obtain⟨p3,hqp3⟩:∃q,(decide (t3=0))=q:=⟨_,rfl⟩
  rw [hqp3] at HI
  cases p0 with
  | false=>
   have fp0:(n.kind == 1)=false:=by rw [beq_eq_false_iff_ne];exact of_decide_eq_false hqp0
   go_enter Tryz.func88,Tryz.ntmps88
   go_wp2
   go_ret
   exact⟨ret_bool (by rw [HI.out];rfl),HXA.out⟩
  | true=>
   have fp0:n.kind=1:=of_decide_eq_true hqp0
   rw [fp0] at HD0 hW0 HXA
   rw [fp0]
   cases p1 with
   | false=>
    have fp1:n.text.toList.isEmpty=false:=(emp_is n.text).trans hqp1
    go_enter Tryz.func88,Tryz.ntmps88
    go_wp2
    go_ret
    exact⟨ret_bool (by rw [HI.out];rfl),HXA.out⟩
   | true=>
    have fp1:n.text.toList.isEmpty=true:=(emp_is n.text).trans hqp1
    cases p2 with
    | false=>
     go_enter Tryz.func88,Tryz.ntmps88
     go_wp2_with fail
     rw [←hW0]
     refine(HF.out _).mono ?_
     rintro e w1 ⟨rfl,hb1⟩
     have X1:Hid (Below W0.heap.size W0 w1):=Lib.hid (ext_step (Below.refl W0.heap.size W0) (by first|exact e0A|exact e1A|exact e2A|exact e3A|exact e4A|exact e5A) hb1 (Below.refl W0.heap.size W0).size)
     clear hb1
     try clear d0 d1 d2 d3 d4 d5
     have d0:=HD0.out _ X1.out
     have d1:=HD1.out _ X1.out
     have d2:=HD2.out _ X1.out
     have d3:=HD3.out _ X1.out
     have d4:=HD4.out _ X1.out
     have d5:=HD5.out _ X1.out
     go_wp2
     go_ret
     exact⟨ret_bool (by rw [HI.out];rfl),HX0.out.trans (X1.out.mono HX0.out.size)⟩
    | true=>
     cases p3 with
     | false=>
      have fp3:(t3 == 0)=false:=by rw [beq_eq_false_iff_ne];exact of_decide_eq_false hqp3
      go_enter Tryz.func88,Tryz.ntmps88
      go_wp2_with fail
      rw [←hW0]
      refine(HF.out _).mono ?_
      rintro e w1 ⟨rfl,hb1⟩
      have X1:Hid (Below W0.heap.size W0 w1):=Lib.hid (ext_step (Below.refl W0.heap.size W0) (by first|exact e0A|exact e1A|exact e2A|exact e3A|exact e4A|exact e5A) hb1 (Below.refl W0.heap.size W0).size)
      clear hb1
      try clear d0 d1 d2 d3 d4 d5
      have d0:=HD0.out _ X1.out
      have d1:=HD1.out _ X1.out
      have d2:=HD2.out _ X1.out
      have d3:=HD3.out _ X1.out
      have d4:=HD4.out _ X1.out
      have d5:=HD5.out _ X1.out
      go_wp2_with fail
      refine(HS.out _).mono ?_
      rintro e w2 ⟨rfl,hb2⟩
      have X2:Hid (Below W0.heap.size W0 w2):=Lib.hid (ext_step (X1.out) (by first|exact e0A|exact e1A|exact e2A|exact e3A|exact e4A|exact e5A) hb2 (X1.out).size)
      clear hb2
      try clear d0 d1 d2 d3 d4 d5
      have d0:=HD0.out _ X2.out
      have d1:=HD1.out _ X2.out
      have d2:=HD2.out _ X2.out
      have d3:=HD3.out _ X2.out
      have d4:=HD4.out _ X2.out
      have d5:=HD5.out _ X2.out
      go_wp2
      go_ret
      exact⟨ret_bool (by rw [HI.out];rfl),HX0.out.trans (X2.out.mono HX0.out.size)⟩
     | true=>
      have fp3:t3=0:=of_decide_eq_true hqp3
      subst fp3
      cases p4 with
      | false=>
       go_enter Tryz.func88,Tryz.ntmps88
       go_wp2_with fail
       rw [←hW0]
       refine(HF.out _).mono ?_
       rintro e w1 ⟨rfl,hb1⟩
       have X1:Hid (Below W0.heap.size W0 w1):=Lib.hid (ext_step (Below.refl W0.heap.size W0) (by first|exact e0A|exact e1A|exact e2A|exact e3A|exact e4A|exact e5A) hb1 (Below.refl W0.heap.size W0).size)
       clear hb1
       try clear d0 d1 d2 d3 d4 d5
       have d0:=HD0.out _ X1.out
       have d1:=HD1.out _ X1.out
       have d2:=HD2.out _ X1.out
       have d3:=HD3.out _ X1.out
       have d4:=HD4.out _ X1.out
       have d5:=HD5.out _ X1.out
       go_wp2_with fail
       refine(HS.out _).mono ?_
       rintro e w2 ⟨rfl,hb2⟩
       have X2:Hid (Below W0.heap.size W0 w2):=Lib.hid (ext_step (X1.out) (by first|exact e0A|exact e1A|exact e2A|exact e3A|exact e4A|exact e5A) hb2 (X1.out).size)
       clear hb2
       try clear d0 d1 d2 d3 d4 d5
       have d0:=HD0.out _ X2.out
       have d1:=HD1.out _ X2.out
       have d2:=HD2.out _ X2.out
       have d3:=HD3.out _ X2.out
       have d4:=HD4.out _ X2.out
       have d5:=HD5.out _ X2.out
       go_wp2_with fail
       refine(HA0.out _ (HX0.out.trans (X2.out.mono HX0.out.size))).mono ?_
       rintro e w3 ⟨rfl,hb3⟩
       have X3:Hid (Below W0.heap.size W0 w3):=Lib.hid (ext_step (X2.out) (by first|exact e0A|exact e1A|exact e2A|exact e3A|exact e4A|exact e5A) hb3 (X2.out).size)
       clear hb3
       try clear d0 d1 d2 d3 d4 d5
       have d0:=HD0.out _ X3.out
       have d1:=HD1.out _ X3.out
       have d2:=HD2.out _ X3.out
       have d3:=HD3.out _ X3.out
       have d4:=HD4.out _ X3.out
       have d5:=HD5.out _ X3.out
       go_wp2
       go_ret
       exact⟨ret_bool (by rw [HI.out];rfl),HX0.out.trans (X3.out.mono HX0.out.size)⟩
      | true=>
       go_enter Tryz.func88,Tryz.ntmps88
       go_wp2_with fail
       rw [←hW0]
       refine(HF.out _).mono ?_
       rintro e w1 ⟨rfl,hb1⟩
       have X1:Hid (Below W0.heap.size W0 w1):=Lib.hid (ext_step (Below.refl W0.heap.size W0) (by first|exact e0A|exact e1A|exact e2A|exact e3A|exact e4A|exact e5A) hb1 (Below.refl W0.heap.size W0).size)
       clear hb1
       try clear d0 d1 d2 d3 d4 d5
       have d0:=HD0.out _ X1.out
       have d1:=HD1.out _ X1.out
       have d2:=HD2.out _ X1.out
       have d3:=HD3.out _ X1.out
       have d4:=HD4.out _ X1.out
       have d5:=HD5.out _ X1.out
       go_wp2_with fail
       refine(HS.out _).mono ?_
       rintro e w2 ⟨rfl,hb2⟩
       have X2:Hid (Below W0.heap.size W0 w2):=Lib.hid (ext_step (X1.out) (by first|exact e0A|exact e1A|exact e2A|exact e3A|exact e4A|exact e5A) hb2 (X1.out).size)
       clear hb2
       try clear d0 d1 d2 d3 d4 d5
       have d0:=HD0.out _ X2.out
       have d1:=HD1.out _ X2.out
       have d2:=HD2.out _ X2.out
       have d3:=HD3.out _ X2.out
       have d4:=HD4.out _ X2.out
       have d5:=HD5.out _ X2.out
       go_wp2_with fail
       refine(HA0.out _ (HX0.out.trans (X2.out.mono HX0.out.size))).mono ?_
       rintro e w3 ⟨rfl,hb3⟩
       have X3:Hid (Below W0.heap.size W0 w3):=Lib.hid (ext_step (X2.out) (by first|exact e0A|exact e1A|exact e2A|exact e3A|exact e4A|exact e5A) hb3 (X2.out).size)
       clear hb3
       try clear d0 d1 d2 d3 d4 d5
       have d0:=HD0.out _ X3.out
       have d1:=HD1.out _ X3.out
       have d2:=HD2.out _ X3.out
       have d3:=HD3.out _ X3.out
       have d4:=HD4.out _ X3.out
       have d5:=HD5.out _ X3.out
       go_wp2
       go_ret
       exact⟨ret_bool (by rw [HI.out];rfl),HX0.out.trans (X3.out.mono HX0.out.size)⟩
end Go.Proofs.YtnmnpnofdgdigaaGreatDoor
end
section
namespace Go.Proofs.YtnmnpnofdgdigaaGreatDoor
open Go.RowKit
set_option linter.unusedSimpArgs false
set_option linter.unusedVariables false
theorem endN_out {v:List NodeL} {i:Nat} (h:v.length≤i):∀d,endN v d i=none
 | 0=>by rw [endN,List.getElem?_eq_none h]
 | d+1=>by rw [endN,List.getElem?_eq_none h]
theorem endN_not {v:List NodeL} {i:Nat} {n:NodeL} (hn:v[i]? = some n) (h:nodeI n=false):∀d,endN v d i=none
 | 0=>by rw [endN,hn];simp [h]
 | d+1=>by rw [endN,hn];simp [h]
theorem endN_neg {v:List NodeL} {i:Nat} {n:NodeL} (hn:v[i]? = some n) (h:n.many < 0):∀d,endN v d i=none
 | 0=>by
  rw [endN,hn]
  simp only
  rw [if_neg]
  rintro ⟨h1,h2⟩
  have:=node_text h1 h2
  omega
 | d+1=>by
  rw [endN,hn]
  simp only
  rw [if_neg]
  omega
theorem endN_deep {v:List NodeL} {i:Nat} {n:NodeL} (hn:v[i]? = some n) (h:n.kind=1):endN v 0 i=none:=by
 rw [endN,hn]
 simp only
 rw [if_neg]
 omega
theorem endN_kids {v:List NodeL} {i d:Nat} {n:NodeL} (hn:v[i]? = some n) (h:nodeI n=true) (h0:0≤n.many):endN v (d+1) i=endK (endN v d) v n.many.toNat (i+1) false:=by
 rw [endN,hn]
 simp only
 rw [if_pos ⟨h,h0⟩]
theorem endN_words {v:List NodeL} {i:Nat} {n:NodeL} (hn:v[i]? = some n) (h:nodeI n=true) (h2:n.kind=2):∀d,endN v d i=some (i+1)
 | 0=>by rw [endN,hn];simp [h,h2]
 | d+1=>by rw [endN_kids hn h (by rw [node_text h h2];exact Int.le_refl _),node_text h h2];rfl
def NdIn (w:World) (b o:Nat) (n:NodeL) (A:Option Addr) (c:Nat):Prop:=
 ∀W,Below w.heap.size w W→W.cell? ⟨b,o,none⟩=some (.int .u8 n.kind)∧W.cell? ⟨b,o+1,none⟩=some (.string n.space)∧W.cell? ⟨b,o+2,none⟩=some (.string n.name)∧W.cell? ⟨b,o+3,none⟩=some (.slice A n.attrs.length c)∧
  W.cell? ⟨b,o+4,none⟩=some (.string n.text)∧W.cell? ⟨b,o+5,none⟩=some (.int .i64 n.many)∧RdA W W.heap.size A n.attrs
theorem nd_in {w:World} {B b o:Nat} {n:NodeL} (h:NdAt w B b o n) (hb:b < B) (hB:B≤w.heap.size):∃A c,NdIn w b o n A c∧n.attrs.length≤c:=by
 obtain⟨h0,h1,h2,⟨A,c,h3,hl,hA⟩,h4,h5⟩:=h
 have hb':b < w.heap.size:=by omega
 refine⟨A,c,fun W hW=>?_,hl⟩
 exact⟨(hW.cell (p:=⟨b,o,none⟩) hb').trans h0,(hW.cell (p:=⟨b,o+1,none⟩) hb').trans h1,(hW.cell (p:=⟨b,o+2,none⟩) hb').trans h2,(hW.cell (p:=⟨b,o+3,none⟩) hb').trans h3,
  (hW.cell (p:=⟨b,o+4,none⟩) hb').trans h4,(hW.cell (p:=⟨b,o+5,none⟩) hb').trans h5,(hA.below hW hB).more (Nat.le_trans hB hW.size)⟩
theorem szv_get {v:List NodeL} {M:Nat} (h:SzV M v) {k:Nat} {x:NodeL} (hx:v[k]? = some x):SzN M x:=h.2 x (List.mem_of_getElem? hx)
def BehindPost (v:List NodeL) (d i:Nat) (w:World) (e:Ending) (w':World):Prop:=e=.returned (.int .i64 (placeI (endN v d i)))∧Below w.heap.size w w'
theorem BehindPost.no {v:List NodeL} {d i:Nat} {w w':World} (h:endN v d i=none) (hb:Below w.heap.size w w'):BehindPost v d i w (.returned (.int .i64 (-1))) w':=⟨by rw [h];rfl,hb⟩
theorem endK_bad {f:Nat→Option Nat} {v:List NodeL} {k nx:Nat} {t:Bool} (h:f nx=none):endK f v (k+1) nx t=none:=by
 rw [endK]
 split
 ·rfl
 ·split
  ·rfl
  ·rw [h]
theorem endK_two {f:Nat→Option Nat} {v:List NodeL} {k nx:Nat} {m:NodeL} (hm:v[nx]? = some m) (h:m.kind=2):endK f v (k+1) nx true=none:=by
 rw [endK,hm]
 simp [h]
theorem endK_go {f:Nat→Option Nat} {v:List NodeL} {k nx e:Nat} {t:Bool} {m:NodeL} (hm:v[nx]? = some m) (ht:(t && decide (m.kind=2))=false) (h:f nx=some e):endK f v (k+1) nx t=endK f v k e (decide (m.kind=2)):=by
 rw [endK,hm]
 simp only
 rw [if_neg (by rw [ht];simp),h]
end Go.Proofs.YtnmnpnofdgdigaaGreatDoor
end
