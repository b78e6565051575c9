/- Part 6 of a proof laid in parts, one behind the other; no condition of its own. -/
import Derived.Test.YtnmnpnofdgdigaaGreatDoorZ01
import Derived.Test.YtnmnpnofdgdigaaGreatDoorZ05
import Derived.Test.YtnmnpnofdgdigaaGreatDoorZ03
import Derived.Deep.Slices
import Derived.Deep.Fields
import Derived.ChangeSame
import Derived.Outline
import Derived.Laws.Cover3
import Derived.Test.YtnmnpnofdgdigaaGreatDoorZ02
import Derived.Shelf.Strings.SlTrimAscii
set_option linter.all false
section
namespace Go.Proofs.YtnmnpnofdgdigaaGreatDoor
structure StL where
 kind:Int
 typ:ByteArray
 id:ByteArray
 frm:ByteArray
 to:ByteArray
 load:List (List NodeL)
def nodeAt (v:List NodeL) (k:Nat):NodeL:=v.getD k default
def msgTypes:List ByteArray:=[(⟨#[]⟩:ByteArray),(⟨#[99,104,97,116]⟩:ByteArray),(⟨#[101,114,114,111,114]⟩:ByteArray),(⟨#[103,114,111,117,112,99,104,97,116]⟩:ByteArray),(⟨#[104,101,97,100,108,105,110,101]⟩:ByteArray),(⟨#[110,111,114,109,97,108]⟩:ByteArray)]
def preTypes:List ByteArray:=[(⟨#[]⟩:ByteArray),(⟨#[117,110,97,118,97,105,108,97,98,108,101]⟩:ByteArray),(⟨#[115,117,98,115,99,114,105,98,101]⟩:ByteArray),(⟨#[115,117,98,115,99,114,105,98,101,100]⟩:ByteArray),(⟨#[117,110,115,117,98,115,99,114,105,98,101]⟩:ByteArray),(⟨#[117,110,115,117,98,115,99,114,105,98,101,100]⟩:ByteArray),(⟨#[112,114,111,98,101]⟩:ByteArray),(⟨#[101,114,114,111,114]⟩:ByteArray)]
def iqTypes:List ByteArray:=[(⟨#[103,101,116]⟩:ByteArray),(⟨#[115,101,116]⟩:ByteArray),(⟨#[114,101,115,117,108,116]⟩:ByteArray),(⟨#[101,114,114,111,114]⟩:ByteArray)]
def typesOf (k:Int):List ByteArray:=if k=1 then msgTypes else if k=2 then preTypes else if k=3 then iqTypes else []
def hasS (l:List ByteArray) (s:ByteArray):Bool:=l.any fun x=>x.toList == s.toList
def typedI (k:Int) (s:ByteArray):Bool:=hasS (typesOf k) s
end Go.Proofs.YtnmnpnofdgdigaaGreatDoor
end
section
namespace Go.Proofs.YtnmnpnofdgdigaaGreatDoor
open Go.RowKit Go.ChangeShapes Go.WideShapes Go.Deep
def AtAt (w:World) (b o:Nat) (a:AttrL):Prop:=w.cell? ⟨b,o,none⟩=some (.string a.space)∧w.cell? ⟨b,o+1,none⟩=some (.string a.name)∧w.cell? ⟨b,o+2,none⟩=some (.string a.value)
def RdA (w:World) (B:Nat) (A:Option Addr) (l:List AttrL):Prop:=0 < l.length→∃b off,A=some ⟨b,off,none⟩∧b < B∧∀i a,l[i]? = some a→AtAt w b (off+i*3) a
def NdAt (w:World) (B b o:Nat) (n:NodeL):Prop:=
 w.cell? ⟨b,o,none⟩=some (.int .u8 n.kind)∧w.cell? ⟨b,o+1,none⟩=some (.string n.space)∧w.cell? ⟨b,o+2,none⟩=some (.string n.name)∧
 (∃A c,w.cell? ⟨b,o+3,none⟩=some (.slice A n.attrs.length c)∧n.attrs.length≤c∧RdA w B A n.attrs)∧w.cell? ⟨b,o+4,none⟩=some (.string n.text)∧w.cell? ⟨b,o+5,none⟩=some (.int .i64 n.many)
def RdV (w:World) (B:Nat) (A:Option Addr) (v:List NodeL):Prop:=0 < v.length→∃b off,A=some ⟨b,off,none⟩∧b < B∧∀i n,v[i]? = some n→NdAt w B b (off+i*6) n
section
variable {w w':World} {B B':Nat} {A:Option Addr}
theorem AtAt.keep {b o:Nat} {a:AttrL} (h:AtAt w b o a) (hb:b < B) (hk:∀p:Addr,p.block < B→w'.cell? p=w.cell? p):AtAt w' b o a:=
 ⟨(hk _ hb).trans h.1,(hk _ hb).trans h.2.1,(hk _ hb).trans h.2.2⟩
theorem RdA.keep {l:List AttrL} (h:RdA w B A l) (hk:∀p:Addr,p.block < B→w'.cell? p=w.cell? p):RdA w' B A l:=fun h0=>by
 obtain⟨b,off,e,hb,hc⟩:=h h0
 exact⟨b,off,e,hb,fun i a hi=>(hc i a hi).keep hb hk⟩
theorem RdA.more {l:List AttrL} (h:RdA w B A l) (hB:B≤B'):RdA w B' A l:=fun h0=>by
 obtain⟨b,off,e,hb,hc⟩:=h h0
 exact⟨b,off,e,by omega,hc⟩
theorem RdA.below {C:Nat} {l:List AttrL} (h:RdA w B A l) (hb:Below C w w') (hC:B≤C):RdA w' B A l:=h.keep fun _ hp=>hb.cell (by omega)
theorem NdAt.keep {b o:Nat} {n:NodeL} (h:NdAt w B b o n) (hb:b < B) (hk:∀p:Addr,p.block < B→w'.cell? p=w.cell? p):NdAt w' B b o n:=by
 obtain⟨h0,h1,h2,⟨A,c,h3,hl,hA⟩,h4,h5⟩:=h
 exact⟨(hk _ hb).trans h0,(hk _ hb).trans h1,(hk _ hb).trans h2,⟨A,c,(hk _ hb).trans h3,hl,hA.keep hk⟩,(hk _ hb).trans h4,(hk _ hb).trans h5⟩
theorem NdAt.more {b o:Nat} {n:NodeL} (h:NdAt w B b o n) (hB:B≤B'):NdAt w B' b o n:=by
 obtain⟨h0,h1,h2,⟨A,c,h3,hl,hA⟩,h4,h5⟩:=h
 exact⟨h0,h1,h2,⟨A,c,h3,hl,hA.more hB⟩,h4,h5⟩
theorem RdV.keep {v:List NodeL} (h:RdV w B A v) (hk:∀p:Addr,p.block < B→w'.cell? p=w.cell? p):RdV w' B A v:=fun h0=>by
 obtain⟨b,off,e,hb,hc⟩:=h h0
 exact⟨b,off,e,hb,fun i n hi=>(hc i n hi).keep hb hk⟩
theorem RdV.more {v:List NodeL} (h:RdV w B A v) (hB:B≤B'):RdV w B' A v:=fun h0=>by
 obtain⟨b,off,e,hb,hc⟩:=h h0
 exact⟨b,off,e,by omega,fun i n hi=>(hc i n hi).more hB⟩
theorem RdV.below {C:Nat} {v:List NodeL} (h:RdV w B A v) (hb:Below C w w') (hC:B≤C):RdV w' B A v:=h.keep fun _ hp=>hb.cell (by omega)
end
def SzA (M:Nat) (a:AttrL):Prop:=a.space.size≤M∧a.name.size≤M∧a.value.size≤M
def SzN (M:Nat) (n:NodeL):Prop:=(0≤n.kind∧n.kind < 256)∧n.space.size≤M∧n.name.size≤M∧(n.attrs.length≤M∧∀a∈n.attrs,SzA M a)∧n.text.size≤M∧(-9223372036854775808≤n.many∧n.many≤9223372036854775807)
def SzV (M:Nat) (v:List NodeL):Prop:=v.length≤M∧∀n∈v,SzN M n
theorem list_of {α:Type} {P:Nat→α→Prop}:∀n:Nat,(∀i,i < n→∃x,P i x)→∃l:List α,l.length=n∧∀i x,l[i]? = some x→P i x
 | 0,_=>⟨[],rfl,by simp⟩
 | n+1,h=>by
  obtain⟨l,hl,hp⟩:=list_of n fun i hi=>h i (by omega)
  obtain⟨x,hx⟩:=h n (by omega)
  refine⟨l++[x],by simp [hl],fun i y hi=>?_⟩
  rcases Nat.lt_or_ge i l.length with h1|h1
  ·rw [List.getElem?_append_left h1] at hi
   exact hp i y hi
  ·rw [List.getElem?_append_right h1] at hi
   rcases Nat.eq_zero_or_pos (i - l.length) with h0|h0
   ·rw [h0] at hi
    simp only [List.getElem?_cons_zero,Option.some.injEq] at hi
    subst hi
    obtain rfl:i=n:=by omega
    exact hx
   ·rw [List.getElem?_eq_none (by simp;omega)] at hi
    cases hi
theorem addr_of {W:World} {a:Addr} {v:Value} (h:W.cell? (a.add 0)=some v):∃b off,a=⟨b,off,none⟩∧b < W.heap.size:=by
 have hb:=World.block_lt_of_cell? W _ h
 rw [block_of_add] at hb
 obtain⟨b,off,spot⟩:=a
 have hspot:spot=none:=by
  simpa [Addr.add] using World.cell?_spot h
 subst hspot
 exact⟨b,off,rfl,hb⟩
section
variable {H:Type} {enc:TypeId×Value→H} {W:World} {base:Nat} {spare:Nat→Bool} {held:Bool}
end
theorem ext_step {B:Nat} {a b c d:World} (h:Below B a b) (k:Below b.heap.size b c) (m:Below c.heap.size c d) (hB:B≤b.heap.size):Below B a d:=
 (h.trans (k.mono hB)).trans (m.mono (Nat.le_trans hB k.size))
theorem e0A {b:World}:Below b.heap.size b b:=Below.refl _ _
theorem e1A {b:World} {x:Obj}:Below b.heap.size b (b.alloc x):=(Below.refl _ _).alloc (Nat.le_refl _) _
theorem e2A {b:World} {x y:Obj}:Below b.heap.size b ((b.alloc x).alloc y):=((Below.refl _ _).alloc (Nat.le_refl _) _).alloc (by simp) _
theorem e3A {b:World} {x y z:Obj}:Below b.heap.size b (((b.alloc x).alloc y).alloc z):=(((Below.refl _ _).alloc (Nat.le_refl _) _).alloc (by simp) _).alloc (by simp;omega) _
theorem e4A {b:World}:Below b.heap.size b b.drew:=(Below.refl _ _).drew
theorem e5A {b:World} {x:Obj}:Below b.heap.size b (b.alloc x).drew:=((Below.refl _ _).alloc (Nat.le_refl _) _).drew
end Go.Proofs.YtnmnpnofdgdigaaGreatDoor
end
section
namespace Go.Proofs.YtnmnpnofdgdigaaGreatDoor
open Go.RowKit
set_option linter.unusedSimpArgs false
set_option linter.unusedVariables false
def encA (a:AttrL):Value:=.agg #[.string a.space,.string a.name,.string a.value]
def encN (n:NodeL) (A:Option Addr) (c:Nat):Value:=.agg #[.int .u8 n.kind,.string n.space,.string n.name,.slice A n.attrs.length c,.string n.text,.int .i64 n.many]
def RdW (w:World) (B:Nat) (A:Option Addr) (l:List (List NodeL)):Prop:=0 < l.length→∃b off,A=some ⟨b,off,none⟩∧b < B∧∀i v,l[i]? = some v→∃A' c',w.cell? ⟨b,off+i,none⟩=some (.slice A' v.length c')∧v.length≤c'∧RdV w B A' v
theorem placeI_ge (o:Option Nat):decide (0≤placeI o)=o.isSome:=by
 cases o with
 | none=>rfl
 | some i=>simp [placeI]
set_option maxHeartbeats 1000000 in
theorem idxA_any (g:Nat) (lb:Array Value) (A:Option Addr) (c:Nat) (l:List (AttrL)) (p:AttrL→Bool) (w:World) (hr:RdA w w.heap.size A l) (hn:l.length≤1000000000)
  (eg:∀args w,(callFunc g args).run Tryz.prog w=.ok (.enter g args) w)
  (hp:∀(W:World) (i:Nat) (x:AttrL),Below w.heap.size w W→l[i]? = some x→Calls Tryz.prog g (#[encA x]++lb) W fun e w'=>e=.returned (.bool (p x))∧Below w.heap.size w w') :
  Calls Tryz.prog 80 #[.slice A l.length c,.func (.func g) #[] lb] w fun e w'=>e=.returned (.int .i64 (placeI (fstP p l)))∧Below w.heap.size w w':=by
 have HP:=Lib.hid hp
 have HR:=Lib.hid hr
 clear hp hr
 go_enter Tryz.func80,Tryz.ntmps80
 go_wp2
 go_loopw [5,8] (fun _ s8 wr=>∃k:Nat,k≤l.length∧s8=.int .i64 k∧Hid (Below w.heap.size w wr)∧Hid (∀(j:Nat) (y:AttrL),j < k→l[j]? = some y→p y=false)) (fun _ s8 _=>l.length - (intOf s8).toNat)
 case atStart=>exact⟨0,Nat.zero_le _,rfl,Lib.hid (Below.refl _ _),Lib.hid (fun j y hj=>absurd hj (by omega))⟩
 case round=>
  obtain⟨k,hk,rfl,HB,HN⟩:=hrel
  by_cases hlt:k < l.length
  ·obtain⟨x,hx⟩:∃x,l[k]? = some x:=⟨_,List.getElem?_eq_getElem hlt⟩
   have HX:=Lib.hid hx
   obtain⟨b,off,rfl,hb,hc⟩:=HR.out (by omega)
   obtain⟨c0,c1,c2⟩:=(hc k x hx).keep (w':=wr) hb (fun q hq=>HB.out.cell hq)
   have hcall:=HP.out wr k x HB.out hx
   have eg':=eg (#[encA x]++lb)
   clear hx hc hb
   cases hq:p x with
   | true=>
    have HF:Hid (fstP p l=some k):=fstP_is HX.out hq HN.out
    rw [hq] at hcall
    generalize l.length=n at *
    go_wp2_with fail
    refine hcall.mono ?_
    rintro e w1 ⟨rfl,hb1⟩
    have X1:=Lib.hid hb1
    clear hb1
    go_wp2
    go_ret
    exact⟨ret_int (by rw [HF.out];rfl),X1.out⟩
   | false=>
    have HF:Hid (∀(j:Nat) (y:AttrL),j < k+1→l[j]? = some y→p y=false):=Lib.hid (fun j y hj hy=>by
     rcases Nat.lt_or_ge j k with h1|h1
     ·exact HN.out j y h1 hy
     ·obtain rfl:j=k:=by omega
      rw [HX.out] at hy
      simp only [Option.some.injEq] at hy
      rw [←hy];exact hq)
    rw [hq] at hcall
    generalize l.length=n at *
    go_wp2_with fail
    refine hcall.mono ?_
    rintro e w1 ⟨rfl,hb1⟩
    have X1:=Lib.hid hb1
    clear hb1
    go_wp2
    go_roundw
    case rel=>exact⟨k+1,by omega,by go_num,X1,HF⟩
    case measure=>simp [intOf];omega
  ·have HF:Hid (fstP p l=none):=fstP_not (fun j y hy=>HN.out j y (by have:=(List.getElem?_eq_some_iff.1 hy).1;omega) hy)
   generalize l.length=n at *
   go_wp2
   go_ret
   exact⟨ret_int (by rw [HF.out];rfl),HB.out⟩
theorem hasA_any (g:Nat) (lb:Array Value) (A:Option Addr) (c:Nat) (l:List (AttrL)) (p:AttrL→Bool) (w:World) (hr:RdA w w.heap.size A l) (hn:l.length≤1000000000)
  (eg:∀args w,(callFunc g args).run Tryz.prog w=.ok (.enter g args) w)
  (hp:∀(W:World) (i:Nat) (x:AttrL),Below w.heap.size w W→l[i]? = some x→Calls Tryz.prog g (#[encA x]++lb) W fun e w'=>e=.returned (.bool (p x))∧Below w.heap.size w w') :
  Calls Tryz.prog 74 #[.slice A l.length c,.func (.func g) #[] lb] w fun e w'=>e=.returned (.bool (l.any p))∧Below w.heap.size w w':=by
 have H:=Lib.hid (idxA_any g lb A c l p w hr hn eg hp)
 have HX:Box (l.any p=decide (0≤placeI (fstP p l))):=⟨by rw [placeI_ge,fstP_any]⟩
 generalize placeI (fstP p l)=r at *
 generalize l.any p=b at *
 generalize l.length=n at *
 clear hp hr
 go_enter Tryz.func74,Tryz.ntmps74
 go_wp2_with fail
 refine H.out.mono ?_
 rintro e w1 ⟨rfl,hb1⟩
 go_wp2
 go_ret
 exact⟨ret_bool HX.out.symm,hb1⟩
set_option maxHeartbeats 1000000 in
theorem idxT_any (g:Nat) (lb:Array Value) (A:Option Addr) (c:Nat) (l:List (List NodeL)) (p:List NodeL→Bool) (w:World) (hr:RdW w w.heap.size A l) (hn:l.length≤1000000000)
  (eg:∀args w,(callFunc g args).run Tryz.prog w=.ok (.enter g args) w)
  (hp:∀(W:World) (i:Nat) (x:List NodeL) (A':Option Addr) (c':Nat),Below w.heap.size w W→l[i]? = some x→x.length≤c'→RdV w w.heap.size A' x→Calls Tryz.prog g (#[.slice A' x.length c']++lb) W fun e w'=>e=.returned (.bool (p x))∧Below w.heap.size w w') :
  Calls Tryz.prog 98 #[.slice A l.length c,.func (.func g) #[] lb] w fun e w'=>e=.returned (.int .i64 (placeI (fstP p l)))∧Below w.heap.size w w':=by
 have HP:=Lib.hid hp
 have HR:=Lib.hid hr
 clear hp hr
 go_enter Tryz.func98,Tryz.ntmps98
 go_wp2
 go_loopw [5,8] (fun _ s8 wr=>∃k:Nat,k≤l.length∧s8=.int .i64 k∧Hid (Below w.heap.size w wr)∧Hid (∀(j:Nat) (y:List NodeL),j < k→l[j]? = some y→p y=false)) (fun _ s8 _=>l.length - (intOf s8).toNat)
 case atStart=>exact⟨0,Nat.zero_le _,rfl,Lib.hid (Below.refl _ _),Lib.hid (fun j y hj=>absurd hj (by omega))⟩
 case round=>
  obtain⟨k,hk,rfl,HB,HN⟩:=hrel
  by_cases hlt:k < l.length
  ·obtain⟨x,hx⟩:∃x,l[k]? = some x:=⟨_,List.getElem?_eq_getElem hlt⟩
   have HX:=Lib.hid hx
   obtain⟨b,off,rfl,hb,hc⟩:=HR.out (by omega)
   obtain⟨A',c',d0,hl2,hA2⟩:=hc k x hx
   have c0:=(HB.out.cell (p:=⟨b,off+k,none⟩) hb).trans d0
   have HL2:=Lib.hid hl2
   have HA2:=Lib.hid hA2
   clear hl2 hA2 d0
   have hcall:=HP.out wr k x A' c' HB.out hx HL2.out HA2.out
   have eg':=eg (#[.slice A' x.length c']++lb)
   clear hx hc hb
   cases hq:p x with
   | true=>
    have HF:Hid (fstP p l=some k):=fstP_is HX.out hq HN.out
    rw [hq] at hcall
    generalize l.length=n at *
    go_wp2_with fail
    refine hcall.mono ?_
    rintro e w1 ⟨rfl,hb1⟩
    have X1:=Lib.hid hb1
    clear hb1
    go_wp2
    go_ret
    exact⟨ret_int (by rw [HF.out];rfl),X1.out⟩
   | false=>
    have HF:Hid (∀(j:Nat) (y:List NodeL),j < k+1→l[j]? = some y→p y=false):=Lib.hid (fun j y hj hy=>by
     rcases Nat.lt_or_ge j k with h1|h1
     ·exact HN.out j y h1 hy
     ·obtain rfl:j=k:=by omega
      rw [HX.out] at hy
      simp only [Option.some.injEq] at hy
      rw [←hy];exact hq)
    rw [hq] at hcall
    generalize l.length=n at *
    go_wp2_with fail
    refine hcall.mono ?_
    rintro e w1 ⟨rfl,hb1⟩
    have X1:=Lib.hid hb1
    clear hb1
    go_wp2
    go_roundw
    case rel=>exact⟨k+1,by omega,by go_num,X1,HF⟩
    case measure=>simp [intOf];omega
  ·have HF:Hid (fstP p l=none):=fstP_not (fun j y hy=>HN.out j y (by have:=(List.getElem?_eq_some_iff.1 hy).1;omega) hy)
   generalize l.length=n at *
   go_wp2
   go_ret
   exact⟨ret_int (by rw [HF.out];rfl),HB.out⟩
theorem hasT_any (g:Nat) (lb:Array Value) (A:Option Addr) (c:Nat) (l:List (List NodeL)) (p:List NodeL→Bool) (w:World) (hr:RdW w w.heap.size A l) (hn:l.length≤1000000000)
  (eg:∀args w,(callFunc g args).run Tryz.prog w=.ok (.enter g args) w)
  (hp:∀(W:World) (i:Nat) (x:List NodeL) (A':Option Addr) (c':Nat),Below w.heap.size w W→l[i]? = some x→x.length≤c'→RdV w w.heap.size A' x→Calls Tryz.prog g (#[.slice A' x.length c']++lb) W fun e w'=>e=.returned (.bool (p x))∧Below w.heap.size w w') :
  Calls Tryz.prog 62 #[.slice A l.length c,.func (.func g) #[] lb] w fun e w'=>e=.returned (.bool (l.any p))∧Below w.heap.size w w':=by
 have H:=Lib.hid (idxT_any g lb A c l p w hr hn eg hp)
 have HX:Box (l.any p=decide (0≤placeI (fstP p l))):=⟨by rw [placeI_ge,fstP_any]⟩
 generalize placeI (fstP p l)=r at *
 generalize l.any p=b at *
 generalize l.length=n at *
 clear hp hr
 go_enter Tryz.func62,Tryz.ntmps62
 go_wp2_with fail
 refine H.out.mono ?_
 rintro e w1 ⟨rfl,hb1⟩
 go_wp2
 go_ret
 exact⟨ret_bool HX.out.symm,hb1⟩
end Go.Proofs.YtnmnpnofdgdigaaGreatDoor
end
section
namespace Go.Proofs.YtnmnpnofdgdigaaGreatDoor
open Go.RowKit
set_option linter.unusedSimpArgs false
set_option linter.unusedVariables false
theorem flat_len {α β:Type} {f:α→List β} {s:Nat} (hf:∀x,(f x).length=s):∀l:List α,(l.flatMap f).length=l.length*s
 | []=>by simp
 | x :: t=>by rw [List.flatMap_cons,List.length_append,hf,flat_len hf t,List.length_cons,Nat.add_mul];omega
theorem flat_get {α β:Type} {f:α→List β} {s:Nat} (hf:∀x,(f x).length=s):∀{l:List α} {i:Nat} {x:α},l[i]? = some x→∀j,j < s→(l.flatMap f)[i*s+j]? = (f x)[j]?
 | [],i,x,h,_,_=>by simp at h
 | y :: t,i,x,h,j,hj=>by
  rw [List.flatMap_cons]
  cases i with
  | zero=>
   simp only [List.getElem?_cons_zero,Option.some.injEq] at h
   subst h
   rw [Nat.zero_mul,Nat.zero_add,List.getElem?_append_left (by rw [hf];exact hj)]
  | succ i=>
   rw [show(i+1)*s+j=s+(i*s+j) by rw [Nat.add_mul];omega,List.getElem?_append_right (by rw [hf];omega),hf,Nat.add_sub_cancel_left]
   exact flat_get hf (by simpa using h) j hj
theorem flat_set {α β:Type} {f:α→List β} {s:Nat} (hf:∀x,(f x).length=s):∀{l:List α} {i:Nat} {x x':α} {j:Nat} {u:β},l[i]? = some x→j < s→f x'=(f x).set j u→(l.flatMap f).set (i*s+j) u=(l.set i x').flatMap f
 | [],i,x,x',j,u,h,_,_=>by simp at h
 | y :: t,i,x,x',j,u,h,hj,he=>by
  rw [List.flatMap_cons]
  cases i with
  | zero=>
   simp only [List.getElem?_cons_zero,Option.some.injEq] at h
   subst h
   rw [Nat.zero_mul,Nat.zero_add,List.set_append_left _ _ (by rw [hf];exact hj),List.set_cons_zero,List.flatMap_cons,he]
  | succ i=>
   rw [show(i+1)*s+j=s+(i*s+j) by rw [Nat.add_mul];omega,List.set_append_right _ _ (by rw [hf];omega),hf,Nat.add_sub_cancel_left,List.set_cons_succ,List.flatMap_cons,flat_set hf (by simpa using h) hj he]
theorem flat_at {α β:Type} {f:α→List β} {s:Nat} (hs:0 < s) (hf:∀x,(f x).length=s) {l:List α} {j:Nat} {u:β} (h:(l.flatMap f)[j]? = some u):∃i r x,j=i*s+r∧r < s∧l[i]? = some x∧(f x)[r]? = some u:=by
 have hl:=(List.getElem?_eq_some_iff.1 h).1
 rw [flat_len hf] at hl
 have hi:j / s < l.length:=by rw [Nat.div_lt_iff_lt_mul hs];exact hl
 have hr:j % s < s:=Nat.mod_lt _ hs
 have hj:j=j / s*s+j % s:=by rw [Nat.mul_comm];exact(Nat.div_add_mod j s).symm
 have hx:l[j / s]? = some (l[j / s]):=List.getElem?_eq_getElem hi
 refine⟨j / s,j % s,_,hj,hr,hx,?_⟩
 rw [←flat_get hf hx (j % s) hr,←hj,h]
def cA (a:AttrL):List Value:=[.string a.space,.string a.name,.string a.value]
def cellsA (l:List AttrL):List Value:=l.flatMap cA
theorem cA_len (a:AttrL):(cA a).length=3:=rfl
abbrev NodeH:=NodeL×Option Addr×Nat
def cN (x:NodeH):List Value:=[.int .u8 x.1.kind,.string x.1.space,.string x.1.name,.slice x.2.1 x.1.attrs.length x.2.2,.string x.1.text,.int .i64 x.1.many]
def cellsN (l:List NodeH):List Value:=l.flatMap cN
theorem cN_len (x:NodeH):(cN x).length=6:=rfl
abbrev TreeH:=List NodeL×Option Addr×Nat
def cT (x:TreeH):Value:=.slice x.2.1 x.1.length x.2.2
def cellsT (l:List TreeH):List Value:=l.map cT
def cellsS (l:List ByteArray):List Value:=l.map Value.string
theorem cellsA_len (l:List AttrL):(cellsA l).length=l.length*3:=flat_len cA_len l
theorem cellsN_len (l:List NodeH):(cellsN l).length=l.length*6:=flat_len cN_len l
theorem cellsA_app (l m:List AttrL):cellsA (l++m)=cellsA l++cellsA m:=by simp [cellsA]
theorem cellsN_app (l m:List NodeH):cellsN (l++m)=cellsN l++cellsN m:=by simp [cellsN]
theorem cellsT_app (l m:List TreeH):cellsT (l++m)=cellsT l++cellsT m:=by simp [cellsT]
theorem cellsS_app (l m:List ByteArray):cellsS (l++m)=cellsS l++cellsS m:=by simp [cellsS]
theorem cellsA_one (l:List AttrL):∀u∈cellsA l,u.oneCell'=true:=by
 intro u hu
 simp only [cellsA,List.mem_flatMap,cA,List.mem_cons,List.not_mem_nil,or_false] at hu
 obtain⟨a,-,rfl|rfl|rfl⟩:=hu <;> rfl
theorem cellsN_one (l:List NodeH):∀u∈cellsN l,u.oneCell'=true:=by
 intro u hu
 simp only [cellsN,List.mem_flatMap,cN,List.mem_cons,List.not_mem_nil,or_false] at hu
 obtain⟨a,-,rfl|rfl|rfl|rfl|rfl|rfl⟩:=hu <;> rfl
theorem cellsT_one (l:List TreeH):∀u∈cellsT l,u.oneCell'=true:=by
 intro u hu
 simp only [cellsT,List.mem_map,cT] at hu
 obtain⟨a,-,rfl⟩:=hu
 rfl
theorem cellsS_one (l:List ByteArray):∀u∈cellsS l,u.oneCell'=true:=by
 intro u hu
 simp only [cellsS,List.mem_map] at hu
 obtain⟨a,-,rfl⟩:=hu
 rfl
variable {w w':World}
theorem rda_rd {B:Nat} {A:Option Addr} {l:List AttrL} (h:RdA w B A l):Rd w B 3 A l.length (cellsA l):=by
 refine⟨cellsA_len l,fun h0=>?_⟩
 obtain⟨b,off,rfl,hb,hc⟩:=h h0
 refine⟨b,off,rfl,hb,fun j u hu=>?_⟩
 obtain⟨i,r,x,rfl,hr,hx,hru⟩:=flat_at (by decide) cA_len hu
 obtain⟨c0,c1,c2⟩:=hc i x hx
 have hr3:r=0∨r=1∨r=2:=by omega
 rcases hr3 with rfl|rfl|rfl
 all_goals
  simp only [cA,List.getElem?_cons_zero,List.getElem?_cons_succ,Option.some.injEq] at hru
  subst hru
  simp only [Nat.add_zero,←Nat.add_assoc]
  assumption
theorem rd_rda {B:Nat} {A:Option Addr} {l:List AttrL} (h:Rd w B 3 A l.length (cellsA l)):RdA w B A l:=fun h0=>by
 obtain⟨b,off,rfl,hb,hc⟩:=h.2 h0
 refine⟨b,off,rfl,hb,fun i a hi=>?_⟩
 have g:=fun r hr=>flat_get cA_len hi r hr
 refine⟨?_,?_,?_⟩
 ·exact hc (i*3+0) _ ((g 0 (by decide)).trans rfl)
 ·rw [Nat.add_assoc];exact hc (i*3+1) _ ((g 1 (by decide)).trans rfl)
 ·rw [Nat.add_assoc];exact hc (i*3+2) _ ((g 2 (by decide)).trans rfl)
def HeldA (w:World) (B:Nat) (l:List NodeH):Prop:=∀(i:Nat) (x:NodeH),l[i]? = some x→x.1.attrs.length≤x.2.2∧RdA w B x.2.1 x.1.attrs
theorem rdv_rd {B:Nat} {A:Option Addr} {v:List NodeL} (h:RdV w B A v):∃l:List NodeH,l.map (·.1)=v∧Rd w B 6 A v.length (cellsN l)∧HeldA w B l:=by
 rcases Nat.eq_zero_or_pos v.length with h0|h0
 ·obtain rfl:=List.eq_nil_of_length_eq_zero h0
  exact⟨[],rfl,⟨rfl,fun h=>absurd h (by simp)⟩,fun i x hx=>by simp at hx⟩
 ·obtain⟨b,off,rfl,hb,hc⟩:=h h0
  obtain⟨l,hl,hp⟩:=list_of (P:=fun i (x:NodeH)=>v[i]? = some x.1∧w.cell? ⟨b,off+i*6,none⟩=some (.int .u8 x.1.kind)∧w.cell? ⟨b,off+i*6+1,none⟩=some (.string x.1.space)∧w.cell? ⟨b,off+i*6+2,none⟩=some (.string x.1.name)∧
    w.cell? ⟨b,off+i*6+3,none⟩=some (.slice x.2.1 x.1.attrs.length x.2.2)∧w.cell? ⟨b,off+i*6+4,none⟩=some (.string x.1.text)∧w.cell? ⟨b,off+i*6+5,none⟩=some (.int .i64 x.1.many)∧x.1.attrs.length≤x.2.2∧RdA w B x.2.1 x.1.attrs) v.length fun i hi=>by
   obtain⟨c0,c1,c2,⟨A,c,c3,hl,hA⟩,c4,c5⟩:=hc i v[i] (List.getElem?_eq_getElem hi)
   exact⟨(v[i],A,c),List.getElem?_eq_getElem hi,c0,c1,c2,c3,c4,c5,hl,hA⟩
  refine⟨l,?_,⟨by rw [cellsN_len,hl],fun _=>⟨b,off,rfl,hb,fun j u hu=>?_⟩⟩,fun i x hx=>?_⟩
  ·apply List.ext_getElem?
   intro i
   rw [List.getElem?_map]
   by_cases hi:i < l.length
   ·have hx:=List.getElem?_eq_getElem hi
    rw [hx,(hp i _ hx).1]
    rfl
   ·rw [List.getElem?_eq_none (by omega),List.getElem?_eq_none (by omega)]
    rfl
  ·obtain⟨i,r,x,rfl,hr,hx,hru⟩:=flat_at (by decide) cN_len hu
   obtain⟨-,c0,c1,c2,c3,c4,c5,-,-⟩:=hp i x hx
   have hr6:r=0∨r=1∨r=2∨r=3∨r=4∨r=5:=by omega
   rcases hr6 with rfl|rfl|rfl|rfl|rfl|rfl
   all_goals
    simp only [cN,List.getElem?_cons_zero,List.getElem?_cons_succ,Option.some.injEq] at hru
    subst hru
    simp only [Nat.add_zero,←Nat.add_assoc]
    assumption
  ·obtain⟨-,-,-,-,-,-,-,h1,h2⟩:=hp i x hx
   exact⟨h1,h2⟩
theorem rd_rdv {B:Nat} {A:Option Addr} {l:List NodeH} (h:Rd w B 6 A l.length (cellsN l)) (hh:HeldA w B l):RdV w B A (l.map (·.1)):=fun h0=>by
 rw [List.length_map] at h0
 obtain⟨b,off,rfl,hb,hc⟩:=h.2 h0
 refine⟨b,off,rfl,hb,fun i n hi=>?_⟩
 rw [List.getElem?_map,Option.map_eq_some_iff] at hi
 obtain⟨x,hi,rfl⟩:=hi
 have g:=fun r hr=>flat_get cN_len hi r hr
 obtain⟨h1,h2⟩:=hh i x hi
 refine⟨?_,?_,?_,⟨x.2.1,x.2.2,?_,h1,h2⟩,?_,?_⟩
 ·exact hc (i*6+0) _ ((g 0 (by decide)).trans rfl)
 ·rw [Nat.add_assoc];exact hc (i*6+1) _ ((g 1 (by decide)).trans rfl)
 ·rw [Nat.add_assoc];exact hc (i*6+2) _ ((g 2 (by decide)).trans rfl)
 ·rw [Nat.add_assoc];exact hc (i*6+3) _ ((g 3 (by decide)).trans rfl)
 ·rw [Nat.add_assoc];exact hc (i*6+4) _ ((g 4 (by decide)).trans rfl)
 ·rw [Nat.add_assoc];exact hc (i*6+5) _ ((g 5 (by decide)).trans rfl)
theorem info_attr:(Tryz.prog.info? 75).map (fun i=>(i.zero,i.size,i.bytes))=some (some (.agg #[.string ⟨#[]⟩,.string ⟨#[]⟩,.string ⟨#[]⟩]),3,48):=by kernel_rfl
theorem info_node:(Tryz.prog.info? 36).map (fun i=>(i.zero,i.size,i.bytes))=some (some (.agg #[.int .u8 0,.string ⟨#[]⟩,.string ⟨#[]⟩,.slice none 0 0,.string ⟨#[]⟩,.int .i64 0]),6,88):=by kernel_rfl
theorem info_tree:(Tryz.prog.info? 22).map (fun i=>(i.zero,i.size,i.bytes))=some (some (.slice none 0 0),1,24):=by kernel_rfl
theorem info_str:(Tryz.prog.info? 9).map (fun i=>(i.zero,i.size,i.bytes))=some (some (.string ⟨#[]⟩),1,16):=by kernel_rfl
theorem app_attrs {ops:Array Oper} {rest:List Oper} {o:Oper} {a:Act} {Q:Exit→Act→World→Prop} (hgd:o.guard=none) (s x:Operand)
  (ho:o.op=.call { callee:=.builtin .append,args:=#[s,x],argTypes:=#[34,34]})
  (base:Nat) (v:Value) (n:Nat) (xs:List AttrL) (hs:a.eval s=v) (hown:w.ownsRow base 75 3 v n (cellsA xs))
  (B:Nat) (A:Option Addr) (m c:Nat) (news:List AttrL) (hx:a.eval x=.slice A m c) (hr:Rd w B 3 A m (cellsA news)) (hb:n+m≤1000000000000) (hbase:base≤w.heap.size)
  (h:∀v' w',w'.ownsRow base 75 3 v' (n+m) (cellsA (xs++news))→w.grownBy w' v.ownBlock→(v'.ownBlock=v.ownBlock∨v'.ownBlock=some w.heap.size)→wpList Tryz.prog ops Q rest (a.put o.dst v') w'):wpList Tryz.prog ops Q (o :: rest) a w:=by
 obtain⟨i0,hi,hz0,hz1,hz2⟩:=info_parts info_attr
 refine app_wpList w hgd s x _ ho base _ i0 (.agg #[.string ⟨#[]⟩,.string ⟨#[]⟩,.string ⟨#[]⟩]) 3 48 Tryz.underlying34 hi hz0 hz1 hz2 rfl (by decide) v n _ hs hown B A m c _ hx hr (cellsA_one _) (by unfold maxLen;omega) (by omega) hbase ?_
 rw [←cellsA_app];exact h
theorem app_nodes {ops:Array Oper} {rest:List Oper} {o:Oper} {a:Act} {Q:Exit→Act→World→Prop} (hgd:o.guard=none) (s x:Operand)
  (ho:o.op=.call { callee:=.builtin .append,args:=#[s,x],argTypes:=#[22,22]})
  (base:Nat) (v:Value) (n:Nat) (xs:List NodeH) (hs:a.eval s=v) (hown:w.ownsRow base 36 6 v n (cellsN xs))
  (B:Nat) (A:Option Addr) (m c:Nat) (news:List NodeH) (hx:a.eval x=.slice A m c) (hr:Rd w B 6 A m (cellsN news)) (hb:n+m≤1000000000000) (hbase:base≤w.heap.size)
  (h:∀v' w',w'.ownsRow base 36 6 v' (n+m) (cellsN (xs++news))→w.grownBy w' v.ownBlock→(v'.ownBlock=v.ownBlock∨v'.ownBlock=some w.heap.size)→wpList Tryz.prog ops Q rest (a.put o.dst v') w'):wpList Tryz.prog ops Q (o :: rest) a w:=by
 obtain⟨i0,hi,hz0,hz1,hz2⟩:=info_parts info_node
 refine app_wpList w hgd s x _ ho base _ i0 (.agg #[.int .u8 0,.string ⟨#[]⟩,.string ⟨#[]⟩,.slice none 0 0,.string ⟨#[]⟩,.int .i64 0]) 6 88 Tryz.underlying22 hi hz0 hz1 hz2 rfl (by decide) v n _ hs hown B A m c _ hx hr (cellsN_one _) (by unfold maxLen;omega) (by omega) hbase ?_
 rw [←cellsN_app];exact h
theorem app_trees {ops:Array Oper} {rest:List Oper} {o:Oper} {a:Act} {Q:Exit→Act→World→Prop} (hgd:o.guard=none) (s x:Operand)
  (ho:o.op=.call { callee:=.builtin .append,args:=#[s,x],argTypes:=#[25,25]})
  (base:Nat) (v:Value) (n:Nat) (xs:List TreeH) (hs:a.eval s=v) (hown:w.ownsRow base 22 1 v n (cellsT xs))
  (B:Nat) (A:Option Addr) (m c:Nat) (news:List TreeH) (hx:a.eval x=.slice A m c) (hr:Rd w B 1 A m (cellsT news)) (hb:n+m≤1000000000000) (hbase:base≤w.heap.size)
  (h:∀v' w',w'.ownsRow base 22 1 v' (n+m) (cellsT (xs++news))→w.grownBy w' v.ownBlock→(v'.ownBlock=v.ownBlock∨v'.ownBlock=some w.heap.size)→wpList Tryz.prog ops Q rest (a.put o.dst v') w'):wpList Tryz.prog ops Q (o :: rest) a w:=by
 obtain⟨i0,hi,hz0,hz1,hz2⟩:=info_parts info_tree
 refine app_wpList w hgd s x _ ho base _ i0 (.slice none 0 0) 1 24 Tryz.underlying25 hi hz0 hz1 hz2 rfl (by decide) v n _ hs hown B A m c _ hx hr (cellsT_one _) (by unfold maxLen;omega) (by omega) hbase ?_
 rw [←cellsT_app];exact h
theorem app_strs {ops:Array Oper} {rest:List Oper} {o:Oper} {a:Act} {Q:Exit→Act→World→Prop} (hgd:o.guard=none) (s x:Operand)
  (ho:o.op=.call { callee:=.builtin .append,args:=#[s,x],argTypes:=#[50,50]})
  (base:Nat) (v:Value) (n:Nat) (xs:List ByteArray) (hs:a.eval s=v) (hown:w.ownsRow base 9 1 v n (cellsS xs))
  (B:Nat) (A:Option Addr) (m c:Nat) (news:List ByteArray) (hx:a.eval x=.slice A m c) (hr:Rd w B 1 A m (cellsS news)) (hb:n+m≤1000000000000) (hbase:base≤w.heap.size)
  (h:∀v' w',w'.ownsRow base 9 1 v' (n+m) (cellsS (xs++news))→w.grownBy w' v.ownBlock→(v'.ownBlock=v.ownBlock∨v'.ownBlock=some w.heap.size)→wpList Tryz.prog ops Q rest (a.put o.dst v') w'):wpList Tryz.prog ops Q (o :: rest) a w:=by
 obtain⟨i0,hi,hz0,hz1,hz2⟩:=info_parts info_str
 refine app_wpList w hgd s x _ ho base _ i0 (.string ⟨#[]⟩) 1 16 Tryz.underlying50 hi hz0 hz1 hz2 rfl (by decide) v n _ hs hown B A m c _ hx hr (cellsS_one _) (by unfold maxLen;omega) (by omega) hbase ?_
 rw [←cellsS_app];exact h
end Go.Proofs.YtnmnpnofdgdigaaGreatDoor
end
section
namespace Go.Proofs.YtnmnpnofdgdigaaGreatDoor
open Go.RowKit
set_option linter.unusedSimpArgs false
set_option linter.unusedVariables false
theorem eql_nil {P:Program} (w:World) (t e:TypeId) (a:Option Addr) (l c:Nat) (h:P.underlying t=some (.slice e)):(binOp .eql t (.slice a l c) (.slice none 0 0)).run P w=.ok (.bool a.isNone) w:=by
 simp [binOp,run_equal_slice_nil w t e a l c h]
set_option maxRecDepth 10000 in
theorem clone_attrs (A:Option Addr) (c:Nat) (l:List AttrL) (w:World) (hr:Rd w w.heap.size 3 A l.length (cellsA l)) (hn:l.length≤1000000000) :
  Calls Tryz.prog 146 #[.slice A l.length c] w fun e w'=>∃v',e=.returned v'∧w'.ownsRow w.heap.size 75 3 v' l.length (cellsA l)∧Below w.heap.size w w':=by
 cases A with
 | none=>
  have h0:l.length=0:=by
   rcases Nat.eq_zero_or_pos l.length with h0|h0
   ·exact h0
   ·obtain⟨_,_,h,_⟩:=hr.2 h0
    cases h
  obtain rfl:=List.eq_nil_of_length_eq_zero h0
  clear h0 hr
  rw [List.length_nil]
  have hq:=fun W=>eql_nil (P:=Tryz.prog) W 34 75 none 0 c Tryz.underlying34
  rw [Option.isNone_none] at hq
  go_enter Tryz.func146,Tryz.ntmps146
  go_wp2
  go_ret
  exact⟨_,rfl,World.ownsRow_nil _ _ _ _,Below.refl _ _⟩
 | some ad=>
  have HR:=Lib.hid hr
  clear hr
  have HO:Hid ((w.alloc (.cells #[] 75)).ownsRow w.heap.size 75 3 (.slice (some ⟨w.heap.size,0,none⟩) 0 0) 0 (cellsA [])):=World.ownsRow_lit w #[] 0 (Nat.le_refl _) (by decide) rfl
  have HRA:Hid (Rd (w.alloc (.cells #[] 75)) w.heap.size 3 (some ad) l.length (cellsA l)):=HR.out.alloc (Nat.le_refl _) _
  have HX:Hid (Below w.heap.size w (w.alloc (.cells #[] 75))):=(Below.refl _ _).alloc (Nat.le_refl _) _
  generalize hL:l.length=N at *
  have HL:=Lib.hid hL
  have hq:=fun W=>eql_nil (P:=Tryz.prog) W 34 75 (some ad) N c Tryz.underlying34
  rw [Option.isNone_some] at hq
  clear hL
  go_enter Tryz.func146,Tryz.ntmps146
  go_wp2_with (at_builtin;refine app_attrs rfl _ _ rfl w.heap.size _ 0 [] rfl HO.out _ _ _ _ l rfl HRA.out (by omega) (by simp) ?_)
  intro v' w2 hown2 hg _
  have X2:Hid (Below w.heap.size w w2):=HX.out.grown hg (by simp) (fun q hq=>by simp [Value.ownBlock] at hq;omega)
  have HO2:=Lib.hid hown2
  clear hown2 hg
  go_wp2
  go_ret
  exact⟨_,rfl,by simpa using HO2.out,X2.out⟩
set_option maxRecDepth 10000 in
theorem clone_nodes (A:Option Addr) (c:Nat) (l:List NodeH) (w:World) (hr:Rd w w.heap.size 6 A l.length (cellsN l)) (hn:l.length≤1000000000) :
  Calls Tryz.prog 145 #[.slice A l.length c] w fun e w'=>∃v',e=.returned v'∧w'.ownsRow w.heap.size 36 6 v' l.length (cellsN l)∧Below w.heap.size w w':=by
 cases A with
 | none=>
  have h0:l.length=0:=by
   rcases Nat.eq_zero_or_pos l.length with h0|h0
   ·exact h0
   ·obtain⟨_,_,h,_⟩:=hr.2 h0
    cases h
  obtain rfl:=List.eq_nil_of_length_eq_zero h0
  clear h0 hr
  rw [List.length_nil]
  have hq:=fun W=>eql_nil (P:=Tryz.prog) W 22 36 none 0 c Tryz.underlying22
  rw [Option.isNone_none] at hq
  go_enter Tryz.func145,Tryz.ntmps145
  go_wp2
  go_ret
  exact⟨_,rfl,World.ownsRow_nil _ _ _ _,Below.refl _ _⟩
 | some ad=>
  have HR:=Lib.hid hr
  clear hr
  have HO:Hid ((w.alloc (.cells #[] 36)).ownsRow w.heap.size 36 6 (.slice (some ⟨w.heap.size,0,none⟩) 0 0) 0 (cellsN [])):=World.ownsRow_lit w #[] 0 (Nat.le_refl _) (by decide) rfl
  have HRA:Hid (Rd (w.alloc (.cells #[] 36)) w.heap.size 6 (some ad) l.length (cellsN l)):=HR.out.alloc (Nat.le_refl _) _
  have HX:Hid (Below w.heap.size w (w.alloc (.cells #[] 36))):=(Below.refl _ _).alloc (Nat.le_refl _) _
  generalize hL:l.length=N at *
  have HL:=Lib.hid hL
  have hq:=fun W=>eql_nil (P:=Tryz.prog) W 22 36 (some ad) N c Tryz.underlying22
  rw [Option.isNone_some] at hq
  clear hL
  go_enter Tryz.func145,Tryz.ntmps145
  go_wp2_with (at_builtin;refine app_nodes rfl _ _ rfl w.heap.size _ 0 [] rfl HO.out _ _ _ _ l rfl HRA.out (by omega) (by simp) ?_)
  intro v' w2 hown2 hg _
  have X2:Hid (Below w.heap.size w w2):=HX.out.grown hg (by simp) (fun q hq=>by simp [Value.ownBlock] at hq;omega)
  have HO2:=Lib.hid hown2
  clear hown2 hg
  go_wp2
  go_ret
  exact⟨_,rfl,by simpa using HO2.out,X2.out⟩
end Go.Proofs.YtnmnpnofdgdigaaGreatDoor
end
section
namespace Go.Proofs.YtnmnpnofdgdigaaGreatDoor
open Go.RowKit
set_option linter.unusedSimpArgs false
set_option linter.unusedVariables false
theorem trim_any (s cut:ByteArray) (w:World) (hs:s.size≤1000000000) (hc:cut.size < 1000) (ha:cut.data.toList.all (fun b=>decide (b.toNat < 128))=true) :
  Calls Tryz.prog 78 #[.string s,.string cut] w fun e w'=>e=.returned (.string ⟨(Lib.trimS s.data.toList cut.data.toList).toArray⟩)∧Below w.heap.size w w':=
 Any.strings_Trim_laid Tryz.lays160 (by kernel_rfl) s cut w (by omega) (by omega) (ascii_of_all ha)
set_option maxHeartbeats 1000000 in
theorem idxfunc_no (g:Nat) (lb:Array Value) (s:ByteArray) (w:World) (hs:s.size≤1000000000) (ha:∀i,i < s.size→b_at s i < 128)
  (eg:∀args w,(callFunc g args).run Tryz.prog w=.ok (.enter g args) w)
  (hp:∀(W:World) (i:Nat),Below w.heap.size w W→i < s.size→Calls Tryz.prog g (#[.int .i32 (b_at s i:Int)]++lb) W fun e w'=>e=.returned (.bool false)∧Below W.heap.size W w') :
  Calls Tryz.prog 213 #[.string s,.func (.func g) #[] lb,.bool true] w fun e w'=>e=.returned (.int .i64 (-1))∧Below w.heap.size w w':=by
 have HA:=Lib.hid ha
 have HP:=Lib.hid hp
 have hiter:=(Below.refl w.heap.size w).alloc (Nat.le_refl _)
 have HITER:=Lib.hid hiter
 clear ha hp hiter
 go_enter Tryz.func213,Tryz.ntmps213
 go_wp2
 go_loopw [7,8] (fun _ _ wr=>∃(i:Nat),i≤s.size∧wr.heap[w.heap.size]? = some (.stringIter s i)∧Below w.heap.size w wr) (fun _ _ wr=>s.size - wr.iterPos w.heap.size)
 case atStart=>exact⟨0,Nat.zero_le _,World.iter_heap w s 0,HITER.out _⟩
 case round=>
  obtain⟨i,hi,hit,hb⟩:=hrel
  by_cases hlt:i < s.size
  ·have hbi:=HA.out i hlt
   have hd:=dec_ascii s i hlt hbi
   obtain⟨W1,hW1⟩:∃W1,W1=wr.iterAt w.heap.size s (i+(Utf8.decode s i).2):=⟨_,rfl⟩
   have hnx:=fun ty=>Lib.run_next_any_at (P:=Tryz.prog) wr w.heap.size s i ty hit hlt
   rw [←hW1] at hnx
   rw [hd] at hnx hW1
   have hb1:Below w.heap.size w W1:=by rw [hW1];exact Lib.below_iterAt hb (Nat.le_refl _) _ _
   have hi1:W1.heap[w.heap.size]? = some (.stringIter s (i+1)):=by rw [hW1];exact Lib.iterAt_heap _ _ _ _ _ hit
   have hsz:w.heap.size < W1.heap.size:=(Array.getElem?_eq_some_iff.1 hi1).1
   have HB:=Lib.hid hb1
   have HI:=Lib.hid hi1
   have HI0:=Lib.hid hit
   have hcall:=HP.out W1 i hb1 hlt
   have eg':=eg (#[.int .i32 (b_at s i:Int)]++lb)
   clear hW1 hb hit hb1 hi1 hd
   generalize b_at s i=x at *
   go_wp2_with fail
   refine hcall.mono ?_
   rintro e w2 ⟨rfl,hb2⟩
   have X2:Hid (Below w.heap.size w w2):=HB.out.trans (hb2.mono (by omega))
   have I2:Hid (w2.heap[w.heap.size]? = some (.stringIter s (i+1))):=(hb2.block _ hsz).trans HI.out
   clear hb2 hcall
   go_wp2
   go_roundw
   case rel=>exact⟨i+1,by omega,I2.out,X2.out⟩
   case measure=>rw [iter_pos I2.out,iter_pos HI0.out];omega
  ·obtain rfl:i=s.size:=by omega
   have hnx:=fun ty=>Lib.run_next_end_at (P:=Tryz.prog) wr w.heap.size s s.size ty hit hlt
   have HB:=Lib.hid hb
   clear hb hit
   go_wp2
   try rw [Exit.noGoto_ret]
   go_ret
   exact⟨rfl,HB.out⟩
theorem hasfunc_no (g:Nat) (lb:Array Value) (s:ByteArray) (w:World) (hs:s.size≤1000000000) (ha:∀i,i < s.size→b_at s i < 128)
  (eg:∀args w,(callFunc g args).run Tryz.prog w=.ok (.enter g args) w)
  (hp:∀(W:World) (i:Nat),Below w.heap.size w W→i < s.size→Calls Tryz.prog g (#[.int .i32 (b_at s i:Int)]++lb) W fun e w'=>e=.returned (.bool false)∧Below W.heap.size W w') :
  Calls Tryz.prog 158 #[.string s,.func (.func g) #[] lb] w fun e w'=>e=.returned (.bool false)∧Below w.heap.size w w':=by
 have H:=Lib.hid (idxfunc_no g lb s w hs ha eg hp)
 have H2:Hid (Calls Tryz.prog 194 #[.string s,.func (.func g) #[] lb] w fun e w'=>e=.returned (.int .i64 (-1))∧Below w.heap.size w w'):=by
  show Calls _ _ _ _ _
  clear hp ha
  go_enter Tryz.func194,Tryz.ntmps194
  go_wp2_with fail
  refine H.out.mono ?_
  rintro e w1 ⟨rfl,hb1⟩
  go_wp2
  go_ret
  exact⟨rfl,hb1⟩
 clear H hp ha
 go_enter Tryz.func158,Tryz.ntmps158
 go_wp2_with fail
 refine H2.out.mono ?_
 rintro e w1 ⟨rfl,hb1⟩
 go_wp2
 go_ret
 exact⟨rfl,hb1⟩
theorem of11_any (set:ByteArray) (x B:Nat) (w:World) (hx:x < 128) (hB:w.cell? ⟨B,0,none⟩=some (.string set)) :
  Calls Tryz.prog 159 (#[.int .i32 (x:Int)]++#[.pointer (some ⟨B,0,none⟩)]) w fun e w'=>e=.returned (.bool (!set.data.toList.contains x.toUInt8))∧Below w.heap.size w w':=by
 have H:=Lib.hid (fun W=>(Tryz.strings_ContainsRune_ascii set (x:Int) W (by omega) (by omega)).mono fun e w' h=>(⟨h.1,h.2.symm⟩:e=_∧W=w'))
 rw [show((x:Int).toNat)=x by omega,←Lib.contains_iff_indexByte] at H
 generalize set.data.toList.contains x.toUInt8=r at *
 rw [List.append_toArray,List.singleton_append]
 go_enter Tryz.func159,Tryz.ntmps159
 go_wp2_with fail
 refine(H.out _).mono ?_
 rintro e w1 ⟨rfl,rfl⟩
 go_wp2
 go_ret
 exact⟨ret_bool (by simp),Below.refl _ _⟩
set_option maxHeartbeats 1000000 in
theorem of1_any (set s:ByteArray) (B:Nat) (w:World) (hs:s.size≤1000000000) (hc:set.size < 1000) (ha:set.data.toList.all (fun b=>decide (b.toNat < 128))=true) (hB:w.cell? ⟨B,0,none⟩=some (.string set)) :
  Calls Tryz.prog 157 (#[.string s]++#[.pointer (some ⟨B,0,none⟩)]) w fun e w'=>e=.returned (.bool (setAll set.data.toList s))∧Below w.heap.size w w':=by
 have H:=Lib.hid (trim_any s set w hs hc ha)
 have hBl:=World.block_lt_of_cell? w _ hB
 have eg:=enters_of (P:=Tryz.prog) Tryz.func159 (by kernel_rfl) rfl
 rw [List.append_toArray,List.singleton_append]
 cases hq:setAll set.data.toList s with
 | true=>
  have ha2:∀i,i < s.size→b_at s i < 128:=set_lt (fun b hb=>of_decide_eq_true (List.all_eq_true.1 ha b hb)) hq
  have H2:=Lib.hid (fun W (hW:Below w.heap.size w W)=>hasfunc_no 159 #[.pointer (some ⟨B,0,none⟩)] s W hs ha2 eg (fun W' i hW' hi=>(of11_any set (b_at s i) B W' (ha2 i hi) ((hW'.cell (Nat.lt_of_lt_of_le hBl hW.size)).trans ((hW.cell hBl).trans hB))).mono fun e w' h=>⟨by
   rw [h.1]
   have h1:=set_at hq i hi
   have e1:(b_at s i).toUInt8=s.get! i:=by unfold b_at;simp
   rw [e1,h1];rfl,h.2⟩))
  rw [(trimS_nil _ _).2 hq] at H
  have HB:=Lib.hid (fun W (hW:Below w.heap.size w W)=>(hW.cell hBl).trans hB)
  clear hq ha ha2 eg
  go_enter Tryz.func157,Tryz.ntmps157
  go_wp2_with fail
  refine H.out.mono ?_
  rintro e w1 ⟨rfl,hb1⟩
  have X1:=Lib.hid hb1
  clear hb1
  have hB:=HB.out _ X1.out
  go_wp2_with fail
  refine(H2.out _ X1.out).mono ?_
  rintro e w2 ⟨rfl,hb2⟩
  go_wp2
  go_ret
  exact⟨rfl,X1.out.trans (hb2.mono X1.out.size)⟩
 | false=>
  have hne:Lib.trimS s.data.toList set.data.toList≠[]:=fun h=>by
   rw [trimS_nil] at h
   unfold setAll at hq
   rw [h] at hq
   cases hq
  obtain⟨t,ht⟩:∃t:ByteArray,t=⟨(Lib.trimS s.data.toList set.data.toList).toArray⟩:=⟨_,rfl⟩
  have he:t.toList.isEmpty=false:=by
   rw [Lib.toList_data,ht]
   cases h:Lib.trimS s.data.toList set.data.toList with
   | nil=>exact absurd h hne
   | cons a l=>rfl
  rw [←ht] at H
  clear hq hne ht ha eg
  go_enter Tryz.func157,Tryz.ntmps157
  go_wp2_with fail
  refine H.out.mono ?_
  rintro e w1 ⟨rfl,hb1⟩
  have X1:=Lib.hid hb1
  clear hb1
  go_wp2
  go_ret
  exact⟨rfl,X1.out⟩
end Go.Proofs.YtnmnpnofdgdigaaGreatDoor
end
