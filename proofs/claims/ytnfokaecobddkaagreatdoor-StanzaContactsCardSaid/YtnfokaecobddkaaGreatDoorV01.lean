/- Part 1 of a proof laid in parts, one behind the other; no condition of its own. -/
import Derived.Test.YtnfokaecobddkaaGreatDoorRows
import Derived.JoinedOf
import Derived.Laws.BytesArg
import Derived.Laws.Strings
import Derived.Lib.DecodeN
import Derived.Lib.MapLaws
import Derived.Lib.RuneCountTail
import Derived.Lib.TrimU
import Derived.Lib.SlTrimSet
import Derived.Lib.IndexMore
import Derived.Lib.IndexAny
import Derived.Shelf.GgClosure.StringsIndexFunc
import Derived.Lib.Index
set_option linter.all false
section
namespace Go.Proofs.YtnfokaecobddkaaGreatDoor
def initSigns:List Char:=List.map Char.ofNat [104,97,114,110,101,115,115,32,97,98,102,97,57,49,100,100,101,50,97,54,102,57,51,53,97,97,57,57,101,53,56,57,56,54,52,101,48,55,48,56,98,100,55,98,50,52,52,101,49,49,100,52,50,100,48,100,48,53,97,101,57,49,52,97,102,49,99,55,49,50,53,56,32,99,117,116,32,97,116,32,116,105,100,101,119,97,105,116,101,114,47,116,105,100,101,119,97,105,116,101,114,108,97,119,50,50,46,83,116,97,110,122,97,70,97,105,108,115,32,116,105,100,101,119,97,105,116,101,114,47,116,105,100,101,119,97,105,116,101,114,108,97,119,50,50,46,83,116,97,110,122,97,66,97,99,107,32,116,105,100,101,119,97,105,116,101,114,47,116,105,100,101,119,97,105,116,101,114,108,97,119,50,50,46,83,116,97,110,122,97,67,111,110,116,97,99,116,115,32,116,105,100,101,119,97,105,116,101,114,47,116,105,100,101,119,97,105,116,101,114,108,97,119,50,50,46,83,116,97,110,122,97,78,97,109,101,115]
theorem init_of:Tryz.prog.initOrder=String.ofList initSigns:=by kernel_rfl
theorem init_list:Tryz.prog.initOrder.toList=initSigns:=by rw [init_of,String.toList_ofList]
def headWords:List (List Char):=[[Char.ofNat 104,Char.ofNat 97,Char.ofNat 114,Char.ofNat 110,Char.ofNat 101,Char.ofNat 115,Char.ofNat 115],[Char.ofNat 97,Char.ofNat 98,Char.ofNat 102,Char.ofNat 97,Char.ofNat 57,Char.ofNat 49,Char.ofNat 100,Char.ofNat 100,Char.ofNat 101,Char.ofNat 50,Char.ofNat 97,Char.ofNat 54,Char.ofNat 102,Char.ofNat 57,Char.ofNat 51,Char.ofNat 53,Char.ofNat 97,Char.ofNat 97,Char.ofNat 57,Char.ofNat 57,Char.ofNat 101,Char.ofNat 53,Char.ofNat 56,Char.ofNat 57,Char.ofNat 56,Char.ofNat 54,Char.ofNat 52,Char.ofNat 101,Char.ofNat 48,Char.ofNat 55,Char.ofNat 48,Char.ofNat 56,Char.ofNat 98,Char.ofNat 100,Char.ofNat 55,Char.ofNat 98,Char.ofNat 50,Char.ofNat 52,Char.ofNat 52,Char.ofNat 101,Char.ofNat 49,Char.ofNat 49,Char.ofNat 100,Char.ofNat 52,Char.ofNat 50,Char.ofNat 100,Char.ofNat 48,Char.ofNat 100,Char.ofNat 48,Char.ofNat 53,Char.ofNat 97,Char.ofNat 101,Char.ofNat 57,Char.ofNat 49,Char.ofNat 52,Char.ofNat 97,Char.ofNat 102,Char.ofNat 49,Char.ofNat 99,Char.ofNat 55,Char.ofNat 49,Char.ofNat 50,Char.ofNat 53,Char.ofNat 56],[Char.ofNat 99,Char.ofNat 117,Char.ofNat 116],[Char.ofNat 97,Char.ofNat 116],[Char.ofNat 116,Char.ofNat 105,Char.ofNat 100,Char.ofNat 101,Char.ofNat 119,Char.ofNat 97,Char.ofNat 105,Char.ofNat 116,Char.ofNat 101,Char.ofNat 114,Char.ofNat 47,Char.ofNat 116,Char.ofNat 105,Char.ofNat 100,Char.ofNat 101,Char.ofNat 119,Char.ofNat 97,Char.ofNat 105,Char.ofNat 116,Char.ofNat 101,Char.ofNat 114,Char.ofNat 108,Char.ofNat 97,Char.ofNat 119,Char.ofNat 50,Char.ofNat 50,Char.ofNat 46,Char.ofNat 83,Char.ofNat 116,Char.ofNat 97,Char.ofNat 110,Char.ofNat 122,Char.ofNat 97,Char.ofNat 70,Char.ofNat 97,Char.ofNat 105,Char.ofNat 108,Char.ofNat 115],[Char.ofNat 116,Char.ofNat 105,Char.ofNat 100,Char.ofNat 101,Char.ofNat 119,Char.ofNat 97,Char.ofNat 105,Char.ofNat 116,Char.ofNat 101,Char.ofNat 114,Char.ofNat 47,Char.ofNat 116,Char.ofNat 105,Char.ofNat 100,Char.ofNat 101,Char.ofNat 119,Char.ofNat 97,Char.ofNat 105,Char.ofNat 116,Char.ofNat 101,Char.ofNat 114,Char.ofNat 108,Char.ofNat 97,Char.ofNat 119,Char.ofNat 50,Char.ofNat 50,Char.ofNat 46,Char.ofNat 83,Char.ofNat 116,Char.ofNat 97,Char.ofNat 110,Char.ofNat 122,Char.ofNat 97,Char.ofNat 66,Char.ofNat 97,Char.ofNat 99,Char.ofNat 107],[Char.ofNat 116,Char.ofNat 105,Char.ofNat 100,Char.ofNat 101,Char.ofNat 119,Char.ofNat 97,Char.ofNat 105,Char.ofNat 116,Char.ofNat 101,Char.ofNat 114,Char.ofNat 47,Char.ofNat 116,Char.ofNat 105,Char.ofNat 100,Char.ofNat 101,Char.ofNat 119,Char.ofNat 97,Char.ofNat 105,Char.ofNat 116,Char.ofNat 101,Char.ofNat 114,Char.ofNat 108,Char.ofNat 97,Char.ofNat 119,Char.ofNat 50,Char.ofNat 50,Char.ofNat 46,Char.ofNat 83,Char.ofNat 116,Char.ofNat 97,Char.ofNat 110,Char.ofNat 122,Char.ofNat 97,Char.ofNat 67,Char.ofNat 111,Char.ofNat 110,Char.ofNat 116,Char.ofNat 97,Char.ofNat 99,Char.ofNat 116,Char.ofNat 115],[Char.ofNat 116,Char.ofNat 105,Char.ofNat 100,Char.ofNat 101,Char.ofNat 119,Char.ofNat 97,Char.ofNat 105,Char.ofNat 116,Char.ofNat 101,Char.ofNat 114,Char.ofNat 47,Char.ofNat 116,Char.ofNat 105,Char.ofNat 100,Char.ofNat 101,Char.ofNat 119,Char.ofNat 97,Char.ofNat 105,Char.ofNat 116,Char.ofNat 101,Char.ofNat 114,Char.ofNat 108,Char.ofNat 97,Char.ofNat 119,Char.ofNat 50,Char.ofNat 50,Char.ofNat 46,Char.ofNat 83,Char.ofNat 116,Char.ofNat 97,Char.ofNat 110,Char.ofNat 122,Char.ofNat 97,Char.ofNat 78,Char.ofNat 97,Char.ofNat 109,Char.ofNat 101,Char.ofNat 115]]
def cutWord:List Char:=[Char.ofNat 99,Char.ofNat 117,Char.ofNat 116]
def restWords:List (List Char):=[[Char.ofNat 97,Char.ofNat 116],[Char.ofNat 116,Char.ofNat 105,Char.ofNat 100,Char.ofNat 101,Char.ofNat 119,Char.ofNat 97,Char.ofNat 105,Char.ofNat 116,Char.ofNat 101,Char.ofNat 114,Char.ofNat 47,Char.ofNat 116,Char.ofNat 105,Char.ofNat 100,Char.ofNat 101,Char.ofNat 119,Char.ofNat 97,Char.ofNat 105,Char.ofNat 116,Char.ofNat 101,Char.ofNat 114,Char.ofNat 108,Char.ofNat 97,Char.ofNat 119,Char.ofNat 50,Char.ofNat 50,Char.ofNat 46,Char.ofNat 83,Char.ofNat 116,Char.ofNat 97,Char.ofNat 110,Char.ofNat 122,Char.ofNat 97,Char.ofNat 70,Char.ofNat 97,Char.ofNat 105,Char.ofNat 108,Char.ofNat 115],[Char.ofNat 116,Char.ofNat 105,Char.ofNat 100,Char.ofNat 101,Char.ofNat 119,Char.ofNat 97,Char.ofNat 105,Char.ofNat 116,Char.ofNat 101,Char.ofNat 114,Char.ofNat 47,Char.ofNat 116,Char.ofNat 105,Char.ofNat 100,Char.ofNat 101,Char.ofNat 119,Char.ofNat 97,Char.ofNat 105,Char.ofNat 116,Char.ofNat 101,Char.ofNat 114,Char.ofNat 108,Char.ofNat 97,Char.ofNat 119,Char.ofNat 50,Char.ofNat 50,Char.ofNat 46,Char.ofNat 83,Char.ofNat 116,Char.ofNat 97,Char.ofNat 110,Char.ofNat 122,Char.ofNat 97,Char.ofNat 66,Char.ofNat 97,Char.ofNat 99,Char.ofNat 107],[Char.ofNat 116,Char.ofNat 105,Char.ofNat 100,Char.ofNat 101,Char.ofNat 119,Char.ofNat 97,Char.ofNat 105,Char.ofNat 116,Char.ofNat 101,Char.ofNat 114,Char.ofNat 47,Char.ofNat 116,Char.ofNat 105,Char.ofNat 100,Char.ofNat 101,Char.ofNat 119,Char.ofNat 97,Char.ofNat 105,Char.ofNat 116,Char.ofNat 101,Char.ofNat 114,Char.ofNat 108,Char.ofNat 97,Char.ofNat 119,Char.ofNat 50,Char.ofNat 50,Char.ofNat 46,Char.ofNat 83,Char.ofNat 116,Char.ofNat 97,Char.ofNat 110,Char.ofNat 122,Char.ofNat 97,Char.ofNat 67,Char.ofNat 111,Char.ofNat 110,Char.ofNat 116,Char.ofNat 97,Char.ofNat 99,Char.ofNat 116,Char.ofNat 115],[Char.ofNat 116,Char.ofNat 105,Char.ofNat 100,Char.ofNat 101,Char.ofNat 119,Char.ofNat 97,Char.ofNat 105,Char.ofNat 116,Char.ofNat 101,Char.ofNat 114,Char.ofNat 47,Char.ofNat 116,Char.ofNat 105,Char.ofNat 100,Char.ofNat 101,Char.ofNat 119,Char.ofNat 97,Char.ofNat 105,Char.ofNat 116,Char.ofNat 101,Char.ofNat 114,Char.ofNat 108,Char.ofNat 97,Char.ofNat 119,Char.ofNat 50,Char.ofNat 50,Char.ofNat 46,Char.ofNat 83,Char.ofNat 116,Char.ofNat 97,Char.ofNat 110,Char.ofNat 122,Char.ofNat 97,Char.ofNat 78,Char.ofNat 97,Char.ofNat 109,Char.ofNat 101,Char.ofNat 115]]
theorem words_eq:wordsSigns initSigns=headWords:=by kernel_rfl
theorem tail_eq:behindMainWord headWords=(cutWord :: restWords):=by kernel_rfl
theorem tail_of:behindMainWord (wordsSigns Tryz.prog.initOrder.toList)=(cutWord :: restWords):=by rw [init_list,words_eq,tail_eq]
theorem strip_eq:stripLifts liftWords (cutWord :: restWords)=([],(cutWord :: restWords)):=by kernel_rfl
theorem head_lifts:Tryz.prog.headLifts=[]:=by unfold Program.headLifts;rw [tail_of,strip_eq];kernel_rfl
theorem make_of (P:Program) (c:List Char) (rest:List (List Char)) (h:behindMainWord (wordsSigns P.initOrder.toList)=c :: rest) (h1:(c == "gc".toList || c == "spec".toList)=false) (h2:(c == "cut".toList)=true):P.make=some .cut:=by
 delta Program.make
 rewrite [h]
 simp only [h1,h2]
 rfl
theorem enter_of (P:Program) (c:List Char) (rest:List (List Char)) (h:behindMainWord (wordsSigns P.initOrder.toList)=c :: rest) (h1:stripLifts liftWords (c :: rest)=([],c :: rest)) (h2:(c == "cut".toList)=true) (h3:P.laysLater=false) (h4:P.bearsReflect=false) (h5:P.doorFits []=true):P.mayEnter=true:=by
 delta Program.mayEnter
 rewrite [h]
 dsimp only
 rewrite [h1]
 have e:((c :: rest).head? == some "cut".toList)=true:=by simpa using h2
 simp only [e,h3,h4,h5]
 simp
theorem lifts_of (P:Program) (c:List Char) (rest:List (List Char)) (h:behindMainWord (wordsSigns P.initOrder.toList)=c :: rest) (h1:(c == "carried".toList)=false) (h2:P.headLifts=[]):P.liftsFinal=false:=by
 delta Program.liftsFinal
 rewrite [h,h2]
 have e:((c :: rest).head? == some "carried".toList)=false:=by simpa using h1
 simp only [e]
 simp
theorem may_enter:Tryz.prog.mayEnter=true:=enter_of _ cutWord restWords tail_of strip_eq (by kernel_rfl) (by kernel_rfl) (by kernel_rfl) (by kernel_rfl)
theorem lifts_final:Tryz.prog.liftsFinal=false:=lifts_of _ cutWord restWords tail_of (by kernel_rfl) head_lifts
theorem make_cut:Tryz.prog.make=some .cut:=make_of _ cutWord restWords tail_of (by kernel_rfl) (by kernel_rfl)
theorem own:ownKnob Tryz.prog.godebug=none:=by kernel_rfl
theorem laidOut:laidOutB Tryz.prog=true:=by kernel_rfl
theorem maps_rowed:mapsRowed Tryz.prog=true:=by kernel_rfl
theorem stops_none:Tryz.prog.stops=[]:=by kernel_rfl
theorem stopKnobs_none:Tryz.prog.stopKnobs=[]:=by kernel_rfl
theorem stops_heard:Tryz.prog.stopsHeard=true:=by kernel_rfl
end Go.Proofs.YtnfokaecobddkaaGreatDoor
end
section
namespace Go.Proofs.YtnfokaecobddkaaGreatDoor
def numsOf (s:ByteArray):List Int:=s.data.toList.map fun c=>(c.toNat:Int)
def B8 (l:List Int):Prop:=∀x∈l,0≤x∧x < 256
theorem numsOf_b8 (s:ByteArray):B8 (numsOf s):=by
 intro x hx
 simp only [numsOf,List.mem_map] at hx
 obtain⟨c,_,rfl⟩:=hx
 have:=c.toNat_lt
 omega
theorem numsOf_length (s:ByteArray):(numsOf s).length=s.size:=by
 unfold numsOf
 rw [List.length_map]
 cases s
 rfl
theorem numsOf_str {l:List Int} (h:B8 l):numsOf (strOfNums l)=l:=by
 unfold numsOf
 rw [strOfNums_data,List.map_map]
 conv=>rhs;rw [←List.map_id l]
 apply List.map_congr_left
 intro x hx
 have:=h x hx
 have hlt:x.toNat < 256:=by omega
 simp only [Function.comp,id]
 rw [UInt8.toNat_ofNat_of_lt' hlt]
 omega
theorem numsOf_get (s:ByteArray) (k:Nat) (h:k < s.size):(numsOf s)[k]? = some ((s[k]'h).toNat:Int):=by
 have:k < s.data.toList.length:=by cases s;exact h
 simp only [numsOf,List.getElem?_map,List.getElem?_eq_getElem this]
 rfl
end Go.Proofs.YtnfokaecobddkaaGreatDoor
end
section
namespace Go.Proofs.YtnfokaecobddkaaGreatDoor
def mayP (n:Int):Bool:=if n < 32 then decide (n=9∨n=10∨n=13) else decide (n≤1114111∧(n < 55296∨57343 < n)∧n≠65534∧n≠65535)
def okAt (s:ByteArray) (i:Nat):Bool:=mayP ((Utf8.decode s i).1:Int) && !decide ((Utf8.decode s i).1=65533∧(Utf8.decode s i).2=1)
def textF (s:ByteArray):Nat→Nat→Bool
 | 0,i=>decide (s.size≤i)
 | f+1,i=>if s.size≤i then true else okAt s i && textF s f (i+(Utf8.decode s i).2)
def textOK (s:ByteArray):Bool:=textF s s.size 0
theorem dec_pos (s:ByteArray) (i:Nat):1≤(Utf8.decode s i).2:=Lib.width_pos s i
theorem textF_more (s:ByteArray):∀(f i:Nat),s.size≤i+f→textF s (f+1) i=textF s f i
 | 0,i,h=>by simp [textF];omega
 | f+1,i,h=>by
  have hd:=dec_pos s i
  have e:∀g,textF s (g+1) i=if s.size≤i then true else okAt s i && textF s g (i+(Utf8.decode s i).2):=fun _=>rfl
  rw [e (f+1),e f,textF_more s f (i+(Utf8.decode s i).2) (by omega)]
theorem textF_any (s:ByteArray) (f g i:Nat) (hf:s.size≤i+f) (hg:s.size≤i+g):textF s f i=textF s g i:=by
 have key:∀(d f:Nat),s.size≤i+f→textF s (f+d) i=textF s f i:=by
  intro d
  induction d with
  | zero=>intro f _;rfl
  | succ d ih=>intro f h;rw [←Nat.add_assoc,textF_more s (f+d) i (by omega),ih f h]
 rcases Nat.le_total f g with h|h
 ·rw [←key (g - f) f hf,show f+(g - f)=g by omega]
 ·rw [←key (f - g) g hg,show g+(f - g)=f by omega]
def textAt (s:ByteArray) (i:Nat):Bool:=textF s (s.size - i) i
theorem textAt_zero (s:ByteArray):textAt s 0=textOK s:=rfl
theorem textAt_end (s:ByteArray) (i:Nat) (h:s.size≤i):textAt s i=true:=by
 unfold textAt
 rw [show s.size - i=0 by omega]
 simpa [textF] using h
theorem textAt_step (s:ByteArray) (i:Nat) (h:i < s.size):textAt s i=(okAt s i && textAt s (i+(Utf8.decode s i).2)):=by
 have hd:=dec_pos s i
 unfold textAt
 rw [show s.size - i=(s.size - i - 1)+1 by omega,textF,if_neg (by omega)]
 rw [textF_any s (s.size - i - 1) (s.size - (i+(Utf8.decode s i).2)) _ (by omega) (by omega)]
theorem textAt_no (s:ByteArray) (i:Nat) (h:i < s.size) (ho:okAt s i=false):textAt s i=false:=by rw [textAt_step s i h,ho];rfl
theorem textAt_yes (s:ByteArray) (i:Nat) (h:i < s.size) (ho:okAt s i=true):textAt s i=textAt s (i+(Utf8.decode s i).2):=by rw [textAt_step s i h,ho];rfl
def textErr (s:ByteArray):Int:=if 16384 < s.size then 4 else if textOK s then 0 else 50
def bytesU (n:Int):List Int:=
 if n < 128 then [n]
 else if n < 2048 then [192+n / 64,128+n % 64]
 else if n < 65536 then [224+n / 4096,128+n / 64 % 64,128+n % 64]
 else [240+n / 262144,128+n / 4096 % 64,128+n / 64 % 64,128+n % 64]
end Go.Proofs.YtnfokaecobddkaaGreatDoor
end
section
namespace Go.Proofs.YtnfokaecobddkaaGreatDoor
def partB (c:Int) (first:Bool):Bool:=decide ((97≤c∧c≤122)∨(65≤c∧c≤90)∨c=95) || (!first && decide ((48≤c∧c≤57)∨c=46∨c=45))
def nameL (l:List Int):Bool:=match l with
 | []=>false
 | c :: t=>partB c true && t.all (partB · false)
def fstL:List Int→Int→Option Nat
 | [],_=>none
 | x :: t,c=>if x=c then some 0 else(fstL t c).map (·+1)
theorem fstL_none:∀{l:List Int} {c:Int},fstL l c=none→∀(k:Nat) (x:Int),l[k]? = some x→x≠c
 | [],c,_,k,x,hx=>by simp at hx
 | y :: t,c,h,k,x,hx=>by
  unfold fstL at h
  split at h
  ·cases h
  ·simp only [Option.map_eq_none_iff] at h
   cases k with
   | zero=>simp at hx;subst hx;assumption
   | succ k=>exact fstL_none h k x (by simpa using hx)
theorem fstL_some:∀{l:List Int} {c:Int} {i:Nat},fstL l c=some i→l[i]? = some c∧∀(k:Nat) (x:Int),k < i→l[k]? = some x→x≠c
 | [],c,i,h=>by cases h
 | y :: t,c,i,h=>by
  unfold fstL at h
  split at h
  ·rename_i hy
   simp only [Option.some.injEq] at h
   subst h hy
   exact⟨by simp,fun k x hk=>absurd hk (by omega)⟩
  ·simp only [Option.map_eq_some_iff] at h
   obtain⟨j,hj,rfl⟩:=h
   obtain⟨h1,h2⟩:=fstL_some hj
   refine⟨by simpa using h1,fun k x hk hx=>?_⟩
   cases k with
   | zero=>simp at hx;subst hx;assumption
   | succ k=>exact h2 k x (by omega) (by simpa using hx)
def nameI (s:ByteArray):Bool:=nameL (numsOf s)
def fullI (s:ByteArray):Bool:=match fstL (numsOf s) 58 with
 | none=>nameI s
 | some i=>nameI (s.extract 0 i) && nameI (s.extract (i+1) s.size)
def nameT (s:ByteArray) (k:Nat):Bool:=(List.range k).all fun i=>partB ((numsOf s).getD i 0) (decide (i=0))
theorem nameT_succ (s:ByteArray) (k:Nat):nameT s (k+1)=(nameT s k && partB ((numsOf s).getD k 0) (decide (k=0))):=by
 unfold nameT
 rw [List.range_succ,List.all_append]
 simp
theorem nameT_no (s:ByteArray) (k n:Nat) (h:k≤n) (h1:nameT s k=false):nameT s n=false:=by
 unfold nameT at h1 ⊢
 rw [List.all_eq_false] at h1 ⊢
 obtain⟨x,hx,hy⟩:=h1
 exact⟨x,List.mem_range.2 (Nat.lt_of_lt_of_le (List.mem_range.1 hx) h),hy⟩
theorem nameL_all:∀(l:List Int),nameL l=(decide (0 < l.length) && (List.range l.length).all fun i=>partB (l.getD i 0) (decide (i=0)))
 | []=>rfl
 | c :: t=>by
  have e:(List.range (c :: t).length)=0 :: (List.range t.length).map (·+1):=by rw [List.length_cons,List.range_succ_eq_map]
  rw [e]
  simp only [nameL,List.all_cons,List.all_map,List.length_cons,Nat.zero_lt_succ,decide_true,Bool.true_and,List.getD_cons_zero]
  congr 1
  rw [Bool.eq_iff_iff,List.all_eq_true,List.all_eq_true]
  constructor
  ·intro h i hi
   have hi':=List.mem_range.1 hi
   have:=h (t[i]) (List.getElem_mem hi')
   simp only [Function.comp,List.getD_cons_succ,Nat.add_one_ne_zero,decide_false]
   rw [List.getD_eq_getElem?_getD,List.getElem?_eq_getElem hi']
   exact this
  ·intro h x hx
   obtain⟨i,hi,rfl⟩:=List.mem_iff_getElem.1 hx
   have:=h i (List.mem_range.2 hi)
   simp only [Function.comp,List.getD_cons_succ,Nat.add_one_ne_zero,decide_false] at this
   rw [List.getD_eq_getElem?_getD,List.getElem?_eq_getElem hi] at this
   exact this
theorem nameI_all (s:ByteArray):nameI s=(decide (0 < s.size) && nameT s s.size):=by
 unfold nameI nameT
 rw [nameL_all,numsOf_length]
structure AttrL where
 space:ByteArray
 name:ByteArray
 value:ByteArray
structure NodeL where
 kind:Int
 space:ByteArray
 name:ByteArray
 attrs:List AttrL
 text:ByteArray
 many:Int
instance:Inhabited NodeL:=⟨⟨0,⟨#[]⟩,⟨#[]⟩,[],⟨#[]⟩,0⟩⟩
def eqS (a b:ByteArray):Bool:=a.toList == b.toList
def dupA (a b:AttrL):Bool:=eqS a.space b.space && eqS a.name b.name
def sndA (a:AttrL):Bool:=fullI a.name && decide (textErr a.value=0) && decide (textErr a.space=0)
def goodA (l:List AttrL) (i:Nat) (a:AttrL):Bool:=!(l.take i).any (dupA a) && sndA a
def attrsT (l:List AttrL) (k:Nat):Bool:=(List.range k).all fun i=>match l[i]? with
 | some a=>goodA l i a
 | none=>true
def attrsI (l:List AttrL):Bool:=attrsT l l.length && decide (l.length≤16)
theorem attrsT_succ (l:List AttrL) (k:Nat) (a:AttrL) (h:l[k]? = some a):attrsT l (k+1)=(attrsT l k && goodA l k a):=by
 unfold attrsT
 rw [List.range_succ,List.all_append]
 simp [h]
theorem attrsT_no (l:List AttrL):∀(k n:Nat),k≤n→attrsT l k=false→attrsT l n=false
 | k,n,h,h1=>by
  unfold attrsT at h1 ⊢
  rw [List.all_eq_false] at h1 ⊢
  obtain⟨x,hx,hy⟩:=h1
  exact⟨x,List.mem_range.2 (Nat.lt_of_lt_of_le (List.mem_range.1 hx) h),hy⟩
def isEmp (s:ByteArray):Bool:=decide (s.size=0)
def nodeI (n:NodeL):Bool:=
 if n.kind=2 then isEmp n.name && isEmp n.space && decide (n.attrs.length=0) && decide (n.many=0) && !isEmp n.text && decide (textErr n.text=0)
 else decide (n.kind=1) && isEmp n.text && fullI n.name && decide (textErr n.space=0) && attrsI n.attrs
def endK (f : Nat → Option Nat) (v : List NodeL) : Nat → Nat → Bool → Option Nat
  | 0, next, _ => some next
  | k + 1, next, t => match v[next]? with
    | none => none
    | some n => if (t && decide (n.kind = 2)) = true then none else
      match f next with
      | none => none
      | some e => endK f v k e (decide (n.kind = 2))
def endN (v:List NodeL):Nat→Nat→Option Nat
 | 0,i=>match v[i]? with
  | none=>none
  | some n=>if nodeI n=true∧n.kind=2 then some (i+1) else none
 | d+1,i=>match v[i]? with
  | none=>none
  | some n=>if nodeI n=true∧0≤n.many then endK (endN v d) v n.many.toNat (i+1) false else none
def treeI (v:List NodeL):Bool:=match v with
 | []=>false
 | n :: _=>decide (v.length≤512) && decide (n.kind=1) && decide (endN v 12 0=some v.length)
theorem endK_le {f:Nat→Option Nat} {v:List NodeL} (hf:∀i e,f i=some e→i < e∧e≤v.length):∀(k next:Nat) (t:Bool) (e:Nat),next≤v.length→endK f v k next t=some e→next+k≤e∧e≤v.length
 | 0,next,t,e,hn,h=>by
  simp only [endK,Option.some.injEq] at h
  omega
 | k+1,next,t,e,hn,h=>by
  rw [endK] at h
  split at h
  ·cases h
  ·split at h
   ·cases h
   ·split at h
    ·cases h
    ·rename_i e1 he1
     have h1:=hf _ _ he1
     have h2:=endK_le hf k e1 _ e h1.2 h
     omega
theorem node_text {n:NodeL} (h:nodeI n=true) (h2:n.kind=2):n.many=0:=by
 unfold nodeI at h
 rw [if_pos h2] at h
 simp only [Bool.and_eq_true,decide_eq_true_eq] at h
 exact h.1.1.2
theorem node_kind {n:NodeL} (h:nodeI n=true):n.kind=1∨n.kind=2:=by
 unfold nodeI at h
 split at h
 ·right;assumption
 ·simp only [Bool.and_eq_true,decide_eq_true_eq] at h
  left;exact h.1.1.1.1
theorem endN_le (v:List NodeL):∀(d i e:Nat),endN v d i=some e→i < e∧e≤v.length
 | 0,i,e,h=>by
  rw [endN] at h
  split at h
  ·cases h
  ·rename_i n hn
   split at h
   ·simp only [Option.some.injEq] at h
    have:=(List.getElem?_eq_some_iff.1 hn).1
    omega
   ·cases h
 | d+1,i,e,h=>by
  rw [endN] at h
  split at h
  ·cases h
  ·rename_i n hn
   have hi:=(List.getElem?_eq_some_iff.1 hn).1
   split at h
   ·have:=endK_le (endN_le v d) _ _ _ _ (by omega) h
    omega
   ·cases h
theorem endK_mono {f g:Nat→Option Nat} {v:List NodeL} (hf:∀i e,f i=some e→g i=some e):∀(k next:Nat) (t:Bool) (e:Nat),endK f v k next t=some e→endK g v k next t=some e
 | 0,next,t,e,h=>by simpa [endK] using h
 | k+1,next,t,e,h=>by
  rw [endK] at h ⊢
  split at h
  ·cases h
  ·split at h
   ·cases h
   ·split at h
    ·cases h
    ·rename_i e1 he1
     rw [if_neg (by assumption),hf _ _ he1]
     exact endK_mono hf k e1 _ e h
theorem endN_mono (v:List NodeL):∀(d i e:Nat),endN v d i=some e→endN v (d+1) i=some e
 | 0,i,e,h=>by
  rw [endN] at h
  rw [endN]
  split at h
  ·cases h
  ·split at h
   ·rename_i n hn hc
    rw [if_pos ⟨hc.1,by rw [node_text hc.1 hc.2];exact Int.le_refl _⟩,node_text hc.1 hc.2]
    simpa [endK] using h
   ·cases h
 | d+1,i,e,h=>by
  rw [endN] at h
  rw [endN]
  split at h
  ·cases h
  ·split at h
   ·rename_i n hn hc
    rw [if_pos hc]
    exact endK_mono (endN_mono v d) _ _ _ _ h
   ·cases h
theorem endN_more (v:List NodeL) {d d' i e:Nat} (hd:d≤d') (h:endN v d i=some e):endN v d' i=some e:=by
 obtain⟨k,rfl⟩:=Nat.exists_eq_add_of_le hd
 induction k with
 | zero=>exact h
 | succ k ih=>exact endN_mono v _ _ _ (ih (by omega))
end Go.Proofs.YtnfokaecobddkaaGreatDoor
end
section
namespace Go.Proofs.YtnfokaecobddkaaGreatDoor
def givenB (s:ByteArray):Bool:=(s.toList == [104,116,116,112,58,47,47,119,119,119,46,119,51,46,111,114,103,47,88,77,76,47,49,57,57,56,47,110,97,109,101,115,112,97,99,101]) || (s.toList == [104,116,116,112,58,47,47,119,119,119,46,119,51,46,111,114,103,47,50,48,48,48,47,120,109,108,110,115,47])
def oddA (a:AttrL):Bool:=!nameI a.name || (a.space.toList.isEmpty && (a.name.toList == [120,109,108,110,115])) || (a.space.toList == [104,116,116,112,58,47,47,119,119,119,46,119,51,46,111,114,103,47,50,48,48,48,47,120,109,108,110,115,47])
def oddN (n:NodeL):Bool:=(decide (n.kind=1) && !nameI n.name) || givenB n.space || n.attrs.any oddA
def spaceI (v:List NodeL):Bool:=!v.any oddN && treeI v
def spaceErr (v:List NodeL):Int:=if spaceI v then 0 else 8
end Go.Proofs.YtnfokaecobddkaaGreatDoor
end
section
namespace Go.Proofs.YtnfokaecobddkaaGreatDoor
def kidP (v:List NodeL):Nat→Nat→Nat
 | 0,a=>a
 | j+1,a=>(endN v 12 (kidP v j a)).getD 0
def kidL (v:List NodeL) (m a:Nat):List Nat:=(List.range m).map fun j=>kidP v j a
theorem kidL_succ (v:List NodeL) (m a:Nat):kidL v (m+1) a=kidL v m a++[kidP v m a]:=by simp [kidL,List.range_succ]
theorem kidL_len (v:List NodeL) (m a:Nat):(kidL v m a).length=m:=by simp [kidL]
def manyN (v:List NodeL) (i:Nat):Nat:=match v[i]? with
 | some n=>n.many.toNat
 | none=>0
def kidsI (v:List NodeL) (i:Nat):List Nat:=kidL v (manyN v i) (i+1)
def partI (v:List NodeL) (i:Nat):List NodeL:=(v.drop i).take ((endN v 12 i).getD 0 - i)
theorem endN_inv {v:List NodeL} {d i e:Nat} (h:endN v (d+1) i=some e):∃n,v[i]? = some n∧nodeI n=true∧0≤n.many∧endK (endN v d) v n.many.toNat (i+1) false=some e:=by
 rw [endN] at h
 split at h
 ·cases h
 ·rename_i n hn
  split at h
  ·rename_i h1
   exact⟨n,hn,h1.1,h1.2,h⟩
  ·cases h
theorem endK_inv {f:Nat→Option Nat} {v:List NodeL} {k nx e:Nat} {t:Bool} (h:endK f v (k+1) nx t=some e):∃m x,v[nx]? = some m∧f nx=some x∧endK f v k x (decide (m.kind=2))=some e:=by
 rw [endK] at h
 split at h
 ·cases h
 ·rename_i m hm
  split at h
  ·cases h
  ·split at h
   ·cases h
   ·rename_i x hx
    exact⟨m,x,hm,hx,h⟩
def Chain (v:List NodeL) (d left nx e:Nat):Prop:=∃t,endK (endN v d) v left nx t=some e
theorem Chain.zero {v:List NodeL} {d nx e:Nat} (h:Chain v d 0 nx e):nx=e:=by
 obtain⟨t,h⟩:=h
 simpa [endK] using h
theorem Chain.step {v:List NodeL} {d left nx e:Nat} (h:Chain v d (left+1) nx e) (hd:d≤12):∃x,endN v 12 nx=some x∧nx < x∧nx < v.length∧x≤v.length∧Chain v d left x e:=by
 obtain⟨t,h⟩:=h
 obtain⟨m,x,hm,hx,h⟩:=endK_inv h
 have h1:=endN_le v d nx x hx
 exact⟨x,endN_more v hd hx,h1.1,(List.getElem?_eq_some_iff.1 hm).1,h1.2,_,h⟩
theorem Chain.lt {v:List NodeL} {d left nx e:Nat} (h:Chain v d left nx e) (hn:nx≤v.length):nx+left≤e∧e≤v.length:=by
 obtain⟨t,h⟩:=h
 exact endK_le (endN_le v d) _ _ _ _ hn h
theorem chain_start {v:List NodeL} {i e:Nat} (h:endN v 12 i=some e):Chain v 11 (manyN v i) (i+1) e:=by
 obtain⟨n,hn,_,_,h1⟩:=endN_inv h
 unfold manyN
 rw [hn]
 exact⟨false,h1⟩
theorem kidP_chain {v:List NodeL} {d m a e:Nat} (hd:d≤12) (ha:a≤v.length) (h:Chain v d m a e):∀j,j≤m→Chain v d (m - j) (kidP v j a) e∧kidP v j a≤v.length
 | 0,_=>⟨h,ha⟩
 | j+1,hj=>by
  obtain⟨h1,h2⟩:=kidP_chain hd ha h j (by omega)
  rw [show m - j=(m - (j+1))+1 by omega] at h1
  obtain⟨x,hx,_,_,hx2,hc⟩:=h1.step hd
  rw [kidP,hx]
  exact⟨hc,hx2⟩
theorem kids_lt {v:List NodeL} {i e:Nat} (h:endN v 12 i=some e) {k:Nat} (hk:k∈kidsI v i):k < v.length∧i < k:=by
 have hi:=(endN_le v 12 i e h)
 have hi2:i+1≤v.length:=by omega
 unfold kidsI kidL at hk
 rw [List.mem_map] at hk
 obtain⟨j,hj,rfl⟩:=hk
 rw [List.mem_range] at hj
 have hc:=chain_start h
 obtain⟨h1,_⟩:=kidP_chain (by decide) hi2 hc j (by omega)
 rw [show manyN v i - j=(manyN v i - j - 1)+1 by omega] at h1
 obtain⟨x,_,_,hx2,_⟩:=h1.step (by decide)
 refine⟨hx2,?_⟩
 have key:∀j,j≤manyN v i→i+1≤kidP v j (i+1):=by
  intro j
  induction j with
  | zero=>intro _;exact Nat.le_refl _
  | succ j ih=>
   intro hj
   obtain⟨h1,_⟩:=kidP_chain (by decide) hi2 hc j (by omega)
   rw [show manyN v i - j=(manyN v i - (j+1))+1 by omega] at h1
   obtain⟨x,hx,hlt,_⟩:=h1.step (by decide)
   rw [kidP,hx]
   have:=ih (by omega)
   simp only [Option.getD_some]
   omega
 exact key j (by omega)
theorem ends_in {f:Nat→Option Nat} {v:List NodeL} (hle:∀i e,f i=some e→i < e∧e≤v.length) (hf:∀i e,f i=some e→∀k,i≤k→k < e→∃x,endN v 12 k=some x) :
  ∀(m nx:Nat) (t:Bool) (e:Nat),endK f v m nx t=some e→∀k,nx≤k→k < e→∃x,endN v 12 k=some x
 | 0,nx,t,e,h,k,h1,h2=>by
  simp only [endK,Option.some.injEq] at h
  omega
 | m+1,nx,t,e,h,k,h1,h2=>by
  obtain⟨n,x,hn,hx,h3⟩:=endK_inv h
  rcases Nat.lt_or_ge k x with hk|hk
  ·exact hf nx x hx k h1 hk
  ·exact ends_in hle hf m x _ e h3 k hk h2
theorem ends_all (v:List NodeL):∀(d:Nat),d≤12→∀i e,endN v d i=some e→∀k,i≤k→k < e→∃x,endN v 12 k=some x
 | 0,hd,i,e,h,k,h1,h2=>by
  have h':=endN_more v hd h
  rw [endN] at h
  split at h
  ·cases h
  ·split at h
   ·simp only [Option.some.injEq] at h
    obtain rfl:k=i:=by omega
    exact⟨e,h'⟩
   ·cases h
 | d+1,hd,i,e,h,k,h1,h2=>by
  have h':=endN_more v hd h
  obtain⟨n,hn,_,_,h3⟩:=endN_inv h
  rcases Nat.eq_or_lt_of_le h1 with rfl|h1
  ·exact⟨e,h'⟩
  ·exact ends_in (endN_le v d) (ends_all v d (by omega)) _ _ _ _ h3 k h1 h2
theorem tree_parts {v:List NodeL} (h:treeI v=true):0 < v.length∧v.length≤512∧(∃n,v[0]? = some n∧n.kind=1)∧endN v 12 0=some v.length:=by
 unfold treeI at h
 cases v with
 | nil=>cases h
 | cons n t=>
  simp only [Bool.and_eq_true,decide_eq_true_eq] at h
  exact⟨by simp,h.1.1,⟨n,rfl,h.1.2⟩,h.2⟩
theorem tree_ends {v:List NodeL} (h:treeI v=true) {k:Nat} (hk:k < v.length):∃x,endN v 12 k=some x∧k < x∧x≤v.length:=by
 obtain⟨x,hx⟩:=ends_all v 12 (Nat.le_refl _) 0 _ (tree_parts h).2.2.2 k (Nat.zero_le _) hk
 exact⟨x,hx,endN_le v 12 k x hx⟩
theorem part_len {v:List NodeL} {k e:Nat} (h:endN v 12 k=some e):(partI v k).length=e - k:=by
 have:=endN_le v 12 k e h
 unfold partI
 rw [h,List.length_take,List.length_drop,Option.getD_some]
 omega
theorem part_sz {v:List NodeL} {P:NodeL→Prop} {k:Nat} (h:∀n∈v,P n):∀n∈partI v k,P n:=fun n hn=>h n (List.mem_of_mem_drop (List.mem_of_mem_take hn))
end Go.Proofs.YtnfokaecobddkaaGreatDoor
end
section
namespace Go.Proofs.YtnfokaecobddkaaGreatDoor
def fstP {α:Type} (p:α→Bool):List α→Option Nat
 | []=>none
 | x :: t=>if p x then some 0 else(fstP p t).map (·+1)
theorem fstP_is {α:Type} {p:α→Bool}:∀{l:List α} {i:Nat} {x:α},l[i]? = some x→p x=true→(∀(k:Nat) (y:α),k < i→l[k]? = some y→p y=false)→fstP p l=some i
 | [],i,x,h,_,_=>by simp at h
 | y :: t,i,x,h,hp,hn=>by
  unfold fstP
  cases i with
  | zero=>
   simp only [List.getElem?_cons_zero,Option.some.injEq] at h
   subst h
   rw [if_pos hp]
  | succ i=>
   rw [if_neg (by simp [hn 0 y (by omega) (by simp)]),fstP_is (l:=t) (i:=i) (x:=x) (by simpa using h) hp (fun k z hk hz=>hn (k+1) z (by omega) (by simpa using hz))]
   rfl
theorem fstP_not {α:Type} {p:α→Bool}:∀{l:List α},(∀(k:Nat) (y:α),l[k]? = some y→p y=false)→fstP p l=none
 | [],_=>rfl
 | y :: t,hn=>by
  unfold fstP
  rw [if_neg (by simp [hn 0 y (by simp)]),fstP_not (l:=t) (fun k z hz=>hn (k+1) z (by simpa using hz))]
  rfl
theorem fstP_any {α:Type} (p:α→Bool):∀(l:List α),l.any p=(fstP p l).isSome
 | []=>rfl
 | y :: t=>by
  unfold fstP
  rw [List.any_cons,fstP_any p t]
  cases p y <;> simp
theorem fstP_some {α:Type} {p:α→Bool}:∀{l:List α} {i:Nat},fstP p l=some i→∃x,l[i]? = some x∧p x=true∧∀(k:Nat) (y:α),k < i→l[k]? = some y→p y=false
 | [],i,h=>by cases h
 | y :: t,i,h=>by
  unfold fstP at h
  split at h
  ·simp only [Option.some.injEq] at h
   subst h
   exact⟨y,by simp,by assumption,fun k z hk=>absurd hk (by omega)⟩
  ·rename_i hy
   simp only [Option.map_eq_some_iff] at h
   obtain⟨j,hj,rfl⟩:=h
   obtain⟨x,h1,h2,h3⟩:=fstP_some hj
   refine⟨x,by simpa using h1,h2,fun k z hk hz=>?_⟩
   cases k with
   | zero=>simp at hz;subst hz;simpa using hy
   | succ k=>exact h3 k z (by omega) (by simpa using hz)
def placeI (o:Option Nat):Int:=match o with
 | some i=>i
 | none=>-1
end Go.Proofs.YtnfokaecobddkaaGreatDoor
end
section
namespace Go.Proofs.YtnfokaecobddkaaGreatDoor
open Go.Lib (decodeN)
theorem law1 (n b0 b1 b2 b3:Nat) (h:b0 < 128):decodeN n b0 b1 b2 b3=(b0,1)∧bytesU (b0:Int)=[(b0:Int)]:=by
 refine⟨by unfold decodeN;rw [if_pos h],?_⟩
 unfold bytesU
 rw [if_pos (by omega)]
def b_at (s:ByteArray) (i:Nat):Nat:=(s.get! i).toNat
theorem b_lt (s:ByteArray) (i:Nat):b_at s i < 256:=UInt8.toNat_lt _
theorem nums_at (s:ByteArray) (i:Nat) (h:i < s.size):(numsOf s).getD i 0=(b_at s i:Int):=by
 rw [List.getD_eq_getElem?_getD,numsOf_get s i h]
 show((s[i]'h).toNat:Int)=((s.get! i).toNat:Int)
 congr 2
 simp [ByteArray.get!,ByteArray.getElem_eq_getElem_data,h]
end Go.Proofs.YtnfokaecobddkaaGreatDoor
end
section
namespace Go.Proofs.YtnfokaecobddkaaGreatDoor
def setAll (cs:List UInt8) (s:ByteArray):Bool:=s.data.toList.all (cs.contains ·)
def plainL:List UInt8:=[97,98,99,100,101,102,103,104,105,106,107,108,109,110,111,112,113,114,115,116,117,118,119,120,121,122,48,49,50,51,52,53,54,55,56,57]
def locL:List UInt8:=[97,98,99,100,101,102,103,104,105,106,107,108,109,110,111,112,113,114,115,116,117,118,119,120,121,122,48,49,50,51,52,53,54,55,56,57,46,45,95]
def domL:List UInt8:=[97,98,99,100,101,102,103,104,105,106,107,108,109,110,111,112,113,114,115,116,117,118,119,120,121,122,48,49,50,51,52,53,54,55,56,57,46,45]
def lenOK (s:ByteArray):Bool:=!isEmp s && decide (s.size≤64)
def localI (s:ByteArray):Bool:=lenOK s && setAll locL s
def endsI (s:ByteArray):Bool:=plainL.contains (s.get! 0) && plainL.contains (s.get! (s.size - 1))
def dotsI (s:ByteArray):Bool:=!Lib.contains s.data.toList [46,46]
def domI (s:ByteArray):Bool:=lenOK s && (setAll domL s && endsI s && dotsI s)
def seenI (s:ByteArray):Bool:=s.data.toList.all fun b=>decide (32≤b.toNat)
def resI (s:ByteArray):Bool:=lenOK s && (decide (textErr s=0) && seenI s)
structure JidL where
 loc:ByteArray
 dom:ByteArray
 res:ByteArray
def jidI (j:JidL):Bool:=(isEmp j.loc || localI j.loc) && (isEmp j.res || resI j.res) && domI j.dom
theorem dropWhile_nil {α:Type} {p:α→Bool}:∀{l:List α},l.dropWhile p=[]↔l.all p=true
 | []=>by simp
 | x :: t=>by
  rw [List.dropWhile_cons,List.all_cons]
  cases h:p x
  ·simp
  ·simp only [if_true,Bool.true_and]
   exact dropWhile_nil
theorem all_rev {α:Type} {p:α→Bool} (l:List α):l.reverse.all p=l.all p:=by rw [List.all_reverse]
theorem dropWhile_split {α:Type} (p:α→Bool):∀(l:List α),∃a,l=a++l.dropWhile p∧a.all p=true
 | []=>⟨[],rfl,rfl⟩
 | x :: t=>by
  rw [List.dropWhile_cons]
  cases h:p x
  ·exact⟨[],rfl,rfl⟩
  ·obtain⟨a,h1,h2⟩:=dropWhile_split p t
   exact⟨x :: a,by simp only [if_true,List.cons_append];rw [←h1],by rw [List.all_cons,h,h2];rfl⟩
theorem trimS_nil (l cs:List UInt8):Lib.trimS l cs=[]↔l.all (cs.contains ·)=true:=by
 unfold Lib.trimS Lib.trimLeftS Lib.trimRightS
 rw [dropWhile_nil,all_rev]
 obtain⟨a,h1,h2⟩:=dropWhile_split (cs.contains ·) l.reverse
 constructor
 ·intro h
  rw [←all_rev,h1,List.all_append,h2,h]
  rfl
 ·intro h
  rw [←all_rev,h1,List.all_append,Bool.and_eq_true] at h
  exact h.2
theorem set_at {cs:List UInt8} {s:ByteArray} (h:setAll cs s=true) (i:Nat) (hi:i < s.size):cs.contains (s.get! i)=true:=by
 unfold setAll at h
 rw [List.all_eq_true] at h
 refine h _ ?_
 have hl:i < s.data.toList.length:=hi
 have e:s.get! i=s.data.toList[i]:=by
  show s.data[i]! = _
  rw [getElem!_pos s.data i hi]
  rfl
 rw [e]
 exact List.getElem_mem hl
theorem set_lt {cs:List UInt8} (hcs:∀b∈cs,b.toNat < 128) {s:ByteArray} (h:setAll cs s=true) (i:Nat) (hi:i < s.size):b_at s i < 128:=by
 have h1:=set_at h i hi
 rw [List.contains_iff_mem] at h1
 exact hcs _ h1
theorem dec_ascii (s:ByteArray) (i:Nat) (hi:i < s.size) (h:b_at s i < 128):Utf8.decode s i=(b_at s i,1):=by
 rw [Lib.decode_at s i]
 exact(law1 _ _ _ _ _ h).1
end Go.Proofs.YtnfokaecobddkaaGreatDoor
end
section
namespace Go.Proofs.YtnfokaecobddkaaGreatDoor
theorem seen_at (s:ByteArray):seenI s=true↔∀i,i < s.size→32≤b_at s i:=by
 have hg:∀i (h:i < s.data.toList.length),s.get! i=s.data.toList[i]:=fun i h=>by
  show s.data[i]! = _
  rw [getElem!_pos s.data i h]
  rfl
 unfold seenI b_at
 rw [List.all_eq_true]
 constructor
 ·intro h i hi
  have hl:i < s.data.toList.length:=hi
  rw [hg i hl]
  exact of_decide_eq_true (h _ (List.getElem_mem hl))
 ·intro h b hb
  obtain⟨i,hi,rfl⟩:=List.mem_iff_getElem.1 hb
  have:=h i hi
  rw [hg i hi] at this
  exact decide_eq_true this
theorem dec_seen (s:ByteArray) (i:Nat):((Utf8.decode s i).1 < 32→(Utf8.decode s i).1=b_at s i)∧(32≤(Utf8.decode s i).1→∀k,i≤k→k < i+(Utf8.decode s i).2→32≤b_at s k):=by
 rw [Lib.decode_at s i]
 generalize s.size - i=n
 obtain⟨b0,e0⟩:∃b0,b0=b_at s i:=⟨_,rfl⟩
 obtain⟨b1,e1⟩:∃b1,b1=b_at s (i+1):=⟨_,rfl⟩
 obtain⟨b2,e2⟩:∃b2,b2=b_at s (i+2):=⟨_,rfl⟩
 obtain⟨b3,e3⟩:∃b3,b3=b_at s (i+3):=⟨_,rfl⟩
 have h0:b0 < 256:=by rw [e0];exact b_lt s i
 rw [show(s.get! i).toNat=b0 from e0.symm,show(s.get! (i+1)).toNat=b1 from e1.symm,show(s.get! (i+2)).toNat=b2 from e2.symm,show(s.get! (i+3)).toNat=b3 from e3.symm,←e0]
 by_cases hlt:b0 < 128
 ·rw [(law1 n b0 b1 b2 b3 hlt).1]
  refine⟨fun _=>rfl,fun h1 k hk1 hk2=>?_⟩
  dsimp only at h1 hk2
  obtain rfl:k=i:=by omega
  omega
 ·rcases Lib.decodeN_shape n b0 b1 b2 b3 with ⟨h,e⟩|⟨_,h,k1,k2,e⟩|⟨_,h,k1,k2,k3,k4,e⟩|⟨_,h,k1,k2,k3,k4,k5,e⟩|e
  all_goals
   rw [e]
   dsimp only
   refine⟨fun h1=>by omega,fun h1 k hk1 hk2=>?_⟩
  ·omega
  ·have:k=i∨k=i+1:=by omega
   rcases this with rfl|rfl <;> omega
  ·have:k=i∨k=i+1∨k=i+2:=by omega
   rcases this with rfl|rfl|rfl <;> omega
  ·have:k=i∨k=i+1∨k=i+2∨k=i+3:=by omega
   rcases this with rfl|rfl|rfl|rfl <;> omega
  ·obtain rfl:k=i:=by omega
   omega
theorem seen_from (s:ByteArray):∀(f pos:Nat),s.size≤pos+f→(0≤Lib.idxFuncFrom (fun r=>decide (r < 32)) true s f pos↔∃i,pos≤i∧i < s.size∧b_at s i < 32)
 | 0,pos,h=>by
  simp only [Lib.idxFuncFrom]
  constructor
  ·intro h;omega
  ·rintro ⟨i,h1,h2,_⟩;omega
 | f+1,pos,h=>by
  unfold Lib.idxFuncFrom
  have hd:=Lib.width_pos s pos
  obtain⟨h1,h2⟩:=dec_seen s pos
  by_cases hp:pos < s.size
  ·rw [if_pos hp]
   by_cases hr:(Utf8.decode s pos).1 < 32
   ·rw [if_pos (by simpa using hr)]
    have:=h1 hr
    constructor
    ·intro _;exact⟨pos,Nat.le_refl _,hp,by omega⟩
    ·intro _;omega
   ·rw [if_neg (by simpa using hr),seen_from s f _ (by omega)]
    constructor
    ·rintro ⟨i,a,b,c⟩;exact⟨i,by omega,b,c⟩
    ·rintro ⟨i,a,b,c⟩
     refine⟨i,?_,b,c⟩
     rcases Nat.lt_or_ge i (pos+(Utf8.decode s pos).2) with h3|h3
     ·have:=h2 (by omega) i a h3
      omega
     ·exact h3
  ·rw [if_neg hp]
   constructor
   ·intro h;omega
   ·rintro ⟨i,a,b,_⟩;omega
theorem seen_law (s:ByteArray):decide (0≤Lib.idxFunc (fun r=>decide (r < 32)) true s)=!seenI s:=by
 unfold Lib.idxFunc
 have h:=seen_from s s.size 0 (by omega)
 cases hs:seenI s with
 | true=>
  rw [seen_at] at hs
  rw [Bool.not_true,decide_eq_false_iff_not,h]
  rintro ⟨i,_,h2,h3⟩
  have:=hs i h2
  omega
 | false=>
  rw [Bool.not_false,decide_eq_true_eq,h]
  refine Classical.byContradiction fun hn=>?_
  have:seenI s=true:=(seen_at s).2 fun i hi=>by
   rcases Nat.lt_or_ge (b_at s i) 32 with h1|h1
   ·exact absurd ⟨i,Nat.zero_le _,hi,h1⟩ hn
   ·exact h1
  rw [hs] at this
  cases this
end Go.Proofs.YtnfokaecobddkaaGreatDoor
end
