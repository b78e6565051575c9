/- Part 17 of a proof laid in parts, one behind the other; no condition of its own. -/
import Derived.Test.YtnmnpnofdgdigaaGreatDoorZ16
import Derived.Test.YtnmnpnofdgdigaaGreatDoorZ12
import Derived.Test.YtnmnpnofdgdigaaGreatDoorZ05
import Derived.Test.YtnmnpnofdgdigaaGreatDoorZ08
import Derived.WalkMore
import Derived.Test.YtnmnpnofdgdigaaGreatDoorZ11
import Derived.Laws.StructEq
import Derived.WalkLawsBesides
import Derived.Test.YtnmnpnofdgdigaaGreatDoorZ03
import Derived.Test.YtnmnpnofdgdigaaGreatDoorZ04
import Derived.Test.YtnmnpnofdgdigaaGreatDoorZ15
import Derived.Laws.CopyOwn
set_option linter.all false
section
namespace Go.Proofs.YtnmnpnofdgdigaaGreatDoor
structure ItemL where
 jid:ByteArray
 name:ByteArray
 groups:List ByteArray
 to:Bool
 out:Bool
 frm:Bool
 inn:Bool
 known:Bool
def contactI (s:ByteArray):Bool:=(parseI s).isSome && eqS (textJ (parsedJ s)) s && isEmp (parsedJ s).res
def withinI (s:ByteArray) (lo hi:Nat):Bool:=decide (lo≤s.size) && decide (s.size≤hi) && decide (textErr s=0)
def groupOK (l:List ByteArray) (i:Nat) (g:ByteArray):Bool:=withinI g 1 32 && !(l.take i).any (eqS g)
def groupsT (l:List ByteArray) (k:Nat):Bool:=(List.range k).all fun i=>match l[i]? with
 | some g=>groupOK l i g
 | none=>true
theorem groupsT_succ (l:List ByteArray) (k:Nat) (g:ByteArray) (h:l[k]? = some g):groupsT l (k+1)=(groupsT l k && groupOK l k g):=by
 unfold groupsT
 rw [List.range_succ,List.all_append]
 simp [h]
theorem groupsT_no (l:List ByteArray) (k n:Nat) (h:k≤n) (h1:groupsT l k=false):groupsT l n=false:=by
 unfold groupsT at h1 ⊢
 rw [List.all_eq_false] at h1 ⊢
 obtain⟨x,hx,hy⟩:=h1
 exact⟨x,List.mem_range.2 (Nat.lt_of_lt_of_le (List.mem_range.1 hx) h),hy⟩
theorem groupsT_get {l:List ByteArray} {n:Nat} (h:groupsT l n=true) {i:Nat} (hi:i < n) {g:ByteArray} (hg:l[i]? = some g):groupOK l i g=true:=by
 unfold groupsT at h
 have:=List.all_eq_true.1 h i (List.mem_range.2 hi)
 rw [hg] at this
 exact this
def wordsR (name:ByteArray) (l:List ByteArray):Bool:=groupsT l l.length && (withinI name 0 64 && decide (l.length≤4))
def subI (x:ItemL):Bool:=!(x.to && x.out) && !(x.frm && x.inn)
def strangeI (x:ItemL):Bool:=isEmp x.name && decide (x.groups.length=0) && (!x.to && !x.out && !x.frm && x.inn)
def itemI (x:ItemL):Bool:=contactI x.jid && wordsR x.name x.groups && subI x && (x.known || strangeI x)
def lessB (a b:ByteArray):Bool:=Op.bytesLess a.toList b.toList
def lessJ (a b:JidL):Bool:=if eqS a.dom b.dom then(if eqS a.loc b.loc then lessB a.res b.res else lessB a.loc b.loc) else lessB a.dom b.dom
theorem less_irr:∀l:List UInt8,Op.bytesLess l l=false
 | []=>rfl
 | a :: l=>by
  unfold Op.bytesLess
  simp [less_irr l]
theorem less_tri:∀(a b:List UInt8),Op.bytesLess a b=false→Op.bytesLess b a=false→a=b
 | [],[],_,_=>rfl
 | [],b :: y,h,_=>by simp [Op.bytesLess] at h
 | a :: x,[],_,h=>by simp [Op.bytesLess] at h
 | a :: x,b :: y,h1,h2=>by
  unfold Op.bytesLess at h1 h2
  simp only [Bool.or_eq_false_iff,decide_eq_false_iff_not,Bool.and_eq_false_iff] at h1 h2
  have e:a=b:=by
   have h3:=h1.1
   have h4:=h2.1
   rw [UInt8.lt_iff_toNat_lt] at h3 h4
   rw [←UInt8.toNat_inj]
   omega
  subst e
  have h5:Op.bytesLess x y=false:=by simpa using h1.2
  have h6:Op.bytesLess y x=false:=by simpa using h2.2
  rw [less_tri x y h5 h6]
def rowOK (l:List ItemL) (i:Nat) (x:ItemL):Bool:=itemI x && (decide (i=0) || match l[i - 1]? with
 | some y=>lessJ (parsedJ y.jid) (parsedJ x.jid)
 | none=>true)
def rosT (l:List ItemL) (k:Nat):Bool:=(List.range k).all fun i=>match l[i]? with
 | some x=>rowOK l i x
 | none=>true
theorem rosT_succ (l:List ItemL) (k:Nat) (x:ItemL) (h:l[k]? = some x):rosT l (k+1)=(rosT l k && rowOK l k x):=by
 unfold rosT
 rw [List.range_succ,List.all_append]
 simp [h]
theorem rosT_no (l:List ItemL) (k n:Nat) (h:k≤n) (h1:rosT l k=false):rosT l n=false:=by
 unfold rosT at h1 ⊢
 rw [List.all_eq_false] at h1 ⊢
 obtain⟨x,hx,hy⟩:=h1
 exact⟨x,List.mem_range.2 (Nat.lt_of_lt_of_le (List.mem_range.1 hx) h),hy⟩
def rosI (l:List ItemL):Bool:=rosT l l.length && decide (l.length≤16)
theorem rosI_item {l:List ItemL} (h:rosI l=true):l.length≤16∧∀x∈l,itemI x=true:=by
 unfold rosI at h
 rw [Bool.and_eq_true,decide_eq_true_eq] at h
 refine⟨h.2,fun x hx=>?_⟩
 obtain⟨i,hi,rfl⟩:=List.mem_iff_getElem.1 hx
 have:=List.all_eq_true.1 h.1 i (List.mem_range.2 hi)
 rw [List.getElem?_eq_getElem hi] at this
 simp only [rowOK,Bool.and_eq_true] at this
 exact this.1
def rosN:ByteArray:=(⟨#[106,97,98,98,101,114,58,105,113,58,114,111,115,116,101,114]⟩:ByteArray)
def wordSub (x:ItemL):ByteArray:=if x.to && x.frm then(⟨#[98,111,116,104]⟩:ByteArray) else if x.to then(⟨#[116,111]⟩:ByteArray) else if x.frm then(⟨#[102,114,111,109]⟩:ByteArray) else(⟨#[110,111,110,101]⟩:ByteArray)
def textN (g:ByteArray):NodeL:=⟨2,emB,emB,[],g,0⟩
def groupN (k:Int):NodeL:=⟨1,rosN,(⟨#[103,114,111,117,112]⟩:ByteArray),[],emB,k⟩
def gtree (g:ByteArray):List NodeL:=[groupN 1,textN g]
def asksB (x:ItemL):ByteArray:=if x.out then(⟨#[115,117,98,115,99,114,105,98,101]⟩:ByteArray) else emB
def attrsIt (x:ItemL):List AttrL:=withA (withA (withA (withA [] (⟨#[106,105,100]⟩:ByteArray) x.jid) (⟨#[110,97,109,101]⟩:ByteArray) x.name) (⟨#[115,117,98,115,99,114,105,112,116,105,111,110]⟩:ByteArray) (wordSub x)) (⟨#[97,115,107]⟩:ByteArray) (asksB x)
def attrsGo (x:ItemL):List AttrL:=withA (withA (withA [] (⟨#[106,105,100]⟩:ByteArray) x.jid) (⟨#[110,97,109,101]⟩:ByteArray) x.name) (⟨#[115,117,98,115,99,114,105,112,116,105,111,110]⟩:ByteArray) (⟨#[114,101,109,111,118,101]⟩:ByteArray)
def itemN (x:ItemL):NodeL:=⟨1,rosN,(⟨#[105,116,101,109]⟩:ByteArray),attrsIt x,emB,0⟩
def itemT (gone:Bool) (x:ItemL):List NodeL:=if gone then [⟨1,rosN,(⟨#[105,116,101,109]⟩:ByteArray),attrsGo x,emB,0⟩] else joinV (itemN x) (x.groups.map gtree)
def queryN (ver:Int):NodeL:=⟨1,rosN,(⟨#[113,117,101,114,121]⟩:ByteArray),[⟨emB,(⟨#[118,101,114]⟩:ByteArray),digS ver.toNat⟩],emB,0⟩
def queryV (l:List ItemL) (gone:Bool) (ver:Int):List NodeL:=joinV (queryN ver) (l.map (itemT gone))
def rosE (l:List ItemL) (gone:Bool) (ver:Int):Int:=if decide (0≤ver∧ver≤9007199254740991) && rosI l && !(gone && !decide (l.length=1)) then 0 else 2
def rosV (l:List ItemL) (gone:Bool) (ver:Int):List NodeL:=if rosE l gone ver=0 then queryV l gone ver else []
theorem endK_in {f g:Nat→Option Nat} {v u:List NodeL} {k:Nat} (hu:∀i,i < u.length→v[k+i]? = u[i]?) (hf:∀i e,g i=some e→f (k+i)=some (k+e)) :
  ∀(n i:Nat) (t:Bool) (e:Nat),endK g u n i t=some e→endK f v n (k+i) t=some (k+e)
 | 0,i,t,e,h=>by
  simp only [endK,Option.some.injEq] at h ⊢
  omega
 | n+1,i,t,e,h=>by
  rw [endK] at h
  split at h
  ·cases h
  ·rename_i x hx
   split at h
   ·cases h
   ·rename_i hc
    split at h
    ·cases h
    ·rename_i e1 he1
     rw [endK,hu i (List.getElem?_eq_some_iff.1 hx).1,hx]
     simp only
     rw [if_neg hc,hf i e1 he1]
     exact endK_in hu hf n e1 _ e h
theorem endN_in {v u:List NodeL} {k:Nat} (hu:∀i,i < u.length→v[k+i]? = u[i]?):∀(d i e:Nat),endN u d i=some e→endN v d (k+i)=some (k+e)
 | 0,i,e,h=>by
  rw [endN] at h ⊢
  cases hx:u[i]? with
  | none=>rw [hx] at h;cases h
  | some n=>
   rw [hu i (List.getElem?_eq_some_iff.1 hx).1,hx]
   rw [hx] at h
   simp only at h ⊢
   by_cases hc:nodeI n=true∧n.kind=2
   ·rw [if_pos hc] at h ⊢
    simp only [Option.some.injEq] at h ⊢
    omega
   ·rw [if_neg hc] at h;cases h
 | d+1,i,e,h=>by
  rw [endN] at h ⊢
  cases hx:u[i]? with
  | none=>rw [hx] at h;cases h
  | some n=>
   rw [hu i (List.getElem?_eq_some_iff.1 hx).1,hx]
   rw [hx] at h
   simp only at h ⊢
   by_cases hc:nodeI n=true∧0≤n.many
   ·rw [if_pos hc] at h ⊢
    rw [Nat.add_assoc]
    exact endK_in hu (endN_in hu d) _ (i+1) false e h
   ·rw [if_neg hc] at h;cases h
def Tre (d:Nat) (x:List NodeL):Prop:=endN x d 0=some x.length∧∃n r,x=n :: r∧n.kind=1
theorem endK_join {v:List NodeL} {d:Nat}:∀(l:List (List NodeL)) (pre:List NodeL),v=pre++l.flatten→(∀x∈l,Tre d x)→∀t,endK (endN v d) v l.length pre.length t=some (pre.length+l.flatten.length)
 | [],pre,hv,_,t=>by simp [endK]
 | x :: l,pre,hv,hl,t=>by
  obtain⟨h1,n,r,rfl,hk⟩:=hl x (by simp)
  have hv2:v=(pre++(n :: r))++l.flatten:=by rw [hv,List.flatten_cons,List.append_assoc]
  have hu:∀i,i < (n :: r).length→v[pre.length+i]? = (n :: r)[i]?:=fun i hi=>by
   rw [hv,List.flatten_cons,List.getElem?_append_right (by omega),Nat.add_sub_cancel_left,List.getElem?_append_left hi]
  have e0:=endN_in hu d 0 _ h1
  rw [Nat.add_zero] at e0
  have hn:v[pre.length]? = some n:=by
   have:=hu 0 (by simp)
   rw [Nat.add_zero] at this
   rw [this];rfl
  have hc:¬(t && decide (n.kind=2))=true:=by
   rw [hk]
   cases t <;> decide
  rw [List.length_cons,endK,hn]
  simp only
  rw [if_neg hc,e0]
  simp only
  have ih:=endK_join l (pre++(n :: r)) hv2 (fun y hy=>hl y (by simp [hy])) (decide (n.kind=2))
  rw [List.length_append] at ih
  rw [ih,List.flatten_cons,List.length_append,Nat.add_assoc]
theorem node_many {n:NodeL} (hk:n.kind=1) (k:Int):nodeI (manyM n k)=nodeI n:=by
 unfold nodeI manyM
 simp [hk]
theorem join_tre {n:NodeL} {l:List (List NodeL)} {d:Nat} (hn:nodeI n=true) (hk:n.kind=1) (hl:∀x∈l,Tre d x):Tre (d+1) (joinV n l):=by
 refine⟨?_,manyM n l.length,l.flatten,rfl,hk⟩
 rw [endN]
 show(match (some (manyM n l.length):Option NodeL) with|none=>none|some m=>if nodeI m=true∧0≤m.many then endK (endN (joinV n l) d) (joinV n l) m.many.toNat (0+1) false else none)=_
 simp only
 rw [if_pos ⟨by rw [node_many hk];exact hn,by show(0:Int)≤(l.length:Int);omega⟩]
 have h:=endK_join (v:=joinV n l) (d:=d) l [manyM n l.length] rfl hl false
 rw [joinV_len]
 exact h
theorem tre_tree {d:Nat} {x:List NodeL} (h:Tre d x) (hd:d≤12) (hl:x.length≤512):treeI x=true:=by
 obtain⟨h1,n,r,rfl,hk⟩:=h
 exact treeI_yes (n:=n) hl rfl hk (endN_more _ hd h1)
theorem flat_len_le {l:List (List NodeL)} {x:List NodeL} (h:x∈l):x.length≤l.flatten.length:=by
 induction l with
 | nil=>cases h
 | cons y l ih=>
  rw [List.flatten_cons,List.length_append]
  rcases List.mem_cons.1 h with rfl|h
  ·omega
  ·have:=ih h;omega
theorem put_ok {n:NodeL} {l:List (List NodeL)} {d:Nat} (hn:nodeI n=true) (hk:n.kind=1) (hl:∀x∈l,Tre d x) (hlen:(joinV n l).length≤512) (hd:d≤11):putE n l=0∧putV n l=joinV n l:=by
 have h0:treeI [manyM n 0]=true:=one_tree (n:=manyM n 0) (by rw [node_many hk];exact hn) hk rfl
 have h1:l.any (fun v=>!partOK v)=false:=by
  rw [List.any_eq_false]
  intro x hx
  have hx5:x.length≤512:=by
   have:=flat_len_le hx
   rw [joinV_len] at hlen
   omega
  have:treeI x=true:=tre_tree (hl x hx) (by omega) hx5
  simp [partOK,this]
 have ht:treeI (joinV n l)=true:=tre_tree (join_tre hn hk hl) (by omega) hlen
 have h3:putE n l=0:=by rw [putE_3 h0 h1 (by omega),ht];rfl
 exact⟨h3,by unfold putV;rw [if_pos h3]⟩
end Go.Proofs.YtnmnpnofdgdigaaGreatDoor
end
section
namespace Go.Proofs.YtnmnpnofdgdigaaGreatDoor
theorem ascii_dec (s:ByteArray) (i:Nat) (h:(s.get! i).toNat < 128):Utf8.decode s i=((s.get! i).toNat,1):=by
 rw [Lib.decode_at]
 unfold Lib.decodeN
 rw [if_pos h]
def seenB (b:UInt8):Bool:=decide (32≤b.toNat∧b.toNat < 127)
theorem ascii_at {s:ByteArray} (h:s.data.toList.all seenB=true) {i:Nat} (hi:i < s.size):32≤(s.get! i).toNat∧(s.get! i).toNat < 127:=by
 have hl:i < s.data.toList.length:=hi
 have h1:=List.all_eq_true.1 h _ (List.getElem_mem hl)
 unfold seenB at h1
 rw [decide_eq_true_eq] at h1
 have e:s.get! i=s.data.toList[i]:=by
  simp [ByteArray.get!,hi]
 rw [e]
 exact h1
theorem ascii_text {s:ByteArray} (h:s.data.toList.all seenB=true):textOK s=true:=by
 have key:∀d i,s.size≤i+d→textAt s i=true:=by
  intro d
  induction d with
  | zero=>intro i hi;exact textAt_end s i (by omega)
  | succ d ih=>
   intro i hi
   rcases Nat.lt_or_ge i s.size with h1|h1
   ·obtain⟨h2,h3⟩:=ascii_at h h1
    have hd:=ascii_dec s i (by omega)
    rw [textAt_step s i h1,hd]
    dsimp only
    rw [ih (i+1) (by omega),Bool.and_true]
    unfold okAt mayP
    rw [hd]
    dsimp only
    rw [if_neg (by omega)]
    simp only [Bool.and_eq_true,decide_eq_true_eq,Bool.not_eq_true',decide_eq_false_iff_not]
    omega
   ·exact textAt_end s i h1
 rw [←textAt_zero]
 exact key s.size 0 (by omega)
theorem ascii_err {s:ByteArray} (h:s.data.toList.all seenB=true) (hs:s.size≤16384):textErr s=0:=by
 unfold textErr
 rw [if_neg (by omega),ascii_text h]
 rfl
theorem set_seen {cs:List UInt8} {s:ByteArray} (h:setAll cs s=true) (hc:cs.all seenB=true):s.data.toList.all seenB=true:=by
 rw [List.all_eq_true]
 intro b hb
 have h1:=List.all_eq_true.1 h b hb
 rw [List.contains_iff_mem] at h1
 exact List.all_eq_true.1 hc b h1
theorem app_seen {a b:ByteArray} (ha:a.data.toList.all seenB=true) (hb:b.data.toList.all seenB=true):(a++b).data.toList.all seenB=true:=by
 rw [data_app,List.all_append,ha,hb];rfl
theorem eqS_eq {a b:ByteArray} (h:eqS a b=true):a=b:=by
 unfold eqS at h
 have h:=eq_of_beq h
 rw [Lib.toList_data,Lib.toList_data] at h
 exact ba_ext h
theorem contact_text {s:ByteArray} (h:contactI s=true):textErr s=0∧isEmp s=false:=by
 unfold contactI at h
 simp only [Bool.and_eq_true] at h
 obtain⟨⟨h1,h2⟩,h3⟩:=h
 have hj:=parse_jid s
 rw [h1] at hj
 have hs:=eqS_eq h2
 unfold jidI at hj
 simp only [Bool.and_eq_true,Bool.or_eq_true] at hj
 obtain⟨⟨hl,-⟩,hd⟩:=hj
 unfold domI at hd
 simp only [Bool.and_eq_true] at hd
 have hdl:=hd.1
 have hds:=set_seen hd.2.1.1 (by decide)
 unfold lenOK at hdl
 simp only [Bool.and_eq_true,Bool.not_eq_true',decide_eq_true_eq] at hdl
 have hdn:0 < (parsedJ s).dom.size:=by
  have:=hdl.1
  unfold isEmp at this
  rw [decide_eq_false_iff_not] at this
  omega
 have ht:textJ (parsedJ s)=if isEmp (parsedJ s).loc then(parsedJ s).dom else(parsedJ s).loc++(⟨#[64]⟩:ByteArray)++(parsedJ s).dom:=by
  unfold textJ
  rw [h3,if_pos rfl,app_em]
 have key:s.data.toList.all seenB=true∧s.size≤129∧0 < s.size:=by
  rw [←hs,ht]
  cases he:isEmp (parsedJ s).loc
  ·have hl':localI (parsedJ s).loc=true:=by
    rcases hl with h|h
    ·rw [he] at h;cases h
    ·exact h
   unfold localI lenOK at hl'
   simp only [Bool.and_eq_true,Bool.not_eq_true',decide_eq_true_eq] at hl'
   rw [if_neg (by decide)]
   refine⟨app_seen (app_seen (set_seen hl'.2 (by decide)) (by decide)) hds,?_,?_⟩
   ·rw [app_size,app_size]
    have:((⟨#[64]⟩:ByteArray):ByteArray).size=1:=rfl
    omega
   ·rw [app_size];omega
  ·rw [if_pos rfl]
   exact⟨hds,by omega,hdn⟩
 refine⟨ascii_err key.1 (by omega),?_⟩
 unfold isEmp
 rw [decide_eq_false_iff_not]
 omega
theorem digF_seen2:∀(f n:Nat),∀x∈digF f n,48≤x∧x < 58
 | 0,n=>fun x hx=>by
  unfold digF at hx
  rw [List.mem_singleton.1 hx]
  omega
 | f+1,n=>fun x hx=>by
  unfold digF at hx
  split at hx
  ·rw [List.mem_singleton.1 hx]
   omega
  ·rcases List.mem_append.1 hx with h|h
   ·exact digF_seen2 f _ x h
   ·rw [List.mem_singleton.1 h]
    omega
theorem digF_len2:∀(f n:Nat),(digF f n).length≤f+1
 | 0,n=>by unfold digF;simp
 | f+1,n=>by
  unfold digF
  split
  ·simp
  ·have:=digF_len2 f (n / 10)
   rw [List.length_append]
   simp only [List.length_cons,List.length_nil]
   omega
theorem digS_text (n:Nat):textErr (digS n)=0:=by
 unfold digS
 have hl:(strOfNums (digF 19 n)).size=(digF 19 n).length:=by
  show(strOfNums (digF 19 n)).data.toList.length=_
  rw [strOfNums_data,List.length_map]
 refine ascii_err ?_ (by have:=digF_len2 19 n;omega)
 rw [strOfNums_data,List.all_eq_true]
 intro b hb
 obtain⟨x,hx,rfl⟩:=List.mem_map.1 hb
 obtain⟨h1,h2⟩:=digF_seen2 19 n x hx
 unfold seenB
 rw [decide_eq_true_eq]
 have:(UInt8.ofNat x.toNat).toNat=x.toNat:=by
  rw [UInt8.toNat_ofNat']
  omega
 omega
theorem attrs_ok {l:List AttrL} (h1:l.length≤16) (h2:∀a∈l,a.space=emB∧fullI a.name=true∧textErr a.value=0) (h3:(l.map fun a=>a.name.toList).Nodup):attrsI l=true:=by
 unfold attrsI attrsT
 rw [Bool.and_eq_true,decide_eq_true_eq,List.all_eq_true]
 refine⟨fun i hi=>?_,h1⟩
 have hi:=List.mem_range.1 hi
 rw [List.getElem?_eq_getElem hi]
 obtain⟨q1,q2,q3⟩:=h2 _ (List.getElem_mem hi)
 show goodA l i l[i]=true
 unfold goodA sndA
 have he:textErr emB=0:=by decide +kernel
 rw [q1,q2,q3,he]
 have hd:(l.take i).any (dupA l[i])=false:=by
  rw [List.any_eq_false]
  intro b hb
  obtain⟨j,hj,rfl⟩:=List.mem_iff_getElem.1 hb
  rw [List.length_take] at hj
  rw [List.getElem_take]
  intro hdup
  unfold dupA at hdup
  rw [Bool.and_eq_true] at hdup
  have h5:l[i].name.toList=l[j].name.toList:=eq_of_beq hdup.2
  have h6:=(List.pairwise_iff_getElem.1 h3) j i (by rw [List.length_map];omega) (by rw [List.length_map];omega) (by omega)
  rw [List.getElem_map,List.getElem_map] at h6
  exact h6 h5.symm
 rw [hd]
 rfl
def fineL (l:List (ByteArray×ByteArray)):List AttrL:=l.map fun p=>⟨emB,p.1,p.2⟩
theorem fine_ok {l:List (ByteArray×ByteArray)} (ns:List ByteArray) (hn:l.map (·.1)=ns) (h:ns.length≤16∧ns.all fullI=true∧(ns.map (·.toList)).Nodup) (h3:∀p∈l,textErr p.2=0):attrsI (fineL l)=true:=by
 obtain⟨h1,h2,h4⟩:=h
 subst hn
 refine attrs_ok (by unfold fineL;rw [List.length_map];rw [List.length_map] at h1;exact h1) (fun a ha=>?_) (by unfold fineL;rw [List.map_map];rw [List.map_map] at h4;exact h4)
 obtain⟨p,hp,rfl⟩:=List.mem_map.1 ha
 exact⟨rfl,List.all_eq_true.1 h2 p.1 (List.mem_map.2 ⟨p,hp,rfl⟩),h3 p hp⟩
theorem attrs_it {x:ItemL} (h:itemI x=true):attrsI (attrsIt x)=true:=by
 unfold itemI wordsR withinI at h
 simp only [Bool.and_eq_true,decide_eq_true_eq] at h
 obtain⟨⟨⟨hc,-,⟨-,hn⟩,-⟩,-⟩,-⟩:=h
 obtain⟨hj,hje⟩:=contact_text hc
 have hw:textErr (wordSub x)=0∧isEmp (wordSub x)=false:=by
  unfold wordSub
  split
  ·decide +kernel
  ·split
   ·decide +kernel
   ·split <;> decide +kernel
 have hs:textErr (⟨#[115,117,98,115,99,114,105,98,101]⟩:ByteArray)=0:=by decide +kernel
 have hse:isEmp (⟨#[115,117,98,115,99,114,105,98,101]⟩:ByteArray)=false:=by decide +kernel
 have hem:isEmp emB=true:=by decide +kernel
 have e1:withA [] (⟨#[106,105,100]⟩:ByteArray) x.jid=[⟨emB,(⟨#[106,105,100]⟩:ByteArray),x.jid⟩]:=by unfold withA;rw [hje];rfl
 unfold attrsIt asksB
 rw [e1]
 cases hne:isEmp x.name <;> cases ho:x.out
 all_goals
  unfold withA
  rw [hw.2]
  simp only [hne,hse,hem,if_true,if_false,Bool.false_eq_true,List.cons_append,List.nil_append]
 ·refine fine_ok (l:=[((⟨#[106,105,100]⟩:ByteArray),x.jid),((⟨#[110,97,109,101]⟩:ByteArray),x.name),((⟨#[115,117,98,115,99,114,105,112,116,105,111,110]⟩:ByteArray),wordSub x)]) [(⟨#[106,105,100]⟩:ByteArray),(⟨#[110,97,109,101]⟩:ByteArray),(⟨#[115,117,98,115,99,114,105,112,116,105,111,110]⟩:ByteArray)] rfl (by decide +kernel) (fun p hp=>?_)
  simp only [List.mem_cons,List.not_mem_nil,or_false] at hp
  rcases hp with rfl|rfl|rfl
  ·exact hj
  ·exact hn
  ·exact hw.1
 ·refine fine_ok (l:=[((⟨#[106,105,100]⟩:ByteArray),x.jid),((⟨#[110,97,109,101]⟩:ByteArray),x.name),((⟨#[115,117,98,115,99,114,105,112,116,105,111,110]⟩:ByteArray),wordSub x),((⟨#[97,115,107]⟩:ByteArray),(⟨#[115,117,98,115,99,114,105,98,101]⟩:ByteArray))]) [(⟨#[106,105,100]⟩:ByteArray),(⟨#[110,97,109,101]⟩:ByteArray),(⟨#[115,117,98,115,99,114,105,112,116,105,111,110]⟩:ByteArray),(⟨#[97,115,107]⟩:ByteArray)] rfl (by decide +kernel) (fun p hp=>?_)
  simp only [List.mem_cons,List.not_mem_nil,or_false] at hp
  rcases hp with rfl|rfl|rfl|rfl
  ·exact hj
  ·exact hn
  ·exact hw.1
  ·exact hs
 ·refine fine_ok (l:=[((⟨#[106,105,100]⟩:ByteArray),x.jid),((⟨#[115,117,98,115,99,114,105,112,116,105,111,110]⟩:ByteArray),wordSub x)]) [(⟨#[106,105,100]⟩:ByteArray),(⟨#[115,117,98,115,99,114,105,112,116,105,111,110]⟩:ByteArray)] rfl (by decide +kernel) (fun p hp=>?_)
  simp only [List.mem_cons,List.not_mem_nil,or_false] at hp
  rcases hp with rfl|rfl
  ·exact hj
  ·exact hw.1
 ·refine fine_ok (l:=[((⟨#[106,105,100]⟩:ByteArray),x.jid),((⟨#[115,117,98,115,99,114,105,112,116,105,111,110]⟩:ByteArray),wordSub x),((⟨#[97,115,107]⟩:ByteArray),(⟨#[115,117,98,115,99,114,105,98,101]⟩:ByteArray))]) [(⟨#[106,105,100]⟩:ByteArray),(⟨#[115,117,98,115,99,114,105,112,116,105,111,110]⟩:ByteArray),(⟨#[97,115,107]⟩:ByteArray)] rfl (by decide +kernel) (fun p hp=>?_)
  simp only [List.mem_cons,List.not_mem_nil,or_false] at hp
  rcases hp with rfl|rfl|rfl
  ·exact hj
  ·exact hw.1
  ·exact hs
theorem attrs_go {x:ItemL} (h:itemI x=true):attrsI (attrsGo x)=true:=by
 unfold itemI wordsR withinI at h
 simp only [Bool.and_eq_true,decide_eq_true_eq] at h
 obtain⟨⟨⟨hc,-,⟨-,hn⟩,-⟩,-⟩,-⟩:=h
 obtain⟨hj,hje⟩:=contact_text hc
 have hw:textErr (⟨#[114,101,109,111,118,101]⟩:ByteArray)=0:=by decide +kernel
 have hwe:isEmp (⟨#[114,101,109,111,118,101]⟩:ByteArray)=false:=by decide +kernel
 have e1:withA [] (⟨#[106,105,100]⟩:ByteArray) x.jid=[⟨emB,(⟨#[106,105,100]⟩:ByteArray),x.jid⟩]:=by unfold withA;rw [hje];rfl
 unfold attrsGo
 rw [e1]
 cases hne:isEmp x.name
 all_goals
  unfold withA
  simp only [hne,hwe,if_true,if_false,Bool.false_eq_true,List.cons_append,List.nil_append]
 ·refine fine_ok (l:=[((⟨#[106,105,100]⟩:ByteArray),x.jid),((⟨#[110,97,109,101]⟩:ByteArray),x.name),((⟨#[115,117,98,115,99,114,105,112,116,105,111,110]⟩:ByteArray),(⟨#[114,101,109,111,118,101]⟩:ByteArray))]) [(⟨#[106,105,100]⟩:ByteArray),(⟨#[110,97,109,101]⟩:ByteArray),(⟨#[115,117,98,115,99,114,105,112,116,105,111,110]⟩:ByteArray)] rfl (by decide +kernel) (fun p hp=>?_)
  simp only [List.mem_cons,List.not_mem_nil,or_false] at hp
  rcases hp with rfl|rfl|rfl
  ·exact hj
  ·exact hn
  ·exact hw
 ·refine fine_ok (l:=[((⟨#[106,105,100]⟩:ByteArray),x.jid),((⟨#[115,117,98,115,99,114,105,112,116,105,111,110]⟩:ByteArray),(⟨#[114,101,109,111,118,101]⟩:ByteArray))]) [(⟨#[106,105,100]⟩:ByteArray),(⟨#[115,117,98,115,99,114,105,112,116,105,111,110]⟩:ByteArray)] rfl (by decide +kernel) (fun p hp=>?_)
  simp only [List.mem_cons,List.not_mem_nil,or_false] at hp
  rcases hp with rfl|rfl
  ·exact hj
  ·exact hw
theorem elem_ok {name:ByteArray} {l:List AttrL} {k:Int} (h:fullI name=true) (ha:attrsI l=true):nodeI ⟨1,rosN,name,l,emB,k⟩=true:=by
 have h1:textErr rosN=0:=by decide +kernel
 unfold nodeI
 simp only [show ¬((1:Int)=2) by omega,if_false,h,ha,h1]
 decide
theorem text_ok {g:ByteArray} (h:textErr g=0) (he:isEmp g=false):nodeI (textN g)=true:=by
 unfold nodeI textN
 simp [h,he,show isEmp emB=true by decide]
theorem gtree_tre {g:ByteArray} (h:textErr g=0) (he:isEmp g=false):Tre 1 (gtree g):=by
 have h1:=text_ok h he
 have h2:nodeI (groupN 1)=true:=elem_ok (by decide +kernel) (by decide +kernel)
 refine⟨?_,groupN 1,[textN g],rfl,rfl⟩
 have e1:endN (gtree g) 0 1=some 2:=by
  unfold endN
  show(match (some (textN g):Option NodeL) with|none=>none|some n=>if nodeI n=true∧n.kind=2 then some (1+1) else none)=some 2
  simp only
  rw [if_pos ⟨h1,rfl⟩]
 show endN (gtree g) 1 0=some 2
 rw [endN]
 show(match (some (groupN 1):Option NodeL) with|none=>none|some n=>if nodeI n=true∧0≤n.many then endK (endN (gtree g) 0) (gtree g) n.many.toNat (0+1) false else none)=some 2
 simp only
 rw [if_pos ⟨h2,by decide⟩]
 show endK (endN (gtree g) 0) (gtree g) 1 1 false=some 2
 unfold endK
 show(match (some (textN g):Option NodeL) with|none=>none|some n=>if (false && decide (n.kind=2))=true then none else match endN (gtree g) 0 1 with|none=>none|some e=>endK (endN (gtree g) 0) (gtree g) 0 e (decide (n.kind=2)))=some 2
 rw [e1]
 rfl
theorem group_put {g:ByteArray} (h:textErr g=0) (he:isEmp g=false):putE (groupN 0) [[textN g]]=0∧putV (groupN 0) [[textN g]]=gtree g:=by
 have h0:treeI [manyM (groupN 0) 0]=true:=one_tree (n:=groupN 0) (elem_ok (by decide +kernel) (by decide +kernel)) rfl rfl
 have h1:([[textN g]]:List (List NodeL)).any (fun v=>!partOK v)=false:=by
  have:textT [textN g]=true:=by
   unfold textT
   show(decide (1=1) && decide ((textN g).kind=2) && nodeI (textN g))=true
   rw [text_ok h he]
   rfl
  simp [partOK,this]
 have hj:joinV (groupN 0) [[textN g]]=gtree g:=rfl
 have h2:¬512 < (joinV (groupN 0) [[textN g]]).length:=by rw [hj];show ¬512 < 2;omega
 have h3:putE (groupN 0) [[textN g]]=0:=by rw [putE_3 h0 h1 h2,hj,tre_tree (gtree_tre h he) (by omega) (by show 2≤512;omega)];rfl
 exact⟨h3,by unfold putV;rw [if_pos h3,hj]⟩
theorem groups_ok {x:ItemL} (h:itemI x=true):x.groups.length≤4∧∀g∈x.groups,textErr g=0∧isEmp g=false:=by
 unfold itemI wordsR at h
 simp only [Bool.and_eq_true,decide_eq_true_eq] at h
 obtain⟨⟨⟨-,hg,-,hl⟩,-⟩,-⟩:=h
 refine⟨hl,fun g hgm=>?_⟩
 obtain⟨i,hi,rfl⟩:=List.mem_iff_getElem.1 hgm
 have:=groupsT_get hg hi (List.getElem?_eq_getElem hi)
 unfold groupOK withinI at this
 simp only [Bool.and_eq_true,decide_eq_true_eq] at this
 refine⟨this.1.2,?_⟩
 unfold isEmp
 rw [decide_eq_false_iff_not]
 omega
theorem flat_gtree (l:List ByteArray):(l.map gtree).flatten.length=2*l.length:=by
 induction l with
 | nil=>rfl
 | cons a l ih=>
  rw [List.map_cons,List.flatten_cons,List.length_append,ih]
  show 2+_=2*(l.length+1)
  omega
theorem item_put {x:ItemL} (h:itemI x=true):putE (itemN x) (x.groups.map gtree)=0∧putV (itemN x) (x.groups.map gtree)=itemT false x:=by
 obtain⟨h1,h2⟩:=groups_ok h
 exact put_ok (d:=1) (elem_ok (by decide +kernel) (attrs_it h)) rfl (fun v hv=>by
  obtain⟨g,hg,rfl⟩:=List.mem_map.1 hv
  exact gtree_tre (h2 g hg).1 (h2 g hg).2) (by rw [joinV_len,flat_gtree];omega) (by omega)
theorem item_tre {x:ItemL} (h:itemI x=true) (gone:Bool):Tre 2 (itemT gone x)∧(itemT gone x).length≤9:=by
 obtain⟨h1,h2⟩:=groups_ok h
 unfold itemT
 cases gone
 ·refine⟨join_tre (d:=1) (elem_ok (by decide +kernel) (attrs_it h)) rfl (fun v hv=>?_),?_⟩
  ·obtain⟨g,hg,rfl⟩:=List.mem_map.1 hv
   exact gtree_tre (h2 g hg).1 (h2 g hg).2
  ·show(joinV (itemN x) (x.groups.map gtree)).length≤9
   rw [joinV_len,flat_gtree]
   omega
 ·have:=join_tre (d:=1) (n:=⟨1,rosN,(⟨#[105,116,101,109]⟩:ByteArray),attrsGo x,emB,0⟩) (l:=[]) (elem_ok (by decide +kernel) (attrs_go h)) rfl (fun v hv=>by cases hv)
  exact⟨this,by show 1≤9;omega⟩
theorem query_put {l:List ItemL} {gone:Bool} {ver:Int} (h:rosI l=true):putE (queryN ver) (l.map (itemT gone))=0∧putV (queryN ver) (l.map (itemT gone))=queryV l gone ver:=by
 obtain⟨h1,h2⟩:=rosI_item h
 have hf:(l.map (itemT gone)).flatten.length≤9*l.length:=by
  clear h h1
  induction l with
  | nil=>exact Nat.le_refl _
  | cons a l ih=>
   rw [List.map_cons,List.flatten_cons,List.length_append,List.length_cons]
   have:=ih (fun x hx=>h2 x (by simp [hx]))
   have:=(item_tre (h2 a (by simp)) gone).2
   omega
 refine put_ok (d:=2) (elem_ok (by decide +kernel) ?_) rfl (fun v hv=>?_) (by rw [joinV_len];omega) (by omega)
 ·refine fine_ok (l:=[((⟨#[118,101,114]⟩:ByteArray),digS ver.toNat)]) [(⟨#[118,101,114]⟩:ByteArray)] rfl (by decide +kernel) (fun p hp=>?_)
  rw [List.mem_singleton.1 hp]
  exact digS_text _
 ·obtain⟨x,hx,rfl⟩:=List.mem_map.1 hv
  exact(item_tre (h2 x hx) gone).1
end Go.Proofs.YtnmnpnofdgdigaaGreatDoor
end
section
namespace Go.Proofs.YtnmnpnofdgdigaaGreatDoor
open Go.RowKit
set_option linter.unusedSimpArgs false
set_option linter.unusedVariables false
def ReadP (s:ByteArray) (w:World) (e:Ending) (w':World):Prop:=e=.returned (.tuple #[.int .i64 (numV s),.int .i64 (numE s)])∧Below w.heap.size w w'
theorem ReadP.no {s:ByteArray} {w w':World} (h:numOK s=false) (hb:Below w.heap.size w w'):ReadP s w (.returned (.tuple #[.int .i64 0,.int .i64 60])) w':=by
 unfold ReadP
 rw [(num_no h).1,(num_no h).2]
 exact⟨rfl,hb⟩
end Go.Proofs.YtnmnpnofdgdigaaGreatDoor
end
section
namespace Go.Proofs.YtnmnpnofdgdigaaGreatDoor
open Go.RowKit
set_option linter.unusedSimpArgs false
set_option linter.unusedVariables false
def LevP (s:ByteArray) (w:World) (e:Ending) (w':World):Prop:=e=.returned (.tuple #[.int .i64 (levV s),.int .i64 (levE s)])∧Below w.heap.size w w'
theorem LevP.no {s:ByteArray} {w w':World} (h:levOK s=false) (hb:Below w.heap.size w w'):LevP s w (.returned (.tuple #[.int .i64 0,.int .i64 60])) w':=by
 unfold LevP levV levE
 rw [h]
 exact⟨rfl,hb⟩
end Go.Proofs.YtnmnpnofdgdigaaGreatDoor
end
section
namespace Go.Proofs.YtnmnpnofdgdigaaGreatDoor
open Go.RowKit
set_option linter.unusedSimpArgs false
set_option linter.unusedVariables false
theorem ret_strD {a b:ByteArray} (h:a=b):Ending.returned (.string a)=.returned (.string b):=by rw [h]
theorem str_size (l:List Int):(strOfNums l).size=l.length:=by
 have h:(strOfNums l).data.toList.length=l.length:=by rw [strOfNums_data,List.length_map]
 rw [←h]
 generalize strOfNums l=s
 cases s
 rfl
theorem digF_len:∀f n,(digF f n).length≤f+1
 | 0,n=>by simp [digF]
 | f+1,n=>by
  rw [digF]
  split
  ·simp
  ·rw [List.length_append,List.length_singleton]
   have:=digF_len f (n / 10)
   omega
theorem conv_one (w:World) (c:Int):(convert 179 9 (.slice (some ⟨w.heap.size,0,none⟩) 1 1)).run Tryz.prog (w.alloc (.cells #[.int .u8 c] 5))=.ok (.string (strOfNums [c])) (w.alloc (.cells #[.int .u8 c] 5)):=
 conv_rd (xs:=[c]) (show Rd (w.alloc (.cells #[.int .u8 c] 5)) (w.heap.size+1) 1 (some ⟨w.heap.size,0,none⟩) 1 (ints .u8 [c]) from Rd.new w 5 #[.int .u8 c] (s:=1) (n:=1) rfl)
set_option maxHeartbeats 2000000 in
set_option maxRecDepth 10000 in
theorem digits_any (n:Nat) (w:World) (hn:n≤9007199254740991) :
  Calls Tryz.prog 127 #[.int .i64 (n:Int)] w fun e w'=>e=.returned (.string (digS n))∧Below w.heap.size w w':=by
 have HR:Box (digS n=strOfNums (digF 19 n)):=⟨rfl⟩
 generalize digS n=r at *
 go_enter Tryz.func127,Tryz.ntmps127
 go_wp2
 go_loopw [0,3] (fun s0 s3 wr=>∃(m f:Nat) (L:List Int),m≤9007199254740991∧s0=.int .i64 (m:Int)∧s3=.string (strOfNums L)∧Hid (digF 19 n=digF f m++L)∧Hid (m < 10 ^ (f+1))∧Hid (Below w.heap.size w wr)) (fun s0 _ _=>(intOf s0).toNat)
 case atStart=>exact⟨n,19,[],hn,rfl,rfl,Lib.hid (by rw [List.append_nil]),Lib.hid (by omega),Lib.hid (Below.refl _ _)⟩
 case round=>
  obtain⟨m,f,L,hm,rfl,rfl,HD,HF,HB⟩:=hrel
  have hsz:(strOfNums L).size≤20:=by
   have h1:=digF_len 19 n
   have h2:=HD.out
   rw [str_size]
   rw [h2,List.length_append] at h1
   omega
  by_cases h9:9 < m
  ·obtain⟨f',rfl⟩:∃f',f=f'+1:=by
    cases f with
    | zero=>have:=HF.out;simp at this;omega
    | succ f=>exact⟨f,rfl⟩
   have HD2:Hid (digF 19 n=digF f' (m / 10)++((48+(m:Int) % 10) :: L)):=Lib.hid (by rw [HD.out,digF_big _ _ (by omega),List.append_assoc];rfl)
   have HF2:Hid (m / 10 < 10 ^ (f'+1)):=Lib.hid (by
    have h:=HF.out
    rw [Nat.pow_succ] at h
    omega)
   have HS2:Hid (strOfNums [48+(m:Int) % 10]++strOfNums L=strOfNums ((48+(m:Int) % 10) :: L)):=Lib.hid (by rw [←str_append];rfl)
   have hcv:=conv_one wr (48+(m:Int) % 10)
   have hs1:(strOfNums [48+(m:Int) % 10]).size≤1:=by rw [str_size];exact Nat.le_refl _
   have HX:Hid (Below w.heap.size w (wr.alloc (.cells #[.int .u8 (48+(m:Int) % 10)] 5))):=Lib.hid (HB.out.alloc HB.out.size _)
   go_wp2
   go_roundw
   case rel=>exact⟨m / 10,f',(48+(m:Int) % 10) :: L,by omega,by go_num,by rw [←HS2.out],HD2,HF2,HX⟩
   case measure=>simp [intOf];omega
  ·have hcv:=conv_one wr (48+(m:Int))
   have hs1:(strOfNums [48+(m:Int)]).size≤1:=by rw [str_size];exact Nat.le_refl _
   have HX:Hid (Below w.heap.size w (wr.alloc (.cells #[.int .u8 (48+(m:Int))] 5))):=Lib.hid (HB.out.alloc HB.out.size _)
   have HE:Hid (strOfNums [48+(m:Int)]++strOfNums L=r):=Lib.hid (by rw [HR.out,HD.out,digF_small _ _ (by omega),str_append])
   go_wp2
   go_ret
   exact⟨ret_strD HE.out,HX.out⟩
end Go.Proofs.YtnmnpnofdgdigaaGreatDoor
end
section
namespace Go.Proofs.YtnmnpnofdgdigaaGreatDoor
open Go.RowKit
set_option linter.unusedSimpArgs false
set_option linter.unusedVariables false
def Pow (w:World):Prop:=Lib.TabIs Tryz.prog w "internal/strconv.uint64pow10" .u64 Lib.pow10Tab
theorem Pow.below {w w':World} (h:Pow w) (hb:Below w.heap.size w w'):Pow w':=by
 unfold Pow Lib.TabIs World.var? at *
 cases hg:Tryz.prog.globalNamed "internal/strconv.uint64pow10" with
 | none=>simp [hg] at h
 | some g=>
  simp only [hg,Option.bind_some] at h ⊢
  have hlt:g < w.heap.size:=by
   rcases Nat.lt_or_ge g w.heap.size with h'|h'
   ·exact h'
   ·rw [Array.getElem?_eq_none h'] at h;simp at h
  rw [hb.block g hlt]
  exact h
theorem from_any (n a b:Int) (w:World):Calls Tryz.prog 101 #[.int .i64 n,.int .i64 a,.int .i64 b] w fun e w'=>e=.returned (.bool (decide (a≤n∧n≤b)))∧w'=w:=by
 by_cases h1:a≤n <;> by_cases h2:n≤b
 all_goals
  go_enter Tryz.func101,Tryz.ntmps101
  go_wp2
  go_ret
  refine⟨ret_bool ?_,rfl⟩
  simp [h1,h2]
theorem itoa_any (n:Nat) (w:World) (hn:n≤9007199254740991) (ht:Pow w):Calls Tryz.prog 121 #[.int .i64 (n:Int)] w fun e w'=>e=.returned (.string ⟨(Lib.itoa (n:Int)).toArray⟩)∧Below w.heap.size w w':=by
 refine(Tryz.strconv_Itoa (n:Int) (by omega) (by omega) w ht).mono ?_
 rintro e w' ⟨h1,k,os,rfl⟩
 have hs:(w.drewN k).heap=w.heap:=rfl
 refine⟨h1,rfl,rfl,rfl,?_,fun b hb=>?_⟩
 ·show w.heap.size≤(w.heap++os).size
  rw [Array.size_append]
  omega
 ·show(w.heap++os)[b]? = w.heap[b]?
  rw [Array.getElem?_append_left hb]
theorem subcheck_any (a b c d:Bool) (w:World):Calls Tryz.prog 173 #[.agg #[.bool a,.bool b,.bool c,.bool d]] w fun e w'=>e=.returned (.int .i64 (if !(a && b) && !(c && d) then 0 else 8))∧Below w.heap.size w w':=by
 cases a <;> cases b <;> cases c <;> cases d
 all_goals
  go_enter Tryz.func173,Tryz.ntmps173
  go_wp2
  go_ret
  exact⟨rfl,(Below.refl _ _).alloc (Nat.le_refl _) _⟩
theorem refsubmay_any (a b c d:Bool) (w:World):Calls Tryz.prog 178 #[.agg #[.bool a,.bool b,.bool c,.bool d]] w fun e w'=>e=.returned (.bool (!(a && b) && !(c && d)))∧Below w.heap.size w w':=by
 cases a <;> cases b <;> cases c <;> cases d
 all_goals
  go_enter Tryz.func178,Tryz.ntmps178
  go_wp2
  go_ret
  exact⟨rfl,(Below.refl _ _).alloc (Nat.le_refl _) _⟩
theorem refsubword_any (x:ItemL) (w:World):Calls Tryz.prog 180 #[.agg #[.bool x.to,.bool x.out,.bool x.frm,.bool x.inn]] w fun e w'=>e=.returned (.string (wordSub x))∧Below w.heap.size w w':=by
 have HW:Box (wordSub x=if x.to && x.frm then(⟨#[98,111,116,104]⟩:ByteArray) else if x.to then(⟨#[116,111]⟩:ByteArray) else if x.frm then(⟨#[102,114,111,109]⟩:ByteArray) else(⟨#[110,111,110,101]⟩:ByteArray)):=⟨rfl⟩
 generalize wordSub x=r at *
 generalize x.to=a at *
 generalize x.frm=c at *
 cases a <;> cases c
 all_goals
  have h:=HW.out
  simp only [Bool.and_true,Bool.and_false,Bool.and_self,if_true,if_false,Bool.false_eq_true] at h
  subst h
  go_enter Tryz.func180,Tryz.ntmps180
  go_wp2
  go_ret
  exact⟨rfl,(Below.refl _ _).alloc (Nat.le_refl _) _⟩
theorem isnan_any (s:ByteArray) (w:World):Calls Tryz.prog 231 #[.string s] w fun e w'=>e=.returned (.bool false)∧w'=w:=by
 go_enter Tryz.func231,Tryz.ntmps231
 go_wp2
 go_ret
 simp
def cmpB (a b:ByteArray):Int:=if lessB a b then -1 else if lessB b a then 1 else 0
theorem cmp_any (a b:ByteArray) (w:World):Calls Tryz.prog 222 #[.string a,.string b] w fun e w'=>e=.returned (.int .i64 (cmpB a b))∧w'=w:=by
 have HC:Box (cmpB a b=if lessB a b then -1 else if lessB b a then 1 else 0):=⟨rfl⟩
 generalize cmpB a b=r at *
 unfold lessB at HC
 cases h1:Op.bytesLess a.toList b.toList <;> cases h2:Op.bytesLess b.toList a.toList
 all_goals
  have h:=HC.out
  simp only [h1,h2,if_true,if_false,Bool.false_eq_true] at h
  subst h
  clear HC
  have he:(a.toList == b.toList)=(!Op.bytesLess a.toList b.toList && !Op.bytesLess b.toList a.toList):=by
   rw [h1,h2]
   first
    | (rw [less_tri _ _ h1 h2];simp;done)
    | (rw [beq_eq_false_iff_ne.2 (fun e=>by rw [e,less_irr] at h1;exact absurd h1 (by decide))];rfl)
    | (rw [beq_eq_false_iff_ne.2 (fun e=>by rw [e,less_irr] at h2;exact absurd h2 (by decide))];rfl)
  rw [h1,h2] at he
  simp only [Bool.not_true,Bool.not_false,Bool.and_true,Bool.and_false,Bool.false_and,Bool.and_self] at he
  go_enter Tryz.func222,Tryz.ntmps222
  go_wp2_with fail
  refine(isnan_any a _).mono ?_
  rintro e w1 ⟨rfl,rfl⟩
  go_wp2_with fail
  refine(isnan_any b _).mono ?_
  rintro e w1 ⟨rfl,rfl⟩
  go_wp2
  go_ret
  exact⟨rfl,rfl⟩
end Go.Proofs.YtnmnpnofdgdigaaGreatDoor
end
section
namespace Go.Proofs.YtnmnpnofdgdigaaGreatDoor
open Go.RowKit
set_option linter.unusedVariables false
set_option linter.unusedSimpArgs false
end Go.Proofs.YtnmnpnofdgdigaaGreatDoor
end
section
namespace Go.Proofs.YtnmnpnofdgdigaaGreatDoor
open Go.RowKit
set_option linter.unusedSimpArgs false
set_option linter.unusedVariables false
end Go.Proofs.YtnmnpnofdgdigaaGreatDoor
end
section
namespace Go.Proofs.YtnmnpnofdgdigaaGreatDoor
open Go.RowKit
set_option linter.unusedSimpArgs false
set_option linter.unusedVariables false
def saidT (v:List NodeL) (k:Nat):List UInt8:=(nodeAt v k).text.data.toList
def saidI (v:List NodeL):ByteArray:=⟨((kidsI v 0).flatMap (saidT v)).toArray⟩
end Go.Proofs.YtnmnpnofdgdigaaGreatDoor
end
section
namespace Go.Proofs.YtnmnpnofdgdigaaGreatDoor
open Go.RowKit
set_option linter.unusedSimpArgs false
set_option linter.unusedVariables false
theorem own_at {w w':World} {base s n:Nat} {e:TypeId} {v:Value} {xs:List Value} (h:w.ownsRow base e s v n xs) (hk:∀k,base≤k→k < w.heap.size→w'.heap[k]? = w.heap[k]?):w'.ownsRow base e s v n xs:=by
 refine⟨h.1,?_⟩
 rcases h.2 with h1|⟨g,cap,cur,h1,h2,h3,h4⟩
 ·exact .inl h1
 ·exact .inr ⟨g,cap,cur,h1,h2,(hk g h2 (Array.getElem?_eq_some_iff.1 h3).1).trans h3,h4⟩
theorem NewO.at {base:Nat} {v:Value} {w w':World} {A:Option Addr} {l:List AttrL} (h:NewO base v w A l) (hs:w.heap.size≤w'.heap.size) (hk:∀k,base≤k→k < w.heap.size→w'.heap[k]? = w.heap[k]?):NewO base v w' A l:=fun h0=>by
 obtain⟨b,off,h1,h2,h3,h4,h5⟩:=h h0
 exact⟨b,off,h1,h2,h3,Nat.lt_of_lt_of_le h4 hs,fun i a hi=>by
  obtain⟨q0,q1,q2⟩:=h5 i a hi
  have hc:∀q:Nat,w'.cell? ⟨b,q,none⟩=w.cell? ⟨b,q,none⟩:=fun q=>World.cell?_of_block (hk b h2 h4)
  exact⟨(hc _).trans q0,(hc _).trans q1,(hc _).trans q2⟩⟩
theorem RowT.at {base:Nat} {u:Value} {w w':World} {ts:List TreeH} (h:RowT base u w ts) (hs:w.heap.size≤w'.heap.size) (hk:∀k,base≤k→k < w.heap.size→w'.heap[k]? = w.heap[k]?):RowT base u w' ts:=by
 refine⟨own_at h.1 hk,fun x hx=>?_⟩
 obtain⟨q1,q2,l,q3,q4,q5,q6⟩:=h.2 x hx
 exact⟨q1,q2,l,q3,own_at q4 hk,q5,fun i y hi=>⟨(q6 i y hi).1,(q6 i y hi).2.at hs hk⟩⟩
theorem RowT.mono {base base':Nat} {u:Value} {w:World} {ts:List TreeH} (h:RowT base u w ts) (hb:base'≤base):RowT base' u w ts:=by
 refine⟨own_mono h.1 hb,fun x hx=>?_⟩
 obtain⟨q1,q2,l,q3,q4,q5,q6⟩:=h.2 x hx
 exact⟨q1,q2,l,q3,own_mono q4 hb,q5,fun i y hi=>⟨(q6 i y hi).1,fun h00=>by
  obtain⟨b',off',e1,e2,e3⟩:=(q6 i y hi).2 h00
  exact⟨b',off',e1,Nat.le_trans hb e2,e3⟩⟩⟩
theorem put6_size (w:World) (g:Nat) (a b c d e f:Value):(put6 w g a b c d e f).heap.size=w.heap.size:=by simp [put6,World.setCell]
theorem RowT.put {base:Nat} {u:Value} {w:World} {ts:List TreeH} (h:RowT base u w ts) {g:Nat} (hg:g < base) (a b c d e f:Value):RowT base u (put6 w g a b c d e f) ts:=
 h.at (by rw [put6_size];exact Nat.le_refl _) (fun k hk _=>put6_other (by omega) _ _ _ _ _ _)
end Go.Proofs.YtnmnpnofdgdigaaGreatDoor
end
section
namespace Go.Proofs.YtnmnpnofdgdigaaGreatDoor
open Go.RowKit
set_option linter.unusedSimpArgs false
set_option linter.unusedVariables false
section
variable {ops:Array Oper} {w0:World} {Fin:List Ty→Prop} {rest:List Oper} {E:Env} {Ts:List Ty} {o:Oper}
theorem tw_eqS {x y:Operand} (s t:ByteArray) (b:Bool) (hb:(s.toList == t.toList)=b) (hop:o.op=.binOp .eql 9 x y 9) (hx:evalE E x=some (.string s)) (hy:evalE E y=some (.string t)) (hw:Wd ops o E true)
  (hr:wpT Tryz.prog ops w0 Fin rest (E.put o.dst (.inl (.bool b))) (.inl (.bool b) :: Ts)):wpT Tryz.prog ops w0 Fin (o :: rest) E Ts:=
 tw_pure _ hw (fun a W hW hs=>by
  have h1:a.eval x=.string s:=evalE_of hx (by rw [hop];simp [Op.operands]) hs
  have h2:a.eval y=.string t:=evalE_of hy (by rw [hop];simp [Op.operands]) hs
  subst hb
  unfold execOp
  simp only [hop,h1,h2]
  go_simp) hr
end
end Go.Proofs.YtnmnpnofdgdigaaGreatDoor
end
section
namespace Go.Proofs.YtnmnpnofdgdigaaGreatDoor
open Go.RowKit
set_option linter.unusedSimpArgs false
set_option linter.unusedVariables false
end Go.Proofs.YtnmnpnofdgdigaaGreatDoor
end
