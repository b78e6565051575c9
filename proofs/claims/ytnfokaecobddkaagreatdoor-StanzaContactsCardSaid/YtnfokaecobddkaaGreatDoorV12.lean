/- Part 12 of a proof laid in parts, one behind the other; no condition of its own. -/
import Derived.Test.YtnfokaecobddkaaGreatDoorV04
import Derived.Test.YtnfokaecobddkaaGreatDoorV11
import Derived.Test.YtnfokaecobddkaaGreatDoorV09
import Derived.Test.YtnfokaecobddkaaGreatDoorV01
import Derived.Test.YtnfokaecobddkaaGreatDoorV07
import Derived.Lib.TrimUEq
import Derived.Test.YtnfokaecobddkaaGreatDoorV02
import Derived.Test.YtnfokaecobddkaaGreatDoorV03
import Derived.Test.YtnfokaecobddkaaGreatDoorV06
import Derived.WalkMore
import Derived.Laws.CopyOwn
set_option linter.all false
section
namespace Go.Proofs.YtnfokaecobddkaaGreatDoor
def cutV (v:List NodeL) (k m:Nat):List NodeL:=(v.drop k).take m
theorem cutV_at {v:List NodeL} {k m i:Nat} (h:i < m):(cutV v k m)[i]? = v[k+i]?:=by
 unfold cutV
 rw [List.getElem?_take,if_pos h,List.getElem?_drop]
theorem endK_shift {f g:Nat→Option Nat} {v u:List NodeL} {k m:Nat} (hu:∀i,i < m→u[i]? = v[k+i]?) (hle:∀i e,f i=some e→i < e∧e≤v.length)
  (hf:∀i e,f (k+i)=some e→e≤k+m→g i=some (e - k)):∀(n i:Nat) (t:Bool) (e:Nat),endK f v n (k+i) t=some e→k+i≤v.length→e≤k+m→endK g u n i t=some (e - k)
 | 0,i,t,e,h,_,_=>by
  simp only [endK,Option.some.injEq] at h ⊢
  omega
 | n+1,i,t,e,h,hi,he=>by
  rw [endK] at h
  split at h
  ·cases h
  ·rename_i x hx
   split at h
   ·cases h
   ·rename_i hc
    split at h
    ·cases h
    ·rename_i e1 he1
     have h1:=hle _ _ he1
     have h2:=endK_le hle n e1 _ e h1.2 h
     obtain⟨j,hj⟩:∃j,e1=k+j:=⟨e1 - k,by omega⟩
     rw [endK,hu i (by omega),hx]
     simp only
     rw [if_neg hc,hf i e1 he1 (by omega)]
     simp only
     subst hj
     rw [Nat.add_sub_cancel_left]
     exact endK_shift hu hle hf n j _ e h h1.2 he
theorem endN_shift {v u:List NodeL} {k m:Nat} (hu:∀i,i < m→u[i]? = v[k+i]?):∀(d i e:Nat),endN v d (k+i)=some e→e≤k+m→endN u d i=some (e - k)
 | 0,i,e,h,he=>by
  have hl:=endN_le v 0 _ _ h
  rw [endN] at h ⊢
  rw [hu i (by omega)]
  cases hx:v[k+i]? with
  | none=>rw [hx] at h;cases h
  | some n=>
   rw [hx] at h
   simp only at h ⊢
   by_cases hc:nodeI n=true∧n.kind=2
   ·rw [if_pos hc] at h ⊢
    simp only [Option.some.injEq] at h ⊢
    omega
   ·rw [if_neg hc] at h;cases h
 | d+1,i,e,h,he=>by
  have hl:=endN_le v (d+1) _ _ h
  rw [endN] at h ⊢
  rw [hu i (by omega)]
  cases hx:v[k+i]? with
  | none=>rw [hx] at h;cases h
  | some n=>
   rw [hx] at h
   simp only at h ⊢
   by_cases hc:nodeI n=true∧0≤n.many
   ·rw [if_pos hc] at h ⊢
    have hlt:=(List.getElem?_eq_some_iff.1 hx).1
    exact endK_shift hu (endN_le v d) (endN_shift hu d) _ (i+1) false e (by rw [←Nat.add_assoc];exact h) (by omega) he
   ·rw [if_neg hc] at h;cases h
theorem kid_end {v:List NodeL} (ht:treeI v=true) {k:Nat} (hk:k∈kidsI v 0):∃e,endN v 11 k=some e∧k < e∧e≤v.length∧endN v 12 k=some e:=by
 have hC:=chain_start (tree_parts ht).2.2.2
 have h0:=(tree_parts ht).1
 obtain⟨j,hj,rfl⟩:=List.mem_iff_getElem.1 hk
 have hj':j < manyN v 0:=by
  have:=hj
  unfold kidsI at this
  rw [kidL_len] at this
  exact this
 have hkp:(kidsI v 0)[j]=kidP v j (0+1):=by
  unfold kidsI kidL
  simp
 have h1:=(kidP_chain (by omega) (by omega) hC j (by omega)).1
 obtain⟨q,hq⟩:∃q,manyN v 0 - j=q+1:=⟨manyN v 0 - j - 1,by omega⟩
 rw [hq] at h1
 rw [hkp]
 obtain⟨t,h1⟩:=h1
 obtain⟨m,x,-,h3,-⟩:=endK_inv h1
 have h4:=endN_le v 11 _ _ h3
 exact⟨x,h3,h4.1,h4.2,endN_more v (by omega) h3⟩
theorem part_tree {v:List NodeL} (ht:treeI v=true) {k:Nat} (hk:k∈kidsI v 0) (h1:(nodeAt v k).kind=1):treeI (partI v k)=true:=by
 obtain⟨e,he,hke,hel,he2⟩:=kid_end ht hk
 have hp:partI v k=cutV v k (e - k):=by unfold partI cutV;rw [he2];rfl
 have hlen:(partI v k).length=e - k:=part_len he2
 have h5:=(tree_parts ht).2.1
 rw [hp] at hlen ⊢
 have hs:=endN_shift (v:=v) (u:=cutV v k (e - k)) (k:=k) (m:=e - k) (fun i hi=>cutV_at hi) 12 0 e (by rw [Nat.add_zero];exact he2) (by omega)
 obtain⟨n,hn⟩:∃n,v[k]? = some n:=⟨_,List.getElem?_eq_getElem (by omega)⟩
 have hn0:(cutV v k (e - k))[0]? = some n:=by rw [cutV_at (by omega),Nat.add_zero];exact hn
 have hk1:n.kind=1:=by
  unfold nodeAt at h1
  rw [List.getD_eq_getElem?_getD,hn] at h1
  exact h1
 exact treeI_yes (by omega) hn0 hk1 (by rw [hs,hlen])
theorem elems_tree {v:List NodeL} (ht:treeI v=true):∀x∈elemsI v,treeI x=true:=fun x hx=>by
 unfold elemsI elemsK at hx
 obtain⟨k,hk,rfl⟩:=List.mem_map.1 hx
 obtain⟨hk1,hk2⟩:=List.mem_filter.1 hk
 exact part_tree ht hk1 (by simpa using hk2)
end Go.Proofs.YtnfokaecobddkaaGreatDoor
end
section
namespace Go.Proofs.YtnfokaecobddkaaGreatDoor
def isDig (c:Int):Bool:=decide (48≤c∧c≤57)
def valK (l:List Int):Nat→Int
 | 0=>0
 | k+1=>10*valK l k+(l.getD k 0 - 48)
def digK (l:List Int) (k:Nat):Bool:=(List.range k).all fun i=>isDig (l.getD i 0)
def headOK (s:ByteArray):Bool:=!decide (s.size=0) && !decide (16 < s.size) && !(decide ((numsOf s).getD 0 0=48) && !decide (s.size=1))
def numOK (s:ByteArray):Bool:=headOK s && digK (numsOf s) s.size && !decide (9007199254740991 < valK (numsOf s) s.size)
def numV (s:ByteArray):Int:=if numOK s then valK (numsOf s) s.size else 0
def numE (s:ByteArray):Int:=if numOK s then 0 else 60
theorem num_no {s:ByteArray} (h:numOK s=false):numV s=0∧numE s=60:=by unfold numV numE;rw [h];exact⟨rfl,rfl⟩
theorem num_yes {s:ByteArray} (h:numOK s=true):numV s=valK (numsOf s) s.size∧numE s=0:=by unfold numV numE;rw [h];exact⟨rfl,rfl⟩
def levT (s:ByteArray):ByteArray:=if (numsOf s).getD 0 0=45 then s.extract 1 s.size else s
def levS (s:ByteArray):Int:=if (numsOf s).getD 0 0=45 then -1 else 1
def levOK (s:ByteArray):Bool:=numOK (levT s) && decide (-128≤levS s*numV (levT s)∧levS s*numV (levT s)≤127) && !(decide (levS s < 0) && decide (numV (levT s)=0))
def levV (s:ByteArray):Int:=if levOK s then levS s*numV (levT s) else 0
def levE (s:ByteArray):Int:=if levOK s then 0 else 60
end Go.Proofs.YtnfokaecobddkaaGreatDoor
end
section
namespace Go.Proofs.YtnfokaecobddkaaGreatDoor
def digF:Nat→Nat→List Int
 | 0,n=>[48+(n:Int) % 10]
 | f+1,n=>if n≤9 then [48+(n:Int)] else digF f (n / 10)++[48+(n:Int) % 10]
def digS (n:Nat):ByteArray:=strOfNums (digF 19 n)
end Go.Proofs.YtnfokaecobddkaaGreatDoor
end
section
namespace Go.Proofs.YtnfokaecobddkaaGreatDoor
structure ItemL where
 jid:ByteArray
 name:ByteArray
 groups:List ByteArray
 to:Bool
 out:Bool
 frm:Bool
 inn:Bool
 known:Bool
def contactI (s:ByteArray):Bool:=(parseI s).isSome && eqS (textJ (parsedJ s)) s && isEmp (parsedJ s).res
def withinI (s:ByteArray) (lo hi:Nat):Bool:=decide (lo≤s.size) && decide (s.size≤hi) && decide (textErr s=0)
def groupOK (l:List ByteArray) (i:Nat) (g:ByteArray):Bool:=withinI g 1 32 && !(l.take i).any (eqS g)
def groupsT (l:List ByteArray) (k:Nat):Bool:=(List.range k).all fun i=>match l[i]? with
 | some g=>groupOK l i g
 | none=>true
theorem groupsT_succ (l:List ByteArray) (k:Nat) (g:ByteArray) (h:l[k]? = some g):groupsT l (k+1)=(groupsT l k && groupOK l k g):=by
 unfold groupsT
 rw [List.range_succ,List.all_append]
 simp [h]
theorem groupsT_no (l:List ByteArray) (k n:Nat) (h:k≤n) (h1:groupsT l k=false):groupsT l n=false:=by
 unfold groupsT at h1 ⊢
 rw [List.all_eq_false] at h1 ⊢
 obtain⟨x,hx,hy⟩:=h1
 exact⟨x,List.mem_range.2 (Nat.lt_of_lt_of_le (List.mem_range.1 hx) h),hy⟩
theorem groupsT_get {l:List ByteArray} {n:Nat} (h:groupsT l n=true) {i:Nat} (hi:i < n) {g:ByteArray} (hg:l[i]? = some g):groupOK l i g=true:=by
 unfold groupsT at h
 have:=List.all_eq_true.1 h i (List.mem_range.2 hi)
 rw [hg] at this
 exact this
def wordsR (name:ByteArray) (l:List ByteArray):Bool:=groupsT l l.length && (withinI name 0 64 && decide (l.length≤4))
def subI (x:ItemL):Bool:=!(x.to && x.out) && !(x.frm && x.inn)
def strangeI (x:ItemL):Bool:=isEmp x.name && decide (x.groups.length=0) && (!x.to && !x.out && !x.frm && x.inn)
def itemI (x:ItemL):Bool:=contactI x.jid && wordsR x.name x.groups && subI x && (x.known || strangeI x)
def lessB (a b:ByteArray):Bool:=Op.bytesLess a.toList b.toList
def lessJ (a b:JidL):Bool:=if eqS a.dom b.dom then(if eqS a.loc b.loc then lessB a.res b.res else lessB a.loc b.loc) else lessB a.dom b.dom
theorem less_irr:∀l:List UInt8,Op.bytesLess l l=false
 | []=>rfl
 | a :: l=>by
  unfold Op.bytesLess
  simp [less_irr l]
theorem less_tri:∀(a b:List UInt8),Op.bytesLess a b=false→Op.bytesLess b a=false→a=b
 | [],[],_,_=>rfl
 | [],b :: y,h,_=>by simp [Op.bytesLess] at h
 | a :: x,[],_,h=>by simp [Op.bytesLess] at h
 | a :: x,b :: y,h1,h2=>by
  unfold Op.bytesLess at h1 h2
  simp only [Bool.or_eq_false_iff,decide_eq_false_iff_not,Bool.and_eq_false_iff] at h1 h2
  have e:a=b:=by
   have h3:=h1.1
   have h4:=h2.1
   rw [UInt8.lt_iff_toNat_lt] at h3 h4
   rw [←UInt8.toNat_inj]
   omega
  subst e
  have h5:Op.bytesLess x y=false:=by simpa using h1.2
  have h6:Op.bytesLess y x=false:=by simpa using h2.2
  rw [less_tri x y h5 h6]
def rowOK (l:List ItemL) (i:Nat) (x:ItemL):Bool:=itemI x && (decide (i=0) || match l[i - 1]? with
 | some y=>lessJ (parsedJ y.jid) (parsedJ x.jid)
 | none=>true)
def rosT (l:List ItemL) (k:Nat):Bool:=(List.range k).all fun i=>match l[i]? with
 | some x=>rowOK l i x
 | none=>true
theorem rosT_succ (l:List ItemL) (k:Nat) (x:ItemL) (h:l[k]? = some x):rosT l (k+1)=(rosT l k && rowOK l k x):=by
 unfold rosT
 rw [List.range_succ,List.all_append]
 simp [h]
theorem rosT_no (l:List ItemL) (k n:Nat) (h:k≤n) (h1:rosT l k=false):rosT l n=false:=by
 unfold rosT at h1 ⊢
 rw [List.all_eq_false] at h1 ⊢
 obtain⟨x,hx,hy⟩:=h1
 exact⟨x,List.mem_range.2 (Nat.lt_of_lt_of_le (List.mem_range.1 hx) h),hy⟩
def rosI (l:List ItemL):Bool:=rosT l l.length && decide (l.length≤16)
theorem rosI_item {l:List ItemL} (h:rosI l=true):l.length≤16∧∀x∈l,itemI x=true:=by
 unfold rosI at h
 rw [Bool.and_eq_true,decide_eq_true_eq] at h
 refine⟨h.2,fun x hx=>?_⟩
 obtain⟨i,hi,rfl⟩:=List.mem_iff_getElem.1 hx
 have:=List.all_eq_true.1 h.1 i (List.mem_range.2 hi)
 rw [List.getElem?_eq_getElem hi] at this
 simp only [rowOK,Bool.and_eq_true] at this
 exact this.1
def rosN:ByteArray:=(⟨#[106,97,98,98,101,114,58,105,113,58,114,111,115,116,101,114]⟩:ByteArray)
def wordSub (x:ItemL):ByteArray:=if x.to && x.frm then(⟨#[98,111,116,104]⟩:ByteArray) else if x.to then(⟨#[116,111]⟩:ByteArray) else if x.frm then(⟨#[102,114,111,109]⟩:ByteArray) else(⟨#[110,111,110,101]⟩:ByteArray)
def textN (g:ByteArray):NodeL:=⟨2,emB,emB,[],g,0⟩
def groupN (k:Int):NodeL:=⟨1,rosN,(⟨#[103,114,111,117,112]⟩:ByteArray),[],emB,k⟩
def gtree (g:ByteArray):List NodeL:=[groupN 1,textN g]
def asksB (x:ItemL):ByteArray:=if x.out then(⟨#[115,117,98,115,99,114,105,98,101]⟩:ByteArray) else emB
def attrsIt (x:ItemL):List AttrL:=withA (withA (withA (withA [] (⟨#[106,105,100]⟩:ByteArray) x.jid) (⟨#[110,97,109,101]⟩:ByteArray) x.name) (⟨#[115,117,98,115,99,114,105,112,116,105,111,110]⟩:ByteArray) (wordSub x)) (⟨#[97,115,107]⟩:ByteArray) (asksB x)
def attrsGo (x:ItemL):List AttrL:=withA (withA (withA [] (⟨#[106,105,100]⟩:ByteArray) x.jid) (⟨#[110,97,109,101]⟩:ByteArray) x.name) (⟨#[115,117,98,115,99,114,105,112,116,105,111,110]⟩:ByteArray) (⟨#[114,101,109,111,118,101]⟩:ByteArray)
def itemN (x:ItemL):NodeL:=⟨1,rosN,(⟨#[105,116,101,109]⟩:ByteArray),attrsIt x,emB,0⟩
def itemT (gone:Bool) (x:ItemL):List NodeL:=if gone then [⟨1,rosN,(⟨#[105,116,101,109]⟩:ByteArray),attrsGo x,emB,0⟩] else joinV (itemN x) (x.groups.map gtree)
def queryN (ver:Int):NodeL:=⟨1,rosN,(⟨#[113,117,101,114,121]⟩:ByteArray),[⟨emB,(⟨#[118,101,114]⟩:ByteArray),digS ver.toNat⟩],emB,0⟩
def queryV (l:List ItemL) (gone:Bool) (ver:Int):List NodeL:=joinV (queryN ver) (l.map (itemT gone))
def rosE (l:List ItemL) (gone:Bool) (ver:Int):Int:=if decide (0≤ver∧ver≤9007199254740991) && rosI l && !(gone && !decide (l.length=1)) then 0 else 2
def rosV (l:List ItemL) (gone:Bool) (ver:Int):List NodeL:=if rosE l gone ver=0 then queryV l gone ver else []
theorem endK_in {f g:Nat→Option Nat} {v u:List NodeL} {k:Nat} (hu:∀i,i < u.length→v[k+i]? = u[i]?) (hf:∀i e,g i=some e→f (k+i)=some (k+e)) :
  ∀(n i:Nat) (t:Bool) (e:Nat),endK g u n i t=some e→endK f v n (k+i) t=some (k+e)
 | 0,i,t,e,h=>by
  simp only [endK,Option.some.injEq] at h ⊢
  omega
 | n+1,i,t,e,h=>by
  rw [endK] at h
  split at h
  ·cases h
  ·rename_i x hx
   split at h
   ·cases h
   ·rename_i hc
    split at h
    ·cases h
    ·rename_i e1 he1
     rw [endK,hu i (List.getElem?_eq_some_iff.1 hx).1,hx]
     simp only
     rw [if_neg hc,hf i e1 he1]
     exact endK_in hu hf n e1 _ e h
theorem endN_in {v u:List NodeL} {k:Nat} (hu:∀i,i < u.length→v[k+i]? = u[i]?):∀(d i e:Nat),endN u d i=some e→endN v d (k+i)=some (k+e)
 | 0,i,e,h=>by
  rw [endN] at h ⊢
  cases hx:u[i]? with
  | none=>rw [hx] at h;cases h
  | some n=>
   rw [hu i (List.getElem?_eq_some_iff.1 hx).1,hx]
   rw [hx] at h
   simp only at h ⊢
   by_cases hc:nodeI n=true∧n.kind=2
   ·rw [if_pos hc] at h ⊢
    simp only [Option.some.injEq] at h ⊢
    omega
   ·rw [if_neg hc] at h;cases h
 | d+1,i,e,h=>by
  rw [endN] at h ⊢
  cases hx:u[i]? with
  | none=>rw [hx] at h;cases h
  | some n=>
   rw [hu i (List.getElem?_eq_some_iff.1 hx).1,hx]
   rw [hx] at h
   simp only at h ⊢
   by_cases hc:nodeI n=true∧0≤n.many
   ·rw [if_pos hc] at h ⊢
    rw [Nat.add_assoc]
    exact endK_in hu (endN_in hu d) _ (i+1) false e h
   ·rw [if_neg hc] at h;cases h
def Tre (d:Nat) (x:List NodeL):Prop:=endN x d 0=some x.length∧∃n r,x=n :: r∧n.kind=1
theorem endK_join {v:List NodeL} {d:Nat}:∀(l:List (List NodeL)) (pre:List NodeL),v=pre++l.flatten→(∀x∈l,Tre d x)→∀t,endK (endN v d) v l.length pre.length t=some (pre.length+l.flatten.length)
 | [],pre,hv,_,t=>by simp [endK]
 | x :: l,pre,hv,hl,t=>by
  obtain⟨h1,n,r,rfl,hk⟩:=hl x (by simp)
  have hv2:v=(pre++(n :: r))++l.flatten:=by rw [hv,List.flatten_cons,List.append_assoc]
  have hu:∀i,i < (n :: r).length→v[pre.length+i]? = (n :: r)[i]?:=fun i hi=>by
   rw [hv,List.flatten_cons,List.getElem?_append_right (by omega),Nat.add_sub_cancel_left,List.getElem?_append_left hi]
  have e0:=endN_in hu d 0 _ h1
  rw [Nat.add_zero] at e0
  have hn:v[pre.length]? = some n:=by
   have:=hu 0 (by simp)
   rw [Nat.add_zero] at this
   rw [this];rfl
  have hc:¬(t && decide (n.kind=2))=true:=by
   rw [hk]
   cases t <;> decide
  rw [List.length_cons,endK,hn]
  simp only
  rw [if_neg hc,e0]
  simp only
  have ih:=endK_join l (pre++(n :: r)) hv2 (fun y hy=>hl y (by simp [hy])) (decide (n.kind=2))
  rw [List.length_append] at ih
  rw [ih,List.flatten_cons,List.length_append,Nat.add_assoc]
theorem node_many {n:NodeL} (hk:n.kind=1) (k:Int):nodeI (manyM n k)=nodeI n:=by
 unfold nodeI manyM
 simp [hk]
theorem join_tre {n:NodeL} {l:List (List NodeL)} {d:Nat} (hn:nodeI n=true) (hk:n.kind=1) (hl:∀x∈l,Tre d x):Tre (d+1) (joinV n l):=by
 refine⟨?_,manyM n l.length,l.flatten,rfl,hk⟩
 rw [endN]
 show(match (some (manyM n l.length):Option NodeL) with|none=>none|some m=>if nodeI m=true∧0≤m.many then endK (endN (joinV n l) d) (joinV n l) m.many.toNat (0+1) false else none)=_
 simp only
 rw [if_pos ⟨by rw [node_many hk];exact hn,by show(0:Int)≤(l.length:Int);omega⟩]
 have h:=endK_join (v:=joinV n l) (d:=d) l [manyM n l.length] rfl hl false
 rw [joinV_len]
 exact h
theorem tre_more {d d':Nat} {x:List NodeL} (h:Tre d x) (hd:d≤d'):Tre d' x:=⟨endN_more x hd h.1,h.2⟩
theorem tre_tree {d:Nat} {x:List NodeL} (h:Tre d x) (hd:d≤12) (hl:x.length≤512):treeI x=true:=by
 obtain⟨h1,n,r,rfl,hk⟩:=h
 exact treeI_yes (n:=n) hl rfl hk (endN_more _ hd h1)
theorem flat_len_le {l:List (List NodeL)} {x:List NodeL} (h:x∈l):x.length≤l.flatten.length:=by
 induction l with
 | nil=>cases h
 | cons y l ih=>
  rw [List.flatten_cons,List.length_append]
  rcases List.mem_cons.1 h with rfl|h
  ·omega
  ·have:=ih h;omega
theorem put_ok {n:NodeL} {l:List (List NodeL)} {d:Nat} (hn:nodeI n=true) (hk:n.kind=1) (hl:∀x∈l,Tre d x) (hlen:(joinV n l).length≤512) (hd:d≤11):putE n l=0∧putV n l=joinV n l:=by
 have h0:treeI [manyM n 0]=true:=one_tree (n:=manyM n 0) (by rw [node_many hk];exact hn) hk rfl
 have h1:l.any (fun v=>!partOK v)=false:=by
  rw [List.any_eq_false]
  intro x hx
  have hx5:x.length≤512:=by
   have:=flat_len_le hx
   rw [joinV_len] at hlen
   omega
  have:treeI x=true:=tre_tree (hl x hx) (by omega) hx5
  simp [partOK,this]
 have ht:treeI (joinV n l)=true:=tre_tree (join_tre hn hk hl) (by omega) hlen
 have h3:putE n l=0:=by rw [putE_3 h0 h1 (by omega),ht];rfl
 exact⟨h3,by unfold putV;rw [if_pos h3]⟩
end Go.Proofs.YtnfokaecobddkaaGreatDoor
end
section
namespace Go.Proofs.YtnfokaecobddkaaGreatDoor
theorem ascii_dec (s:ByteArray) (i:Nat) (h:(s.get! i).toNat < 128):Utf8.decode s i=((s.get! i).toNat,1):=by
 rw [Lib.decode_at]
 unfold Lib.decodeN
 rw [if_pos h]
def seenB (b:UInt8):Bool:=decide (32≤b.toNat∧b.toNat < 127)
theorem ascii_at {s:ByteArray} (h:s.data.toList.all seenB=true) {i:Nat} (hi:i < s.size):32≤(s.get! i).toNat∧(s.get! i).toNat < 127:=by
 have hl:i < s.data.toList.length:=hi
 have h1:=List.all_eq_true.1 h _ (List.getElem_mem hl)
 unfold seenB at h1
 rw [decide_eq_true_eq] at h1
 have e:s.get! i=s.data.toList[i]:=by
  simp [ByteArray.get!,hi]
 rw [e]
 exact h1
theorem ascii_text {s:ByteArray} (h:s.data.toList.all seenB=true):textOK s=true:=by
 have key:∀d i,s.size≤i+d→textAt s i=true:=by
  intro d
  induction d with
  | zero=>intro i hi;exact textAt_end s i (by omega)
  | succ d ih=>
   intro i hi
   rcases Nat.lt_or_ge i s.size with h1|h1
   ·obtain⟨h2,h3⟩:=ascii_at h h1
    have hd:=ascii_dec s i (by omega)
    rw [textAt_step s i h1,hd]
    dsimp only
    rw [ih (i+1) (by omega),Bool.and_true]
    unfold okAt mayP
    rw [hd]
    dsimp only
    rw [if_neg (by omega)]
    simp only [Bool.and_eq_true,decide_eq_true_eq,Bool.not_eq_true',decide_eq_false_iff_not]
    omega
   ·exact textAt_end s i h1
 rw [←textAt_zero]
 exact key s.size 0 (by omega)
theorem ascii_err {s:ByteArray} (h:s.data.toList.all seenB=true) (hs:s.size≤16384):textErr s=0:=by
 unfold textErr
 rw [if_neg (by omega),ascii_text h]
 rfl
theorem set_seen {cs:List UInt8} {s:ByteArray} (h:setAll cs s=true) (hc:cs.all seenB=true):s.data.toList.all seenB=true:=by
 rw [List.all_eq_true]
 intro b hb
 have h1:=List.all_eq_true.1 h b hb
 rw [List.contains_iff_mem] at h1
 exact List.all_eq_true.1 hc b h1
theorem app_seen {a b:ByteArray} (ha:a.data.toList.all seenB=true) (hb:b.data.toList.all seenB=true):(a++b).data.toList.all seenB=true:=by
 rw [data_app,List.all_append,ha,hb];rfl
theorem eqS_eq {a b:ByteArray} (h:eqS a b=true):a=b:=by
 unfold eqS at h
 have h:=eq_of_beq h
 rw [Lib.toList_data,Lib.toList_data] at h
 exact ba_ext h
theorem contact_text {s:ByteArray} (h:contactI s=true):textErr s=0∧isEmp s=false:=by
 unfold contactI at h
 simp only [Bool.and_eq_true] at h
 obtain⟨⟨h1,h2⟩,h3⟩:=h
 have hj:=parse_jid s
 rw [h1] at hj
 have hs:=eqS_eq h2
 unfold jidI at hj
 simp only [Bool.and_eq_true,Bool.or_eq_true] at hj
 obtain⟨⟨hl,-⟩,hd⟩:=hj
 unfold domI at hd
 simp only [Bool.and_eq_true] at hd
 have hdl:=hd.1
 have hds:=set_seen hd.2.1.1 (by decide)
 unfold lenOK at hdl
 simp only [Bool.and_eq_true,Bool.not_eq_true',decide_eq_true_eq] at hdl
 have hdn:0 < (parsedJ s).dom.size:=by
  have:=hdl.1
  unfold isEmp at this
  rw [decide_eq_false_iff_not] at this
  omega
 have ht:textJ (parsedJ s)=if isEmp (parsedJ s).loc then(parsedJ s).dom else(parsedJ s).loc++(⟨#[64]⟩:ByteArray)++(parsedJ s).dom:=by
  unfold textJ
  rw [h3,if_pos rfl,app_em]
 have key:s.data.toList.all seenB=true∧s.size≤129∧0 < s.size:=by
  rw [←hs,ht]
  cases he:isEmp (parsedJ s).loc
  ·have hl':localI (parsedJ s).loc=true:=by
    rcases hl with h|h
    ·rw [he] at h;cases h
    ·exact h
   unfold localI lenOK at hl'
   simp only [Bool.and_eq_true,Bool.not_eq_true',decide_eq_true_eq] at hl'
   rw [if_neg (by decide)]
   refine⟨app_seen (app_seen (set_seen hl'.2 (by decide)) (by decide)) hds,?_,?_⟩
   ·rw [app_size,app_size]
    have:((⟨#[64]⟩:ByteArray):ByteArray).size=1:=rfl
    omega
   ·rw [app_size];omega
  ·rw [if_pos rfl]
   exact⟨hds,by omega,hdn⟩
 refine⟨ascii_err key.1 (by omega),?_⟩
 unfold isEmp
 rw [decide_eq_false_iff_not]
 omega
theorem digF_seen2:∀(f n:Nat),∀x∈digF f n,48≤x∧x < 58
 | 0,n=>fun x hx=>by
  unfold digF at hx
  rw [List.mem_singleton.1 hx]
  omega
 | f+1,n=>fun x hx=>by
  unfold digF at hx
  split at hx
  ·rw [List.mem_singleton.1 hx]
   omega
  ·rcases List.mem_append.1 hx with h|h
   ·exact digF_seen2 f _ x h
   ·rw [List.mem_singleton.1 h]
    omega
theorem digF_len2:∀(f n:Nat),(digF f n).length≤f+1
 | 0,n=>by unfold digF;simp
 | f+1,n=>by
  unfold digF
  split
  ·simp
  ·have:=digF_len2 f (n / 10)
   rw [List.length_append]
   simp only [List.length_cons,List.length_nil]
   omega
theorem digS_text (n:Nat):textErr (digS n)=0:=by
 unfold digS
 have hl:(strOfNums (digF 19 n)).size=(digF 19 n).length:=by
  show(strOfNums (digF 19 n)).data.toList.length=_
  rw [strOfNums_data,List.length_map]
 refine ascii_err ?_ (by have:=digF_len2 19 n;omega)
 rw [strOfNums_data,List.all_eq_true]
 intro b hb
 obtain⟨x,hx,rfl⟩:=List.mem_map.1 hb
 obtain⟨h1,h2⟩:=digF_seen2 19 n x hx
 unfold seenB
 rw [decide_eq_true_eq]
 have:(UInt8.ofNat x.toNat).toNat=x.toNat:=by
  rw [UInt8.toNat_ofNat']
  omega
 omega
theorem attrs_ok {l:List AttrL} (h1:l.length≤16) (h2:∀a∈l,a.space=emB∧fullI a.name=true∧textErr a.value=0) (h3:(l.map fun a=>a.name.toList).Nodup):attrsI l=true:=by
 unfold attrsI attrsT
 rw [Bool.and_eq_true,decide_eq_true_eq,List.all_eq_true]
 refine⟨fun i hi=>?_,h1⟩
 have hi:=List.mem_range.1 hi
 rw [List.getElem?_eq_getElem hi]
 obtain⟨q1,q2,q3⟩:=h2 _ (List.getElem_mem hi)
 show goodA l i l[i]=true
 unfold goodA sndA
 have he:textErr emB=0:=by decide +kernel
 rw [q1,q2,q3,he]
 have hd:(l.take i).any (dupA l[i])=false:=by
  rw [List.any_eq_false]
  intro b hb
  obtain⟨j,hj,rfl⟩:=List.mem_iff_getElem.1 hb
  rw [List.length_take] at hj
  rw [List.getElem_take]
  intro hdup
  unfold dupA at hdup
  rw [Bool.and_eq_true] at hdup
  have h5:l[i].name.toList=l[j].name.toList:=eq_of_beq hdup.2
  have h6:=(List.pairwise_iff_getElem.1 h3) j i (by rw [List.length_map];omega) (by rw [List.length_map];omega) (by omega)
  rw [List.getElem_map,List.getElem_map] at h6
  exact h6 h5.symm
 rw [hd]
 rfl
def fineL (l:List (ByteArray×ByteArray)):List AttrL:=l.map fun p=>⟨emB,p.1,p.2⟩
theorem fine_ok {l:List (ByteArray×ByteArray)} (ns:List ByteArray) (hn:l.map (·.1)=ns) (h:ns.length≤16∧ns.all fullI=true∧(ns.map (·.toList)).Nodup) (h3:∀p∈l,textErr p.2=0):attrsI (fineL l)=true:=by
 obtain⟨h1,h2,h4⟩:=h
 subst hn
 refine attrs_ok (by unfold fineL;rw [List.length_map];rw [List.length_map] at h1;exact h1) (fun a ha=>?_) (by unfold fineL;rw [List.map_map];rw [List.map_map] at h4;exact h4)
 obtain⟨p,hp,rfl⟩:=List.mem_map.1 ha
 exact⟨rfl,List.all_eq_true.1 h2 p.1 (List.mem_map.2 ⟨p,hp,rfl⟩),h3 p hp⟩
theorem attrs_it {x:ItemL} (h:itemI x=true):attrsI (attrsIt x)=true:=by
 unfold itemI wordsR withinI at h
 simp only [Bool.and_eq_true,decide_eq_true_eq] at h
 obtain⟨⟨⟨hc,-,⟨-,hn⟩,-⟩,-⟩,-⟩:=h
 obtain⟨hj,hje⟩:=contact_text hc
 have hw:textErr (wordSub x)=0∧isEmp (wordSub x)=false:=by
  unfold wordSub
  split
  ·decide +kernel
  ·split
   ·decide +kernel
   ·split <;> decide +kernel
 have hs:textErr (⟨#[115,117,98,115,99,114,105,98,101]⟩:ByteArray)=0:=by decide +kernel
 have hse:isEmp (⟨#[115,117,98,115,99,114,105,98,101]⟩:ByteArray)=false:=by decide +kernel
 have hem:isEmp emB=true:=by decide +kernel
 have e1:withA [] (⟨#[106,105,100]⟩:ByteArray) x.jid=[⟨emB,(⟨#[106,105,100]⟩:ByteArray),x.jid⟩]:=by unfold withA;rw [hje];rfl
 unfold attrsIt asksB
 rw [e1]
 cases hne:isEmp x.name <;> cases ho:x.out
 all_goals
  unfold withA
  rw [hw.2]
  simp only [hne,hse,hem,if_true,if_false,Bool.false_eq_true,List.cons_append,List.nil_append]
 ·refine fine_ok (l:=[((⟨#[106,105,100]⟩:ByteArray),x.jid),((⟨#[110,97,109,101]⟩:ByteArray),x.name),((⟨#[115,117,98,115,99,114,105,112,116,105,111,110]⟩:ByteArray),wordSub x)]) [(⟨#[106,105,100]⟩:ByteArray),(⟨#[110,97,109,101]⟩:ByteArray),(⟨#[115,117,98,115,99,114,105,112,116,105,111,110]⟩:ByteArray)] rfl (by decide +kernel) (fun p hp=>?_)
  simp only [List.mem_cons,List.not_mem_nil,or_false] at hp
  rcases hp with rfl|rfl|rfl
  ·exact hj
  ·exact hn
  ·exact hw.1
 ·refine fine_ok (l:=[((⟨#[106,105,100]⟩:ByteArray),x.jid),((⟨#[110,97,109,101]⟩:ByteArray),x.name),((⟨#[115,117,98,115,99,114,105,112,116,105,111,110]⟩:ByteArray),wordSub x),((⟨#[97,115,107]⟩:ByteArray),(⟨#[115,117,98,115,99,114,105,98,101]⟩:ByteArray))]) [(⟨#[106,105,100]⟩:ByteArray),(⟨#[110,97,109,101]⟩:ByteArray),(⟨#[115,117,98,115,99,114,105,112,116,105,111,110]⟩:ByteArray),(⟨#[97,115,107]⟩:ByteArray)] rfl (by decide +kernel) (fun p hp=>?_)
  simp only [List.mem_cons,List.not_mem_nil,or_false] at hp
  rcases hp with rfl|rfl|rfl|rfl
  ·exact hj
  ·exact hn
  ·exact hw.1
  ·exact hs
 ·refine fine_ok (l:=[((⟨#[106,105,100]⟩:ByteArray),x.jid),((⟨#[115,117,98,115,99,114,105,112,116,105,111,110]⟩:ByteArray),wordSub x)]) [(⟨#[106,105,100]⟩:ByteArray),(⟨#[115,117,98,115,99,114,105,112,116,105,111,110]⟩:ByteArray)] rfl (by decide +kernel) (fun p hp=>?_)
  simp only [List.mem_cons,List.not_mem_nil,or_false] at hp
  rcases hp with rfl|rfl
  ·exact hj
  ·exact hw.1
 ·refine fine_ok (l:=[((⟨#[106,105,100]⟩:ByteArray),x.jid),((⟨#[115,117,98,115,99,114,105,112,116,105,111,110]⟩:ByteArray),wordSub x),((⟨#[97,115,107]⟩:ByteArray),(⟨#[115,117,98,115,99,114,105,98,101]⟩:ByteArray))]) [(⟨#[106,105,100]⟩:ByteArray),(⟨#[115,117,98,115,99,114,105,112,116,105,111,110]⟩:ByteArray),(⟨#[97,115,107]⟩:ByteArray)] rfl (by decide +kernel) (fun p hp=>?_)
  simp only [List.mem_cons,List.not_mem_nil,or_false] at hp
  rcases hp with rfl|rfl|rfl
  ·exact hj
  ·exact hw.1
  ·exact hs
theorem attrs_go {x:ItemL} (h:itemI x=true):attrsI (attrsGo x)=true:=by
 unfold itemI wordsR withinI at h
 simp only [Bool.and_eq_true,decide_eq_true_eq] at h
 obtain⟨⟨⟨hc,-,⟨-,hn⟩,-⟩,-⟩,-⟩:=h
 obtain⟨hj,hje⟩:=contact_text hc
 have hw:textErr (⟨#[114,101,109,111,118,101]⟩:ByteArray)=0:=by decide +kernel
 have hwe:isEmp (⟨#[114,101,109,111,118,101]⟩:ByteArray)=false:=by decide +kernel
 have e1:withA [] (⟨#[106,105,100]⟩:ByteArray) x.jid=[⟨emB,(⟨#[106,105,100]⟩:ByteArray),x.jid⟩]:=by unfold withA;rw [hje];rfl
 unfold attrsGo
 rw [e1]
 cases hne:isEmp x.name
 all_goals
  unfold withA
  simp only [hne,hwe,if_true,if_false,Bool.false_eq_true,List.cons_append,List.nil_append]
 ·refine fine_ok (l:=[((⟨#[106,105,100]⟩:ByteArray),x.jid),((⟨#[110,97,109,101]⟩:ByteArray),x.name),((⟨#[115,117,98,115,99,114,105,112,116,105,111,110]⟩:ByteArray),(⟨#[114,101,109,111,118,101]⟩:ByteArray))]) [(⟨#[106,105,100]⟩:ByteArray),(⟨#[110,97,109,101]⟩:ByteArray),(⟨#[115,117,98,115,99,114,105,112,116,105,111,110]⟩:ByteArray)] rfl (by decide +kernel) (fun p hp=>?_)
  simp only [List.mem_cons,List.not_mem_nil,or_false] at hp
  rcases hp with rfl|rfl|rfl
  ·exact hj
  ·exact hn
  ·exact hw
 ·refine fine_ok (l:=[((⟨#[106,105,100]⟩:ByteArray),x.jid),((⟨#[115,117,98,115,99,114,105,112,116,105,111,110]⟩:ByteArray),(⟨#[114,101,109,111,118,101]⟩:ByteArray))]) [(⟨#[106,105,100]⟩:ByteArray),(⟨#[115,117,98,115,99,114,105,112,116,105,111,110]⟩:ByteArray)] rfl (by decide +kernel) (fun p hp=>?_)
  simp only [List.mem_cons,List.not_mem_nil,or_false] at hp
  rcases hp with rfl|rfl
  ·exact hj
  ·exact hw
theorem elem_ok {name:ByteArray} {l:List AttrL} {k:Int} (h:fullI name=true) (ha:attrsI l=true):nodeI ⟨1,rosN,name,l,emB,k⟩=true:=by
 have h1:textErr rosN=0:=by decide +kernel
 unfold nodeI
 simp only [show ¬((1:Int)=2) by omega,if_false,h,ha,h1]
 decide
theorem text_ok {g:ByteArray} (h:textErr g=0) (he:isEmp g=false):nodeI (textN g)=true:=by
 unfold nodeI textN
 simp [h,he,show isEmp emB=true by decide]
theorem gtree_tre {g:ByteArray} (h:textErr g=0) (he:isEmp g=false):Tre 1 (gtree g):=by
 have h1:=text_ok h he
 have h2:nodeI (groupN 1)=true:=elem_ok (by decide +kernel) (by decide +kernel)
 refine⟨?_,groupN 1,[textN g],rfl,rfl⟩
 have e1:endN (gtree g) 0 1=some 2:=by
  unfold endN
  show(match (some (textN g):Option NodeL) with|none=>none|some n=>if nodeI n=true∧n.kind=2 then some (1+1) else none)=some 2
  simp only
  rw [if_pos ⟨h1,rfl⟩]
 show endN (gtree g) 1 0=some 2
 rw [endN]
 show(match (some (groupN 1):Option NodeL) with|none=>none|some n=>if nodeI n=true∧0≤n.many then endK (endN (gtree g) 0) (gtree g) n.many.toNat (0+1) false else none)=some 2
 simp only
 rw [if_pos ⟨h2,by decide⟩]
 show endK (endN (gtree g) 0) (gtree g) 1 1 false=some 2
 unfold endK
 show(match (some (textN g):Option NodeL) with|none=>none|some n=>if (false && decide (n.kind=2))=true then none else match endN (gtree g) 0 1 with|none=>none|some e=>endK (endN (gtree g) 0) (gtree g) 0 e (decide (n.kind=2)))=some 2
 rw [e1]
 rfl
theorem group_put {g:ByteArray} (h:textErr g=0) (he:isEmp g=false):putE (groupN 0) [[textN g]]=0∧putV (groupN 0) [[textN g]]=gtree g:=by
 have h0:treeI [manyM (groupN 0) 0]=true:=one_tree (n:=groupN 0) (elem_ok (by decide +kernel) (by decide +kernel)) rfl rfl
 have h1:([[textN g]]:List (List NodeL)).any (fun v=>!partOK v)=false:=by
  have:textT [textN g]=true:=by
   unfold textT
   show(decide (1=1) && decide ((textN g).kind=2) && nodeI (textN g))=true
   rw [text_ok h he]
   rfl
  simp [partOK,this]
 have hj:joinV (groupN 0) [[textN g]]=gtree g:=rfl
 have h2:¬512 < (joinV (groupN 0) [[textN g]]).length:=by rw [hj];show ¬512 < 2;omega
 have h3:putE (groupN 0) [[textN g]]=0:=by rw [putE_3 h0 h1 h2,hj,tre_tree (gtree_tre h he) (by omega) (by show 2≤512;omega)];rfl
 exact⟨h3,by unfold putV;rw [if_pos h3,hj]⟩
theorem groups_ok {x:ItemL} (h:itemI x=true):x.groups.length≤4∧∀g∈x.groups,textErr g=0∧isEmp g=false:=by
 unfold itemI wordsR at h
 simp only [Bool.and_eq_true,decide_eq_true_eq] at h
 obtain⟨⟨⟨-,hg,-,hl⟩,-⟩,-⟩:=h
 refine⟨hl,fun g hgm=>?_⟩
 obtain⟨i,hi,rfl⟩:=List.mem_iff_getElem.1 hgm
 have:=groupsT_get hg hi (List.getElem?_eq_getElem hi)
 unfold groupOK withinI at this
 simp only [Bool.and_eq_true,decide_eq_true_eq] at this
 refine⟨this.1.2,?_⟩
 unfold isEmp
 rw [decide_eq_false_iff_not]
 omega
theorem flat_gtree (l:List ByteArray):(l.map gtree).flatten.length=2*l.length:=by
 induction l with
 | nil=>rfl
 | cons a l ih=>
  rw [List.map_cons,List.flatten_cons,List.length_append,ih]
  show 2+_=2*(l.length+1)
  omega
theorem item_put {x:ItemL} (h:itemI x=true):putE (itemN x) (x.groups.map gtree)=0∧putV (itemN x) (x.groups.map gtree)=itemT false x:=by
 obtain⟨h1,h2⟩:=groups_ok h
 exact put_ok (d:=1) (elem_ok (by decide +kernel) (attrs_it h)) rfl (fun v hv=>by
  obtain⟨g,hg,rfl⟩:=List.mem_map.1 hv
  exact gtree_tre (h2 g hg).1 (h2 g hg).2) (by rw [joinV_len,flat_gtree];omega) (by omega)
theorem item_tre {x:ItemL} (h:itemI x=true) (gone:Bool):Tre 2 (itemT gone x)∧(itemT gone x).length≤9:=by
 obtain⟨h1,h2⟩:=groups_ok h
 unfold itemT
 cases gone
 ·refine⟨join_tre (d:=1) (elem_ok (by decide +kernel) (attrs_it h)) rfl (fun v hv=>?_),?_⟩
  ·obtain⟨g,hg,rfl⟩:=List.mem_map.1 hv
   exact gtree_tre (h2 g hg).1 (h2 g hg).2
  ·show(joinV (itemN x) (x.groups.map gtree)).length≤9
   rw [joinV_len,flat_gtree]
   omega
 ·have:=join_tre (d:=1) (n:=⟨1,rosN,(⟨#[105,116,101,109]⟩:ByteArray),attrsGo x,emB,0⟩) (l:=[]) (elem_ok (by decide +kernel) (attrs_go h)) rfl (fun v hv=>by cases hv)
  exact⟨this,by show 1≤9;omega⟩
theorem query_put {l:List ItemL} {gone:Bool} {ver:Int} (h:rosI l=true):putE (queryN ver) (l.map (itemT gone))=0∧putV (queryN ver) (l.map (itemT gone))=queryV l gone ver:=by
 obtain⟨h1,h2⟩:=rosI_item h
 have hf:(l.map (itemT gone)).flatten.length≤9*l.length:=by
  clear h h1
  induction l with
  | nil=>exact Nat.le_refl _
  | cons a l ih=>
   rw [List.map_cons,List.flatten_cons,List.length_append,List.length_cons]
   have:=ih (fun x hx=>h2 x (by simp [hx]))
   have:=(item_tre (h2 a (by simp)) gone).2
   omega
 refine put_ok (d:=2) (elem_ok (by decide +kernel) ?_) rfl (fun v hv=>?_) (by rw [joinV_len];omega) (by omega)
 ·refine fine_ok (l:=[((⟨#[118,101,114]⟩:ByteArray),digS ver.toNat)]) [(⟨#[118,101,114]⟩:ByteArray)] rfl (by decide +kernel) (fun p hp=>?_)
  rw [List.mem_singleton.1 hp]
  exact digS_text _
 ·obtain⟨x,hx,rfl⟩:=List.mem_map.1 hv
  exact(item_tre (h2 x hx) gone).1
end Go.Proofs.YtnfokaecobddkaaGreatDoor
end
section
namespace Go.Proofs.YtnfokaecobddkaaGreatDoor
end Go.Proofs.YtnfokaecobddkaaGreatDoor
end
section
namespace Go.Proofs.YtnfokaecobddkaaGreatDoor
def posL (l:List (List NodeL)) (j:Nat):Nat:=1+(l.take j).flatten.length
theorem flat_in {l:List (List NodeL)} {j:Nat} {x:List NodeL} (hj:l[j]? = some x) {i:Nat} (hi:i < x.length):l.flatten[(l.take j).flatten.length+i]? = x[i]?:=by
 obtain⟨hlt,rfl⟩:=List.getElem?_eq_some_iff.1 hj
 have e:l.flatten=(l.take j).flatten++(l[j]++(l.drop (j+1)).flatten):=by
  have h1:l=l.take j++(l[j] :: l.drop (j+1)):=by rw [←List.drop_eq_getElem_cons hlt,List.take_append_drop]
  have h2:=congrArg List.flatten h1
  rw [List.flatten_append,List.flatten_cons] at h2
  exact h2
 rw [e,List.getElem?_append_right (by omega),Nat.add_sub_cancel_left,List.getElem?_append_left hi]
theorem join_at {n:NodeL} {l:List (List NodeL)} {j:Nat} {x:List NodeL} (hj:l[j]? = some x) {i:Nat} (hi:i < x.length):(joinV n l)[posL l j+i]? = x[i]?:=by
 unfold joinV posL
 rw [show 1+(l.take j).flatten.length+i=((l.take j).flatten.length+i)+1 by omega,List.getElem?_cons_succ]
 exact flat_in hj hi
theorem posL_succ {l:List (List NodeL)} {j:Nat} {x:List NodeL} (hj:l[j]? = some x):posL l (j+1)=posL l j+x.length:=by
 unfold posL
 rw [List.take_add_one,hj,Option.toList_some,List.flatten_append,List.length_append]
 simp
 omega
theorem end_join {n:NodeL} {l:List (List NodeL)} (hl:∀x∈l,endN x 12 0=some x.length) {j:Nat} {x:List NodeL} (hj:l[j]? = some x):endN (joinV n l) 12 (posL l j)=some (posL l j+x.length):=
 endN_in (v:=joinV n l) (u:=x) (k:=posL l j) (fun i hi=>join_at hj hi) 12 0 x.length (hl x (List.mem_of_getElem? hj))
theorem kid_pos {n:NodeL} {l:List (List NodeL)} (hl:∀x∈l,endN x 12 0=some x.length):∀j,j≤l.length→kidP (joinV n l) j 1=posL l j
 | 0,_=>rfl
 | j+1,hj=>by
  have hx:l[j]? = some l[j]:=List.getElem?_eq_getElem (by omega)
  rw [kidP,kid_pos hl j (by omega),end_join hl hx,posL_succ hx]
  rfl
theorem part_join {n:NodeL} {l:List (List NodeL)} (hl:∀x∈l,endN x 12 0=some x.length) {j:Nat} {x:List NodeL} (hj:l[j]? = some x):partI (joinV n l) (posL l j)=x:=by
 have e:partI (joinV n l) (posL l j)=cutV (joinV n l) (posL l j) x.length:=by
  unfold partI cutV
  rw [end_join hl hj,Option.getD_some,Nat.add_sub_cancel_left]
 rw [e]
 apply List.ext_getElem?
 intro i
 by_cases hi:i < x.length
 ·rw [cutV_at hi,join_at hj hi]
 ·rw [List.getElem?_eq_none (by unfold cutV;rw [List.length_take];omega),List.getElem?_eq_none (by omega)]
theorem many_join (n:NodeL) (l:List (List NodeL)):manyN (joinV n l) 0=l.length:=by
 unfold manyN joinV manyM
 simp
theorem kids_join {n:NodeL} {l:List (List NodeL)} (hl:∀x∈l,endN x 12 0=some x.length):kidsI (joinV n l) 0=(List.range l.length).map (posL l):=by
 unfold kidsI kidL
 rw [many_join]
 exact List.map_congr_left fun j hj=>kid_pos hl j (Nat.le_of_lt (List.mem_range.1 hj))
theorem head_kind {n:NodeL} {l:List (List NodeL)} (hl:∀x∈l,Tre 12 x) {j:Nat} (hj:j < l.length):(nodeAt (joinV n l) (posL l j)).kind=1:=by
 have hx:l[j]? = some l[j]:=List.getElem?_eq_getElem hj
 obtain⟨-,m,r,e,hk⟩:=hl l[j] (List.getElem_mem hj)
 have h1:=join_at (n:=n) hx (i:=0) (by rw [e];simp)
 rw [e,Nat.add_zero] at h1
 unfold nodeAt
 rw [List.getD_eq_getElem?_getD,h1]
 exact hk
theorem elems_join {n:NodeL} {l:List (List NodeL)} (hl:∀x∈l,Tre 12 x):elemsI (joinV n l)=l∧blanksI (joinV n l)=true:=by
 have he:∀x∈l,endN x 12 0=some x.length:=fun x hx=>(hl x hx).1
 unfold elemsI blanksI elemsK blanksK
 rw [kids_join he]
 constructor
 ·rw [List.filter_eq_self.2 (fun k hk=>by
   obtain⟨j,hj,rfl⟩:=List.mem_map.1 hk
   rw [head_kind hl (List.mem_range.1 hj)]
   rfl),List.map_map]
  apply List.ext_getElem?
  intro i
  rw [List.getElem?_map]
  by_cases hi:i < l.length
  ·rw [List.getElem?_eq_getElem (by rw [List.length_range];exact hi),List.getElem_range,List.getElem?_eq_getElem hi]
   show some (partI (joinV n l) (posL l i))=some l[i]
   rw [part_join he (List.getElem?_eq_getElem hi)]
  ·rw [List.getElem?_eq_none (by rw [List.length_range];omega),List.getElem?_eq_none (by omega)]
   rfl
 ·rw [List.all_eq_true]
  intro k hk
  obtain⟨j,hj,rfl⟩:=List.mem_map.1 hk
  rw [head_kind hl (List.mem_range.1 hj)]
  rfl
theorem emp_emB {s:ByteArray} (h:isEmp s=true):s=emB:=by
 have h0:s.size=0:=by unfold isEmp at h;exact of_decide_eq_true h
 have hn:s.data.toList=[]:=List.length_eq_zero_iff.1 h0
 exact ba_ext hn
theorem is_attr (nm name v:ByteArray):isAttr name ⟨emB,nm,v⟩=(nm.toList == name.toList):=by
 have h:emB.toList.isEmpty=true:=by decide +kernel
 unfold isAttr
 simp only [h,Bool.true_and]
def valN (l:List AttrL) (name:ByteArray):ByteArray:=valAt l (fstP (isAttr name) l)
theorem valN_cons (a:AttrL) (l:List AttrL) (name:ByteArray):valN (a :: l) name=if isAttr name a=true then a.value else valN l name:=by
 unfold valN
 by_cases h:isAttr name a=true
 ·rw [if_pos h]
  simp [fstP,h,valAt]
 ·rw [if_neg h]
  simp only [fstP,h]
  cases fstP (isAttr name) l <;> simp [valAt]
theorem put_tree {n:NodeL} {l:List (List NodeL)} (h:putE n l=0):treeI (joinV n l)=true∧putV n l=joinV n l:=by
 refine⟨?_,by unfold putV;rw [if_pos h]⟩
 unfold putE at h
 split at h
 ·split at h
  ·omega
  ·split at h
   ·omega
   ·split at h
    ·assumption
    ·omega
 ·omega
end Go.Proofs.YtnfokaecobddkaaGreatDoor
end
section
namespace Go.Proofs.YtnfokaecobddkaaGreatDoor
open Go.RowKit
set_option linter.unusedVariables false
set_option linter.unusedSimpArgs false
theorem sizeBuilder_:(Tryz.prog.info? 228).map (·.size)=some 2:=by kernel_rfl
theorem liesBuilder_:liesAt Tryz.prog Tryz.prog.depth 228 (2 / Tryz.prog.cellsOf 228) 0 228 1=true:=by kernel_rfl
set_option maxHeartbeats 1000000 in
set_option maxRecDepth 100000 in
theorem copyCheck_used (b:Nat) (w:World) (h0:w.cell? ⟨b,0,none⟩=some (.pointer (some ⟨b,0,none⟩))) :
  Calls Tryz.prog 204 #[.pointer (some ⟨b,0,none⟩)] w fun e w'=>e=.returned (.tuple #[])∧w'=w:=by
 obtain⟨j,hj,_⟩:=Option.map_eq_some_iff.1 sizeBuilder_
 go_enter Tryz.func204,Tryz.ntmps204
 go_wp2
 rw [Lib.run_neq_ptr_same w _ Tryz.underlying225 hj]
 go_wp2
 go_end0
 exact⟨rfl,rfl⟩
set_option maxHeartbeats 1000000 in
set_option maxRecDepth 100000 in
theorem copyCheck_fresh (b:Nat) (w:World) (h0:w.cell? ⟨b,0,none⟩=some (.pointer none)) (hsh:w.shape? b=some (228,2)) (hfz:w.frozen? ⟨b,0,none⟩=false) :
  Calls Tryz.prog 204 #[.pointer (some ⟨b,0,none⟩)] w fun e w'=>e=.returned (.tuple #[])∧w'=w.setCell ⟨b,0,none⟩ (.pointer (some ⟨b,0,none⟩)):=by
 obtain⟨j,hj,hjs⟩:=Option.map_eq_some_iff.1 sizeBuilder_
 go_enter Tryz.func204,Tryz.ntmps204
 go_wp2
 rw [Lib.run_to_unsafe w ⟨b,0,none⟩ Tryz.underlying225 Tryz.underlying202 hj (by rw [hjs];decide) hsh (Nat.zero_lt_succ 1)]
 simp only [Result.andThen]
 rw [Oper.upon_value]
 go_wp2
 rw [run_callFunc_extern Tryz.func232 (by kernel_rfl) (by kernel_rfl) (by kernel_rfl) (e:=Extern.AbiNoEscape.same) (by kernel_rfl)]
 rw [Lib.run_noEscape]
 simp only [Result.andThen]
 rw [Oper.upon_value]
 go_wp2
 rw [Lib.run_from_unsafe w ⟨b,0,none⟩ Tryz.underlying202 Tryz.underlying225 hj hsh liesBuilder_]
 simp only [Result.andThen]
 rw [Oper.upon_value]
 go_wp2
 go_end0
 exact⟨rfl,rfl⟩
theorem copyCheck_any (B b:Nat) (bs:List Value) (w:World) (h:Lib.IsBuilder 228 5 B b bs w) :
  Calls Tryz.prog 204 #[.pointer (some ⟨b,0,none⟩)] w fun e w'=>e=.returned (.tuple #[])∧(Lib.BuilderAt 228 5 B b (.pointer (some ⟨b,0,none⟩)) bs w'∧Below B w w'∧∀p:Addr,p.block≠b→w'.cell? p=w.cell? p):=by
 rcases h with h|h
 ·refine(copyCheck_fresh b w h.cell0 h.shape h.frozen0).mono ?_
  rintro e w' ⟨rfl,rfl⟩
  exact⟨rfl,h.used _,(Below.refl B w).setCell (p:=⟨b,0,none⟩) h.1 _,fun p hp=>World.cell?_setCell_other w _ p _ (fun e=>hp (by rw [←e]))⟩
 ·refine(copyCheck_used b w h.cell0).mono ?_
  rintro e w' ⟨rfl,rfl⟩
  exact⟨rfl,h,Below.refl B _,fun _ _=>rfl⟩
set_option maxHeartbeats 2000000 in
set_option maxRecDepth 100000 in
theorem builder_ws (B b:Nat) (bs:List Value) (s:ByteArray) (w:World) (h:Lib.IsBuilder 228 5 B b bs w) (hlen:bs.length+s.size≤140737488355328) (hBw:B≤w.heap.size) :
  Calls Tryz.prog 165 #[.pointer (some ⟨b,0,none⟩),.string s] w fun e w'=>e=.returned (.tuple #[.int .i64 s.size,.nilIface])∧(Lib.BuilderAt 228 5 B b (.pointer (some ⟨b,0,none⟩)) (bs++Lib.strCells s) w'∧Below B w w'):=by
 obtain⟨i0,hi,hz0,hz1,hz2⟩:=info_parts info_u8
 go_enter Tryz.func165,Tryz.ntmps165
 go_wp2_with fail
 refine(copyCheck_any B b _ _ h).mono ?_
 rintro e w1 ⟨rfl,h1,hb1,hk1⟩
 obtain⟨hB,v,hbk,hown,hne⟩:=h1
 have c0:w1.cell? ⟨b,0,none⟩=some (.pointer (some ⟨b,0,none⟩)):=by rw [Lib.cell_of_heap hbk];rfl
 have c1:w1.cell? ⟨b,1,none⟩=some v:=by rw [Lib.cell_of_heap hbk];rfl
 clear hk1
 go_wp2_with (at_builtin;refine Lib.wpList_append_own_string _ rfl _ _ 226 9 rfl B 5 i0 Tryz.underlying226 Tryz.underlying9 hi hz0 hz1 hz2 _ _ _ rfl hown s rfl ?c3 ?c4 ?c5 ?_)
 case c3=>unfold maxLen;omega
 case c4=>omega
 case c5=>have:=hb1.size;omega
 intro v' w2 hown' hgrow _
 have hlt:b < w1.heap.size:=by
  rcases Nat.lt_or_ge b w1.heap.size with h'|h'
  ·exact h'
  ·simp [Array.getElem?_eq_none h'] at hbk
 have hb2:w2.heap[b]? = some (.cells #[.pointer (some ⟨b,0,none⟩),v] 228 (0,0)):=by
  rw [hgrow.block b hlt (fun e=>hne e.symm)]
  exact hbk
 have d0:w2.cell? ⟨b,0,none⟩=some (.pointer (some ⟨b,0,none⟩)):=by rw [Lib.cell_of_heap hb2];rfl
 have d1:w2.cell? ⟨b,1,none⟩=some v:=by rw [Lib.cell_of_heap hb2];rfl
 have f1:w2.frozen? ⟨b,1,none⟩=false:=Lib.frozen_of_heap hb2 1
 obtain⟨ao,n',cap,rfl⟩:∃ao n' cap,v'=.slice ao n' cap:=by
  rcases hown'.2 with ⟨hv,h0⟩|⟨g,cap,cur,hv,_⟩
  ·exact⟨none,_,0,by rw [hv]⟩
  ·exact⟨_,_,_,hv⟩
 clear c0 c1
 go_wp2
 go_ret2
 refine⟨rfl,?_,?_⟩
 ·exact Lib.BuilderAt.put hB hb2 (by rw [List.length_append,Lib.strCells_length];exact hown') (by decide)
 ·exact(hb1.grown hgrow (Nat.le_trans hBw hb1.size) (fun k hk=>(hown.lt k hk).1)).setCell (p:=⟨b,1,none⟩) hB _
end Go.Proofs.YtnfokaecobddkaaGreatDoor
end
section
namespace Go.Proofs.YtnfokaecobddkaaGreatDoor
open Go.RowKit
set_option linter.unusedSimpArgs false
set_option linter.unusedVariables false
end Go.Proofs.YtnfokaecobddkaaGreatDoor
end
section
namespace Go.Proofs.YtnfokaecobddkaaGreatDoor
open Go.RowKit
set_option linter.unusedSimpArgs false
set_option linter.unusedVariables false
def ReadP (s:ByteArray) (w:World) (e:Ending) (w':World):Prop:=e=.returned (.tuple #[.int .i64 (numV s),.int .i64 (numE s)])∧Below w.heap.size w w'
theorem ReadP.no {s:ByteArray} {w w':World} (h:numOK s=false) (hb:Below w.heap.size w w'):ReadP s w (.returned (.tuple #[.int .i64 0,.int .i64 60])) w':=by
 unfold ReadP
 rw [(num_no h).1,(num_no h).2]
 exact⟨rfl,hb⟩
theorem ReadP.yes {s:ByteArray} {w w':World} {v:Int} (h:numOK s=true) (hv:v=valK (numsOf s) s.size) (hb:Below w.heap.size w w'):ReadP s w (.returned (.tuple #[.int .i64 v,.int .i64 0])) w':=by
 unfold ReadP
 rw [(num_yes h).1,(num_yes h).2,hv]
 exact⟨rfl,hb⟩
theorem num_dig {s:ByteArray} (h:digK (numsOf s) s.size=false):numOK s=false:=by unfold numOK;rw [h,Bool.and_false];rfl
end Go.Proofs.YtnfokaecobddkaaGreatDoor
end
section
namespace Go.Proofs.YtnfokaecobddkaaGreatDoor
open Go.RowKit
set_option linter.unusedSimpArgs false
set_option linter.unusedVariables false
def LevP (s:ByteArray) (w:World) (e:Ending) (w':World):Prop:=e=.returned (.tuple #[.int .i64 (levV s),.int .i64 (levE s)])∧Below w.heap.size w w'
theorem LevP.no {s:ByteArray} {w w':World} (h:levOK s=false) (hb:Below w.heap.size w w'):LevP s w (.returned (.tuple #[.int .i64 0,.int .i64 60])) w':=by
 unfold LevP levV levE
 rw [h]
 exact⟨rfl,hb⟩
theorem LevP.yes {s:ByteArray} {w w':World} {v:Int} (h:levOK s=true) (hv:v=levS s*numV (levT s)) (hb:Below w.heap.size w w'):LevP s w (.returned (.tuple #[.int .i64 v,.int .i64 0])) w':=by
 unfold LevP levV levE
 rw [h,hv]
 exact⟨rfl,hb⟩
end Go.Proofs.YtnfokaecobddkaaGreatDoor
end
section
namespace Go.Proofs.YtnfokaecobddkaaGreatDoor
open Go.RowKit
set_option linter.unusedSimpArgs false
set_option linter.unusedVariables false
theorem str_size (l:List Int):(strOfNums l).size=l.length:=by
 have h:(strOfNums l).data.toList.length=l.length:=by rw [strOfNums_data,List.length_map]
 rw [←h]
 generalize strOfNums l=s
 cases s
 rfl
theorem digF_len:∀f n,(digF f n).length≤f+1
 | 0,n=>by simp [digF]
 | f+1,n=>by
  rw [digF]
  split
  ·simp
  ·rw [List.length_append,List.length_singleton]
   have:=digF_len f (n / 10)
   omega
end Go.Proofs.YtnfokaecobddkaaGreatDoor
end
section
namespace Go.Proofs.YtnfokaecobddkaaGreatDoor
open Go.RowKit
set_option linter.unusedSimpArgs false
set_option linter.unusedVariables false
def saidT (v:List NodeL) (k:Nat):List UInt8:=(nodeAt v k).text.data.toList
def saidK (v:List NodeL) (k:Nat):List UInt8:=((kidsI v 0).take k).flatMap (saidT v)
def saidI (v:List NodeL):ByteArray:=⟨((kidsI v 0).flatMap (saidT v)).toArray⟩
theorem saidK_succ (v:List NodeL) {k j:Nat} (h:(kidsI v 0)[k]? = some j):saidK v (k+1)=saidK v k++saidT v j:=by
 unfold saidK
 rw [List.take_add_one,h]
 simp
theorem saidK_all (v:List NodeL):saidI v=⟨(saidK v (kidsI v 0).length).toArray⟩:=by unfold saidI saidK;rw [List.take_length]
theorem kids_512 {v:List NodeL} (ht:treeI v=true):(kidsI v 0).length≤512:=by
 have h0:=(tree_parts ht).1
 have h5:=(tree_parts ht).2.1
 have he:=(tree_parts ht).2.2.2
 have h1:=(chain_start he).lt (by omega)
 unfold kidsI
 rw [kidL_len]
 omega
theorem root_text {v:List NodeL} {n:NodeL} (ht:treeI v=true) (hn:v[0]? = some n):n.kind=1∧n.text=⟨#[]⟩:=by
 obtain⟨h0,h5,⟨n',hn',hk⟩,he⟩:=tree_parts ht
 rw [hn] at hn'
 simp only [Option.some.injEq] at hn'
 subst hn'
 obtain⟨m,hm,hnd,-⟩:=endN_inv (d:=11) he
 rw [hn] at hm
 simp only [Option.some.injEq] at hm
 subst hm
 refine⟨hk,?_⟩
 unfold nodeI at hnd
 rw [if_neg (by omega)] at hnd
 simp only [Bool.and_eq_true] at hnd
 have h:=hnd.1.1.1.2
 unfold isEmp at h
 rw [decide_eq_true_eq] at h
 have hl:n.text.data.toList=[]:=List.eq_nil_of_length_eq_zero (by rw [←h];generalize n.text=s;cases s;rfl)
 apply ByteArray.ext
 apply Array.ext'
 simpa using hl
set_option maxHeartbeats 4000000 in
set_option maxRecDepth 10000 in
theorem twords_any (v:List NodeL) (A:Option Addr) (c:Nat) (w:World) (hc:v.length≤c) (hz:SzV 1000000000 v) (hr:RdV w w.heap.size A v) (ht:treeI v=true) :
  Calls Tryz.prog 117 #[.slice A v.length c,.int .i64 0] w fun e w'=>e=.returned (.tuple #[.string (saidI v),.int .i64 0])∧Below w.heap.size w w':=by
 have hl0:=(tree_parts ht).1
 have hl5:=(tree_parts ht).2.1
 have H:=Lib.hid (kids_any v A c 0 w hc hz hr ht hl0)
 unfold KidsPost at H
 obtain⟨n,hn⟩:∃n,v[0]? = some n:=⟨_,List.getElem?_eq_getElem hl0⟩
 have hrt:=root_text ht hn
 obtain⟨b,off,rfl,hb,hcc⟩:=hr hl0
 obtain⟨-,-,-,-,t4,-⟩:=hcc 0 n hn
 rw [Nat.zero_mul,Nat.add_zero,hrt.2] at t4
 have HT4:=Lib.hid t4
 have HCC:=Lib.hid (fun(i:Nat) (m:NodeL) (hi:v[i]? = some m)=>(hcc i m hi).2.2.2.2.1)
 have HKL:Hid (∀k∈kidsI v 0,k < v.length):=Lib.hid (fun k hk=>(kids_lt (tree_parts ht).2.2.2 hk).1)
 have HSK:=Lib.hid (fun k j h=>saidK_succ v (k:=k) (j:=j) h)
 have HAL:=Lib.hid (saidK_all v)
 have HS0:Hid (saidK v 0=[]):=Lib.hid rfl
 have HZT:Hid (∀j:Nat,(saidT v j).length≤1000000000):=Lib.hid (fun j=>by
  unfold saidT nodeAt
  rw [List.getD_eq_getElem?_getD]
  cases hj:v[j]? with
  | none=>simp;exact Nat.le_trans (by decide) (show 0≤1000000000 by omega)
  | some m=>
   have h:=(hz.2 m (List.mem_of_getElem? hj)).2.2.2.2.1
   show m.text.data.toList.length≤_
   refine Nat.le_trans (Nat.le_of_eq ?_) h
   generalize m.text=s
   cases s
   rfl)
 have HKN:=Lib.hid (kids_512 ht)
 clear hr hz hc ht hcc hn hrt t4
 generalize saidI v=r at *
 generalize hK:(kidsI v 0).length=K at *
 have HK:=Lib.hid hK
 clear hK
 go_enter Tryz.func117,Tryz.ntmps117
 go_wp2_with fail
 refine H.out.mono ?_
 rintro e w1 ⟨u,rfl,hown,hb1⟩
 obtain⟨A1,c1,rfl⟩:=own_form hown
 have HRD:=Lib.hid (Rd.of_own hown)
 have X1:=Lib.hid hb1
 have hs1:=hb1.size
 have e4:=(hb1.cell (p:=⟨b,off+4,none⟩) hb).trans HT4.out
 have HI0:=Lib.hid (Lib.fresh_isBuilder 228 5 w1)
 obtain⟨W2,hW2⟩:∃W2,W2=w1.alloc (.cells #[.pointer none,.slice none 0 0] 228):=⟨_,rfl⟩
 have hX2:Below w1.heap.size w1 W2:=by rw [hW2];exact(Below.refl _ _).alloc (Nat.le_refl _) _
 have e4':=(hX2.cell (p:=⟨b,off+4,none⟩) (by show b < _;omega)).trans e4
 rw [hW2] at e4'
 have HWS:=Lib.hid (builder_ws w1.heap.size w1.heap.size [] ⟨#[]⟩ _ HI0.out (by show 0+0≤_;omega) (by simp))
 rw [←hW2] at HWS
 have HX2:=Lib.hid hX2
 have HW2:=Lib.hid hW2
 clear hown hb1 hX2 hW2 HI0 e4
 go_wp2_with fail
 rw [←HW2.out]
 refine HWS.out.mono ?_
 rintro e w3 ⟨rfl,hB3,hb3⟩
 have HB3:Hid (Lib.IsBuilder 228 5 w1.heap.size w1.heap.size (Lib.byteCells (saidK v 0)) w3):=Lib.hid (by rw [HS0.out];exact .inr hB3)
 have X3:Hid (Below w1.heap.size w1 w3):=Lib.hid (HX2.out.trans hb3)
 clear hB3 hb3 e4'
 go_wp2
 go_loopw [10,28] (fun _ s28 wr=>∃k:Nat,k≤K∧s28=.int .i64 k∧Hid (Below w1.heap.size w1 wr)∧Hid (Lib.IsBuilder 228 5 w1.heap.size w1.heap.size (Lib.byteCells (saidK v k)) wr)∧Hid ((saidK v k).length≤k*1000000000)∧Hid (w1.heap.size≤wr.heap.size)) (fun _ s28 _=>K - (intOf s28).toNat)
 case atStart=>exact⟨0,Nat.zero_le _,rfl,X3,HB3,Lib.hid (by rw [HS0.out];exact Nat.zero_le _),Lib.hid X3.out.size⟩
 case round=>
  obtain⟨k,hk,rfl,HB,HBU,HLN,HSZ⟩:=hrel
  have hK5:=HKN.out
  by_cases hlt:k < K
  ·obtain⟨j,hj⟩:∃j,(kidsI v 0)[k]? = some j:=⟨_,List.getElem?_eq_getElem (by have:=HK.out;omega)⟩
   have hjl:=HKL.out j (List.mem_of_getElem? hj)
   obtain⟨m,hm⟩:∃m,v[j]? = some m:=⟨_,List.getElem?_eq_getElem hjl⟩
   obtain⟨b2,o2,x,rfl,hb2,hx,hcx⟩:=(HRD.out.below HB.out (Nat.le_refl _)).at_ hlt
   have hxj:x=.int .i64 (j:Int):=by
    have h2:(ints .i64 ((kidsI v 0).map fun k:Nat=>(k:Int)))[k]? = some (.int .i64 (j:Int)):=by simp [ints,hj]
    rw [h2] at hx
    simpa using hx.symm
   subst hxj
   have hcm:=(HB.out.cell (p:=⟨b,off+j*6+4,none⟩) (by show b < _;omega)).trans ((X1.out.cell (p:=⟨b,off+j*6+4,none⟩) hb).trans (HCC.out j m hm))
   have HSU:Hid (saidK v (k+1)=saidK v k++m.text.data.toList):=Lib.hid (by
    rw [HSK.out k j hj]
    unfold saidT nodeAt
    rw [List.getD_eq_getElem?_getD,hm]
    rfl)
   have HT:=Lib.hid (HZT.out j)
   have HTL:Hid ((saidT v j).length=m.text.size):=Lib.hid (by
    unfold saidT nodeAt
    rw [List.getD_eq_getElem?_getD,hm]
    show m.text.data.toList.length=_
    generalize m.text=s
    cases s
    rfl)
   have HK5:Hid (k≤512):=Lib.hid (by have:=HKN.out;omega)
   have hjl':(j:Int) < (v.length:Int):=by omega
   have HWS2:=Lib.hid (builder_ws w1.heap.size w1.heap.size (Lib.byteCells (saidK v k)) m.text wr HBU.out (by rw [Lib.byteCells_length];have h1:=HLN.out;have h2:=HT.out;have h3:=HTL.out;have h4:=HK5.out;omega) HSZ.out)
   clear hj hm hx
   go_wp2_with fail
   refine HWS2.out.mono ?_
   rintro e w4 ⟨rfl,hB4,hb4⟩
   have HB4:Hid (Lib.IsBuilder 228 5 w1.heap.size w1.heap.size (Lib.byteCells (saidK v (k+1))) w4):=Lib.hid (by rw [HSU.out,Lib.byteCells_append];exact .inr hB4)
   have X4:Hid (Below w1.heap.size w1 w4):=Lib.hid (HB.out.trans hb4)
   have HL4:Hid ((saidK v (k+1)).length≤(k+1)*1000000000):=Lib.hid (by
    rw [HSU.out,List.length_append]
    have h1:=HLN.out
    have h2:=HT.out
    have h3:=HTL.out
    have h5:m.text.data.toList.length=m.text.size:=by generalize m.text=s;cases s;rfl
    omega)
   clear hB4 hb4
   go_wp2
   go_roundw
   case rel=>exact⟨k+1,by omega,by go_num,X4,HB4,HL4,Lib.hid X4.out.size⟩
   case measure=>simp [intOf];omega
  ·obtain rfl:k=K:=by omega
   have HST:=Lib.hid (Tryz.Builder_String_any w1.heap.size w1.heap.size (saidK v k) wr HBU.out HSZ.out)
   have HAL2:Hid (r=⟨(saidK v k).toArray⟩):=Lib.hid (by rw [HAL.out])
   go_wp2_with fail
   refine HST.out.mono ?_
   rintro e w5 ⟨rfl,hb5⟩
   have X5:Hid (Below w.heap.size w w5):=Lib.hid (X1.out.trans ((HB.out.trans hb5).mono hs1))
   clear hb5
   go_wp2
   go_ret2
   exact⟨by rw [HAL2.out];rfl,X5.out⟩
theorem words_tree (v:List NodeL) (A:Option Addr) (c:Nat) (w:World) (hc:v.length≤c) (hz:SzV 1000000000 v) (hr:RdV w w.heap.size A v) (ht:treeI v=true) :
  Calls Tryz.prog 64 #[.slice A v.length c] w fun e w'=>e=.returned (.string (saidI v))∧Below w.heap.size w w':=by
 have H:=Lib.hid (twords_any v A c w hc hz hr ht)
 clear hc hz hr ht
 generalize v.length=N at *
 generalize saidI v=r at *
 go_enter Tryz.func64,Tryz.ntmps64
 go_wp2_with fail
 refine H.out.mono ?_
 rintro e w1 ⟨rfl,hb1⟩
 have X1:=Lib.hid hb1
 clear hb1
 go_wp2
 go_ret
 exact⟨rfl,X1.out⟩
end Go.Proofs.YtnfokaecobddkaaGreatDoor
end
section
namespace Go.Proofs.YtnfokaecobddkaaGreatDoor
open Go.RowKit
set_option linter.unusedSimpArgs false
set_option linter.unusedVariables false
def Fresh (base:Nat) (w:World) (P:World→Prop):Prop:=∀W',w.heap.size≤W'.heap.size→(∀k,base≤k→k < w.heap.size→W'.heap[k]? = w.heap[k]?)→P W'
section
variable {base base' g:Nat} {w w':World} {P:World→Prop}
theorem Fresh.now (h:Fresh base w P):P w:=h w (Nat.le_refl _) (fun _ _ _=>rfl)
theorem Fresh.ext (h:Fresh base w P) (hb:Below w.heap.size w w'):Fresh base w' P:=fun W' h1 h2=>
 h W' (Nat.le_trans hb.size h1) (fun k k1 k2=>(h2 k k1 (Nat.lt_of_lt_of_le k2 hb.size)).trans (hb.block k k2))
theorem Fresh.mono (h:Fresh base w P) (hb:base'≤base):Fresh base' w P:=fun W' h1 h2=>h W' h1 (fun k k1 k2=>h2 k (Nat.le_trans hb k1) k2)
theorem Fresh.set (h:Fresh base w P) (hg:g < base) (o:Nat) (u:Value):Fresh base (w.setCell ⟨g,o,none⟩ u) P:=fun W' q1 q2=>
 h W' (by simpa [World.setCell] using q1) (fun k k1 k2=>(q2 k k1 (by simpa [World.setCell] using k2)).trans (heap_setCell_other w _ k _ (by show k≠g;omega)))
end
theorem al_at (w W:World) (o:Obj) (n:Nat) (hn:n=w.heap.size) (h:Below (n+1) (w.alloc o) W):W.heap[n]? = some o:=by
 subst hn
 exact(h.block _ (Nat.lt_succ_self _)).trans (heap_alloc_new w o)
end Go.Proofs.YtnfokaecobddkaaGreatDoor
end
section
namespace Go.Proofs.YtnfokaecobddkaaGreatDoor
open Go.RowKit
set_option linter.unusedSimpArgs false
set_option linter.unusedVariables false
def FailsPost (s:StL) (word:ByteArray) (w:World) (e:Ending) (w':World):Prop:=
 ∃A c,e=.returned (.tuple #[encS (failR s word) A c,.int .i64 (failE s word)])∧(failR s word).load.length≤c∧Fresh w.heap.size w' (fun W=>RdW W W.heap.size A (failR s word).load)∧Below w.heap.size w w'
theorem FailsPost.no {s:StL} {word:ByteArray} {w w':World} {q:Int} (h:Below w.heap.size w w') (h1:failR s word=emS) (h2:failE s word=q):FailsPost s word w (.returned (.tuple #[encS emS none 0,.int .i64 q])) w':=by
 unfold FailsPost
 rw [h1,h2]
 exact⟨none,0,rfl,Nat.le_refl _,fun W' _ _ h=>absurd h (by decide),h⟩
theorem FailsPost.yes {s:StL} {word:ByteArray} {w w':World} {A:Option Addr} {c:Nat} (h:Below w.heap.size w w') (h1:failR s word=failS s word) (h2:failE s word=0) (h3:1≤c) (h4:Fresh w.heap.size w' (fun W=>RdW W W.heap.size A (failS s word).load)):FailsPost s word w (.returned (.tuple #[encS (failS s word) A c,.int .i64 0])) w':=by
 unfold FailsPost
 rw [h1,h2]
 exact⟨A,c,rfl,h3,h4,h⟩
end Go.Proofs.YtnfokaecobddkaaGreatDoor
end
section
namespace Go.Proofs.YtnfokaecobddkaaGreatDoor
open Go.RowKit
set_option linter.unusedSimpArgs false
set_option linter.unusedVariables false
theorem NewV.fresh {base:Nat} {w:World} {A:Option Addr} {c:Nat} {v:List NodeL} (h:NewV base w A c v):Fresh base w (fun W=>RdV W W.heap.size A v):=fun W' h1 h2=>by
 obtain⟨l,rfl,hown,hh⟩:=h
 rw [List.length_map] at hown
 have hk:=fun b (hb:base≤b) (hl:b < w.heap.size) (q:Nat)=>World.cell?_of_block (a:=⟨b,q,none⟩) (h2 b hb hl)
 refine rd_rdv ⟨by have:=(Rd.of_own hown).1;simpa using this,fun h0=>?_⟩ (fun i x hi=>⟨(hh i x hi).1,fun h0=>?_⟩)
 ·obtain⟨g,rfl,g1,g2⟩:=own_some hown (by simpa using h0)
  obtain⟨b,off,e,hb,hc⟩:=(Rd.of_own hown).2 (by simpa using h0)
  simp only [Option.some.injEq,Addr.mk.injEq,and_true] at e
  obtain⟨rfl,rfl⟩:=e
  exact⟨g,0,rfl,Nat.lt_of_lt_of_le hb h1,fun j u hu=>(hk g g1 g2 _).trans (hc j u hu)⟩
 ·obtain⟨b,off,e,b1,b2,b3,b4⟩:=(hh i x hi).2 h0
  refine⟨b,off,e,Nat.lt_of_lt_of_le b3 h1,fun j a ha=>?_⟩
  obtain⟨q0,q1,q2⟩:=b4 j a ha
  exact⟨(hk b b1 b3 _).trans q0,(hk b b1 b3 _).trans q1,(hk b b1 b3 _).trans q2⟩
end Go.Proofs.YtnfokaecobddkaaGreatDoor
end
section
namespace Go.Proofs.YtnfokaecobddkaaGreatDoor
open Go.RowKit
set_option linter.unusedSimpArgs false
set_option linter.unusedVariables false
theorem own_at {w w':World} {base s n:Nat} {e:TypeId} {v:Value} {xs:List Value} (h:w.ownsRow base e s v n xs) (hk:∀k,base≤k→k < w.heap.size→w'.heap[k]? = w.heap[k]?):w'.ownsRow base e s v n xs:=by
 refine⟨h.1,?_⟩
 rcases h.2 with h1|⟨g,cap,cur,h1,h2,h3,h4⟩
 ·exact .inl h1
 ·exact .inr ⟨g,cap,cur,h1,h2,(hk g h2 (Array.getElem?_eq_some_iff.1 h3).1).trans h3,h4⟩
theorem NewO.at {base:Nat} {v:Value} {w w':World} {A:Option Addr} {l:List AttrL} (h:NewO base v w A l) (hs:w.heap.size≤w'.heap.size) (hk:∀k,base≤k→k < w.heap.size→w'.heap[k]? = w.heap[k]?):NewO base v w' A l:=fun h0=>by
 obtain⟨b,off,h1,h2,h3,h4,h5⟩:=h h0
 exact⟨b,off,h1,h2,h3,Nat.lt_of_lt_of_le h4 hs,fun i a hi=>by
  obtain⟨q0,q1,q2⟩:=h5 i a hi
  have hc:∀q:Nat,w'.cell? ⟨b,q,none⟩=w.cell? ⟨b,q,none⟩:=fun q=>World.cell?_of_block (hk b h2 h4)
  exact⟨(hc _).trans q0,(hc _).trans q1,(hc _).trans q2⟩⟩
theorem RowT.at {base:Nat} {u:Value} {w w':World} {ts:List TreeH} (h:RowT base u w ts) (hs:w.heap.size≤w'.heap.size) (hk:∀k,base≤k→k < w.heap.size→w'.heap[k]? = w.heap[k]?):RowT base u w' ts:=by
 refine⟨own_at h.1 hk,fun x hx=>?_⟩
 obtain⟨q1,q2,l,q3,q4,q5,q6⟩:=h.2 x hx
 exact⟨q1,q2,l,q3,own_at q4 hk,q5,fun i y hi=>⟨(q6 i y hi).1,(q6 i y hi).2.at hs hk⟩⟩
theorem RowT.mono {base base':Nat} {u:Value} {w:World} {ts:List TreeH} (h:RowT base u w ts) (hb:base'≤base):RowT base' u w ts:=by
 refine⟨own_mono h.1 hb,fun x hx=>?_⟩
 obtain⟨q1,q2,l,q3,q4,q5,q6⟩:=h.2 x hx
 exact⟨q1,q2,l,q3,own_mono q4 hb,q5,fun i y hi=>⟨(q6 i y hi).1,fun h00=>by
  obtain⟨b',off',e1,e2,e3⟩:=(q6 i y hi).2 h00
  exact⟨b',off',e1,Nat.le_trans hb e2,e3⟩⟩⟩
theorem put6_size (w:World) (g:Nat) (a b c d e f:Value):(put6 w g a b c d e f).heap.size=w.heap.size:=by simp [put6,World.setCell]
theorem RowT.put {base:Nat} {u:Value} {w:World} {ts:List TreeH} (h:RowT base u w ts) {g:Nat} (hg:g < base) (a b c d e f:Value):RowT base u (put6 w g a b c d e f) ts:=
 h.at (by rw [put6_size];exact Nat.le_refl _) (fun k hk _=>put6_other (by omega) _ _ _ _ _ _)
theorem part_szv {v:List NodeL} {M:Nat} (h:SzV M v) (k:Nat):SzV M (partI v k):=by
 unfold partI
 refine⟨?_,fun n hn=>h.2 n (List.mem_of_mem_drop (List.mem_of_mem_take hn))⟩
 have:=h.1
 simp only [List.length_take,List.length_drop]
 omega
theorem elems_szw {v:List NodeL} (hz:SzV 1000000000 v) (ht:treeI v=true):SzW (elemsI v):=by
 have hl0:=(tree_parts ht).1
 obtain⟨e0,he0,_⟩:=tree_ends ht hl0
 have h1:=(chain_start he0).lt (by have:=(tree_parts ht).2.1;omega)
 have h2:=(endN_le v 12 0 e0 he0).2
 have h3:=(tree_parts ht).2.1
 have h4:(kidsI v 0).length≤512:=by
  unfold kidsI
  rw [kidL_len]
  omega
 unfold elemsI elemsK
 refine⟨?_,fun x hx=>?_⟩
 ·rw [List.length_map]
  have:=List.length_filter_le (fun k=>decide ((nodeAt v k).kind=1)) (kidsI v 0)
  omega
 ·obtain⟨k,_,rfl⟩:=List.mem_map.1 hx
  exact part_szv hz k
end Go.Proofs.YtnfokaecobddkaaGreatDoor
end
