/- Part 3 of a proof laid in parts, one behind the other; no condition of its own. -/
import Derived.Test.YtnfokaecobddkaaGreatDoorV02
import Derived.StillTail
import Derived.Test.YtnfokaecobddkaaGreatDoorV01
import Derived.Outline
import Derived.Shelf.Strings.Builder1
import Derived.Shelf.Strings.Trim
import Derived.Shelf.Small.Utf8
import Derived.Shelf.Small.Strs
import Derived.Shelf.Strings.BuilderF
import Derived.Shelf.Strconv.Itoa0
import Derived.Shelf.Strconv.Itoa1
import Derived.Shelf.LaysM
import Derived.Shelf.Strconv.Itoa2
import Derived.Shelf.Strconv.Itoa3
import Derived.Shelf.Strings.Search1
import Derived.Shelf.Strings.Search2
import Derived.Shelf.Strings.Search3
import Derived.Shelf.Strings.Cut
import Derived.Shelf.Strings.Shaped
import Derived.Shelf.GgClosure.StringsIndexFunc
import Derived.Ground.GgwProg
import Derived.Shelf.GgClosure.StringsIndexFuncTop
import Derived.Shelf.GgClosure.StringsRunes
import Derived.Shelf.Strings.Prefix
import Derived.Shelf.Strings.Runes
import Derived.Shelf.Strings.AsciiSet
import Derived.Shelf.Unicode.DecodeSlow
import Derived.Shelf.Unicode.DecodeAny
import Derived.Shelf.Unicode.DecodeLast
import Derived.Shelf.Strings.FuncGrows
import Derived.Shelf.Slices.Turned
import Derived.Test.YtnfokaecobddkaaGreatDoorProg
set_option linter.all false
section
namespace Go.Proofs.YtnfokaecobddkaaGreatDoor
open Go.RowKit
section
variable {P:Program} {ops:Array Oper} {w0:World}
def leftH (n:Nat) (listed:Array Bool):Nat:=((List.range n).filter fun i=>!listed.getD i false).length
theorem filter_one {p q:Nat→Bool} {i:Nat} (hp:p i=true) (hq:q i=false) (he:∀j,j≠i→q j=p j):∀n,i < n→((List.range n).filter p).length=((List.range n).filter q).length+1:=by
 intro n
 induction n with
 | zero=>intro h;omega
 | succ n ih=>
  intro h
  rw [List.range_succ,List.filter_append,List.filter_append,List.length_append,List.length_append]
  by_cases hn:i=n
  ·subst hn
   have e:(List.range i).filter p=(List.range i).filter q:=by
    apply List.filter_congr
    intro x hx
    exact(he x (by have:=List.mem_range.1 hx;omega)).symm
   rw [e]
   simp [hp,hq]
  ·rw [ih (by omega)]
   have:q n=p n:=he n (by omega)
   simp only [List.filter_cons,List.filter_nil,this]
   omega
theorem leftH_step {n i:Nat} {listed:Array Bool} (hi:i < n) (hs:i < listed.size) (hun:listed.getD i false=false):leftH n listed=leftH n (listed.setIfInBounds i true)+1:=by
 unfold leftH
 refine filter_one (i:=i) (by rw [hun];rfl) (by simp [hs]) (fun j hj=>?_) n hi
 rw [getD_set_ne false (fun e=>hj e.symm)]
theorem leftH_zero {n:Nat} {listed:Array Bool} (h:leftH n listed=0):∀i,i < n→listed.getD i false=true:=by
 intro i hi
 unfold leftH at h
 have:=List.eq_nil_of_length_eq_zero h
 rw [List.filter_eq_nil_iff] at this
 have:=this i (List.mem_range.2 hi)
 simpa using this
theorem InvT.fin_head {Us:List Ty} {a0:Act} {listed:Array Bool} {a:Act} {w:World} {n:Nat} (hB:tyB ops=true) (hlen:Us.length=ops.size) (hn:n≤ops.size) (inv:InvT ops (fun s=>.inl (a0.tmps.getD s undef)) Us w0 a0 listed a w)
  (hall:∀i,i < n→listed.getD i false=true) (htl:∀t,n≤t→t < ops.size→listed.getD t true=false) {Q:Act→World→Prop} (h:FinT w0 Q (ops.toList.take n) (Us.take n) a0 (fun _=>True)):Q a w:=by
 have hlt_of:∀j,listed.getD j false=true→j < n:=by
  intro j hj
  rcases Nat.lt_or_ge j n with h'|h'
  ·exact h'
  ·rcases Nat.lt_or_ge j ops.size with h2|h2
   ·have:=getD_false_of_true (htl j h' h2)
    rw [this] at hj;cases hj
   ·have:listed.size≤j:=by rw [inv.lsize];exact h2
    simp [Array.getElem?_eq_none this] at hj
 have hty:∀(k:Nat) o T d,(ops.toList.take n)[k]? = some o→(Us.take n)[k]? = some T→o.dst=some d→Ty.of T (a.tmps.getD d undef) w:=by
  intro k o T d hk hT hd
  have hkn:k < n:=by
   have:=(List.getElem?_eq_some_iff.1 hk).1
   simp at this;omega
  have hk':ops[k]? = some o:=by rw [List.getElem?_take,if_pos hkn] at hk;simpa using hk
  have hT':Us[k]? = some T:=by rw [List.getElem?_take,if_pos hkn] at hT;exact hT
  have hlt:k < ops.size:=(Array.getElem?_eq_some_iff.1 hk').1
  have:=inv.typed d
  unfold typeAt at this
  cases hq:writer ops listed d with
  | none=>exact absurd hd (writer_none hq hk' (hall k hkn))
  | some j=>
   obtain⟨_,p,hp,hpd⟩:=writer_some hq
   rcases (tyB_pair hB hk' hp hpd).1 with h|h
   ·subst h
    rw [hq] at this
    simpa only [List.getD_eq_getElem?_getD,hT',Option.getD_some] using this
   ·exact absurd hd h
 have hfin:=FinT.out (a:=a) inv.ext (ops.toList.take n) (Us.take n) a0 _ h (by simp [hlen]) trivial hty (fun _ _ _ _ _=>trivial)
 have heq:putAll a (ops.toList.take n) a0=a:=by
  have hsz:=putAll_size a (ops.toList.take n) a0
  have h1:(putAll a (ops.toList.take n) a0).tmps=a.tmps:=by
   apply Array.ext
   ·rw [hsz.1,inv.size]
   ·intro s hs1 hs2
    have hs0:s < a0.tmps.size:=by rw [←hsz.1];exact hs1
    have hg:=putAll_get a s (ops.toList.take n) a0 hs0 inv.size.symm
    have hu:a.tmps.getD s undef=a.tmps[s]:=by simp [hs2]
    have hv:(putAll a (ops.toList.take n) a0).tmps.getD s undef=(putAll a (ops.toList.take n) a0).tmps[s]:=by simp [hs1]
    refine(hv.symm.trans (hg.trans ?_)).trans hu
    by_cases hno:∃o∈ops.toList.take n,o.dst=some s
    ·rw [if_pos hno]
    ·rw [if_neg hno]
     have this:=inv.typed s
     unfold typeAt at this
     cases hq:writer ops listed s with
     | none=>rw [hq] at this;exact Eq.symm this
     | some j=>
      obtain⟨hjl,p,hp,hpd⟩:=writer_some hq
      have hjn:=hlt_of j hjl
      refine absurd ⟨p,?_,hpd⟩ hno
      have:(ops.toList.take n)[j]? = some p:=by rw [List.getElem?_take,if_pos hjn];simpa using hp
      exact List.mem_of_getElem? this
  cases hpa:putAll a (ops.toList.take n) a0 with
  | mk t d=>
   rw [hpa] at h1 hsz
   have h2:=hsz.2.trans inv.defers.symm
   cases a
   simp_all
 rwa [heq] at hfin
theorem wpAny_typed_tail {Us:List Ty} {a0:Act} {n:Nat} (hB:tyB ops=true) (hlen:Us.length=ops.size) (hst:∀(k:Nat) (T:Ty),Us[k]? = some T→Stable T)
  (hdst:∀(k:Nat) o d,ops[k]? = some o→o.dst=some d→d < a0.tmps.size) (hn:n < ops.size) (hs:Region.sinkB .any ops n=true) (hc:Region.chainB .any ops n=true)
  (hseq:Region.seqB .any ops (ops.size - n) n (Array.replicate n true++Array.replicate (ops.size - n) false)=true)
  (hop:∀(k:Nat) o,k < n→ops[k]? = some o→∃T,Us[k]? = some T∧OpT P ops w0 o (lexEnv ops.toList Us (fun s=>.inl (a0.tmps.getD s undef)) k) T)
  {Q:Exit→Act→World→Prop} (h:FinT w0 (fun a w=>wpList P ops Q (ops.toList.drop n) a w) (ops.toList.take n) (Us.take n) a0 (fun _=>True)) :
  ∀(f:Nat) (listed:Array Bool) (a:Act) (w:World),leftH n listed=f→InvT ops (fun s=>.inl (a0.tmps.getD s undef)) Us w0 a0 listed a w→(∀t,n≤t→t < ops.size→listed.getD t true=false)→
   wpAny P .any ops Q (f+(ops.size - n)) listed a w
 | 0,listed,a,w,hl,inv,htl=>by
  have hall:=leftH_zero hl
  have hfin:=inv.fin_head hB hlen (by omega) hall htl h
  have hle:listed=Array.replicate n true++Array.replicate (ops.size - n) false:=by
   apply Array.ext
   ·simp [inv.lsize];omega
   ·intro i h1 h2
    rw [inv.lsize] at h1
    rcases Nat.lt_or_ge i n with hi|hi
    ·have:=hall i hi
     rw [Array.getElem_append_left (by simpa using hi)]
     simp [inv.lsize,h1] at this
     simpa using this
    ·have:=htl i hi h1
     rw [Array.getElem_append_right (by simpa using hi)]
     simp [inv.lsize,h1] at this
     simpa using this
  rw [Nat.zero_add]
  have hdl:(ops.toList.drop n).length=ops.size - n:=by simp
  have:=wpAny_of_seq (md:=.any) (Q':=Q) (ops.toList.drop n) n listed a w (fun j=>by simp [List.getElem?_drop]) (by rw [hdl,hle];exact hseq) hfin
  rwa [hdl] at this
 | f+1,listed,a,w,hl,inv,htl=>by
  have hinv:HeadInv .any ops n listed:=⟨inv.lsize,inv.closed,htl⟩
  have hex:∃i,i < n∧listed.getD i false=false:=by
   by_cases hx:∃i,i < n∧listed.getD i false=false
   ·exact hx
   ·have:leftH n listed=0:=by
     unfold leftH
     have:(List.range n).filter (fun i=>!listed.getD i false)=[]:=by
      rw [List.filter_eq_nil_iff]
      intro i hi
      have hi':=List.mem_range.1 hi
      cases hq:listed.getD i false with
      | true=>simp
      | false=>exact absurd ⟨i,hi',hq⟩ hx
     rw [this];rfl
    omega
  obtain⟨i0,hi0,hun0⟩:=hex
  have hun1:listed.getD i0 true=false:=getD_in (by rw [inv.lsize];omega) hun0
  rw [show f+1+(ops.size - n)=(f+(ops.size - n))+1 by omega]
  refine⟨fun hr=>?_,fun i hi=>?_⟩
  ·have:=all_of_none_ready hB inv hr i0 (by omega)
   rw [hun0] at this;cases this
  ·obtain⟨hun,o,ho,_⟩:=mem_ready.1 hi
   have hin:i < n:=by
    rcases Nat.lt_or_ge i n with h'|h'
    ·exact h'
    ·exact absurd hi (tail_waits hs hc hn hinv _ i0 rfl hi0 hun1 i h')
   obtain⟨T,hT,hopT⟩:=hop i o hin ho
   refine inv.step hB hlen hst (fun s=>stable_is _) hdst ho hi hT hopT (fun a' w' inv'=>?_)
   refine wpAny_typed_tail hB hlen hst hdst hn hs hc hseq hop h f _ a' w' ?_ inv' ?_
   ·have:=leftH_step hin (by rw [inv.lsize];omega) (getD_false_of_true hun)
    omega
   ·intro t ht htl'
    rw [getD_set_ne true (by omega)]
    exact htl t ht htl'
def tailB (ops:Array Oper) (n:Nat):Bool:=decide (n < ops.size) && Region.sinkB .any ops n && Region.chainB .any ops n && Region.seqB .any ops (ops.size - n) n (Array.replicate n true++Array.replicate (ops.size - n) false)
theorem lexEnv_pad {l:List Oper} {Us Vs:List Ty} {E:Env} {n k:Nat} (hk:k≤n) (hu:Us.length=n):lexEnv l (Us++Vs) E k=lexEnv (l.take n) Us E k:=by
 unfold lexEnv
 rw [List.take_take,Nat.min_eq_left hk,List.take_append_of_le_length (by omega)]
theorem wp_region_typed_tail {id:Nat} {Q:Exit→Act→World→Prop} {a:Act} {w:World} (n:Nat) (hm:P.follows .mixedOrders=true) (hB:tyB ops=true) (hD:dstB ops a.tmps.size=true) (hT:tailB ops n=true)
  (h:wpT P ops w.drew (fun Us=>FinT w.drew (fun a w=>wpList P ops Q (ops.toList.drop n) a w) (ops.toList.take n) Us a (fun _=>True)) (ops.toList.take n) (fun s=>.inl (a.tmps.getD s undef)) []):(Code.region id ops true).wp P Q a w:=by
 simp only [tailB,Bool.and_eq_true,decide_eq_true_eq] at hT
 obtain⟨⟨⟨hn,hs⟩,hc⟩,hseq⟩:=hT
 obtain⟨Us,hlen,hfin,hk⟩:=wpT_types _ _ _ h
 have hlen':Us.length=n:=by simpa [Nat.min_eq_left (Nat.le_of_lt hn)] using hlen
 let Vs:List Ty:=List.replicate (ops.size - n) (.inl undef)
 have hl2:(Us++Vs).length=ops.size:=by simp [Vs,hlen'];omega
 have htake:(Us++Vs).take n=Us:=by rw [←hlen',List.take_left'];rfl
 refine wp_region_any hm ?_
 have key:=wpAny_typed_tail (P:=P) (w0:=w.drew) (a0:=a) (Us:=Us++Vs) (n:=n) (Q:=Q) hB hl2 ?_ (dstB_spec hD) hn hs hc hseq ?_ (by rw [htake];simpa using hfin) n (Array.replicate ops.size false) a w.drew ?_ ?_ ?_
 ·rw [show n+(ops.size - n)=ops.size by omega] at key
  exact key
 ·intro k T hT
  rcases Nat.lt_or_ge k n with hkn|hkn
  ·rw [List.getElem?_append_left (by omega)] at hT
   have hlt:k < (ops.toList.take n).length:=by simp;omega
   obtain⟨T',h1,h2,_⟩:=hk k _ (List.getElem?_eq_getElem hlt)
   rw [hT] at h1
   injection h1 with h1
   subst h1
   exact h2
  ·rw [List.getElem?_append_right (by omega)] at hT
   have:T=.inl undef:=by
    have:=List.mem_of_getElem? hT
    exact List.eq_of_mem_replicate this
   subst this
   exact stable_is _
 ·intro k o hkn ho
  obtain⟨T,h1,_,h3⟩:=hk k o (by rw [List.getElem?_take,if_pos hkn];simpa using ho)
  refine⟨T,by rw [List.getElem?_append_left (by omega)];exact h1,?_⟩
  rw [lexEnv_pad (Nat.le_of_lt hkn) hlen']
  exact h3
 ·unfold leftH
  have:(List.range n).filter (fun i=>!(Array.replicate ops.size false).getD i false)=List.range n:=by
   rw [List.filter_eq_self]
   intro i _
   rw [getD_replicate_false];rfl
  rw [this,List.length_range]
 ·refine⟨Ext.refl _,rfl,rfl,by simp,?_,?_⟩
  ·intro j oj _ hl
   rw [getD_replicate_false] at hl;cases hl
  ·intro s
   have hw:writer ops (Array.replicate ops.size false) s=none:=by
    unfold writer
    rw [List.find?_eq_none]
    intro i hi
    simp [List.mem_range.1 hi]
   unfold typeAt
   rw [hw]
   rfl
 ·intro t _ ht
  exact getD_in (by simpa using ht) (getD_replicate_false _ _)
theorem InvT.fin_gen {Us:List Ty} {a0:Act} {listed:Array Bool} {a:Act} {w:World} {l:List Oper} {Vs:List Ty} (hB:tyB ops=true) (inv:InvT ops (fun s=>.inl (a0.tmps.getD s undef)) Us w0 a0 listed a w)
  (hlen:Vs.length=l.length) (h1:∀(k:Nat) o T,l[k]? = some o→Vs[k]? = some T→∃i,ops[i]? = some o∧Us[i]? = some T∧listed.getD i false=true) (h2:∀j o,listed.getD j false=true→ops[j]? = some o→o∈l)
  {Q:Act→World→Prop} (h:FinT w0 Q l Vs a0 (fun _=>True)):Q a w:=by
 have hty:∀(k:Nat) o T d,l[k]? = some o→Vs[k]? = some T→o.dst=some d→Ty.of T (a.tmps.getD d undef) w:=by
  intro k o T d hk hT hd
  obtain⟨i,hi,hT',hli⟩:=h1 k o T hk hT
  have:=inv.typed d
  unfold typeAt at this
  cases hq:writer ops listed d with
  | none=>exact absurd hd (writer_none hq hi hli)
  | some j=>
   obtain⟨_,p,hp,hpd⟩:=writer_some hq
   rcases (tyB_pair hB hi hp hpd).1 with h|h
   ·subst h
    rw [hq] at this
    simpa only [List.getD_eq_getElem?_getD,hT',Option.getD_some] using this
   ·exact absurd hd h
 have hfin:=FinT.out (a:=a) inv.ext l Vs a0 _ h hlen trivial hty (fun _ _ _ _ _=>trivial)
 have heq:putAll a l a0=a:=by
  have hsz:=putAll_size a l a0
  have h3:(putAll a l a0).tmps=a.tmps:=by
   apply Array.ext
   ·rw [hsz.1,inv.size]
   ·intro s hs1 hs2
    have hs0:s < a0.tmps.size:=by rw [←hsz.1];exact hs1
    have hg:=putAll_get a s l a0 hs0 inv.size.symm
    have hu:a.tmps.getD s undef=a.tmps[s]:=by simp [hs2]
    have hv:(putAll a l a0).tmps.getD s undef=(putAll a l a0).tmps[s]:=by simp [hs1]
    refine(hv.symm.trans (hg.trans ?_)).trans hu
    by_cases hno:∃o∈l,o.dst=some s
    ·rw [if_pos hno]
    ·rw [if_neg hno]
     have this:=inv.typed s
     unfold typeAt at this
     cases hq:writer ops listed s with
     | none=>rw [hq] at this;exact Eq.symm this
     | some j=>
      obtain⟨hjl,p,hp,hpd⟩:=writer_some hq
      exact absurd ⟨p,h2 j p hjl hp,hpd⟩ hno
  cases hpa:putAll a l a0 with
  | mk t d=>
   rw [hpa] at h3 hsz
   have h4:=hsz.2.trans inv.defers.symm
   cases a
   simp_all
 rwa [heq] at hfin
def pathB (ops:Array Oper):List Nat→Array Bool→Bool
 | [],listed=>(Region.ready .any ops listed).isEmpty
 | i :: ix,listed=>decide (Region.ready .any ops listed=[i]) && pathB ops ix (listed.setIfInBounds i true)
theorem wpAny_of_path {Q:Exit→Act→World→Prop}:∀(ix:List Nat) (l:List Oper) (listed:Array Bool) (a:Act) (w:World),ix.map (fun i=>ops[i]?)=l.map some→pathB ops ix listed=true→
  wpList P ops Q l a w→wpAny P .any ops Q ix.length listed a w
 | [],[],listed,a,w,_,hp,h=>⟨by simpa [pathB] using hp,h⟩
 | [],_ :: _,_,_,_,hm,_,_=>by simp at hm
 | _ :: _,[],_,_,_,hm,_,_=>by simp at hm
 | i :: ix,o :: l,listed,a,w,hm,hp,h=>by
  simp only [List.map_cons,List.cons.injEq] at hm
  simp only [pathB,Bool.and_eq_true,decide_eq_true_eq] at hp
  refine⟨fun h1=>(by rw [hp.1] at h1;cases h1),fun i' hi'=>?_⟩
  rw [hp.1] at hi'
  have:i'=i:=by simpa using hi'
  subst this
  have hw:wpOp P ops Q i' (wpList P ops Q l) a w:=by unfold wpOp;simp only [hm.1];exact h
  exact wpOp_mono (fun a' w' h'=>wpAny_of_path ix l _ a' w' hm.2 hp.2 h') hw
def headA (ops:Array Oper) (n:Nat):Array Bool:=Array.replicate n true++Array.replicate (ops.size - n) false
def lazyB (ops:Array Oper) (n z:Nat):Bool:=
 decide (n < ops.size) && decide (z < n) && ((List.range n).all fun i=>decide (i=z) || (List.range (n+1)).any fun j=>decide (i < j) && decide (j≠z) && Region.waitsFor .any ops j i) && Region.chainB .any ops n &&
 Region.seqB .any ops (ops.size - n) n (headA ops n) &&
 ((Region.ready .any ops ((headA ops n).setIfInBounds z false)).all fun i=>decide (i=z) || decide (i=n)) &&
 pathB ops (z :: (List.range (ops.size - n - 1)).map (n+1+·)) (((headA ops n).setIfInBounds z false).setIfInBounds n true)
theorem tail_waits' {n z:Nat} {listed:Array Bool} (hs:∀i,i < n→i≠z→∃j,j≤n∧i < j∧j≠z∧Region.waitsFor .any ops j i=true) (hc:Region.chainB .any ops n=true) (hn:n < ops.size) (inv:HeadInv .any ops n listed) :
  ∀(d i:Nat),n - i=d→i < n→i≠z→listed.getD i true=false→∀t,n≤t→t ∉ Region.ready .any ops listed:=by
 intro d
 induction d using Nat.strongRecOn with
 | _ d ih=>
  intro i hd hi hiz hun t ht hr
  obtain⟨_,ot,hot,hall⟩:=mem_ready.1 hr
  have htlt:t < ops.size:=(Array.getElem?_eq_some_iff.1 hot).1
  by_cases htn:t=n
  ·subst htn
   obtain⟨j,hjle,hij,hjz,hj2⟩:=hs i hi hiz
   obtain⟨oj,hoj,e,he,hb,hon⟩:=Region.waitsFor_spec hj2
   by_cases hjt:j=t
   ·subst hjt
    have:oj=ot:=Option.some.inj (hoj.symm.trans hot)
    subst this
    have h2:=hall e he hb
    rw [hon,getD_both hun] at h2
    cases h2
   ·cases hl:listed.getD j false with
    | true=>
     have h2:=inv.closed j oj hoj hl e he hb
     rw [hon,getD_both hun] at h2
     cases h2
    | false=>
     have hjs:j < listed.size:=by rw [inv.size];omega
     exact ih (t - j) (by omega) j rfl (by omega) hjz (getD_in hjs hl) t (Nat.le_refl _) hr
  ·have h1:=List.all_eq_true.1 hc t (List.mem_range.2 htlt)
   simp only [Bool.or_eq_true,decide_eq_true_eq] at h1
   rcases h1 with h1|h1
   ·omega
   ·obtain⟨o',ho',e,he,hb,hon⟩:=Region.waitsFor_spec h1
    have:o'=ot:=Option.some.inj (ho'.symm.trans hot)
    subst this
    have h2:=hall e he hb
    rw [hon,getD_both (inv.tail (t - 1) (by omega) (by omega))] at h2
    cases h2
theorem listed_ext {listed:Array Bool} {m:Nat} {B:Array Bool} (hs:listed.size=m) (hb:B.size=m) (h:∀i,i < m→listed.getD i false=B.getD i false):listed=B:=by
 apply Array.ext
 ·omega
 ·intro i h1 h2
  have:=h i (by omega)
  simpa [h1,h2] using this
theorem getD_set_other {l:Array Bool} {i j:Nat} {b d:Bool} (h:i≠j):(l.setIfInBounds i b).getD j d=l.getD j d:=by
 simp only [Array.getD_eq_getD_getElem?,Array.getElem?_setIfInBounds_ne h]
theorem headA_get {n i:Nat} (hn:n≤ops.size) (hi:i < ops.size):(headA ops n).getD i false=decide (i < n):=by
 rw [Array.getD_eq_getD_getElem?]
 unfold headA
 rw [Array.getElem?_append,Array.getElem?_replicate,Array.getElem?_replicate,Array.size_replicate]
 rcases Nat.lt_or_ge i n with h|h
 ·rw [if_pos h,if_pos h];simp [h]
 ·rw [if_neg (by omega),if_pos (by omega)]
  have:¬i < n:=by omega
  simp [this]
theorem headA_size {n:Nat} (hn:n≤ops.size):(headA ops n).size=ops.size:=by simp [headA];omega
theorem wpAny_typed_lazy {Us:List Ty} {a0:Act} {n z:Nat} (hB:tyB ops=true) (hlen:Us.length=ops.size) (hst:∀(k:Nat) (T:Ty),Us[k]? = some T→Stable T)
  (hdst:∀(k:Nat) o d,ops[k]? = some o→o.dst=some d→d < a0.tmps.size) (hL:lazyB ops n z=true)
  (hop:∀(k:Nat) o,k < n→ops[k]? = some o→∃T,Us[k]? = some T∧OpT P ops w0 o (lexEnv ops.toList Us (fun s=>.inl (a0.tmps.getD s undef)) k) T)
  {Q:Exit→Act→World→Prop} (h:FinT w0 (fun a w=>wpList P ops Q (ops.toList.drop n) a w) (ops.toList.take n) (Us.take n) a0 (fun _=>True))
  (h':∀on oz,ops[n]? = some on→ops[z]? = some oz→FinT w0 (fun a w=>wpList P ops Q (on :: oz :: ops.toList.drop (n+1)) a w) ((ops.toList.take n).eraseIdx z) ((Us.take n).eraseIdx z) a0 (fun _=>True)) :
  ∀(f:Nat) (listed:Array Bool) (a:Act) (w:World),leftH n listed=f→InvT ops (fun s=>.inl (a0.tmps.getD s undef)) Us w0 a0 listed a w→(∀t,n≤t→t < ops.size→listed.getD t true=false)→
   wpAny P .any ops Q (f+(ops.size - n)) listed a w:=by
 have hL0:=hL
 simp only [lazyB,Bool.and_eq_true,decide_eq_true_eq] at hL
 obtain⟨⟨⟨⟨⟨⟨hn,hz⟩,hs⟩,hc⟩,hseq⟩,hrd⟩,hpath⟩:=hL
 have hs':∀i,i < n→i≠z→∃j,j≤n∧i < j∧j≠z∧Region.waitsFor .any ops j i=true:=by
  intro i hi hiz
  have h1:=List.all_eq_true.1 hs i (List.mem_range.2 hi)
  simp only [Bool.or_eq_true,decide_eq_true_eq,hiz,false_or] at h1
  obtain⟨j,hj,hj2⟩:=List.any_eq_true.1 h1
  simp only [Bool.and_eq_true,decide_eq_true_eq] at hj2
  exact⟨j,by have:=List.mem_range.1 hj;omega,hj2.1.1,hj2.1.2,hj2.2⟩
 have htlF:∀(listed:Array Bool),(∀t,n≤t→t < ops.size→listed.getD t true=false)→∀t,n≤t→t < ops.size→listed.getD t false=false:=fun listed ht t h1 h2=>getD_false_of_true (ht t h1 h2)
 have hA:∀(listed:Array Bool) (a:Act) (w:World),InvT ops (fun s=>.inl (a0.tmps.getD s undef)) Us w0 a0 listed a w→(∀t,n≤t→t < ops.size→listed.getD t true=false)→(∀i,i < n→listed.getD i false=true)→
   wpAny P .any ops Q (ops.size - n) listed a w:=by
  intro listed a w inv htl hall
  have hfin:=inv.fin_head hB hlen (by omega) hall htl h
  have hle:listed=headA ops n:=listed_ext inv.lsize (headA_size (by omega)) (fun i hi=>by
   rw [headA_get (by omega) hi]
   rcases Nat.lt_or_ge i n with hin|hin
   ·rw [hall i hin];simp [hin]
   ·rw [htlF listed htl i hin hi];simp;omega)
  have hdl:(ops.toList.drop n).length=ops.size - n:=by simp
  have:=wpAny_of_seq (md:=.any) (Q':=Q) (ops.toList.drop n) n listed a w (fun j=>by simp [List.getElem?_drop]) (by rw [hdl,hle];exact hseq) hfin
  rwa [hdl] at this
 have hLz:∀(listed:Array Bool) (a:Act) (w:World),InvT ops (fun s=>.inl (a0.tmps.getD s undef)) Us w0 a0 listed a w→(∀t,n≤t→t < ops.size→listed.getD t true=false)→(∀i,i < n→i≠z→listed.getD i false=true)→listed.getD z false=false→
   wpAny P .any ops Q (1+(ops.size - n)) listed a w:=by
  intro listed a w inv htl hall hzl
  have hle:listed=(headA ops n).setIfInBounds z false:=listed_ext inv.lsize (by rw [Array.size_setIfInBounds];exact headA_size (by omega)) (fun i hi=>by
   by_cases hiz:i=z
   ·subst hiz
    have:i < (headA ops n).size:=by have:=headA_size (ops:=ops) (n:=n) (by omega);omega
    rw [hzl];simp [this]
   ·rw [getD_set_other (fun e=>hiz e.symm),headA_get (by omega) hi]
    rcases Nat.lt_or_ge i n with hin|hin
    ·rw [hall i hin hiz];simp [hin]
    ·rw [htlF listed htl i hin hi];simp;omega)
  have hon:ops[n]? = some ops[n]:=by simp [hn]
  have hoz:ops[z]? = some (ops[z]'(by omega)):=by rw [Array.getElem?_eq_getElem (by omega)]
  rw [show 1+(ops.size - n)=(ops.size - n)+1 by omega]
  have hzr:z∈Region.ready .any ops listed∨Region.ready .any ops listed≠[]:=by
   by_cases hne:Region.ready .any ops listed=[]
   ·have:=all_of_none_ready hB inv hne z (by omega)
    rw [hzl] at this;cases this
   ·exact .inr hne
  refine⟨fun hr=>?_,fun i hi=>?_⟩
  ·rcases hzr with h1|h1
   ·rw [hr] at h1;cases h1
   ·exact absurd hr h1
  ·have h1:=List.all_eq_true.1 hrd i (by rw [←hle];exact hi)
   simp only [Bool.or_eq_true,decide_eq_true_eq] at h1
   obtain⟨hun,o,ho,_⟩:=mem_ready.1 hi
   rcases h1 with rfl|rfl
   ·obtain⟨T,hT,hopT⟩:=hop i o hz ho
    refine inv.step hB hlen hst (fun s=>stable_is _) hdst ho hi hT hopT (fun a' w' inv'=>?_)
    refine hA _ a' w' inv' (fun t ht ht'=>?_) (fun j hj=>?_)
    ·rw [getD_set_ne true (by omega)];exact htl t ht ht'
    ·by_cases hji:j=i
     ·subst hji
      have:j < listed.size:=by rw [inv.lsize];omega
      simp [this]
     ·rw [getD_set_ne false (fun e=>hji e.symm)];exact hall j hj hji
   ·have hfin:=inv.fin_gen (l:=(ops.toList.take i).eraseIdx z) (Vs:=(Us.take i).eraseIdx z) hB (by simp [List.length_eraseIdx,hlen]) (fun k o' T hk hT=>?_) (fun j o' hj ho'=>?_) (h' _ _ hon hoz)
    ·have hw:wpOp P ops Q i (wpList P ops Q (ops[z]'(by omega) :: ops.toList.drop (i+1))) a w:=by unfold wpOp;simp only [hon];exact hfin
     refine wpOp_mono (fun a' w' h2=>?_) hw
     have hpl:(z :: (List.range (ops.size - i - 1)).map (i+1+·)).length=ops.size - i:=by simp;omega
     have:=wpAny_of_path (Q:=Q) (z :: (List.range (ops.size - i - 1)).map (i+1+·)) (ops[z]'(by omega) :: ops.toList.drop (i+1)) (listed.setIfInBounds i true) a' w' (by
      simp only [List.map_cons,hoz,List.cons.injEq,true_and,List.map_map]
      apply List.ext_getElem?
      intro k
      simp only [List.getElem?_map,List.getElem?_drop,Function.comp]
      rcases Nat.lt_or_ge k (ops.size - i - 1) with hk|hk
      ·rw [List.getElem?_range hk]
       have h4:i+1+k < ops.size:=by omega
       simp [h4]
      ·rw [List.getElem?_eq_none (by simpa using hk),List.getElem?_eq_none (by simp;omega)]
       rfl) (by rw [hle];exact hpath) h2
     rwa [hpl] at this
    ·rw [List.getElem?_eraseIdx] at hk hT
     by_cases hkz:k < z
     ·rw [if_pos hkz,List.getElem?_take] at hk hT
      rw [if_pos (by omega)] at hk hT
      exact⟨k,by simpa using hk,hT,hall k (by omega) (by omega)⟩
     ·rw [if_neg hkz,List.getElem?_take] at hk hT
      by_cases hki:k+1 < i
      ·rw [if_pos hki] at hk hT
       exact⟨k+1,by simpa using hk,hT,hall (k+1) hki (by omega)⟩
      ·rw [if_neg hki] at hk;cases hk
    ·have hji:j < i:=by
      rcases Nat.lt_or_ge j i with h1|h1
      ·exact h1
      ·have hjs:=(Array.getElem?_eq_some_iff.1 ho').1
       rw [htlF listed htl j h1 hjs] at hj;cases hj
     have hjz:j≠z:=by rintro rfl;rw [hzl] at hj;cases hj
     refine List.mem_of_getElem? (i:=if j < z then j else j - 1) ?_
     rw [List.getElem?_eraseIdx]
     by_cases hlt:j < z
     ·rw [if_pos hlt,if_pos hlt,List.getElem?_take,if_pos hji];simpa using ho'
     ·rw [if_neg hlt,if_neg (by omega),List.getElem?_take,if_pos (by omega),show j - 1+1=j by omega];simpa using ho'
 intro f
 induction f with
 | zero=>
  intro listed a w hl inv htl
  rw [Nat.zero_add]
  exact hA listed a w inv htl (leftH_zero hl)
 | succ f ih=>
  intro listed a w hl inv htl
  have hinv:HeadInv .any ops n listed:=⟨inv.lsize,inv.closed,htl⟩
  by_cases hx:∃i,i < n∧i≠z∧listed.getD i false=false
  ·obtain⟨i0,hi0,hiz0,hun0⟩:=hx
   have hun1:listed.getD i0 true=false:=getD_in (by rw [inv.lsize];omega) hun0
   rw [show f+1+(ops.size - n)=(f+(ops.size - n))+1 by omega]
   refine⟨fun hr=>?_,fun i hi=>?_⟩
   ·have:=all_of_none_ready hB inv hr i0 (by omega)
    rw [hun0] at this;cases this
   ·obtain⟨hun,o,ho,_⟩:=mem_ready.1 hi
    have hin:i < n:=by
     rcases Nat.lt_or_ge i n with h'|h'
     ·exact h'
     ·exact absurd hi (tail_waits' hs' hc hn hinv _ i0 rfl hi0 hiz0 hun1 i h')
    obtain⟨T,hT,hopT⟩:=hop i o hin ho
    refine inv.step hB hlen hst (fun s=>stable_is _) hdst ho hi hT hopT (fun a' w' inv'=>?_)
    refine ih _ a' w' ?_ inv' ?_
    ·have:=leftH_step hin (by rw [inv.lsize];omega) (getD_false_of_true hun)
     omega
    ·intro t ht htl'
     rw [getD_set_ne true (by omega)]
     exact htl t ht htl'
  ·have hall:∀i,i < n→i≠z→listed.getD i false=true:=by
    intro i hi hiz
    cases hq:listed.getD i false with
    | true=>rfl
    | false=>exact absurd ⟨i,hi,hiz,hq⟩ hx
   have hzl:listed.getD z false=false:=by
    cases hq:listed.getD z false with
    | false=>rfl
    | true=>
     have:leftH n listed=0:=by
      unfold leftH
      have:(List.range n).filter (fun i=>!listed.getD i false)=[]:=by
       rw [List.filter_eq_nil_iff]
       intro i hi
       have hi':=List.mem_range.1 hi
       by_cases hiz:i=z
       ·subst hiz;simp [hq]
       ·simp [hall i hi' hiz]
      rw [this];rfl
     omega
   have hf:f=0:=by
    have h1:=leftH_step (n:=n) hz (by rw [inv.lsize];omega) hzl
    have h2:leftH n (listed.setIfInBounds z true)=0:=by
     unfold leftH
     have:(List.range n).filter (fun i=>!(listed.setIfInBounds z true).getD i false)=[]:=by
      rw [List.filter_eq_nil_iff]
      intro i hi
      have hi':=List.mem_range.1 hi
      by_cases hiz:i=z
      ·subst hiz
       have:i < listed.size:=by rw [inv.lsize];omega
       simp [this]
      ·rw [getD_set_ne false (fun e=>hiz e.symm),hall i hi' hiz];simp
     rw [this];rfl
    omega
   subst hf
   exact hLz listed a w inv htl hall hzl
theorem wp_region_typed_lazy {id:Nat} {Q:Exit→Act→World→Prop} {a:Act} {w:World} (n z:Nat) (hm:P.follows .mixedOrders=true) (hB:tyB ops=true) (hD:dstB ops a.tmps.size=true) (hT:lazyB ops n z=true)
  (h:wpT P ops w.drew (fun Us=>FinT w.drew (fun a w=>wpList P ops Q (ops.toList.drop n) a w) (ops.toList.take n) Us a (fun _=>True)∧
   FinT w.drew (fun a w=>wpList P ops Q (ops.toList.drop n |>.take 1 |>.append (ops.toList.drop z |>.take 1) |>.append (ops.toList.drop (n+1))) a w) ((ops.toList.take n).eraseIdx z) (Us.eraseIdx z) a (fun _=>True)) (ops.toList.take n) (fun s=>.inl (a.tmps.getD s undef)) []):(Code.region id ops true).wp P Q a w:=by
 have hT0:=hT
 simp only [lazyB,Bool.and_eq_true,decide_eq_true_eq] at hT
 obtain⟨⟨⟨⟨⟨⟨hn,hz⟩,_⟩,_⟩,_⟩,_⟩,_⟩:=hT
 obtain⟨Us,hlen,hfin,hk⟩:=wpT_types _ _ _ h
 have hlen':Us.length=n:=by simpa [Nat.min_eq_left (Nat.le_of_lt hn)] using hlen
 let Vs:List Ty:=List.replicate (ops.size - n) (.inl undef)
 have hl2:(Us++Vs).length=ops.size:=by simp [Vs,hlen'];omega
 have htake:(Us++Vs).take n=Us:=by rw [←hlen',List.take_left'];rfl
 have hfin':FinT w.drew (fun a w=>wpList P ops Q (ops.toList.drop n) a w) (ops.toList.take n) Us a (fun _=>True)∧
   FinT w.drew (fun a w=>wpList P ops Q (ops.toList.drop n |>.take 1 |>.append (ops.toList.drop z |>.take 1) |>.append (ops.toList.drop (n+1))) a w) ((ops.toList.take n).eraseIdx z) (Us.eraseIdx z) a (fun _=>True):=by simpa using hfin
 refine wp_region_any hm ?_
 have key:=wpAny_typed_lazy (P:=P) (w0:=w.drew) (a0:=a) (Us:=Us++Vs) (n:=n) (z:=z) (Q:=Q) hB hl2 ?_ (dstB_spec hD) hT0 ?_ (by rw [htake];exact hfin'.1) (fun on oz hon hoz=>by
  rw [htake]
  have e1:(ops.toList.drop n).take 1=[on]:=by
   have:ops.toList[n]? = some on:=by simpa using hon
   rw [List.take_one,List.head?_drop,this];rfl
  have e2:(ops.toList.drop z).take 1=[oz]:=by
   have:ops.toList[z]? = some oz:=by simpa using hoz
   rw [List.take_one,List.head?_drop,this];rfl
  have:=hfin'.2
  rw [e1,e2] at this
  exact this) n (Array.replicate ops.size false) a w.drew ?_ ?_ ?_
 ·rw [show n+(ops.size - n)=ops.size by omega] at key
  exact key
 ·intro k T hT
  rcases Nat.lt_or_ge k n with hkn|hkn
  ·rw [List.getElem?_append_left (by omega)] at hT
   have hlt:k < (ops.toList.take n).length:=by simp;omega
   obtain⟨T',h1,h2,_⟩:=hk k _ (List.getElem?_eq_getElem hlt)
   rw [hT] at h1
   injection h1 with h1
   subst h1
   exact h2
  ·rw [List.getElem?_append_right (by omega)] at hT
   have:T=.inl undef:=List.eq_of_mem_replicate (List.mem_of_getElem? hT)
   subst this
   exact stable_is _
 ·intro k o hkn ho
  obtain⟨T,h1,_,h3⟩:=hk k o (by rw [List.getElem?_take,if_pos hkn];simpa using ho)
  refine⟨T,by rw [List.getElem?_append_left (by omega)];exact h1,?_⟩
  rw [lexEnv_pad (Nat.le_of_lt hkn) hlen']
  exact h3
 ·unfold leftH
  have:(List.range n).filter (fun i=>!(Array.replicate ops.size false).getD i false)=List.range n:=by
   rw [List.filter_eq_self]
   intro i _
   rw [getD_replicate_false];rfl
  rw [this,List.length_range]
 ·refine⟨Ext.refl _,rfl,rfl,by simp,?_,?_⟩
  ·intro j oj _ hl
   rw [getD_replicate_false] at hl;cases hl
  ·intro s
   have hw:writer ops (Array.replicate ops.size false) s=none:=by
    unfold writer
    rw [List.find?_eq_none]
    intro i hi
    simp [List.mem_range.1 hi]
   unfold typeAt
   rw [hw]
   rfl
 ·intro t _ ht
  exact getD_in (by simpa using ht) (getD_replicate_false _ _)
end
end Go.Proofs.YtnfokaecobddkaaGreatDoor
end
section
namespace Go.Proofs.YtnfokaecobddkaaGreatDoor
open Go.RowKit
theorem own_keep {w w':World} {base:Nat} {e:TypeId} {s:Nat} {v:Value} {n:Nat} {xs:List Value} (h:w.ownsRow base e s v n xs) (hb:Below w.heap.size w w'):w'.ownsRow base e s v n xs:=
 h.kept (row:=none) ⟨hb.os,hb.tape,hb.output,hb.size,fun k hk _=>hb.block k hk⟩ (by cases h':v.ownBlock with|none=>exact .inl rfl|some g=>exact .inr (by simp))
theorem str_em (s : ByteArray) (h : s.size = 0) : s.toList.isEmpty = true := by
  rw [ByteArray.toList_eq s]
  cases e : s.data.toList with
  | nil => rfl
  | cons a l => have : s.data.toList.length = s.size := by cases s; rfl
                rw [e] at this; simp at this; omega
structure Box (p:Prop):Prop where
 mk ::
 out:p
def evalE (E:Env):Operand→Option Value
 | .tmp s=>match E s with
  | .inl c=>some c
  | .inr _=>none
 | .const v=>some v
 | .global g=>some (.pointer (some ⟨g,0,none⟩))
 | .func f=>some (.func (.func f) #[] #[])
theorem evalE_of {E:Env} {ops:Array Oper} {o:Oper} {a:Act} {w:World} {x:Operand} {c:Value} (h:evalE E x=some c) (hm:x∈o.op.operands)
  (hs:∀s∈o.looksAt ops,Ty.of (E s) (a.tmps.getD s undef) w):a.eval x=c:=by
 cases x with
 | const v=>simpa [evalE,Act.eval] using h
 | global g=>simpa [evalE,Act.eval] using h
 | func f=>simpa [evalE,Act.eval] using h
 | tmp s=>
  have hv:=hs s (looks_of hm rfl)
  simp only [evalE] at h
  cases hE:E s with
  | inl d=>
   rw [hE] at h hv
   simp only [Option.some.injEq] at h
   subst h
   exact hv
  | inr T=>rw [hE] at h;cases h
theorem map_of {E:Env} {ops:Array Oper} {o:Oper} {a:Act} {w:World} {xs:Array Operand} {args:Array Value} (h:xs.toList.map (evalE E)=args.toList.map some) (hm:∀x∈xs,x∈o.op.operands)
  (hs:∀s∈o.looksAt ops,Ty.of (E s) (a.tmps.getD s undef) w):xs.map a.eval=args:=by
 apply Array.ext'
 rw [Array.toList_map]
 have key:∀(l:List Operand) (m:List Value),(∀x∈l,x∈o.op.operands)→l.map (evalE E)=m.map some→l.map a.eval=m:=by
  intro l
  induction l with
  | nil=>intro m _ h;cases m with
   | nil=>rfl
   | cons _ _=>simp at h
  | cons x l ih=>intro m hm h;cases m with
   | nil=>simp at h
   | cons c m=>
    simp only [List.map_cons,List.cons.injEq] at h ⊢
    exact⟨evalE_of h.1 (hm x (by simp)) hs,ih m (fun y hy=>hm y (by simp [hy])) h.2⟩
 exact key _ _ (fun x hx=>hm x (by simpa using hx)) h
section
variable {ops:Array Oper} {w0:World} {Fin:List Ty→Prop} {rest:List Oper} {E:Env} {Ts:List Ty} {o:Oper} {P:Program}
theorem tw_fn {f:FuncId} {xs:Array Operand} {ts:Array TypeId} (args:Array Value) (T:Ty) (hst:Stable T) (hop:o.op=.call { callee:=.value (.func f),args:=xs,argTypes:=ts})
  (hcf:∀(W:World),(callFunc f args).run P W=.ok (.enter f args) W) (hx:xs.toList.map (evalE E)=args.toList.map some) (hw:Wd ops o E true)
  (hc:∀W,Ext w0 W→Calls P f args W fun e w'=>∃v,e=.returned v∧Ext W w'∧Ty.of T v w')
  (hr:wpT P ops w0 Fin rest (E.put o.dst T) (T :: Ts)):wpT P ops w0 Fin (o :: rest) E Ts:=
 tw_call T hst hw (fun a W hW hs=>by
  have hm:=map_of (o:=o) (a:=a) (w:=W) hx (fun x hx=>by rw [hop];simp [Op.operands,Call.operands,hx]) hs
  refine⟨f,args,?_,hc W hW⟩
  unfold execOp
  simp only [hop,resolve,Act.eval,Deferred.ofValue,hm,Sem.run_bind,Sem.run_pure,Result.andThen_ok,invoke,Array.append_empty,Array.empty_append,hcf W]) hr
theorem tw_fnB {f:FuncId} {xs:Array Operand} {ts:Array TypeId} (args:Array Value) (v:Value) (hop:o.op=.call { callee:=.value (.func f),args:=xs,argTypes:=ts})
  (hcf:∀(W:World),(callFunc f args).run P W=.ok (.enter f args) W) (hx:xs.toList.map (evalE E)=args.toList.map some) (hw:Wd ops o E true)
  (hc:∀W,Ext w0 W→Calls P f args W fun e w'=>e=.returned v∧Below W.heap.size W w')
  (hr:wpT P ops w0 Fin rest (E.put o.dst (.inl v)) (.inl v :: Ts)):wpT P ops w0 Fin (o :: rest) E Ts:=
 tw_fn args (.inl v) (stable_is _) hop hcf hx hw (fun W hW=>(hc W hW).mono fun e w' h=>⟨v,h.1,h.2,rfl⟩) hr
end
section
variable {ops:Array Oper} {w0:World} {Fin:List Ty→Prop} {rest:List Oper} {E:Env} {Ts:List Ty} {o:Oper} {P:Program}
theorem tw_op1 {x:Operand} {c:Value} (d:Value) (hop:o.op.operands.toList=[x]) (hE:evalE E x=some c) (hw:Wd ops o E true)
  (h:∀(ρ:Operand→Value) (W:World),Ext w0 W→ρ x=c→(execOp ρ o).run P W=.ok (.value d) W)
  (hr:wpT P ops w0 Fin rest (E.put o.dst (.inl d)) (.inl d :: Ts)):wpT P ops w0 Fin (o :: rest) E Ts:=
 have hm:x∈o.op.operands:=by rw [←Array.mem_toList_iff,hop];simp
 tw_pure d hw (fun a W hW hs=>h a.eval W hW (evalE_of hE hm hs)) hr
theorem tw_op2 {x y:Operand} {c e:Value} (d:Value) (hop:o.op.operands.toList=[x,y]) (hE:evalE E x=some c) (hE':evalE E y=some e) (hw:Wd ops o E true)
  (h:∀(ρ:Operand→Value) (W:World),Ext w0 W→ρ x=c→ρ y=e→(execOp ρ o).run P W=.ok (.value d) W)
  (hr:wpT P ops w0 Fin rest (E.put o.dst (.inl d)) (.inl d :: Ts)):wpT P ops w0 Fin (o :: rest) E Ts:=
 have hm:x∈o.op.operands:=by rw [←Array.mem_toList_iff,hop];simp
 have hm':y∈o.op.operands:=by rw [←Array.mem_toList_iff,hop];simp
 tw_pure d hw (fun a W hW hs=>h a.eval W hW (evalE_of hE hm hs) (evalE_of hE' hm' hs)) hr
theorem tw_pickL {x y z:Operand} {b:Bool} {f:Value} (hop:o.op=.pick x y z) (hE:evalE E x=some (.bool b)) (hE3:evalE E (if b then y else z)=some f) (hw:Wd ops o E true)
  (hr:wpT P ops w0 Fin rest (E.put o.dst (.inl f)) (.inl f :: Ts)):wpT P ops w0 Fin (o :: rest) E Ts:=
 tw_pure f hw (fun a W hW hs=>by
  have h1:a.eval x=.bool b:=evalE_of hE (by rw [hop];simp [Op.operands]) hs
  have h2:a.eval (if b then y else z)=f:=evalE_of hE3 (by rw [hop];cases b <;> simp [Op.operands]) hs
  unfold execOp
  cases b <;> simp_all [asBool]) hr
theorem tw_mv {x:Operand} {c:Value} (hop:o.op=.move x∨o.op=.assign x) (hE:evalE E x=some c) (hw:Wd ops o E true)
  (hr:wpT P ops w0 Fin rest (E.put o.dst (.inl c)) (.inl c :: Ts)):wpT P ops w0 Fin (o :: rest) E Ts:=
 tw_pure c hw (fun a W hW hs=>by
  have h1:a.eval x=c:=evalE_of hE (by rcases hop with h|h <;> rw [h] <;> simp [Op.operands]) hs
  unfold execOp
  rcases hop with h|h <;> simp [h,h1]) hr
theorem tw_lens {x:Operand} {s:ByteArray} (hop:o.op=.call { callee:=.builtin .len,args:=#[x],argTypes:=#[9]}) (hE:evalE E x=some (.string s)) (hw:Wd ops o E true)
  (hr:wpT Tryz.prog ops w0 Fin rest (E.put o.dst (.inl (.int .i64 (s.size:Int)))) (.inl (.int .i64 (s.size:Int)) :: Ts)):wpT Tryz.prog ops w0 Fin (o :: rest) E Ts:=
 tw_pure _ hw (fun a W hW hs=>by
  have h1:a.eval x=.string s:=evalE_of hE (by rw [hop];simp [Op.operands,Call.operands]) hs
  unfold execOp
  simp only [hop,resolve,invoke,builtin,Sem.run_bind,Sem.run_pure,Result.andThen_ok,List.map_toArray,List.map_cons,List.map_nil,h1]
  go_simp) hr
end
end Go.Proofs.YtnfokaecobddkaaGreatDoor
end
section
namespace Go.Proofs.YtnfokaecobddkaaGreatDoor
open Go.RowKit
set_option linter.unusedSimpArgs false
set_option linter.unusedVariables false
theorem ret_two {v v' u u':Value} (h:v=v') (k:u=u'):Ending.returned (.tuple #[v,u])=.returned (.tuple #[v',u']):=by rw [h,k]
def BytesPost (l:List Int) (w:World) (e:Ending) (w':World):Prop:=∃A c,e=.returned (.slice A l.length c)∧Rd w' w'.heap.size 1 A l.length (ints .u8 l)∧Below w.heap.size w w'∧l.length≤c
theorem BytesPost.new (l:List Int) (w:World) (t:TypeId):BytesPost l w (.returned (.slice (some ⟨w.heap.size,0,none⟩) l.length l.length)) (w.alloc (.cells (ints .u8 l).toArray t)):=by
 have h:=Rd.new w t (ints .u8 l).toArray (s:=1) (n:=l.length) (by simp [ints])
 exact⟨_,_,rfl,by simpa using h,(Below.refl _ _).alloc (Nat.le_refl _) _,Nat.le_refl _⟩
end Go.Proofs.YtnfokaecobddkaaGreatDoor
end
section
namespace Go.Proofs.YtnfokaecobddkaaGreatDoor
open Go.RowKit
set_option linter.unusedSimpArgs false
set_option linter.unusedVariables false
theorem BytesPost.ty {l:List Int} {w w':World} {e:Ending} (h:BytesPost l w e w'):∃v,e=.returned v∧Ext w w'∧Ty.of (SlT .u8 l) v w':=by
 obtain⟨A,c,rfl,hr,hb,_⟩:=h
 exact⟨_,rfl,hb,A,c,rfl,hr⟩
theorem str_ne (s:ByteArray) (h:0 < s.size):s.toList.isEmpty=false:=by
 have:s.toList.length=s.size:=by rw [ByteArray.toList_eq s];cases s;rfl
 cases e:s.toList with
 | nil=>rw [e] at this;simp at this;omega
 | cons a l=>rfl
theorem at_eq (s:ByteArray) (k:Nat) (h:k < s.size):(s[k]'h).toNat=b_at s k:=by
 show(s[k]'h).toNat=(s.get! k).toNat
 congr 1
 simp [ByteArray.get!,ByteArray.getElem_eq_getElem_data,h]
end Go.Proofs.YtnfokaecobddkaaGreatDoor
end
section
namespace Go.Proofs.YtnfokaecobddkaaGreatDoor
open Go.RowKit
set_option linter.unusedSimpArgs false
set_option linter.unusedVariables false
theorem info_i64:(Tryz.prog.info? 3).map (fun i=>(i.zero,i.size,i.bytes))=some (some (.int .i64 0),1,8):=by kernel_rfl
theorem app_i64s {w:World} {ops:Array Oper} {rest:List Oper} {o:Oper} {a:Act} {Q:Exit→Act→World→Prop} (hgd:o.guard=none) (s x:Operand)
  (ho:o.op=.call { callee:=.builtin .append,args:=#[s,x],argTypes:=#[121,121]})
  (base:Nat) (v:Value) (n:Nat) (xs:List Int) (hs:a.eval s=v) (hown:w.ownsRow base 3 1 v n (ints .i64 xs))
  (B:Nat) (A:Option Addr) (m c:Nat) (news:List Int) (hx:a.eval x=.slice A m c) (hr:Rd w B 1 A m (ints .i64 news)) (hb:n+m≤1000000000000) (hbase:base≤w.heap.size)
  (h:∀v' w',w'.ownsRow base 3 1 v' (n+m) (ints .i64 (xs++news))→w.grownBy w' v.ownBlock→(v'.ownBlock=v.ownBlock∨v'.ownBlock=some w.heap.size)→wpList Tryz.prog ops Q rest (a.put o.dst v') w'):wpList Tryz.prog ops Q (o :: rest) a w:=by
 obtain⟨i0,hi,hz0,hz1,hz2⟩:=info_parts info_i64
 refine app_wpList w hgd s x _ ho base _ i0 (.int .i64 0) 1 8 Tryz.underlying121 hi hz0 hz1 hz2 rfl (by decide) v n _ hs hown B A m c _ hx hr ints_one (by unfold maxLen;omega) (by omega) hbase ?_
 rw [←ints_append];exact h
theorem ext_size (s:ByteArray) (i:Nat):(s.extract i s.size).size=s.size - i:=by simp
theorem dec_ext (s:ByteArray) (i:Nat):Utf8.decode (s.extract i s.size) 0=Utf8.decode s i:=Lib.tail_decode s i 0
theorem dec_le (s:ByteArray) (h:0 < s.size):(Utf8.decode s 0).2≤s.size - 0:=by
 rw [Lib.decode_at s 0]
 have h':1≤s.size - 0:=by omega
 generalize s.size - 0=n at *
 rcases Lib.decodeN_shape n (s.get! 0).toNat (s.get! (0+1)).toNat (s.get! (0+2)).toNat (s.get! (0+3)).toNat with ⟨_,e⟩|⟨_,_,_,_,e⟩|⟨_,_,_,_,_,_,e⟩|⟨_,_,_,_,_,_,_,e⟩|e <;> rw [e] <;> simp only [] <;> omega
theorem dec_in (s:ByteArray) (i:Nat) (h:i < s.size):i+(Utf8.decode s i).2≤s.size:=by
 rw [←dec_ext s i]
 have:=dec_le (s.extract i s.size) (by rw [ext_size];omega)
 rw [ext_size] at this
 omega
end Go.Proofs.YtnfokaecobddkaaGreatDoor
end
section
namespace Go.Proofs
open Go.Shelf
def Tryz.lays169_ren:Go.Shelf.Ren:=⟨fun|169=>168|n=>n,fun|70=>225|9=>9|0=>0|72=>228|37=>226|127=>283|3=>3|5=>5|n=>n,fun|n=>n⟩
theorem Tryz.lays169:Go.Proofs.Lays.n169 Tryz.prog Tryz.lays169_ren:={
 mixed:=by kernel_rfl
 f169:=Tryz.func168.trans (congrArg some (by kernel_rfl))
 t0:=Tryz.underlying0
 a0:=Tryz.isAgg0
 z0:=Tryz.sizeOf0
 v0:=Tryz.zeroValue0
 t3:=Tryz.underlying3
 a3:=Tryz.isAgg3
 z3:=Tryz.sizeOf3
 v3:=Tryz.zeroValue3
 t9:=Tryz.underlying9
 a9:=Tryz.isAgg9
 z9:=Tryz.sizeOf9
 v9:=Tryz.zeroValue9
 t37:=Tryz.underlying226
 a37:=Tryz.isAgg226
 z37:=Tryz.sizeOf226
 v37:=Tryz.zeroValue226
 t70:=Tryz.underlying225
 a70:=Tryz.isAgg225
 z70:=Tryz.sizeOf225
 v70:=Tryz.zeroValue225
 t72:=Tryz.underlying228
 a72:=Tryz.isAgg228
 z72:=Tryz.sizeOf228
 v72:=Tryz.zeroValue228
 t127:=Tryz.underlying283
 a127:=Tryz.isAgg283
 z127:=Tryz.sizeOf283
 v127:=Tryz.zeroValue283}
theorem Tryz.Builder_Extra_169:Builder.Extra Tryz.prog Tryz.lays169_ren:={
 sizeBuilder:=by kernel_rfl
 liesBuilder:=by kernel_rfl
 t5:=Tryz.underlying5
 a5:=Tryz.isAgg5
 z5:=Tryz.sizeOf5
 v5:=Tryz.zeroValue5
 infoByte:=by kernel_rfl
 cellsByte:=by kernel_rfl
 sizeByte:=by kernel_rfl
 neB5:=by decide}
open Go.RowKit in
theorem Tryz.Builder_String_any (B b:Nat) (l:List UInt8) (w:World) (h:Lib.IsBuilder 228 5 B b (Lib.byteCells l) w) (hBw:B≤w.heap.size) :
  Calls Tryz.prog 168 #[.pointer (some ⟨b,0,none⟩)] w fun e w'=>e=.returned (.string ⟨l.toArray⟩)∧Below B w w':=Any.Builder_String_any Tryz.lays169 Tryz.Builder_Extra_169 B b l w h hBw
def Tryz.lays160_ren:Go.Shelf.Ren:=⟨fun|160=>82|232=>130|231=>129|227=>131|234=>133|233=>132|236=>135|235=>134|228=>177|271=>179|151=>146|197=>178|120=>210|152=>184|260=>209|137=>148|119=>175|224=>217|225=>218|217=>185|266=>219|n=>n,fun|9=>9|4=>4|3=>3|5=>5|117=>181|116=>180|0=>0|124=>184|21=>21|105=>240|46=>236|119=>304|139=>307|138=>306|n=>n,fun|3=>2|4=>3|n=>n⟩
theorem Tryz.lays160:Go.Proofs.Lays.n160 Tryz.prog Tryz.lays160_ren:={
 mixed:=by kernel_rfl
 f119:=Tryz.func175.trans (congrArg some (by kernel_rfl))
 f120:=Tryz.func210.trans (congrArg some (by kernel_rfl))
 f137:=Tryz.func148.trans (congrArg some (by kernel_rfl))
 f151:=Tryz.func146.trans (congrArg some (by kernel_rfl))
 f152:=Tryz.func184.trans (congrArg some (by kernel_rfl))
 f160:=Tryz.func82.trans (congrArg some (by kernel_rfl))
 f197:=Tryz.func178.trans (congrArg some (by kernel_rfl))
 f217:=Tryz.func185.trans (congrArg some (by kernel_rfl))
 f224:=Tryz.func217.trans (congrArg some (by kernel_rfl))
 f225:=Tryz.func218.trans (congrArg some (by kernel_rfl))
 f227:=Tryz.func131.trans (congrArg some (by kernel_rfl))
 f228:=Tryz.func177.trans (congrArg some (by kernel_rfl))
 f231:=Tryz.func129.trans (congrArg some (by kernel_rfl))
 f232:=Tryz.func130.trans (congrArg some (by kernel_rfl))
 f233:=Tryz.func132.trans (congrArg some (by kernel_rfl))
 f234:=Tryz.func133.trans (congrArg some (by kernel_rfl))
 f235:=Tryz.func134.trans (congrArg some (by kernel_rfl))
 f236:=Tryz.func135.trans (congrArg some (by kernel_rfl))
 f260:=Tryz.func209.trans (congrArg some (by kernel_rfl))
 f266:=Tryz.func219.trans (congrArg some (by kernel_rfl))
 f271:=Tryz.func179.trans (congrArg some (by kernel_rfl))
 t0:=Tryz.underlying0
 a0:=Tryz.isAgg0
 z0:=Tryz.sizeOf0
 v0:=Tryz.zeroValue0
 t3:=Tryz.underlying3
 a3:=Tryz.isAgg3
 z3:=Tryz.sizeOf3
 v3:=Tryz.zeroValue3
 t4:=Tryz.underlying4
 a4:=Tryz.isAgg4
 z4:=Tryz.sizeOf4
 v4:=Tryz.zeroValue4
 t5:=Tryz.underlying5
 a5:=Tryz.isAgg5
 z5:=Tryz.sizeOf5
 v5:=Tryz.zeroValue5
 t9:=Tryz.underlying9
 a9:=Tryz.isAgg9
 z9:=Tryz.sizeOf9
 v9:=Tryz.zeroValue9
 t21:=Tryz.underlying21
 a21:=Tryz.isAgg21
 z21:=Tryz.sizeOf21
 v21:=Tryz.zeroValue21
 t46:=Tryz.underlying236
 a46:=Tryz.isAgg236
 z46:=Tryz.sizeOf236
 v46:=Tryz.zeroValue236
 t105:=Tryz.underlying240
 a105:=Tryz.isAgg240
 z105:=Tryz.sizeOf240
 v105:=Tryz.zeroValue240
 t116:=Tryz.underlying180
 a116:=Tryz.isAgg180
 z116:=Tryz.sizeOf180
 t117:=Tryz.underlying181
 a117:=Tryz.isAgg181
 z117:=Tryz.sizeOf181
 v117:=Tryz.zeroValue181
 t119:=Tryz.underlying304
 a119:=Tryz.isAgg304
 z119:=Tryz.sizeOf304
 t124:=Tryz.underlying184
 a124:=Tryz.isAgg184
 z124:=Tryz.sizeOf184
 v124:=Tryz.zeroValue184
 t138:=Tryz.underlying306
 a138:=Tryz.isAgg306
 z138:=Tryz.sizeOf306
 v138:=Tryz.zeroValue306
 t139:=Tryz.underlying307
 a139:=Tryz.isAgg307
 z139:=Tryz.sizeOf307
 v139:=Tryz.zeroValue307
 g3:=by kernel_rfl
 g4:=by kernel_rfl}
def Tryz.lays119_ren:Go.Shelf.Ren:=⟨fun|119=>175|n=>n,fun|21=>21|4=>4|n=>n,fun|n=>n⟩
theorem Tryz.lays119:Go.Proofs.Lays.n119 Tryz.prog Tryz.lays119_ren:={
 mixed:=by kernel_rfl
 f119:=Tryz.func175.trans (congrArg some (by kernel_rfl))
 t4:=Tryz.underlying4
 a4:=Tryz.isAgg4
 z4:=Tryz.sizeOf4
 v4:=Tryz.zeroValue4
 t21:=Tryz.underlying21
 a21:=Tryz.isAgg21
 z21:=Tryz.sizeOf21
 v21:=Tryz.zeroValue21}
theorem Tryz.utf8_ValidRune (r:Int) (w:World) :
  Calls Tryz.prog 175 #[.int .i32 r] w fun e w'=>e=.returned (.bool (Lib.validRune r))∧w'=w:=Any.utf8_ValidRune Tryz.lays119 r w
def Tryz.lays137_ren:Go.Shelf.Ren:=⟨fun|137=>148|217=>185|266=>219|n=>n,fun|9=>9|5=>5|3=>3|n=>n,fun|n=>n⟩
theorem Tryz.lays137:Go.Proofs.Lays.n137 Tryz.prog Tryz.lays137_ren:={
 mixed:=by kernel_rfl
 f137:=Tryz.func148.trans (congrArg some (by kernel_rfl))
 f217:=Tryz.func185.trans (congrArg some (by kernel_rfl))
 f266:=Tryz.func219.trans (congrArg some (by kernel_rfl))
 t3:=Tryz.underlying3
 a3:=Tryz.isAgg3
 z3:=Tryz.sizeOf3
 v3:=Tryz.zeroValue3
 t5:=Tryz.underlying5
 a5:=Tryz.isAgg5
 z5:=Tryz.sizeOf5
 v5:=Tryz.zeroValue5
 t9:=Tryz.underlying9
 a9:=Tryz.isAgg9
 z9:=Tryz.sizeOf9
 v9:=Tryz.zeroValue9}
open Go.RowKit in
theorem Tryz.strings_IndexByte (s:ByteArray) (c:Int) (w:World) :
  Calls Tryz.prog 148 #[.string s,.int .u8 c] w fun e w'=>e=.returned (.int .i64 (Lib.indexByte s.data.toList c.toNat.toUInt8))∧w'=w:=Any.strings_IndexByte Tryz.lays137 s c w
def Tryz.laysM171_ren:Go.Shelf.Ren:=⟨fun|171=>93|243=>139|246=>181|283=>212|284=>213|285=>214|286=>215|129=>237|317=>236|318=>238|319=>239|320=>240|337=>249|338=>250|n=>n,fun|3=>3|9=>9|2=>2|4=>4|171=>284|0=>0|53=>285|37=>226|5=>5|173=>288|212=>309|51=>310|20=>20|213=>311|46=>236|232=>334|233=>335|n=>n,fun|17=>4|18=>5|19=>6|n=>n⟩
theorem Tryz.laysM171:Go.Proofs.LaysM.n171 Tryz.prog Tryz.laysM171_ren:={
 mixed:=by kernel_rfl
 f129:=Tryz.func237.trans (congrArg some (by kernel_rfl))
 f171:=Tryz.func93.trans (congrArg some (by kernel_rfl))
 f243:=Tryz.func139.trans (congrArg some (by kernel_rfl))
 f246:=Tryz.func181.trans (congrArg some (by kernel_rfl))
 f283:=Tryz.func212.trans (congrArg some (by kernel_rfl))
 f284:=Tryz.func213.trans (congrArg some (by kernel_rfl))
 f285:=Tryz.func214.trans (congrArg some (by kernel_rfl))
 f286:=Tryz.func215.trans (congrArg some (by kernel_rfl))
 f317:=Tryz.func236.trans (congrArg some (by kernel_rfl))
 f318:=Tryz.func238.trans (congrArg some (by kernel_rfl))
 f319:=Tryz.func239.trans (congrArg some (by kernel_rfl))
 f320:=Tryz.func240.trans (congrArg some (by kernel_rfl))
 f337:=Tryz.func249.trans (congrArg some (by kernel_rfl))
 f338:=Tryz.func250.trans (congrArg some (by kernel_rfl))
 t0:=Tryz.underlying0
 a0:=Tryz.isAgg0
 z0:=Tryz.sizeOf0
 v0:=Tryz.zeroValue0
 t2:=Tryz.underlying2
 a2:=Tryz.isAgg2
 z2:=Tryz.sizeOf2
 v2:=Tryz.zeroValue2
 t3:=Tryz.underlying3
 a3:=Tryz.isAgg3
 z3:=Tryz.sizeOf3
 v3:=Tryz.zeroValue3
 t4:=Tryz.underlying4
 a4:=Tryz.isAgg4
 z4:=Tryz.sizeOf4
 v4:=Tryz.zeroValue4
 t5:=Tryz.underlying5
 a5:=Tryz.isAgg5
 z5:=Tryz.sizeOf5
 v5:=Tryz.zeroValue5
 t9:=Tryz.underlying9
 a9:=Tryz.isAgg9
 z9:=Tryz.sizeOf9
 v9:=Tryz.zeroValue9
 t20:=Tryz.underlying20
 a20:=Tryz.isAgg20
 z20:=Tryz.sizeOf20
 v20:=Tryz.zeroValue20
 t37:=Tryz.underlying226
 a37:=Tryz.isAgg226
 z37:=Tryz.sizeOf226
 v37:=Tryz.zeroValue226
 t46:=Tryz.underlying236
 a46:=Tryz.isAgg236
 z46:=Tryz.sizeOf236
 v46:=Tryz.zeroValue236
 t51:=Tryz.underlying310
 a51:=Tryz.isAgg310
 z51:=Tryz.sizeOf310
 v51:=Tryz.zeroValue310
 t53:=Tryz.underlying285
 a53:=Tryz.isAgg285
 z53:=Tryz.sizeOf285
 v53:=Tryz.zeroValue285
 t171:=Tryz.underlying284
 a171:=Tryz.isAgg284
 z171:=Tryz.sizeOf284
 v171:=Tryz.zeroValue284
 t173:=Tryz.underlying288
 a173:=Tryz.isAgg288
 z173:=Tryz.sizeOf288
 v173:=Tryz.zeroValue288
 t212:=Tryz.underlying309
 a212:=Tryz.isAgg309
 z212:=Tryz.sizeOf309
 v212:=Tryz.zeroValue309
 t213:=Tryz.underlying311
 a213:=Tryz.isAgg311
 z213:=Tryz.sizeOf311
 t232:=Tryz.underlying334
 a232:=Tryz.isAgg334
 z232:=Tryz.sizeOf334
 v232:=Tryz.zeroValue334
 t233:=Tryz.underlying335
 a233:=Tryz.isAgg335
 z233:=Tryz.sizeOf335
 v233:=Tryz.zeroValue335
 g17:=by kernel_rfl
 g18:=by kernel_rfl
 g19:=by kernel_rfl
 i0:=by kernel_rfl
 i2:=by kernel_rfl
 i3:=by kernel_rfl
 i4:=by kernel_rfl
 i5:=by kernel_rfl
 i9:=by kernel_rfl
 i20:=by kernel_rfl
 i37:=by kernel_rfl
 i46:=by kernel_rfl
 i51:=by kernel_rfl
 i53:=by kernel_rfl
 i171:=by kernel_rfl
 i173:=by kernel_rfl
 i212:=by kernel_rfl
 i232:=by kernel_rfl
 i233:=by kernel_rfl
 m17:=by kernel_rfl
 m18:=by kernel_rfl
 m19:=by kernel_rfl}
open Go.RowKit Go.Sort Go.Lib in
theorem Tryz.strconv_Itoa (n:Int) (h0:-9223372036854775808≤n) (h1:n≤9223372036854775807) (w:World) (htab:Lib.TabIs Tryz.prog w "internal/strconv.uint64pow10" .u64 Lib.pow10Tab) :
  Calls Tryz.prog 93 #[.int .i64 n] w fun e w'=>e=.returned (.string ⟨(Lib.itoa n).toArray⟩)∧∃k os,w'=grow (w.drewN k) os:=Any.strconv_Itoa Tryz.laysM171 n h0 h1 w htab
def Tryz.lays219_ren:Go.Shelf.Ren:=⟨fun|219=>208|217=>185|225=>218|224=>217|267=>235|266=>219|314=>248|n=>n,fun|9=>9|3=>3|4=>4|5=>5|46=>236|146=>322|51=>310|n=>n,fun|1=>1|n=>n⟩
theorem Tryz.lays219:Go.Proofs.Lays.n219 Tryz.prog Tryz.lays219_ren:={
 mixed:=by kernel_rfl
 f217:=Tryz.func185.trans (congrArg some (by kernel_rfl))
 f219:=Tryz.func208.trans (congrArg some (by kernel_rfl))
 f224:=Tryz.func217.trans (congrArg some (by kernel_rfl))
 f225:=Tryz.func218.trans (congrArg some (by kernel_rfl))
 f266:=Tryz.func219.trans (congrArg some (by kernel_rfl))
 f267:=Tryz.func235.trans (congrArg some (by kernel_rfl))
 f314:=Tryz.func248.trans (congrArg some (by kernel_rfl))
 t3:=Tryz.underlying3
 a3:=Tryz.isAgg3
 z3:=Tryz.sizeOf3
 v3:=Tryz.zeroValue3
 t4:=Tryz.underlying4
 a4:=Tryz.isAgg4
 z4:=Tryz.sizeOf4
 v4:=Tryz.zeroValue4
 t5:=Tryz.underlying5
 a5:=Tryz.isAgg5
 z5:=Tryz.sizeOf5
 v5:=Tryz.zeroValue5
 t9:=Tryz.underlying9
 a9:=Tryz.isAgg9
 z9:=Tryz.sizeOf9
 v9:=Tryz.zeroValue9
 t46:=Tryz.underlying236
 a46:=Tryz.isAgg236
 z46:=Tryz.sizeOf236
 v46:=Tryz.zeroValue236
 t51:=Tryz.underlying310
 a51:=Tryz.isAgg310
 z51:=Tryz.sizeOf310
 v51:=Tryz.zeroValue310
 t146:=Tryz.underlying322
 a146:=Tryz.isAgg322
 z146:=Tryz.sizeOf322
 v146:=Tryz.zeroValue322
 g1:=by kernel_rfl}
open Go.RowKit Go.Lib in
theorem Tryz.stringslite_Index_one (s:ByteArray) (c:UInt8) (w:World) :
  Calls Tryz.prog 208 #[.string s,.string ⟨#[c]⟩] w fun e w'=>e=.returned (.int .i64 (Lib.indexByte s.data.toList c))∧w'=w:=Any.stringslite_Index_one Tryz.lays219 s c w
def Tryz.lays144_ren:Go.Shelf.Ren:=⟨fun|144=>149|143=>186|219=>208|217=>185|225=>218|224=>217|267=>235|266=>219|314=>248|n=>n,fun|9=>9|4=>4|3=>3|5=>5|46=>236|146=>322|51=>310|n=>n,fun|1=>1|n=>n⟩
theorem Tryz.lays144:Go.Proofs.Lays.n144 Tryz.prog Tryz.lays144_ren:={
 mixed:=by kernel_rfl
 f143:=Tryz.func186.trans (congrArg some (by kernel_rfl))
 f144:=Tryz.func149.trans (congrArg some (by kernel_rfl))
 f217:=Tryz.func185.trans (congrArg some (by kernel_rfl))
 f219:=Tryz.func208.trans (congrArg some (by kernel_rfl))
 f224:=Tryz.func217.trans (congrArg some (by kernel_rfl))
 f225:=Tryz.func218.trans (congrArg some (by kernel_rfl))
 f266:=Tryz.func219.trans (congrArg some (by kernel_rfl))
 f267:=Tryz.func235.trans (congrArg some (by kernel_rfl))
 f314:=Tryz.func248.trans (congrArg some (by kernel_rfl))
 t3:=Tryz.underlying3
 a3:=Tryz.isAgg3
 z3:=Tryz.sizeOf3
 v3:=Tryz.zeroValue3
 t4:=Tryz.underlying4
 a4:=Tryz.isAgg4
 z4:=Tryz.sizeOf4
 v4:=Tryz.zeroValue4
 t5:=Tryz.underlying5
 a5:=Tryz.isAgg5
 z5:=Tryz.sizeOf5
 v5:=Tryz.zeroValue5
 t9:=Tryz.underlying9
 a9:=Tryz.isAgg9
 z9:=Tryz.sizeOf9
 v9:=Tryz.zeroValue9
 t46:=Tryz.underlying236
 a46:=Tryz.isAgg236
 z46:=Tryz.sizeOf236
 v46:=Tryz.zeroValue236
 t51:=Tryz.underlying310
 a51:=Tryz.isAgg310
 z51:=Tryz.sizeOf310
 v51:=Tryz.zeroValue310
 t146:=Tryz.underlying322
 a146:=Tryz.isAgg322
 z146:=Tryz.sizeOf322
 v146:=Tryz.zeroValue322
 g1:=by kernel_rfl}
open Go.RowKit Go.Lib in
theorem Tryz.strings_Contains (s sub:ByteArray) (m:Int) (w:World) (hs:s.size < 4294967281) (hm:w.cell? ⟨1,0,none⟩=some (.int .i64 m)) :
  Calls Tryz.prog 149 #[.string s,.string sub] w fun e w'=>e=.returned (.bool (Lib.contains s.data.toList sub.data.toList))∧w'=w:=Any.strings_Contains Tryz.lays144 s sub m w hs hm
def Tryz.laysGw17_ren:Go.Shelf.Ren:=⟨fun|17=>144|15=>183|20=>216|n=>n,fun|9=>9|23=>196|4=>4|3=>3|0=>0|21=>21|n=>n,fun|n=>n⟩
theorem Tryz.laysGw17:Go.Proofs.LaysGw.n17 Tryz.prog Tryz.laysGw17_ren:={
 mixed:=by kernel_rfl
 f15:=Tryz.func183.trans (congrArg some (by kernel_rfl))
 f17:=Tryz.func144.trans (congrArg some (by kernel_rfl))
 f20:=Tryz.func216.trans (congrArg some (by kernel_rfl))
 t0:=Tryz.underlying0
 a0:=Tryz.isAgg0
 z0:=Tryz.sizeOf0
 v0:=Tryz.zeroValue0
 i0:=by kernel_rfl
 t3:=Tryz.underlying3
 a3:=Tryz.isAgg3
 z3:=Tryz.sizeOf3
 v3:=Tryz.zeroValue3
 i3:=by kernel_rfl
 t4:=Tryz.underlying4
 a4:=Tryz.isAgg4
 z4:=Tryz.sizeOf4
 v4:=Tryz.zeroValue4
 i4:=by kernel_rfl
 t9:=Tryz.underlying9
 a9:=Tryz.isAgg9
 z9:=Tryz.sizeOf9
 v9:=Tryz.zeroValue9
 i9:=by kernel_rfl
 t21:=Tryz.underlying21
 a21:=Tryz.isAgg21
 z21:=Tryz.sizeOf21
 v21:=Tryz.zeroValue21
 i21:=by kernel_rfl
 t23:=Tryz.underlying196
 a23:=Tryz.isAgg196
 z23:=Tryz.sizeOf196
 v23:=Tryz.zeroValue196
 i23:=by kernel_rfl}
open Go.RowKit Go.Lib in
theorem Tryz.strings_ContainsFunc_runes (g:Nat) (lb:Array Value) (eg:∀args w,(callFunc g args).run Tryz.prog w=.ok (.enter g args) w) (p:Nat→Bool) (s:ByteArray) (w:World) (hp:PredAtRunes Tryz.prog g lb p w) :
  Calls Tryz.prog 144 #[.string s,.func (.func g) #[] lb] w fun e w'=>e=.returned (.bool (decide (0≤Lib.idxFunc p true s)))∧Below w.heap.size w w':=Any.strings_ContainsFunc_runes Tryz.laysGw17 g lb eg p s w hp
def Tryz.lays99_ren:Go.Shelf.Ren:=⟨fun|99=>123|206=>174|n=>n,fun|9=>9|4=>4|3=>3|n=>n,fun|n=>n⟩
theorem Tryz.lays99:Go.Proofs.Lays.n99 Tryz.prog Tryz.lays99_ren:={
 mixed:=by kernel_rfl
 f99:=Tryz.func123.trans (congrArg some (by kernel_rfl))
 f206:=Tryz.func174.trans (congrArg some (by kernel_rfl))
 t3:=Tryz.underlying3
 a3:=Tryz.isAgg3
 z3:=Tryz.sizeOf3
 v3:=Tryz.zeroValue3
 t4:=Tryz.underlying4
 a4:=Tryz.isAgg4
 z4:=Tryz.sizeOf4
 v4:=Tryz.zeroValue4
 t9:=Tryz.underlying9
 a9:=Tryz.isAgg9
 z9:=Tryz.sizeOf9
 v9:=Tryz.zeroValue9}
open Go.RowKit Go.Lib in
theorem Tryz.strings_HasPrefix (s p:ByteArray) (w:World) :
  Calls Tryz.prog 123 #[.string s,.string p] w fun e w'=>e=.returned (.bool (Lib.hasPrefix s.data.toList p.data.toList))∧w'=w:=Any.strings_HasPrefix Tryz.lays99 s p w
def Tryz.lays151_ren:Go.Shelf.Ren:=⟨fun|151=>146|152=>184|137=>148|119=>175|224=>217|225=>218|217=>185|266=>219|n=>n,fun|9=>9|21=>21|4=>4|3=>3|5=>5|0=>0|46=>236|n=>n,fun|n=>n⟩
theorem Tryz.lays151:Go.Proofs.Lays.n151 Tryz.prog Tryz.lays151_ren:={
 mixed:=by kernel_rfl
 f119:=Tryz.func175.trans (congrArg some (by kernel_rfl))
 f137:=Tryz.func148.trans (congrArg some (by kernel_rfl))
 f151:=Tryz.func146.trans (congrArg some (by kernel_rfl))
 f152:=Tryz.func184.trans (congrArg some (by kernel_rfl))
 f217:=Tryz.func185.trans (congrArg some (by kernel_rfl))
 f224:=Tryz.func217.trans (congrArg some (by kernel_rfl))
 f225:=Tryz.func218.trans (congrArg some (by kernel_rfl))
 f266:=Tryz.func219.trans (congrArg some (by kernel_rfl))
 t0:=Tryz.underlying0
 a0:=Tryz.isAgg0
 z0:=Tryz.sizeOf0
 v0:=Tryz.zeroValue0
 t3:=Tryz.underlying3
 a3:=Tryz.isAgg3
 z3:=Tryz.sizeOf3
 v3:=Tryz.zeroValue3
 t4:=Tryz.underlying4
 a4:=Tryz.isAgg4
 z4:=Tryz.sizeOf4
 v4:=Tryz.zeroValue4
 t5:=Tryz.underlying5
 a5:=Tryz.isAgg5
 z5:=Tryz.sizeOf5
 v5:=Tryz.zeroValue5
 t9:=Tryz.underlying9
 a9:=Tryz.isAgg9
 z9:=Tryz.sizeOf9
 v9:=Tryz.zeroValue9
 t21:=Tryz.underlying21
 a21:=Tryz.isAgg21
 z21:=Tryz.sizeOf21
 v21:=Tryz.zeroValue21
 t46:=Tryz.underlying236
 a46:=Tryz.isAgg236
 z46:=Tryz.sizeOf236
 v46:=Tryz.zeroValue236}
open Go.RowKit Go.Lib in
theorem Tryz.strings_ContainsRune_ascii (s:ByteArray) (r:Int) (w:World) (h0:0≤r) (h1:r < 128) :
  Calls Tryz.prog 146 #[.string s,.int .i32 r] w fun e w'=>e=.returned (.bool (decide (0≤Lib.indexByte s.data.toList r.toNat.toUInt8)))∧w'=w:=Any.strings_ContainsRune_ascii Tryz.lays151 s r w h0 h1
end Go.Proofs
end
