/- Part 3 of a proof laid in parts, one behind the other; no condition of its own. -/
import Derived.Test.YtnmnpnofdgdigaaGreatDoorZ01
import Derived.StillTail
import Derived.Test.YtnmnpnofdgdigaaGreatDoorZ02
set_option linter.all false
section
namespace Go.Proofs.YtnmnpnofdgdigaaGreatDoor
open Go.RowKit
section
variable {P:Program} {ops:Array Oper} {w0:World}
def leftH (n:Nat) (listed:Array Bool):Nat:=((List.range n).filter fun i=>!listed.getD i false).length
theorem filter_one {p q:Nat→Bool} {i:Nat} (hp:p i=true) (hq:q i=false) (he:∀j,j≠i→q j=p j):∀n,i < n→((List.range n).filter p).length=((List.range n).filter q).length+1:=by
 intro n
 induction n with
 | zero=>intro h;omega
 | succ n ih=>
  intro h
  rw [List.range_succ,List.filter_append,List.filter_append,List.length_append,List.length_append]
  by_cases hn:i=n
  ·subst hn
   have e:(List.range i).filter p=(List.range i).filter q:=by
    apply List.filter_congr
    intro x hx
    exact(he x (by have:=List.mem_range.1 hx;omega)).symm
   rw [e]
   simp [hp,hq]
  ·rw [ih (by omega)]
   have:q n=p n:=he n (by omega)
   simp only [List.filter_cons,List.filter_nil,this]
   omega
theorem leftH_step {n i:Nat} {listed:Array Bool} (hi:i < n) (hs:i < listed.size) (hun:listed.getD i false=false):leftH n listed=leftH n (listed.setIfInBounds i true)+1:=by
 unfold leftH
 refine filter_one (i:=i) (by rw [hun];rfl) (by simp [hs]) (fun j hj=>?_) n hi
 rw [getD_set_ne false (fun e=>hj e.symm)]
theorem leftH_zero {n:Nat} {listed:Array Bool} (h:leftH n listed=0):∀i,i < n→listed.getD i false=true:=by
 intro i hi
 unfold leftH at h
 have:=List.eq_nil_of_length_eq_zero h
 rw [List.filter_eq_nil_iff] at this
 have:=this i (List.mem_range.2 hi)
 simpa using this
theorem InvT.fin_head {Us:List Ty} {a0:Act} {listed:Array Bool} {a:Act} {w:World} {n:Nat} (hB:tyB ops=true) (hlen:Us.length=ops.size) (hn:n≤ops.size) (inv:InvT ops (fun s=>.inl (a0.tmps.getD s undef)) Us w0 a0 listed a w)
  (hall:∀i,i < n→listed.getD i false=true) (htl:∀t,n≤t→t < ops.size→listed.getD t true=false) {Q:Act→World→Prop} (h:FinT w0 Q (ops.toList.take n) (Us.take n) a0 (fun _=>True)):Q a w:=by
 have hlt_of:∀j,listed.getD j false=true→j < n:=by
  intro j hj
  rcases Nat.lt_or_ge j n with h'|h'
  ·exact h'
  ·rcases Nat.lt_or_ge j ops.size with h2|h2
   ·have:=getD_false_of_true (htl j h' h2)
    rw [this] at hj;cases hj
   ·have:listed.size≤j:=by rw [inv.lsize];exact h2
    simp [Array.getElem?_eq_none this] at hj
 have hty:∀(k:Nat) o T d,(ops.toList.take n)[k]? = some o→(Us.take n)[k]? = some T→o.dst=some d→Ty.of T (a.tmps.getD d undef) w:=by
  intro k o T d hk hT hd
  have hkn:k < n:=by
   have:=(List.getElem?_eq_some_iff.1 hk).1
   simp at this;omega
  have hk':ops[k]? = some o:=by rw [List.getElem?_take,if_pos hkn] at hk;simpa using hk
  have hT':Us[k]? = some T:=by rw [List.getElem?_take,if_pos hkn] at hT;exact hT
  have hlt:k < ops.size:=(Array.getElem?_eq_some_iff.1 hk').1
  have:=inv.typed d
  unfold typeAt at this
  cases hq:writer ops listed d with
  | none=>exact absurd hd (writer_none hq hk' (hall k hkn))
  | some j=>
   obtain⟨_,p,hp,hpd⟩:=writer_some hq
   rcases (tyB_pair hB hk' hp hpd).1 with h|h
   ·subst h
    rw [hq] at this
    simpa only [List.getD_eq_getElem?_getD,hT',Option.getD_some] using this
   ·exact absurd hd h
 have hfin:=FinT.out (a:=a) inv.ext (ops.toList.take n) (Us.take n) a0 _ h (by simp [hlen]) trivial hty (fun _ _ _ _ _=>trivial)
 have heq:putAll a (ops.toList.take n) a0=a:=by
  have hsz:=putAll_size a (ops.toList.take n) a0
  have h1:(putAll a (ops.toList.take n) a0).tmps=a.tmps:=by
   apply Array.ext
   ·rw [hsz.1,inv.size]
   ·intro s hs1 hs2
    have hs0:s < a0.tmps.size:=by rw [←hsz.1];exact hs1
    have hg:=putAll_get a s (ops.toList.take n) a0 hs0 inv.size.symm
    have hu:a.tmps.getD s undef=a.tmps[s]:=by simp [hs2]
    have hv:(putAll a (ops.toList.take n) a0).tmps.getD s undef=(putAll a (ops.toList.take n) a0).tmps[s]:=by simp [hs1]
    refine(hv.symm.trans (hg.trans ?_)).trans hu
    by_cases hno:∃o∈ops.toList.take n,o.dst=some s
    ·rw [if_pos hno]
    ·rw [if_neg hno]
     have this:=inv.typed s
     unfold typeAt at this
     cases hq:writer ops listed s with
     | none=>rw [hq] at this;exact Eq.symm this
     | some j=>
      obtain⟨hjl,p,hp,hpd⟩:=writer_some hq
      have hjn:=hlt_of j hjl
      refine absurd ⟨p,?_,hpd⟩ hno
      have:(ops.toList.take n)[j]? = some p:=by rw [List.getElem?_take,if_pos hjn];simpa using hp
      exact List.mem_of_getElem? this
  cases hpa:putAll a (ops.toList.take n) a0 with
  | mk t d=>
   rw [hpa] at h1 hsz
   have h2:=hsz.2.trans inv.defers.symm
   cases a
   simp_all
 rwa [heq] at hfin
theorem wpAny_typed_tail {Us:List Ty} {a0:Act} {n:Nat} (hB:tyB ops=true) (hlen:Us.length=ops.size) (hst:∀(k:Nat) (T:Ty),Us[k]? = some T→Stable T)
  (hdst:∀(k:Nat) o d,ops[k]? = some o→o.dst=some d→d < a0.tmps.size) (hn:n < ops.size) (hs:Region.sinkB .any ops n=true) (hc:Region.chainB .any ops n=true)
  (hseq:Region.seqB .any ops (ops.size - n) n (Array.replicate n true++Array.replicate (ops.size - n) false)=true)
  (hop:∀(k:Nat) o,k < n→ops[k]? = some o→∃T,Us[k]? = some T∧OpT P ops w0 o (lexEnv ops.toList Us (fun s=>.inl (a0.tmps.getD s undef)) k) T)
  {Q:Exit→Act→World→Prop} (h:FinT w0 (fun a w=>wpList P ops Q (ops.toList.drop n) a w) (ops.toList.take n) (Us.take n) a0 (fun _=>True)) :
  ∀(f:Nat) (listed:Array Bool) (a:Act) (w:World),leftH n listed=f→InvT ops (fun s=>.inl (a0.tmps.getD s undef)) Us w0 a0 listed a w→(∀t,n≤t→t < ops.size→listed.getD t true=false)→
   wpAny P .any ops Q (f+(ops.size - n)) listed a w
 | 0,listed,a,w,hl,inv,htl=>by
  have hall:=leftH_zero hl
  have hfin:=inv.fin_head hB hlen (by omega) hall htl h
  have hle:listed=Array.replicate n true++Array.replicate (ops.size - n) false:=by
   apply Array.ext
   ·simp [inv.lsize];omega
   ·intro i h1 h2
    rw [inv.lsize] at h1
    rcases Nat.lt_or_ge i n with hi|hi
    ·have:=hall i hi
     rw [Array.getElem_append_left (by simpa using hi)]
     simp [inv.lsize,h1] at this
     simpa using this
    ·have:=htl i hi h1
     rw [Array.getElem_append_right (by simpa using hi)]
     simp [inv.lsize,h1] at this
     simpa using this
  rw [Nat.zero_add]
  have hdl:(ops.toList.drop n).length=ops.size - n:=by simp
  have:=wpAny_of_seq (md:=.any) (Q':=Q) (ops.toList.drop n) n listed a w (fun j=>by simp [List.getElem?_drop]) (by rw [hdl,hle];exact hseq) hfin
  rwa [hdl] at this
 | f+1,listed,a,w,hl,inv,htl=>by
  have hinv:HeadInv .any ops n listed:=⟨inv.lsize,inv.closed,htl⟩
  have hex:∃i,i < n∧listed.getD i false=false:=by
   by_cases hx:∃i,i < n∧listed.getD i false=false
   ·exact hx
   ·have:leftH n listed=0:=by
     unfold leftH
     have:(List.range n).filter (fun i=>!listed.getD i false)=[]:=by
      rw [List.filter_eq_nil_iff]
      intro i hi
      have hi':=List.mem_range.1 hi
      cases hq:listed.getD i false with
      | true=>simp
      | false=>exact absurd ⟨i,hi',hq⟩ hx
     rw [this];rfl
    omega
  obtain⟨i0,hi0,hun0⟩:=hex
  have hun1:listed.getD i0 true=false:=getD_in (by rw [inv.lsize];omega) hun0
  rw [show f+1+(ops.size - n)=(f+(ops.size - n))+1 by omega]
  refine⟨fun hr=>?_,fun i hi=>?_⟩
  ·have:=all_of_none_ready hB inv hr i0 (by omega)
   rw [hun0] at this;cases this
  ·obtain⟨hun,o,ho,_⟩:=mem_ready.1 hi
   have hin:i < n:=by
    rcases Nat.lt_or_ge i n with h'|h'
    ·exact h'
    ·exact absurd hi (tail_waits hs hc hn hinv _ i0 rfl hi0 hun1 i h')
   obtain⟨T,hT,hopT⟩:=hop i o hin ho
   refine inv.step hB hlen hst (fun s=>stable_is _) hdst ho hi hT hopT (fun a' w' inv'=>?_)
   refine wpAny_typed_tail hB hlen hst hdst hn hs hc hseq hop h f _ a' w' ?_ inv' ?_
   ·have:=leftH_step hin (by rw [inv.lsize];omega) (getD_false_of_true hun)
    omega
   ·intro t ht htl'
    rw [getD_set_ne true (by omega)]
    exact htl t ht htl'
def tailB (ops:Array Oper) (n:Nat):Bool:=decide (n < ops.size) && Region.sinkB .any ops n && Region.chainB .any ops n && Region.seqB .any ops (ops.size - n) n (Array.replicate n true++Array.replicate (ops.size - n) false)
theorem lexEnv_pad {l:List Oper} {Us Vs:List Ty} {E:Env} {n k:Nat} (hk:k≤n) (hu:Us.length=n):lexEnv l (Us++Vs) E k=lexEnv (l.take n) Us E k:=by
 unfold lexEnv
 rw [List.take_take,Nat.min_eq_left hk,List.take_append_of_le_length (by omega)]
theorem wp_region_typed_tail {id:Nat} {Q:Exit→Act→World→Prop} {a:Act} {w:World} (n:Nat) (hm:P.follows .mixedOrders=true) (hB:tyB ops=true) (hD:dstB ops a.tmps.size=true) (hT:tailB ops n=true)
  (h:wpT P ops w.drew (fun Us=>FinT w.drew (fun a w=>wpList P ops Q (ops.toList.drop n) a w) (ops.toList.take n) Us a (fun _=>True)) (ops.toList.take n) (fun s=>.inl (a.tmps.getD s undef)) []):(Code.region id ops true).wp P Q a w:=by
 simp only [tailB,Bool.and_eq_true,decide_eq_true_eq] at hT
 obtain⟨⟨⟨hn,hs⟩,hc⟩,hseq⟩:=hT
 obtain⟨Us,hlen,hfin,hk⟩:=wpT_types _ _ _ h
 have hlen':Us.length=n:=by simpa [Nat.min_eq_left (Nat.le_of_lt hn)] using hlen
 let Vs:List Ty:=List.replicate (ops.size - n) (.inl undef)
 have hl2:(Us++Vs).length=ops.size:=by simp [Vs,hlen'];omega
 have htake:(Us++Vs).take n=Us:=by rw [←hlen',List.take_left'];rfl
 refine wp_region_any hm ?_
 have key:=wpAny_typed_tail (P:=P) (w0:=w.drew) (a0:=a) (Us:=Us++Vs) (n:=n) (Q:=Q) hB hl2 ?_ (dstB_spec hD) hn hs hc hseq ?_ (by rw [htake];simpa using hfin) n (Array.replicate ops.size false) a w.drew ?_ ?_ ?_
 ·rw [show n+(ops.size - n)=ops.size by omega] at key
  exact key
 ·intro k T hT
  rcases Nat.lt_or_ge k n with hkn|hkn
  ·rw [List.getElem?_append_left (by omega)] at hT
   have hlt:k < (ops.toList.take n).length:=by simp;omega
   obtain⟨T',h1,h2,_⟩:=hk k _ (List.getElem?_eq_getElem hlt)
   rw [hT] at h1
   injection h1 with h1
   subst h1
   exact h2
  ·rw [List.getElem?_append_right (by omega)] at hT
   have:T=.inl undef:=by
    have:=List.mem_of_getElem? hT
    exact List.eq_of_mem_replicate this
   subst this
   exact stable_is _
 ·intro k o hkn ho
  obtain⟨T,h1,_,h3⟩:=hk k o (by rw [List.getElem?_take,if_pos hkn];simpa using ho)
  refine⟨T,by rw [List.getElem?_append_left (by omega)];exact h1,?_⟩
  rw [lexEnv_pad (Nat.le_of_lt hkn) hlen']
  exact h3
 ·unfold leftH
  have:(List.range n).filter (fun i=>!(Array.replicate ops.size false).getD i false)=List.range n:=by
   rw [List.filter_eq_self]
   intro i _
   rw [getD_replicate_false];rfl
  rw [this,List.length_range]
 ·refine⟨Ext.refl _,rfl,rfl,by simp,?_,?_⟩
  ·intro j oj _ hl
   rw [getD_replicate_false] at hl;cases hl
  ·intro s
   have hw:writer ops (Array.replicate ops.size false) s=none:=by
    unfold writer
    rw [List.find?_eq_none]
    intro i hi
    simp [List.mem_range.1 hi]
   unfold typeAt
   rw [hw]
   rfl
 ·intro t _ ht
  exact getD_in (by simpa using ht) (getD_replicate_false _ _)
theorem InvT.fin_gen {Us:List Ty} {a0:Act} {listed:Array Bool} {a:Act} {w:World} {l:List Oper} {Vs:List Ty} (hB:tyB ops=true) (inv:InvT ops (fun s=>.inl (a0.tmps.getD s undef)) Us w0 a0 listed a w)
  (hlen:Vs.length=l.length) (h1:∀(k:Nat) o T,l[k]? = some o→Vs[k]? = some T→∃i,ops[i]? = some o∧Us[i]? = some T∧listed.getD i false=true) (h2:∀j o,listed.getD j false=true→ops[j]? = some o→o∈l)
  {Q:Act→World→Prop} (h:FinT w0 Q l Vs a0 (fun _=>True)):Q a w:=by
 have hty:∀(k:Nat) o T d,l[k]? = some o→Vs[k]? = some T→o.dst=some d→Ty.of T (a.tmps.getD d undef) w:=by
  intro k o T d hk hT hd
  obtain⟨i,hi,hT',hli⟩:=h1 k o T hk hT
  have:=inv.typed d
  unfold typeAt at this
  cases hq:writer ops listed d with
  | none=>exact absurd hd (writer_none hq hi hli)
  | some j=>
   obtain⟨_,p,hp,hpd⟩:=writer_some hq
   rcases (tyB_pair hB hi hp hpd).1 with h|h
   ·subst h
    rw [hq] at this
    simpa only [List.getD_eq_getElem?_getD,hT',Option.getD_some] using this
   ·exact absurd hd h
 have hfin:=FinT.out (a:=a) inv.ext l Vs a0 _ h hlen trivial hty (fun _ _ _ _ _=>trivial)
 have heq:putAll a l a0=a:=by
  have hsz:=putAll_size a l a0
  have h3:(putAll a l a0).tmps=a.tmps:=by
   apply Array.ext
   ·rw [hsz.1,inv.size]
   ·intro s hs1 hs2
    have hs0:s < a0.tmps.size:=by rw [←hsz.1];exact hs1
    have hg:=putAll_get a s l a0 hs0 inv.size.symm
    have hu:a.tmps.getD s undef=a.tmps[s]:=by simp [hs2]
    have hv:(putAll a l a0).tmps.getD s undef=(putAll a l a0).tmps[s]:=by simp [hs1]
    refine(hv.symm.trans (hg.trans ?_)).trans hu
    by_cases hno:∃o∈l,o.dst=some s
    ·rw [if_pos hno]
    ·rw [if_neg hno]
     have this:=inv.typed s
     unfold typeAt at this
     cases hq:writer ops listed s with
     | none=>rw [hq] at this;exact Eq.symm this
     | some j=>
      obtain⟨hjl,p,hp,hpd⟩:=writer_some hq
      exact absurd ⟨p,h2 j p hjl hp,hpd⟩ hno
  cases hpa:putAll a l a0 with
  | mk t d=>
   rw [hpa] at h3 hsz
   have h4:=hsz.2.trans inv.defers.symm
   cases a
   simp_all
 rwa [heq] at hfin
def pathB (ops:Array Oper):List Nat→Array Bool→Bool
 | [],listed=>(Region.ready .any ops listed).isEmpty
 | i :: ix,listed=>decide (Region.ready .any ops listed=[i]) && pathB ops ix (listed.setIfInBounds i true)
theorem wpAny_of_path {Q:Exit→Act→World→Prop}:∀(ix:List Nat) (l:List Oper) (listed:Array Bool) (a:Act) (w:World),ix.map (fun i=>ops[i]?)=l.map some→pathB ops ix listed=true→
  wpList P ops Q l a w→wpAny P .any ops Q ix.length listed a w
 | [],[],listed,a,w,_,hp,h=>⟨by simpa [pathB] using hp,h⟩
 | [],_ :: _,_,_,_,hm,_,_=>by simp at hm
 | _ :: _,[],_,_,_,hm,_,_=>by simp at hm
 | i :: ix,o :: l,listed,a,w,hm,hp,h=>by
  simp only [List.map_cons,List.cons.injEq] at hm
  simp only [pathB,Bool.and_eq_true,decide_eq_true_eq] at hp
  refine⟨fun h1=>(by rw [hp.1] at h1;cases h1),fun i' hi'=>?_⟩
  rw [hp.1] at hi'
  have:i'=i:=by simpa using hi'
  subst this
  have hw:wpOp P ops Q i' (wpList P ops Q l) a w:=by unfold wpOp;simp only [hm.1];exact h
  exact wpOp_mono (fun a' w' h'=>wpAny_of_path ix l _ a' w' hm.2 hp.2 h') hw
def headA (ops:Array Oper) (n:Nat):Array Bool:=Array.replicate n true++Array.replicate (ops.size - n) false
def lazyB (ops:Array Oper) (n z:Nat):Bool:=
 decide (n < ops.size) && decide (z < n) && ((List.range n).all fun i=>decide (i=z) || (List.range (n+1)).any fun j=>decide (i < j) && decide (j≠z) && Region.waitsFor .any ops j i) && Region.chainB .any ops n &&
 Region.seqB .any ops (ops.size - n) n (headA ops n) &&
 ((Region.ready .any ops ((headA ops n).setIfInBounds z false)).all fun i=>decide (i=z) || decide (i=n)) &&
 pathB ops (z :: (List.range (ops.size - n - 1)).map (n+1+·)) (((headA ops n).setIfInBounds z false).setIfInBounds n true)
theorem tail_waits' {n z:Nat} {listed:Array Bool} (hs:∀i,i < n→i≠z→∃j,j≤n∧i < j∧j≠z∧Region.waitsFor .any ops j i=true) (hc:Region.chainB .any ops n=true) (hn:n < ops.size) (inv:HeadInv .any ops n listed) :
  ∀(d i:Nat),n - i=d→i < n→i≠z→listed.getD i true=false→∀t,n≤t→t ∉ Region.ready .any ops listed:=by
 intro d
 induction d using Nat.strongRecOn with
 | _ d ih=>
  intro i hd hi hiz hun t ht hr
  obtain⟨_,ot,hot,hall⟩:=mem_ready.1 hr
  have htlt:t < ops.size:=(Array.getElem?_eq_some_iff.1 hot).1
  by_cases htn:t=n
  ·subst htn
   obtain⟨j,hjle,hij,hjz,hj2⟩:=hs i hi hiz
   obtain⟨oj,hoj,e,he,hb,hon⟩:=Region.waitsFor_spec hj2
   by_cases hjt:j=t
   ·subst hjt
    have:oj=ot:=Option.some.inj (hoj.symm.trans hot)
    subst this
    have h2:=hall e he hb
    rw [hon,getD_both hun] at h2
    cases h2
   ·cases hl:listed.getD j false with
    | true=>
     have h2:=inv.closed j oj hoj hl e he hb
     rw [hon,getD_both hun] at h2
     cases h2
    | false=>
     have hjs:j < listed.size:=by rw [inv.size];omega
     exact ih (t - j) (by omega) j rfl (by omega) hjz (getD_in hjs hl) t (Nat.le_refl _) hr
  ·have h1:=List.all_eq_true.1 hc t (List.mem_range.2 htlt)
   simp only [Bool.or_eq_true,decide_eq_true_eq] at h1
   rcases h1 with h1|h1
   ·omega
   ·obtain⟨o',ho',e,he,hb,hon⟩:=Region.waitsFor_spec h1
    have:o'=ot:=Option.some.inj (ho'.symm.trans hot)
    subst this
    have h2:=hall e he hb
    rw [hon,getD_both (inv.tail (t - 1) (by omega) (by omega))] at h2
    cases h2
theorem listed_ext {listed:Array Bool} {m:Nat} {B:Array Bool} (hs:listed.size=m) (hb:B.size=m) (h:∀i,i < m→listed.getD i false=B.getD i false):listed=B:=by
 apply Array.ext
 ·omega
 ·intro i h1 h2
  have:=h i (by omega)
  simpa [h1,h2] using this
theorem getD_set_other {l:Array Bool} {i j:Nat} {b d:Bool} (h:i≠j):(l.setIfInBounds i b).getD j d=l.getD j d:=by
 simp only [Array.getD_eq_getD_getElem?,Array.getElem?_setIfInBounds_ne h]
theorem headA_get {n i:Nat} (hn:n≤ops.size) (hi:i < ops.size):(headA ops n).getD i false=decide (i < n):=by
 rw [Array.getD_eq_getD_getElem?]
 unfold headA
 rw [Array.getElem?_append,Array.getElem?_replicate,Array.getElem?_replicate,Array.size_replicate]
 rcases Nat.lt_or_ge i n with h|h
 ·rw [if_pos h,if_pos h];simp [h]
 ·rw [if_neg (by omega),if_pos (by omega)]
  have:¬i < n:=by omega
  simp [this]
theorem headA_size {n:Nat} (hn:n≤ops.size):(headA ops n).size=ops.size:=by simp [headA];omega
theorem wpAny_typed_lazy {Us:List Ty} {a0:Act} {n z:Nat} (hB:tyB ops=true) (hlen:Us.length=ops.size) (hst:∀(k:Nat) (T:Ty),Us[k]? = some T→Stable T)
  (hdst:∀(k:Nat) o d,ops[k]? = some o→o.dst=some d→d < a0.tmps.size) (hL:lazyB ops n z=true)
  (hop:∀(k:Nat) o,k < n→ops[k]? = some o→∃T,Us[k]? = some T∧OpT P ops w0 o (lexEnv ops.toList Us (fun s=>.inl (a0.tmps.getD s undef)) k) T)
  {Q:Exit→Act→World→Prop} (h:FinT w0 (fun a w=>wpList P ops Q (ops.toList.drop n) a w) (ops.toList.take n) (Us.take n) a0 (fun _=>True))
  (h':∀on oz,ops[n]? = some on→ops[z]? = some oz→FinT w0 (fun a w=>wpList P ops Q (on :: oz :: ops.toList.drop (n+1)) a w) ((ops.toList.take n).eraseIdx z) ((Us.take n).eraseIdx z) a0 (fun _=>True)) :
  ∀(f:Nat) (listed:Array Bool) (a:Act) (w:World),leftH n listed=f→InvT ops (fun s=>.inl (a0.tmps.getD s undef)) Us w0 a0 listed a w→(∀t,n≤t→t < ops.size→listed.getD t true=false)→
   wpAny P .any ops Q (f+(ops.size - n)) listed a w:=by
 have hL0:=hL
 simp only [lazyB,Bool.and_eq_true,decide_eq_true_eq] at hL
 obtain⟨⟨⟨⟨⟨⟨hn,hz⟩,hs⟩,hc⟩,hseq⟩,hrd⟩,hpath⟩:=hL
 have hs':∀i,i < n→i≠z→∃j,j≤n∧i < j∧j≠z∧Region.waitsFor .any ops j i=true:=by
  intro i hi hiz
  have h1:=List.all_eq_true.1 hs i (List.mem_range.2 hi)
  simp only [Bool.or_eq_true,decide_eq_true_eq,hiz,false_or] at h1
  obtain⟨j,hj,hj2⟩:=List.any_eq_true.1 h1
  simp only [Bool.and_eq_true,decide_eq_true_eq] at hj2
  exact⟨j,by have:=List.mem_range.1 hj;omega,hj2.1.1,hj2.1.2,hj2.2⟩
 have htlF:∀(listed:Array Bool),(∀t,n≤t→t < ops.size→listed.getD t true=false)→∀t,n≤t→t < ops.size→listed.getD t false=false:=fun listed ht t h1 h2=>getD_false_of_true (ht t h1 h2)
 have hA:∀(listed:Array Bool) (a:Act) (w:World),InvT ops (fun s=>.inl (a0.tmps.getD s undef)) Us w0 a0 listed a w→(∀t,n≤t→t < ops.size→listed.getD t true=false)→(∀i,i < n→listed.getD i false=true)→
   wpAny P .any ops Q (ops.size - n) listed a w:=by
  intro listed a w inv htl hall
  have hfin:=inv.fin_head hB hlen (by omega) hall htl h
  have hle:listed=headA ops n:=listed_ext inv.lsize (headA_size (by omega)) (fun i hi=>by
   rw [headA_get (by omega) hi]
   rcases Nat.lt_or_ge i n with hin|hin
   ·rw [hall i hin];simp [hin]
   ·rw [htlF listed htl i hin hi];simp;omega)
  have hdl:(ops.toList.drop n).length=ops.size - n:=by simp
  have:=wpAny_of_seq (md:=.any) (Q':=Q) (ops.toList.drop n) n listed a w (fun j=>by simp [List.getElem?_drop]) (by rw [hdl,hle];exact hseq) hfin
  rwa [hdl] at this
 have hLz:∀(listed:Array Bool) (a:Act) (w:World),InvT ops (fun s=>.inl (a0.tmps.getD s undef)) Us w0 a0 listed a w→(∀t,n≤t→t < ops.size→listed.getD t true=false)→(∀i,i < n→i≠z→listed.getD i false=true)→listed.getD z false=false→
   wpAny P .any ops Q (1+(ops.size - n)) listed a w:=by
  intro listed a w inv htl hall hzl
  have hle:listed=(headA ops n).setIfInBounds z false:=listed_ext inv.lsize (by rw [Array.size_setIfInBounds];exact headA_size (by omega)) (fun i hi=>by
   by_cases hiz:i=z
   ·subst hiz
    have:i < (headA ops n).size:=by have:=headA_size (ops:=ops) (n:=n) (by omega);omega
    rw [hzl];simp [this]
   ·rw [getD_set_other (fun e=>hiz e.symm),headA_get (by omega) hi]
    rcases Nat.lt_or_ge i n with hin|hin
    ·rw [hall i hin hiz];simp [hin]
    ·rw [htlF listed htl i hin hi];simp;omega)
  have hon:ops[n]? = some ops[n]:=by simp [hn]
  have hoz:ops[z]? = some (ops[z]'(by omega)):=by rw [Array.getElem?_eq_getElem (by omega)]
  rw [show 1+(ops.size - n)=(ops.size - n)+1 by omega]
  have hzr:z∈Region.ready .any ops listed∨Region.ready .any ops listed≠[]:=by
   by_cases hne:Region.ready .any ops listed=[]
   ·have:=all_of_none_ready hB inv hne z (by omega)
    rw [hzl] at this;cases this
   ·exact .inr hne
  refine⟨fun hr=>?_,fun i hi=>?_⟩
  ·rcases hzr with h1|h1
   ·rw [hr] at h1;cases h1
   ·exact absurd hr h1
  ·have h1:=List.all_eq_true.1 hrd i (by rw [←hle];exact hi)
   simp only [Bool.or_eq_true,decide_eq_true_eq] at h1
   obtain⟨hun,o,ho,_⟩:=mem_ready.1 hi
   rcases h1 with rfl|rfl
   ·obtain⟨T,hT,hopT⟩:=hop i o hz ho
    refine inv.step hB hlen hst (fun s=>stable_is _) hdst ho hi hT hopT (fun a' w' inv'=>?_)
    refine hA _ a' w' inv' (fun t ht ht'=>?_) (fun j hj=>?_)
    ·rw [getD_set_ne true (by omega)];exact htl t ht ht'
    ·by_cases hji:j=i
     ·subst hji
      have:j < listed.size:=by rw [inv.lsize];omega
      simp [this]
     ·rw [getD_set_ne false (fun e=>hji e.symm)];exact hall j hj hji
   ·have hfin:=inv.fin_gen (l:=(ops.toList.take i).eraseIdx z) (Vs:=(Us.take i).eraseIdx z) hB (by simp [List.length_eraseIdx,hlen]) (fun k o' T hk hT=>?_) (fun j o' hj ho'=>?_) (h' _ _ hon hoz)
    ·have hw:wpOp P ops Q i (wpList P ops Q (ops[z]'(by omega) :: ops.toList.drop (i+1))) a w:=by unfold wpOp;simp only [hon];exact hfin
     refine wpOp_mono (fun a' w' h2=>?_) hw
     have hpl:(z :: (List.range (ops.size - i - 1)).map (i+1+·)).length=ops.size - i:=by simp;omega
     have:=wpAny_of_path (Q:=Q) (z :: (List.range (ops.size - i - 1)).map (i+1+·)) (ops[z]'(by omega) :: ops.toList.drop (i+1)) (listed.setIfInBounds i true) a' w' (by
      simp only [List.map_cons,hoz,List.cons.injEq,true_and,List.map_map]
      apply List.ext_getElem?
      intro k
      simp only [List.getElem?_map,List.getElem?_drop,Function.comp]
      rcases Nat.lt_or_ge k (ops.size - i - 1) with hk|hk
      ·rw [List.getElem?_range hk]
       have h4:i+1+k < ops.size:=by omega
       simp [h4]
      ·rw [List.getElem?_eq_none (by simpa using hk),List.getElem?_eq_none (by simp;omega)]
       rfl) (by rw [hle];exact hpath) h2
     rwa [hpl] at this
    ·rw [List.getElem?_eraseIdx] at hk hT
     by_cases hkz:k < z
     ·rw [if_pos hkz,List.getElem?_take] at hk hT
      rw [if_pos (by omega)] at hk hT
      exact⟨k,by simpa using hk,hT,hall k (by omega) (by omega)⟩
     ·rw [if_neg hkz,List.getElem?_take] at hk hT
      by_cases hki:k+1 < i
      ·rw [if_pos hki] at hk hT
       exact⟨k+1,by simpa using hk,hT,hall (k+1) hki (by omega)⟩
      ·rw [if_neg hki] at hk;cases hk
    ·have hji:j < i:=by
      rcases Nat.lt_or_ge j i with h1|h1
      ·exact h1
      ·have hjs:=(Array.getElem?_eq_some_iff.1 ho').1
       rw [htlF listed htl j h1 hjs] at hj;cases hj
     have hjz:j≠z:=by rintro rfl;rw [hzl] at hj;cases hj
     refine List.mem_of_getElem? (i:=if j < z then j else j - 1) ?_
     rw [List.getElem?_eraseIdx]
     by_cases hlt:j < z
     ·rw [if_pos hlt,if_pos hlt,List.getElem?_take,if_pos hji];simpa using ho'
     ·rw [if_neg hlt,if_neg (by omega),List.getElem?_take,if_pos (by omega),show j - 1+1=j by omega];simpa using ho'
 intro f
 induction f with
 | zero=>
  intro listed a w hl inv htl
  rw [Nat.zero_add]
  exact hA listed a w inv htl (leftH_zero hl)
 | succ f ih=>
  intro listed a w hl inv htl
  have hinv:HeadInv .any ops n listed:=⟨inv.lsize,inv.closed,htl⟩
  by_cases hx:∃i,i < n∧i≠z∧listed.getD i false=false
  ·obtain⟨i0,hi0,hiz0,hun0⟩:=hx
   have hun1:listed.getD i0 true=false:=getD_in (by rw [inv.lsize];omega) hun0
   rw [show f+1+(ops.size - n)=(f+(ops.size - n))+1 by omega]
   refine⟨fun hr=>?_,fun i hi=>?_⟩
   ·have:=all_of_none_ready hB inv hr i0 (by omega)
    rw [hun0] at this;cases this
   ·obtain⟨hun,o,ho,_⟩:=mem_ready.1 hi
    have hin:i < n:=by
     rcases Nat.lt_or_ge i n with h'|h'
     ·exact h'
     ·exact absurd hi (tail_waits' hs' hc hn hinv _ i0 rfl hi0 hiz0 hun1 i h')
    obtain⟨T,hT,hopT⟩:=hop i o hin ho
    refine inv.step hB hlen hst (fun s=>stable_is _) hdst ho hi hT hopT (fun a' w' inv'=>?_)
    refine ih _ a' w' ?_ inv' ?_
    ·have:=leftH_step hin (by rw [inv.lsize];omega) (getD_false_of_true hun)
     omega
    ·intro t ht htl'
     rw [getD_set_ne true (by omega)]
     exact htl t ht htl'
  ·have hall:∀i,i < n→i≠z→listed.getD i false=true:=by
    intro i hi hiz
    cases hq:listed.getD i false with
    | true=>rfl
    | false=>exact absurd ⟨i,hi,hiz,hq⟩ hx
   have hzl:listed.getD z false=false:=by
    cases hq:listed.getD z false with
    | false=>rfl
    | true=>
     have:leftH n listed=0:=by
      unfold leftH
      have:(List.range n).filter (fun i=>!listed.getD i false)=[]:=by
       rw [List.filter_eq_nil_iff]
       intro i hi
       have hi':=List.mem_range.1 hi
       by_cases hiz:i=z
       ·subst hiz;simp [hq]
       ·simp [hall i hi' hiz]
      rw [this];rfl
     omega
   have hf:f=0:=by
    have h1:=leftH_step (n:=n) hz (by rw [inv.lsize];omega) hzl
    have h2:leftH n (listed.setIfInBounds z true)=0:=by
     unfold leftH
     have:(List.range n).filter (fun i=>!(listed.setIfInBounds z true).getD i false)=[]:=by
      rw [List.filter_eq_nil_iff]
      intro i hi
      have hi':=List.mem_range.1 hi
      by_cases hiz:i=z
      ·subst hiz
       have:i < listed.size:=by rw [inv.lsize];omega
       simp [this]
      ·rw [getD_set_ne false (fun e=>hiz e.symm),hall i hi' hiz];simp
     rw [this];rfl
    omega
   subst hf
   exact hLz listed a w inv htl hall hzl
theorem wp_region_typed_lazy {id:Nat} {Q:Exit→Act→World→Prop} {a:Act} {w:World} (n z:Nat) (hm:P.follows .mixedOrders=true) (hB:tyB ops=true) (hD:dstB ops a.tmps.size=true) (hT:lazyB ops n z=true)
  (h:wpT P ops w.drew (fun Us=>FinT w.drew (fun a w=>wpList P ops Q (ops.toList.drop n) a w) (ops.toList.take n) Us a (fun _=>True)∧
   FinT w.drew (fun a w=>wpList P ops Q (ops.toList.drop n |>.take 1 |>.append (ops.toList.drop z |>.take 1) |>.append (ops.toList.drop (n+1))) a w) ((ops.toList.take n).eraseIdx z) (Us.eraseIdx z) a (fun _=>True)) (ops.toList.take n) (fun s=>.inl (a.tmps.getD s undef)) []):(Code.region id ops true).wp P Q a w:=by
 have hT0:=hT
 simp only [lazyB,Bool.and_eq_true,decide_eq_true_eq] at hT
 obtain⟨⟨⟨⟨⟨⟨hn,hz⟩,_⟩,_⟩,_⟩,_⟩,_⟩:=hT
 obtain⟨Us,hlen,hfin,hk⟩:=wpT_types _ _ _ h
 have hlen':Us.length=n:=by simpa [Nat.min_eq_left (Nat.le_of_lt hn)] using hlen
 let Vs:List Ty:=List.replicate (ops.size - n) (.inl undef)
 have hl2:(Us++Vs).length=ops.size:=by simp [Vs,hlen'];omega
 have htake:(Us++Vs).take n=Us:=by rw [←hlen',List.take_left'];rfl
 have hfin':FinT w.drew (fun a w=>wpList P ops Q (ops.toList.drop n) a w) (ops.toList.take n) Us a (fun _=>True)∧
   FinT w.drew (fun a w=>wpList P ops Q (ops.toList.drop n |>.take 1 |>.append (ops.toList.drop z |>.take 1) |>.append (ops.toList.drop (n+1))) a w) ((ops.toList.take n).eraseIdx z) (Us.eraseIdx z) a (fun _=>True):=by simpa using hfin
 refine wp_region_any hm ?_
 have key:=wpAny_typed_lazy (P:=P) (w0:=w.drew) (a0:=a) (Us:=Us++Vs) (n:=n) (z:=z) (Q:=Q) hB hl2 ?_ (dstB_spec hD) hT0 ?_ (by rw [htake];exact hfin'.1) (fun on oz hon hoz=>by
  rw [htake]
  have e1:(ops.toList.drop n).take 1=[on]:=by
   have:ops.toList[n]? = some on:=by simpa using hon
   rw [List.take_one,List.head?_drop,this];rfl
  have e2:(ops.toList.drop z).take 1=[oz]:=by
   have:ops.toList[z]? = some oz:=by simpa using hoz
   rw [List.take_one,List.head?_drop,this];rfl
  have:=hfin'.2
  rw [e1,e2] at this
  exact this) n (Array.replicate ops.size false) a w.drew ?_ ?_ ?_
 ·rw [show n+(ops.size - n)=ops.size by omega] at key
  exact key
 ·intro k T hT
  rcases Nat.lt_or_ge k n with hkn|hkn
  ·rw [List.getElem?_append_left (by omega)] at hT
   have hlt:k < (ops.toList.take n).length:=by simp;omega
   obtain⟨T',h1,h2,_⟩:=hk k _ (List.getElem?_eq_getElem hlt)
   rw [hT] at h1
   injection h1 with h1
   subst h1
   exact h2
  ·rw [List.getElem?_append_right (by omega)] at hT
   have:T=.inl undef:=List.eq_of_mem_replicate (List.mem_of_getElem? hT)
   subst this
   exact stable_is _
 ·intro k o hkn ho
  obtain⟨T,h1,_,h3⟩:=hk k o (by rw [List.getElem?_take,if_pos hkn];simpa using ho)
  refine⟨T,by rw [List.getElem?_append_left (by omega)];exact h1,?_⟩
  rw [lexEnv_pad (Nat.le_of_lt hkn) hlen']
  exact h3
 ·unfold leftH
  have:(List.range n).filter (fun i=>!(Array.replicate ops.size false).getD i false)=List.range n:=by
   rw [List.filter_eq_self]
   intro i _
   rw [getD_replicate_false];rfl
  rw [this,List.length_range]
 ·refine⟨Ext.refl _,rfl,rfl,by simp,?_,?_⟩
  ·intro j oj _ hl
   rw [getD_replicate_false] at hl;cases hl
  ·intro s
   have hw:writer ops (Array.replicate ops.size false) s=none:=by
    unfold writer
    rw [List.find?_eq_none]
    intro i hi
    simp [List.mem_range.1 hi]
   unfold typeAt
   rw [hw]
   rfl
 ·intro t _ ht
  exact getD_in (by simpa using ht) (getD_replicate_false _ _)
end
end Go.Proofs.YtnmnpnofdgdigaaGreatDoor
end
section
namespace Go.Proofs.YtnmnpnofdgdigaaGreatDoor
open Go.RowKit
theorem own_keep {w w':World} {base:Nat} {e:TypeId} {s:Nat} {v:Value} {n:Nat} {xs:List Value} (h:w.ownsRow base e s v n xs) (hb:Below w.heap.size w w'):w'.ownsRow base e s v n xs:=
 h.kept (row:=none) ⟨hb.os,hb.tape,hb.output,hb.size,fun k hk _=>hb.block k hk⟩ (by cases h':v.ownBlock with|none=>exact .inl rfl|some g=>exact .inr (by simp))
theorem str_em (s : ByteArray) (h : s.size = 0) : s.toList.isEmpty = true := by
  rw [ByteArray.toList_eq s]
  cases e : s.data.toList with
  | nil => rfl
  | cons a l => have : s.data.toList.length = s.size := by cases s; rfl
                rw [e] at this; simp at this; omega
structure Box (p:Prop):Prop where
 mk ::
 out:p
def evalE (E:Env):Operand→Option Value
 | .tmp s=>match E s with
  | .inl c=>some c
  | .inr _=>none
 | .const v=>some v
 | .global g=>some (.pointer (some ⟨g,0,none⟩))
 | .func f=>some (.func (.func f) #[] #[])
theorem evalE_of {E:Env} {ops:Array Oper} {o:Oper} {a:Act} {w:World} {x:Operand} {c:Value} (h:evalE E x=some c) (hm:x∈o.op.operands)
  (hs:∀s∈o.looksAt ops,Ty.of (E s) (a.tmps.getD s undef) w):a.eval x=c:=by
 cases x with
 | const v=>simpa [evalE,Act.eval] using h
 | global g=>simpa [evalE,Act.eval] using h
 | func f=>simpa [evalE,Act.eval] using h
 | tmp s=>
  have hv:=hs s (looks_of hm rfl)
  simp only [evalE] at h
  cases hE:E s with
  | inl d=>
   rw [hE] at h hv
   simp only [Option.some.injEq] at h
   subst h
   exact hv
  | inr T=>rw [hE] at h;cases h
theorem map_of {E:Env} {ops:Array Oper} {o:Oper} {a:Act} {w:World} {xs:Array Operand} {args:Array Value} (h:xs.toList.map (evalE E)=args.toList.map some) (hm:∀x∈xs,x∈o.op.operands)
  (hs:∀s∈o.looksAt ops,Ty.of (E s) (a.tmps.getD s undef) w):xs.map a.eval=args:=by
 apply Array.ext'
 rw [Array.toList_map]
 have key:∀(l:List Operand) (m:List Value),(∀x∈l,x∈o.op.operands)→l.map (evalE E)=m.map some→l.map a.eval=m:=by
  intro l
  induction l with
  | nil=>intro m _ h;cases m with
   | nil=>rfl
   | cons _ _=>simp at h
  | cons x l ih=>intro m hm h;cases m with
   | nil=>simp at h
   | cons c m=>
    simp only [List.map_cons,List.cons.injEq] at h ⊢
    exact⟨evalE_of h.1 (hm x (by simp)) hs,ih m (fun y hy=>hm y (by simp [hy])) h.2⟩
 exact key _ _ (fun x hx=>hm x (by simpa using hx)) h
section
variable {ops:Array Oper} {w0:World} {Fin:List Ty→Prop} {rest:List Oper} {E:Env} {Ts:List Ty} {o:Oper} {P:Program}
theorem tw_fn {f:FuncId} {xs:Array Operand} {ts:Array TypeId} (args:Array Value) (T:Ty) (hst:Stable T) (hop:o.op=.call { callee:=.value (.func f),args:=xs,argTypes:=ts})
  (hcf:∀(W:World),(callFunc f args).run P W=.ok (.enter f args) W) (hx:xs.toList.map (evalE E)=args.toList.map some) (hw:Wd ops o E true)
  (hc:∀W,Ext w0 W→Calls P f args W fun e w'=>∃v,e=.returned v∧Ext W w'∧Ty.of T v w')
  (hr:wpT P ops w0 Fin rest (E.put o.dst T) (T :: Ts)):wpT P ops w0 Fin (o :: rest) E Ts:=
 tw_call T hst hw (fun a W hW hs=>by
  have hm:=map_of (o:=o) (a:=a) (w:=W) hx (fun x hx=>by rw [hop];simp [Op.operands,Call.operands,hx]) hs
  refine⟨f,args,?_,hc W hW⟩
  unfold execOp
  simp only [hop,resolve,Act.eval,Deferred.ofValue,hm,Sem.run_bind,Sem.run_pure,Result.andThen_ok,invoke,Array.append_empty,Array.empty_append,hcf W]) hr
theorem tw_fn0 {f:FuncId} {xs:Array Operand} {ts:Array TypeId} (args:Array Value) (v:Value) (hop:o.op=.call { callee:=.value (.func f),args:=xs,argTypes:=ts})
  (hcf:∀(W:World),(callFunc f args).run P W=.ok (.enter f args) W) (hx:xs.toList.map (evalE E)=args.toList.map some) (hw:Wd ops o E true)
  (hc:∀W,Ext w0 W→Calls P f args W fun e w'=>e=.returned v∧W=w')
  (hr:wpT P ops w0 Fin rest (E.put o.dst (.inl v)) (.inl v :: Ts)):wpT P ops w0 Fin (o :: rest) E Ts:=
 tw_fn args (.inl v) (stable_is _) hop hcf hx hw (fun W hW=>(hc W hW).mono fun e w' h=>⟨v,h.1,by rw [h.2];exact Ext.refl _,rfl⟩) hr
theorem tw_fnB {f:FuncId} {xs:Array Operand} {ts:Array TypeId} (args:Array Value) (v:Value) (hop:o.op=.call { callee:=.value (.func f),args:=xs,argTypes:=ts})
  (hcf:∀(W:World),(callFunc f args).run P W=.ok (.enter f args) W) (hx:xs.toList.map (evalE E)=args.toList.map some) (hw:Wd ops o E true)
  (hc:∀W,Ext w0 W→Calls P f args W fun e w'=>e=.returned v∧Below W.heap.size W w')
  (hr:wpT P ops w0 Fin rest (E.put o.dst (.inl v)) (.inl v :: Ts)):wpT P ops w0 Fin (o :: rest) E Ts:=
 tw_fn args (.inl v) (stable_is _) hop hcf hx hw (fun W hW=>(hc W hW).mono fun e w' h=>⟨v,h.1,h.2,rfl⟩) hr
end
section
variable {ops:Array Oper} {w0:World} {Fin:List Ty→Prop} {rest:List Oper} {E:Env} {Ts:List Ty} {o:Oper} {P:Program}
theorem tw_op1 {x:Operand} {c:Value} (d:Value) (hop:o.op.operands.toList=[x]) (hE:evalE E x=some c) (hw:Wd ops o E true)
  (h:∀(ρ:Operand→Value) (W:World),Ext w0 W→ρ x=c→(execOp ρ o).run P W=.ok (.value d) W)
  (hr:wpT P ops w0 Fin rest (E.put o.dst (.inl d)) (.inl d :: Ts)):wpT P ops w0 Fin (o :: rest) E Ts:=
 have hm:x∈o.op.operands:=by rw [←Array.mem_toList_iff,hop];simp
 tw_pure d hw (fun a W hW hs=>h a.eval W hW (evalE_of hE hm hs)) hr
theorem tw_op2 {x y:Operand} {c e:Value} (d:Value) (hop:o.op.operands.toList=[x,y]) (hE:evalE E x=some c) (hE':evalE E y=some e) (hw:Wd ops o E true)
  (h:∀(ρ:Operand→Value) (W:World),Ext w0 W→ρ x=c→ρ y=e→(execOp ρ o).run P W=.ok (.value d) W)
  (hr:wpT P ops w0 Fin rest (E.put o.dst (.inl d)) (.inl d :: Ts)):wpT P ops w0 Fin (o :: rest) E Ts:=
 have hm:x∈o.op.operands:=by rw [←Array.mem_toList_iff,hop];simp
 have hm':y∈o.op.operands:=by rw [←Array.mem_toList_iff,hop];simp
 tw_pure d hw (fun a W hW hs=>h a.eval W hW (evalE_of hE hm hs) (evalE_of hE' hm' hs)) hr
theorem tw_pickL {x y z:Operand} {b:Bool} {f:Value} (hop:o.op=.pick x y z) (hE:evalE E x=some (.bool b)) (hE3:evalE E (if b then y else z)=some f) (hw:Wd ops o E true)
  (hr:wpT P ops w0 Fin rest (E.put o.dst (.inl f)) (.inl f :: Ts)):wpT P ops w0 Fin (o :: rest) E Ts:=
 tw_pure f hw (fun a W hW hs=>by
  have h1:a.eval x=.bool b:=evalE_of hE (by rw [hop];simp [Op.operands]) hs
  have h2:a.eval (if b then y else z)=f:=evalE_of hE3 (by rw [hop];cases b <;> simp [Op.operands]) hs
  unfold execOp
  cases b <;> simp_all [asBool]) hr
theorem tw_mv {x:Operand} {c:Value} (hop:o.op=.move x∨o.op=.assign x) (hE:evalE E x=some c) (hw:Wd ops o E true)
  (hr:wpT P ops w0 Fin rest (E.put o.dst (.inl c)) (.inl c :: Ts)):wpT P ops w0 Fin (o :: rest) E Ts:=
 tw_pure c hw (fun a W hW hs=>by
  have h1:a.eval x=c:=evalE_of hE (by rcases hop with h|h <;> rw [h] <;> simp [Op.operands]) hs
  unfold execOp
  rcases hop with h|h <;> simp [h,h1]) hr
theorem tw_lens {x:Operand} {s:ByteArray} (hop:o.op=.call { callee:=.builtin .len,args:=#[x],argTypes:=#[9]}) (hE:evalE E x=some (.string s)) (hw:Wd ops o E true)
  (hr:wpT Tryz.prog ops w0 Fin rest (E.put o.dst (.inl (.int .i64 (s.size:Int)))) (.inl (.int .i64 (s.size:Int)) :: Ts)):wpT Tryz.prog ops w0 Fin (o :: rest) E Ts:=
 tw_pure _ hw (fun a W hW hs=>by
  have h1:a.eval x=.string s:=evalE_of hE (by rw [hop];simp [Op.operands,Call.operands]) hs
  unfold execOp
  simp only [hop,resolve,invoke,builtin,Sem.run_bind,Sem.run_pure,Result.andThen_ok,List.map_toArray,List.map_cons,List.map_nil,h1]
  go_simp) hr
end
end Go.Proofs.YtnmnpnofdgdigaaGreatDoor
end
section
namespace Go.Proofs.YtnmnpnofdgdigaaGreatDoor
open Go.RowKit
set_option linter.unusedVariables false
set_option linter.unusedSimpArgs false
theorem sizeBuilder_:(Tryz.prog.info? 182).map (·.size)=some 2:=by kernel_rfl
theorem liesBuilder_:liesAt Tryz.prog Tryz.prog.depth 182 (2 / Tryz.prog.cellsOf 182) 0 182 1=true:=by kernel_rfl
set_option maxHeartbeats 1000000 in
set_option maxRecDepth 100000 in
theorem copyCheck_used (b:Nat) (w:World) (h0:w.cell? ⟨b,0,none⟩=some (.pointer (some ⟨b,0,none⟩))) :
  Calls Tryz.prog 192 #[.pointer (some ⟨b,0,none⟩)] w fun e w'=>e=.returned (.tuple #[])∧w'=w:=by
 obtain⟨j,hj,_⟩:=Option.map_eq_some_iff.1 sizeBuilder_
 go_enter Tryz.func192,Tryz.ntmps192
 go_wp2
 rw [Lib.run_neq_ptr_same w _ Tryz.underlying180 hj]
 go_wp2
 go_end0
 exact⟨rfl,rfl⟩
set_option maxHeartbeats 1000000 in
set_option maxRecDepth 100000 in
theorem copyCheck_fresh (b:Nat) (w:World) (h0:w.cell? ⟨b,0,none⟩=some (.pointer none)) (hsh:w.shape? b=some (182,2)) (hfz:w.frozen? ⟨b,0,none⟩=false) :
  Calls Tryz.prog 192 #[.pointer (some ⟨b,0,none⟩)] w fun e w'=>e=.returned (.tuple #[])∧w'=w.setCell ⟨b,0,none⟩ (.pointer (some ⟨b,0,none⟩)):=by
 obtain⟨j,hj,hjs⟩:=Option.map_eq_some_iff.1 sizeBuilder_
 go_enter Tryz.func192,Tryz.ntmps192
 go_wp2
 rw [Lib.run_to_unsafe w ⟨b,0,none⟩ Tryz.underlying180 Tryz.underlying224 hj (by rw [hjs];decide) hsh (Nat.zero_lt_succ 1)]
 simp only [Result.andThen]
 rw [Oper.upon_value]
 go_wp2
 rw [run_callFunc_extern Tryz.func212 (by kernel_rfl) (by kernel_rfl) (by kernel_rfl) (e:=Extern.AbiNoEscape.same) (by kernel_rfl)]
 rw [Lib.run_noEscape]
 simp only [Result.andThen]
 rw [Oper.upon_value]
 go_wp2
 rw [Lib.run_from_unsafe w ⟨b,0,none⟩ Tryz.underlying224 Tryz.underlying180 hj hsh liesBuilder_]
 simp only [Result.andThen]
 rw [Oper.upon_value]
 go_wp2
 go_end0
 exact⟨rfl,rfl⟩
theorem copyCheck_any (B b:Nat) (bs:List Value) (w:World) (h:Lib.IsBuilder 182 5 B b bs w) :
  Calls Tryz.prog 192 #[.pointer (some ⟨b,0,none⟩)] w fun e w'=>e=.returned (.tuple #[])∧(Lib.BuilderAt 182 5 B b (.pointer (some ⟨b,0,none⟩)) bs w'∧Below B w w'∧∀p:Addr,p.block≠b→w'.cell? p=w.cell? p):=by
 rcases h with h|h
 ·refine(copyCheck_fresh b w h.cell0 h.shape h.frozen0).mono ?_
  rintro e w' ⟨rfl,rfl⟩
  exact⟨rfl,h.used _,(Below.refl B w).setCell (p:=⟨b,0,none⟩) h.1 _,fun p hp=>World.cell?_setCell_other w _ p _ (fun e=>hp (by rw [←e]))⟩
 ·refine(copyCheck_used b w h.cell0).mono ?_
  rintro e w' ⟨rfl,rfl⟩
  exact⟨rfl,h,Below.refl B _,fun _ _=>rfl⟩
set_option maxHeartbeats 2000000 in
set_option maxRecDepth 100000 in
theorem builder_ws (B b:Nat) (bs:List Value) (s:ByteArray) (w:World) (h:Lib.IsBuilder 182 5 B b bs w) (hlen:bs.length+s.size≤140737488355328) (hBw:B≤w.heap.size) :
  Calls Tryz.prog 152 #[.pointer (some ⟨b,0,none⟩),.string s] w fun e w'=>e=.returned (.tuple #[.int .i64 s.size,.nilIface])∧(Lib.BuilderAt 182 5 B b (.pointer (some ⟨b,0,none⟩)) (bs++Lib.strCells s) w'∧Below B w w'):=by
 obtain⟨i0,hi,hz0,hz1,hz2⟩:=info_parts info_u8
 go_enter Tryz.func152,Tryz.ntmps152
 go_wp2_with fail
 refine(copyCheck_any B b _ _ h).mono ?_
 rintro e w1 ⟨rfl,h1,hb1,hk1⟩
 obtain⟨hB,v,hbk,hown,hne⟩:=h1
 have c0:w1.cell? ⟨b,0,none⟩=some (.pointer (some ⟨b,0,none⟩)):=by rw [Lib.cell_of_heap hbk];rfl
 have c1:w1.cell? ⟨b,1,none⟩=some v:=by rw [Lib.cell_of_heap hbk];rfl
 clear hk1
 go_wp2_with (at_builtin;refine Lib.wpList_append_own_string _ rfl _ _ 179 9 rfl B 5 i0 Tryz.underlying179 Tryz.underlying9 hi hz0 hz1 hz2 _ _ _ rfl hown s rfl ?c3 ?c4 ?c5 ?_)
 case c3=>unfold maxLen;omega
 case c4=>omega
 case c5=>have:=hb1.size;omega
 intro v' w2 hown' hgrow _
 have hlt:b < w1.heap.size:=by
  rcases Nat.lt_or_ge b w1.heap.size with h'|h'
  ·exact h'
  ·simp [Array.getElem?_eq_none h'] at hbk
 have hb2:w2.heap[b]? = some (.cells #[.pointer (some ⟨b,0,none⟩),v] 182 (0,0)):=by
  rw [hgrow.block b hlt (fun e=>hne e.symm)]
  exact hbk
 have d0:w2.cell? ⟨b,0,none⟩=some (.pointer (some ⟨b,0,none⟩)):=by rw [Lib.cell_of_heap hb2];rfl
 have d1:w2.cell? ⟨b,1,none⟩=some v:=by rw [Lib.cell_of_heap hb2];rfl
 have f1:w2.frozen? ⟨b,1,none⟩=false:=Lib.frozen_of_heap hb2 1
 obtain⟨ao,n',cap,rfl⟩:∃ao n' cap,v'=.slice ao n' cap:=by
  rcases hown'.2 with ⟨hv,h0⟩|⟨g,cap,cur,hv,_⟩
  ·exact⟨none,_,0,by rw [hv]⟩
  ·exact⟨_,_,_,hv⟩
 clear c0 c1
 go_wp2
 go_ret2
 refine⟨rfl,?_,?_⟩
 ·exact Lib.BuilderAt.put hB hb2 (by rw [List.length_append,Lib.strCells_length];exact hown') (by decide)
 ·exact(hb1.grown hgrow (Nat.le_trans hBw hb1.size) (fun k hk=>(hown.lt k hk).1)).setCell (p:=⟨b,1,none⟩) hB _
end Go.Proofs.YtnmnpnofdgdigaaGreatDoor
end
