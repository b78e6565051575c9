/- Part 9 of a proof laid in parts, one behind the other; no condition of its own. -/
import Derived.Test.YtnfokaecobddkaaGreatDoorV03
import Derived.Test.YtnfokaecobddkaaGreatDoorV08
import Derived.Test.YtnfokaecobddkaaGreatDoorV05
import Derived.Laws.EntriesVeiled
import Derived.Test.YtnfokaecobddkaaGreatDoorV01
set_option linter.all false
section
namespace Go.Proofs.YtnfokaecobddkaaGreatDoor.TI
open Go.RowKit
def Ext (I:Nat→World→Prop) (w w':World):Prop:=∀i,I i w→I i w'
theorem Ext.refl {I:Nat→World→Prop} (w:World):Ext I w w:=fun _ h=>h
theorem Ext.trans {I:Nat→World→Prop} {a b c:World} (h:Ext I a b) (k:Ext I b c):Ext I a c:=fun i x=>k i (h i x)
variable {I:Nat→World→Prop}
abbrev Ty:=Value ⊕ (Value→World→Prop)
def Ty.of:Ty→Value→World→Prop
 | .inl c,v,_=>v=c
 | .inr T,v,w=>T v w
def Stable (I:Nat→World→Prop) (T:Ty):Prop:=∀v w w',Ty.of T v w→Ext I w w'→Ty.of T v w'
theorem stable_is (c:Value):Stable I (.inl c):=fun _ _ _ h _=>h
abbrev Env:=Tmp→Ty
def Env.put (E:Env) (d:Option Tmp) (T:Ty):Env:=
 match d with
 | some d=>fun s=>if s=d then T else E s
 | none=>E
theorem Env.put_same (E:Env) (d:Tmp) (T:Ty):E.put (some d) T d=T:=by simp [Env.put]
theorem Env.put_other (E:Env) (d s:Tmp) (T:Ty) (h:s≠d):E.put (some d) T s=E s:=by simp [Env.put,h]
theorem Env.put_none (E:Env) (T:Ty):E.put none T=E:=rfl
section
variable (I) (P:Program) (ops:Array Oper) (w0:World)
def OpT (o:Oper) (E:Env) (T:Ty):Prop:=
 ∀(a:Act) (w:World),Ext I w0 w→(∀s∈o.looksAt ops,Ty.of (E s) (a.tmps.getD s undef) w)→
  if Region.wanted o (yielded ops a.tmps)=true then o.wp P a w (fun a' w'=>∃v,a'=a.put o.dst v∧Ext I w w'∧Ty.of T v w') (fun _ _ _=>False)
  else Ty.of T undef w
def FinT (Q:Act→World→Prop):List Oper→List Ty→Act→(World→Prop)→Prop
 | o :: os,.inl c :: Ts,a,F=>FinT Q os Ts (a.put o.dst c) F
 | o :: os,.inr T :: Ts,a,F=>
  match o.dst with
  | some d=>∀v,FinT Q os Ts (a.put (some d) v) (fun w=>F w∧T v w)
  | none=>FinT Q os Ts a (fun w=>F w∧∃v,T v w)
 | _,_,a,F=>∀w,Ext I w0 w→F w→Q a w
def wpT (Fin:List Ty→Prop):List Oper→Env→List Ty→Prop
 | [],_,Ts=>Fin Ts.reverse
 | o :: rest,E,Ts=>∃T,Stable I T∧OpT I P ops w0 o E T∧wpT Fin rest (E.put o.dst T) (T :: Ts)
end
def tyB (ops:Array Oper):Bool:=
 Region.noSelect ops &&
 (List.range ops.size).all fun i=>match ops[i]? with
  | none=>true
  | some o=>(o.after.all fun e=>!Region.binds .any e || decide (e.on < i)) &&
   (List.range ops.size).all fun j=>match ops[j]? with
    | none=>true
    | some p=>match p.dst with
     | none=>true
     | some d=>(decide (i=j) || o.dst != some d) && (!(o.looksAt ops).contains d ||
       (decide (j < i) && o.after.any fun e=>Region.binds .any e && e.on == j) || (decide (i < j) && p.after.any fun e=>Region.binds .any e && e.on == i))
theorem tyB_edges {ops:Array Oper} (h:tyB ops=true) {i:Nat} {o:Oper} (hi:ops[i]? = some o):∀e∈o.after,Region.binds .any e=true→e.on < i:=by
 have hlt:i < ops.size:=(Array.getElem?_eq_some_iff.1 hi).1
 simp only [tyB,Bool.and_eq_true] at h
 have h2:=List.all_eq_true.1 h.2 i (List.mem_range.2 hlt)
 simp only [hi,Bool.and_eq_true] at h2
 intro e he hb
 have:=Array.all_eq_true_iff_forall_mem.1 h2.1 e he
 simpa [hb] using this
theorem tyB_pair {ops:Array Oper} (h:tyB ops=true) {i j:Nat} {o p:Oper} {d:Tmp} (hi:ops[i]? = some o) (hj:ops[j]? = some p) (hd:p.dst=some d) :
  (i=j∨o.dst≠some d)∧(d∈o.looksAt ops→(j < i∧∃e∈o.after,Region.binds .any e=true∧e.on=j)∨(i < j∧∃e∈p.after,Region.binds .any e=true∧e.on=i)):=by
 have hlt:i < ops.size:=(Array.getElem?_eq_some_iff.1 hi).1
 have hlt':j < ops.size:=(Array.getElem?_eq_some_iff.1 hj).1
 simp only [tyB,Bool.and_eq_true] at h
 have h2:=List.all_eq_true.1 h.2 i (List.mem_range.2 hlt)
 simp only [hi,Bool.and_eq_true] at h2
 have h3:=List.all_eq_true.1 h2.2 j (List.mem_range.2 hlt')
 simp only [hj,hd,Bool.and_eq_true,Bool.or_eq_true,decide_eq_true_eq,bne_iff_ne,ne_eq,Bool.not_eq_true',List.contains_eq_mem,decide_eq_false_iff_not,Array.any_eq_true',beq_iff_eq] at h3
 refine⟨h3.1,fun hm=>?_⟩
 rcases h3.2 with (h4|⟨h4,e,he,hb⟩)|⟨h4,e,he,hb⟩
 ·exact absurd hm h4
 ·exact .inl ⟨h4,e,he,hb⟩
 ·exact .inr ⟨h4,e,he,hb⟩
section
variable {P:Program} {ops:Array Oper} {w0:World}
theorem wp_anyQ {o:Oper} {a:Act} {w:World} {K K':Act→World→Prop} {Q:Exit→Act→World→Prop} (h:∀a w,K a w→K' a w) (hh:o.wp P a w K (fun _ _ _=>False)):o.wp P a w K' Q:=by
 unfold Oper.wp at *
 generalize (execOp a.eval o).run P w=r at *
 cases r with
 | ok n w'=>
  cases n <;> simp only [Oper.upon] at hh ⊢ <;>
   first
    | exact h _ _ hh
    | exact Calls.mono hh (fun e w'' he=>by
      cases e with
      | returned v=>exact h _ _ he
      | panicked c=>exact he.elim
      | outgrown=>obtain⟨_,_,hf⟩:=he;exact hf.elim)
    | exact Rows.mono hh (fun _ _ he=>h _ _ he)
 | halt x w'=>cases x <;> simp only [Oper.upon] at hh ⊢ <;> first|exact hh|exact hh.elim
theorem wpT_types {Fin:List Ty→Prop}:∀(l:List Oper) (E:Env) (Ts:List Ty),wpT I P ops w0 Fin l E Ts→
  ∃Us:List Ty,Us.length=l.length∧Fin (Ts.reverse++Us)∧∀k o,l[k]? = some o→∃T,Us[k]? = some T∧Stable I T∧
   OpT I P ops w0 o ((List.zip (l.take k) (Us.take k)).foldl (fun E p=>E.put p.1.dst p.2) E) T:=by
 intro l
 induction l with
 | nil=>intro E Ts h;exact⟨[],rfl,by simpa [wpT] using h,fun k o h=>by simp at h⟩
 | cons o l ih=>
  intro E Ts h
  obtain⟨T,hs,ho,hr⟩:=h
  obtain⟨Us,hlen,hfin,hk⟩:=ih _ _ hr
  refine⟨T :: Us,by simp [hlen],by simpa using hfin,fun k p hp=>?_⟩
  cases k with
  | zero=>simp at hp;subst hp;exact⟨T,by simp,hs,by simpa using ho⟩
  | succ k=>
   obtain⟨T',h1,h2,h3⟩:=hk k p (by simpa using hp)
   exact⟨T',by simpa using h1,h2,by simpa using h3⟩
def writer (ops:Array Oper) (listed:Array Bool) (s:Tmp):Option Nat:=
 (List.range ops.size).find? fun i=>listed.getD i false && (ops[i]?.bind (·.dst)) == some s
theorem writer_some {listed:Array Bool} {s:Tmp} {i:Nat} (h:writer ops listed s=some i):listed.getD i false=true∧∃o,ops[i]? = some o∧o.dst=some s:=by
 have:=List.find?_some h
 simp only [Bool.and_eq_true,beq_iff_eq] at this
 refine⟨this.1,?_⟩
 obtain⟨o,ho,hd⟩:=Option.bind_eq_some_iff.1 this.2
 exact⟨o,ho,hd⟩
theorem writer_none {listed:Array Bool} {s:Tmp} (h:writer ops listed s=none) {i:Nat} {o:Oper} (hi:ops[i]? = some o) (hl:listed.getD i false=true):o.dst≠some s:=by
 have hlt:i < ops.size:=(Array.getElem?_eq_some_iff.1 hi).1
 have:=List.find?_eq_none.1 h i (List.mem_range.2 hlt)
 simp only [Bool.and_eq_true,beq_iff_eq,not_and] at this
 intro hd
 exact this hl (by simp [hi,hd])
theorem writer_put {listed:Array Bool} {s:Tmp} {i:Nat} {o:Oper} (hi:ops[i]? = some o) (hd:o.dst≠some s):writer ops (listed.setIfInBounds i true) s=writer ops listed s:=by
 unfold writer
 congr 1
 funext j
 by_cases hij:i=j
 ·subst hij
  have:((ops[i]?.bind (·.dst)) == some s)=false:=by
   rw [hi];simpa using hd
  simp [this]
 ·rw [getD_set_ne false hij]
def typeAt (ops:Array Oper) (E:Env) (Us:List Ty) (listed:Array Bool) (s:Tmp):Ty:=
 match writer ops listed s with
 | some i=>Us.getD i (.inl undef)
 | none=>E s
def lexEnv (l:List Oper) (Us:List Ty) (E:Env) (k:Nat):Env:=(List.zip (l.take k) (Us.take k)).foldl (fun E p=>E.put p.1.dst p.2) E
theorem lexEnv_succ {l:List Oper} {Us:List Ty} {E:Env} {k:Nat} {o:Oper} {T:Ty} (ho:l[k]? = some o) (hT:Us[k]? = some T):lexEnv l Us E (k+1)=(lexEnv l Us E k).put o.dst T:=by
 unfold lexEnv
 have h1:k < l.length:=(List.getElem?_eq_some_iff.1 ho).1
 have h2:k < Us.length:=(List.getElem?_eq_some_iff.1 hT).1
 rw [List.take_add_one,List.take_add_one,ho,hT]
 simp only [Option.toList_some]
 rw [List.zip_append (by simp;omega),List.foldl_append]
 rfl
theorem lexEnv_none {l:List Oper} {Us:List Ty} {E:Env} {s:Tmp} (hlen:Us.length=l.length):∀k,(∀j o,j < k→l[j]? = some o→o.dst≠some s)→lexEnv l Us E k s=E s
 | 0,_=>by simp [lexEnv]
 | k+1,h=>by
  cases ho:l[k]? with
  | none=>
   have hk:l.length≤k:=List.getElem?_eq_none_iff.1 ho
   have e:lexEnv l Us E (k+1)=lexEnv l Us E k:=by
    unfold lexEnv
    rw [List.take_of_length_le (by omega:l.length≤k+1),List.take_of_length_le (by omega:Us.length≤k+1),List.take_of_length_le hk,List.take_of_length_le (by omega:Us.length≤k)]
   rw [e]
   exact lexEnv_none hlen k fun j o hj=>h j o (by omega)
  | some o=>
   have hk:k < l.length:=(List.getElem?_eq_some_iff.1 ho).1
   have hT:Us[k]? = some (Us[k]'(by omega)):=List.getElem?_eq_getElem (by omega)
   rw [lexEnv_succ ho hT]
   have hd:=h k o (by omega) ho
   cases hdst:o.dst with
   | none=>exact lexEnv_none hlen k fun j o hj=>h j o (by omega)
   | some d=>
    rw [Env.put_other _ _ _ _ (fun e=>hd (by rw [hdst,e]))]
    exact lexEnv_none hlen k fun j o hj=>h j o (by omega)
theorem lexEnv_some {l:List Oper} {Us:List Ty} {E:Env} {s:Tmp} {j:Nat} {p:Oper} (hlen:Us.length=l.length) (hj:l[j]? = some p) (hd:p.dst=some s)
  (huniq:∀i o,l[i]? = some o→i≠j→o.dst≠some s):∀k,j < k→lexEnv l Us E k s=Us.getD j (.inl undef)
 | 0,h=>by omega
 | k+1,h=>by
  have hjl:j < l.length:=(List.getElem?_eq_some_iff.1 hj).1
  cases ho:l[k]? with
  | none=>
   have hk:l.length≤k:=List.getElem?_eq_none_iff.1 ho
   have e:lexEnv l Us E (k+1)=lexEnv l Us E k:=by
    unfold lexEnv
    rw [List.take_of_length_le (by omega:l.length≤k+1),List.take_of_length_le (by omega:Us.length≤k+1),List.take_of_length_le hk,List.take_of_length_le (by omega:Us.length≤k)]
   rw [e]
   exact lexEnv_some hlen hj hd huniq k (by omega)
  | some o=>
   have hk:k < l.length:=(List.getElem?_eq_some_iff.1 ho).1
   have hT:Us[k]? = some (Us[k]'(by omega)):=List.getElem?_eq_getElem (by omega)
   rw [lexEnv_succ ho hT]
   by_cases hkj:k=j
   ·subst hkj
    rw [ho] at hj
    injection hj with hj
    subst hj
    rw [hd,Env.put_same,List.getD_eq_getElem?_getD,hT]
    rfl
   ·have hne:=huniq k o ho hkj
    cases hdst:o.dst with
    | none=>exact lexEnv_some hlen ‹_› hd huniq k (by omega)
    | some d=>
     rw [Env.put_other _ _ _ _ (fun e=>hne (by rw [hdst,e]))]
     exact lexEnv_some hlen ‹_› hd huniq k (by omega)
structure InvT (I:Nat→World→Prop) (ops:Array Oper) (E:Env) (Us:List Ty) (w0:World) (a0:Act) (listed:Array Bool) (a:Act) (w:World):Prop where
 ext:Ext I w0 w
 size:a.tmps.size=a0.tmps.size
 defers:a.defers=a0.defers
 lsize:listed.size=ops.size
 closed:∀j oj,ops[j]? = some oj→listed.getD j false=true→∀e∈oj.after,Region.binds .any e=true→listed.getD e.on false=true
 typed:∀s,Ty.of (typeAt ops E Us listed s) (a.tmps.getD s undef) w
 told:∀(k:Nat) T,k < ops.size→Us[k]? = some T→listed.getD k false=true→∃v,Ty.of T v w
theorem getD_false_of_true {listed:Array Bool} {i:Nat} (h:listed.getD i true=false):listed.getD i false=false:=by
 rcases Nat.lt_or_ge i listed.size with h'|h'
 ·simp [h'] at h ⊢;exact h
 ·simp [Array.getElem?_eq_none h'] at h
theorem InvT.step {E : Env} {Us : List Ty} {a0 : Act} {listed : Array Bool} {a : Act} {w : World} {i : Nat} {o : Oper} {T : Ty} (hB : tyB ops = true) (hlen : Us.length = ops.size)
    (hst : ∀ (k : Nat) (T : Ty), Us[k]? = some T → Stable I T) (hE : ∀ s, Stable I (E s)) (hdst : ∀ (k : Nat) o d, ops[k]? = some o → o.dst = some d → d < a0.tmps.size)
    (inv : InvT I ops E Us w0 a0 listed a w) (hi : ops[i]? = some o) (hr : i ∈ Region.ready .any ops listed) (hT : Us[i]? = some T)
    (ho : OpT I P ops w0 o (lexEnv ops.toList Us E i) T) {Q : Exit → Act → World → Prop} {K : Act → World → Prop} (hK : ∀ a' w', InvT I ops E Us w0 a0 (listed.setIfInBounds i true) a' w' → K a' w') : wpOp P ops Q i K a w := by
  obtain ⟨hun, o', ho', hall⟩ := mem_ready.1 hr
  have hoo : o' = o := Option.some.inj (ho'.symm.trans hi)
  subst hoo
  have hilt : i < ops.size := (Array.getElem?_eq_some_iff.1 hi).1
  have hunf : listed.getD i false = false := getD_false_of_true hun
  have hlook : ∀ s ∈ o'.looksAt ops, typeAt ops E Us listed s = lexEnv ops.toList Us E i s := by
    intro s hs
    unfold typeAt
    cases hw : writer ops listed s with
    | some j =>
      obtain ⟨hjl, p, hp, hpd⟩ := writer_some hw
      have hpl : ops.toList[j]? = some p := by simpa using hp
      have hji : j ≠ i := by rintro rfl; rw [hunf] at hjl; cases hjl
      rcases (tyB_pair hB hi hp hpd).2 hs with ⟨hlt, _⟩ | ⟨_, e, he, hb, hon⟩
      · refine (lexEnv_some (by simpa using hlen) hpl hpd ?_ i hlt).symm
        intro k q hq hkj hqd
        rcases (tyB_pair hB (by simpa using hq) hp hpd).1 with h | h
        · exact hkj h
        · exact h hqd
      · have := inv.closed j p hp hjl e he hb
        rw [hon, hunf] at this
        cases this
    | none =>
      refine (lexEnv_none (by simpa using hlen) i ?_).symm
      intro j p hj hp hpd
      have hp' : ops[j]? = some p := by simpa using hp
      rcases (tyB_pair hB hi hp' hpd).2 hs with ⟨_, e, he, hb, hon⟩ | ⟨hlt, _⟩
      · have := hall e he hb
        rw [hon] at this
        exact writer_none hw hp' this hpd
      · omega
  have hfacts : ∀ s ∈ o'.looksAt ops, Ty.of (lexEnv ops.toList Us E i s) (a.tmps.getD s undef) w := fun s hs => by
    rw [← hlook s hs]; exact inv.typed s
  have hop := ho a w inv.ext hfacts
  have hgo : ∀ v w', Ext I w w' → Ty.of T v w' → InvT I ops E Us w0 a0 (listed.setIfInBounds i true) (a.put o'.dst v) w' := by
    intro v w' hw hv
    refine ⟨inv.ext.trans hw, ?_, ?_, by simp [inv.lsize], ?_, ?_, fun k T' hk hT' hl => ?_⟩
    · rw [← inv.size]; cases o'.dst <;> simp [Act.put]
    · rw [← inv.defers]; cases o'.dst <;> simp [Act.put]
    · intro j oj hj hl e he hb
      by_cases hij : i = j
      · subst hij
        have hoj : oj = o' := Option.some.inj (hj.symm.trans hi)
        subst hoj
        exact getD_set_true (hall e he hb)
      · rw [getD_set_ne false hij] at hl
        exact getD_set_true (inv.closed j oj hj hl e he hb)
    · intro s
      by_cases hs : o'.dst = some s
      · have hw' : writer ops (listed.setIfInBounds i true) s = some i := by
          cases hq : writer ops (listed.setIfInBounds i true) s with
          | none =>
            have := writer_none hq hi (by have : i < listed.size := by rw [inv.lsize]; exact hilt
                                          simp [this])
            exact absurd hs this
          | some j =>
            obtain ⟨_, p, hp, hpd⟩ := writer_some hq
            rcases (tyB_pair hB hi hp hpd).1 with h | h
            · rw [h]
            · exact absurd hs h
        have hval : (a.put o'.dst v).tmps.getD s undef = v := by
          rw [hs]
          have hlt := hdst i o' s hi hs
          rw [← inv.size] at hlt
          simp [Act.put, hlt]
        unfold typeAt
        rw [hw', hval]
        simp only [List.getD_eq_getElem?_getD, hT, Option.getD_some]
        exact hv
      · have h1 : typeAt ops E Us (listed.setIfInBounds i true) s = typeAt ops E Us listed s := by unfold typeAt; rw [writer_put hi hs]
        have h2 : (a.put o'.dst v).tmps.getD s undef = a.tmps.getD s undef := by
          cases hd : o'.dst with
          | none => rfl
          | some d =>
            have hne : d ≠ s := fun e => hs (by rw [hd, e])
            simp [Act.put, Array.getElem?_setIfInBounds_ne hne]
        rw [h1, h2]
        have h3 : Stable I (typeAt ops E Us listed s) := by
          unfold typeAt
          cases hw : writer ops listed s with
          | none => exact hE s
          | some j =>
            obtain ⟨_, p, hp, _⟩ := writer_some hw
            have hjlt : j < ops.size := (Array.getElem?_eq_some_iff.1 hp).1
            have hj : Us[j]? = some (Us[j]'(by omega)) := List.getElem?_eq_getElem (by omega)
            simp only [List.getD_eq_getElem?_getD, hj, Option.getD_some]
            exact hst j _ hj
        exact h3 _ _ _ (inv.typed s) hw
    · by_cases hik : i = k
      · subst hik
        rw [hT] at hT'
        cases hT'
        exact ⟨v, hv⟩
      · rw [getD_set_ne false hik] at hl
        obtain ⟨u, hu⟩ := inv.told k T' hk hT' hl
        exact ⟨u, hst k T' hT' _ _ _ hu hw⟩
  unfold wpOp
  rw [hi]
  dsimp only
  by_cases hw : Region.wanted o' (yielded ops a.tmps) = true
  · rw [if_pos hw] at hop ⊢
    refine .inl (wp_anyQ (fun a' w' h => ?_) hop)
    obtain ⟨v, rfl, he, hv⟩ := h
    exact hK _ _ (hgo v w' he hv)
  · rw [if_neg hw] at hop ⊢
    exact hK _ _ (hgo undef w (Ext.refl w) hop)
def leftT (ops:Array Oper) (listed:Array Bool):Nat:=((List.range ops.size).filter fun i=>!listed.getD i false).length
theorem all_of_none_ready {E:Env} {Us:List Ty} {a0:Act} {listed:Array Bool} {a:Act} {w:World} (hB:tyB ops=true) (inv:InvT I ops E Us w0 a0 listed a w) (hr:Region.ready .any ops listed=[]) :
  ∀i,i < ops.size→listed.getD i false=true:=by
 intro i
 induction i using Nat.strongRecOn with
 | _ i ih=>
  intro hi
  cases hl:listed.getD i false with
  | true=>rfl
  | false=>
   have ho:ops[i]? = some ops[i]:=by simp [hi]
   have hmem:i∈Region.ready .any ops listed:=mem_ready.2 ⟨by
    have:i < listed.size:=by rw [inv.lsize];exact hi
    simp [this] at hl ⊢;exact hl,_,ho,fun e he hb=>ih e.on (tyB_edges hB ho e he hb) (by have:=tyB_edges hB ho e he hb;omega)⟩
   rw [hr] at hmem
   cases hmem
theorem leftT_step {listed:Array Bool} {i:Nat} (hi:i < ops.size) (hs:listed.size=ops.size) (hun:listed.getD i false=false):leftT ops (listed.setIfInBounds i true) < leftT ops listed:=by
 unfold leftT
 have hsub:((List.range ops.size).filter fun j=>!(listed.setIfInBounds i true).getD j false)=(((List.range ops.size).filter fun j=>!listed.getD j false).filter fun j=>decide (j≠i)):=by
  rw [List.filter_filter]
  congr 1
  funext j
  by_cases hij:i=j
  ·subst hij
   have:i < listed.size:=by omega
   simp [this]
  ·rw [getD_set_ne false hij]
   have:j≠i:=fun e=>hij e.symm
   simp [this]
 rw [hsub]
 refine List.length_filter_lt_length_iff_exists.2 ⟨i,?_,by simp⟩
 rw [List.mem_filter]
 exact⟨List.mem_range.2 hi,by simp only [hun,Bool.not_false]⟩
def putAll (a:Act):List Oper→Act→Act
 | [],b=>b
 | o :: os,b=>putAll a os (b.put o.dst (match o.dst with|some d=>a.tmps.getD d undef|none=>undef))
theorem putAll_size (a:Act):∀(l:List Oper) (b:Act),(putAll a l b).tmps.size=b.tmps.size∧(putAll a l b).defers=b.defers
 | [],b=>⟨rfl,rfl⟩
 | o :: os,b=>by
  have h:=putAll_size a os (b.put o.dst (match o.dst with|some d=>a.tmps.getD d undef|none=>undef))
  simp only [putAll]
  refine⟨h.1.trans ?_,h.2.trans ?_⟩ <;> cases o.dst <;> simp [Act.put]
theorem putAll_get (a:Act) (s:Tmp):∀(l:List Oper) (b:Act),s < b.tmps.size→b.tmps.size=a.tmps.size→
  (putAll a l b).tmps.getD s undef=if ∃o∈l,o.dst=some s then a.tmps.getD s undef else b.tmps.getD s undef
 | [],b,_,_=>by simp [putAll]
 | o :: os,b,hs,hsz=>by
  have hsz':(b.put o.dst (match o.dst with|some d=>a.tmps.getD d undef|none=>undef)).tmps.size=b.tmps.size:=by cases o.dst <;> simp [Act.put]
  simp only [putAll]
  rw [putAll_get a s os _ (by rw [hsz'];exact hs) (by rw [hsz',hsz])]
  by_cases h1:∃o'∈os,o'.dst=some s
  ·have h2:∃o'∈o :: os,o'.dst=some s:=by obtain⟨o',h,hd⟩:=h1;exact⟨o',List.mem_cons_of_mem _ h,hd⟩
   rw [if_pos h1,if_pos h2]
  ·rw [if_neg h1]
   by_cases h3:o.dst=some s
   ·have h2:∃o'∈o :: os,o'.dst=some s:=⟨o,List.mem_cons_self,h3⟩
    rw [if_pos h2,h3]
    simp [Act.put,hs]
   ·have h2:¬∃o'∈o :: os,o'.dst=some s:=by
     rintro ⟨o',h,hd⟩
     rcases List.mem_cons.1 h with rfl|h
     ·exact h3 hd
     ·exact h1 ⟨o',h,hd⟩
    rw [if_neg h2]
    cases hd:o.dst with
    | none=>rfl
    | some d=>
     have hne:d≠s:=fun e=>h3 (by rw [hd,e])
     simp [Act.put,Array.getElem?_setIfInBounds_ne hne]
theorem FinT.out {Q:Act→World→Prop} {a:Act} {w:World} (hw:Ext I w0 w):∀(l:List Oper) (Us:List Ty) (b:Act) (F:World→Prop),FinT I w0 Q l Us b F→Us.length=l.length→F w→
  (∀(k:Nat) o T d,l[k]? = some o→Us[k]? = some T→o.dst=some d→Ty.of T (a.tmps.getD d undef) w)→(∀(k:Nat) T,k < l.length→Us[k]? = some T→∃v,Ty.of T v w)→Q (putAll a l b) w
 | [],[],b,F,h,_,hF,_,_=>h w hw hF
 | [],_ :: _,_,_,_,hl,_,_,_=>by simp at hl
 | _ :: _,[],_,_,_,hl,_,_,_=>by simp at hl
 | o :: os,.inl c :: Ts,b,F,h,hl,hF,ht,hn0=>by
  simp only [putAll]
  have hn:(b.put o.dst (match o.dst with|some d=>a.tmps.getD d undef|none=>undef))=b.put o.dst c:=by
   cases hd:o.dst with
   | none=>rfl
   | some d=>
    have:a.tmps.getD d undef=c:=ht 0 o (.inl c) d rfl rfl hd
    simp [this]
  rw [hn]
  exact FinT.out hw os Ts _ F h (by simpa using hl) hF (fun k o' T d h1 h2 h3=>ht (k+1) o' T d (by simpa using h1) (by simpa using h2) h3) (fun k T hk hT=>hn0 (k+1) T (by simp;omega) (by simpa using hT))
 | o :: os,.inr T :: Ts,b,F,h,hl,hF,ht,hn0=>by
  simp only [putAll]
  cases hd:o.dst with
  | none=>
   simp only [FinT,hd] at h
   exact FinT.out hw os Ts _ _ h (by simpa using hl) ⟨hF,hn0 0 (.inr T) (by simp) rfl⟩ (fun k o' T d h1 h2 h3=>ht (k+1) o' T d (by simpa using h1) (by simpa using h2) h3) (fun k T hk hT=>hn0 (k+1) T (by simp;omega) (by simpa using hT))
  | some d=>
   simp only [FinT,hd] at h
   have h0:T (a.tmps.getD d undef) w:=ht 0 o (.inr T) d rfl rfl hd
   exact FinT.out hw os Ts _ _ (h _) (by simpa using hl) ⟨hF,h0⟩ (fun k o' T d h1 h2 h3=>ht (k+1) o' T d (by simpa using h1) (by simpa using h2) h3) (fun k T hk hT=>hn0 (k+1) T (by simp;omega) (by simpa using hT))
theorem InvT.fin {Us:List Ty} {a0:Act} {listed:Array Bool} {a:Act} {w:World} (hB:tyB ops=true) (hlen:Us.length=ops.size) (inv:InvT I ops (fun s=>.inl (a0.tmps.getD s undef)) Us w0 a0 listed a w)
  (hall:∀i,i < ops.size→listed.getD i false=true) {Q:Act→World→Prop} (h:FinT I w0 Q ops.toList Us a0 (fun _=>True)):Q a w:=by
 have hty:∀(k:Nat) o T d,ops.toList[k]? = some o→Us[k]? = some T→o.dst=some d→Ty.of T (a.tmps.getD d undef) w:=by
  intro k o T d hk hT hd
  have hk':ops[k]? = some o:=by simpa using hk
  have hlt:k < ops.size:=(Array.getElem?_eq_some_iff.1 hk').1
  have:=inv.typed d
  unfold typeAt at this
  cases hq:writer ops listed d with
  | none=>exact absurd hd (writer_none hq hk' (hall k hlt))
  | some j=>
   obtain⟨_,p,hp,hpd⟩:=writer_some hq
   rcases (tyB_pair hB hk' hp hpd).1 with h|h
   ·subst h
    rw [hq] at this
    simpa only [List.getD_eq_getElem?_getD,hT,Option.getD_some] using this
   ·exact absurd hd h
 have hfin:=FinT.out (a:=a) inv.ext ops.toList Us a0 _ h (by simpa using hlen) trivial hty (fun k T hk hT=>inv.told k T (by simpa using hk) hT (hall k (by simpa using hk)))
 have heq:putAll a ops.toList a0=a:=by
  have hsz:=putAll_size a ops.toList a0
  have h1:(putAll a ops.toList a0).tmps=a.tmps:=by
   apply Array.ext
   ·rw [hsz.1,inv.size]
   ·intro s hs1 hs2
    have hs0:s < a0.tmps.size:=by rw [←hsz.1];exact hs1
    have hg:=putAll_get a s ops.toList a0 hs0 inv.size.symm
    have hu:a.tmps.getD s undef=a.tmps[s]:=by simp [hs2]
    have hv:(putAll a ops.toList a0).tmps.getD s undef=(putAll a ops.toList a0).tmps[s]:=by simp [hs1]
    refine(hv.symm.trans (hg.trans ?_)).trans hu
    by_cases hno:∃o∈ops.toList,o.dst=some s
    ·rw [if_pos hno]
    ·rw [if_neg hno]
     have this:=inv.typed s
     unfold typeAt at this
     cases hq:writer ops listed s with
     | none=>rw [hq] at this;exact Eq.symm this
     | some j=>
      obtain⟨_,p,hp,hpd⟩:=writer_some hq
      exact absurd ⟨p,by simpa using Array.mem_of_getElem? hp,hpd⟩ hno
  cases hpa:putAll a ops.toList a0 with
  | mk t d=>
   rw [hpa] at h1 hsz
   have h2:=hsz.2.trans inv.defers.symm
   cases a
   simp_all
 rwa [heq] at hfin
theorem wpAny_typed {Us:List Ty} {a0:Act} (hB:tyB ops=true) (hlen:Us.length=ops.size) (hst:∀(k:Nat) (T:Ty),Us[k]? = some T→Stable I T)
  (hdst:∀(k:Nat) o d,ops[k]? = some o→o.dst=some d→d < a0.tmps.size)
  (hop:∀(k:Nat) o,ops[k]? = some o→∃T,Us[k]? = some T∧OpT I P ops w0 o (lexEnv ops.toList Us (fun s=>.inl (a0.tmps.getD s undef)) k) T)
  {Q:Exit→Act→World→Prop} (h:FinT I w0 (fun a w=>Q .normal a w) ops.toList Us a0 (fun _=>True)) :
  ∀(fuel:Nat) (listed:Array Bool) (a:Act) (w:World),leftT ops listed≤fuel→InvT I ops (fun s=>.inl (a0.tmps.getD s undef)) Us w0 a0 listed a w→wpAny P .any ops Q fuel listed a w
 | 0,listed,a,w,hl,inv=>by
  have hall:∀i,i < ops.size→listed.getD i false=true:=by
   intro i hi
   cases hq:listed.getD i false with
   | true=>rfl
   | false=>
    have:=leftT_step hi inv.lsize hq
    omega
  refine⟨?_,inv.fin hB hlen hall h⟩
  cases hr:Region.ready .any ops listed with
  | nil=>rfl
  | cons i rs=>
   have hm:i∈Region.ready .any ops listed:=by rw [hr];exact List.mem_cons_self
   obtain⟨hun,o,ho,_⟩:=mem_ready.1 hm
   have:=hall i (Array.getElem?_eq_some_iff.1 ho).1
   rw [getD_false_of_true hun] at this
   cases this
 | fuel+1,listed,a,w,hl,inv=>by
  refine⟨fun hr=>inv.fin hB hlen (all_of_none_ready hB inv hr) h,fun i hi=>?_⟩
  obtain⟨hun,o,ho,_⟩:=mem_ready.1 hi
  obtain⟨T,hT,hopT⟩:=hop i o ho
  refine inv.step hB hlen hst (fun s=>stable_is _) hdst ho hi hT hopT (fun a' w' inv'=>?_)
  refine wpAny_typed hB hlen hst hdst hop h fuel _ a' w' ?_ inv'
  have:=leftT_step (Array.getElem?_eq_some_iff.1 ho).1 inv.lsize (getD_false_of_true hun)
  omega
def dstB (ops:Array Oper) (n:Nat):Bool:=ops.all fun o=>match o.dst with|some d=>decide (d < n)|none=>true
theorem dstB_spec {n:Nat} (h:dstB ops n=true):∀(k:Nat) o d,ops[k]? = some o→o.dst=some d→d < n:=by
 intro k o d hk hd
 have:=Array.all_eq_true_iff_forall_mem.1 h o (Array.mem_of_getElem? hk)
 simpa [hd] using this
theorem wp_region_typed {id:Nat} {Q:Exit→Act→World→Prop} {a:Act} {w:World} (hm:P.follows .mixedOrders=true) (hB:tyB ops=true) (hD:dstB ops a.tmps.size=true)
  (h:wpT I P ops w.drew (fun Us=>FinT I w.drew (fun a w=>Q .normal a w) ops.toList Us a (fun _=>True)) ops.toList (fun s=>.inl (a.tmps.getD s undef)) []):(Code.region id ops true).wp P Q a w:=by
 obtain⟨Us,hlen,hfin,hk⟩:=wpT_types _ _ _ h
 have hlen':Us.length=ops.size:=by simpa using hlen
 refine wp_region_any hm ?_
 refine wpAny_typed (P:=P) (w0:=w.drew) (a0:=a) hB hlen' ?_ (dstB_spec hD) ?_ (by simpa using hfin) ops.size _ a _ ?_ ?_
 ·intro k T hT
  have hlt:k < ops.toList.length:=by have:=(List.getElem?_eq_some_iff.1 hT).1;omega
  obtain⟨T',h1,h2,_⟩:=hk k _ (List.getElem?_eq_getElem hlt)
  rw [hT] at h1
  injection h1 with h1
  subst h1
  exact h2
 ·intro k o ho
  obtain⟨T,h1,_,h3⟩:=hk k o (by simpa using ho)
  exact⟨T,h1,h3⟩
 ·unfold leftT
  exact Nat.le_trans (List.length_filter_le _ _) (by simp)
 ·refine⟨Ext.refl _,rfl,rfl,by simp,?_,?_,fun k T hk _ hl=>by simp [hk] at hl⟩
  ·intro j oj _ hl
   rcases Nat.lt_or_ge j ops.size with hj|hj
   ·simp [hj] at hl
   ·simp [hj] at hl
  ·intro s
   have hw:writer ops (Array.replicate ops.size false) s=none:=by
    unfold writer
    rw [List.find?_eq_none]
    intro i hi
    simp [List.mem_range.1 hi]
   unfold typeAt
   rw [hw]
   rfl
end
section
variable {P:Program} {ops:Array Oper} {w0:World} {Fin:List Ty→Prop} {rest:List Oper} {E:Env} {Ts:List Ty} {o:Oper}
def Wd (ops:Array Oper) (o:Oper) (E:Env) (b:Bool):Prop:=
 ∀(a:Act) (w:World),(∀s∈o.looksAt ops,Ty.of (E s) (a.tmps.getD s undef) w)→Region.wanted o (yielded ops a.tmps)=b
theorem wd_none (h:o.guard=none):Wd ops o E true:=fun a w _=>by simp [Region.wanted,h]
theorem wd_some {j:Nat} {b c:Bool} {d:Tmp} (h:o.guard=some (j,b)) (hd:(ops[j]?).bind (·.dst)=some d) (hE:E d=.inl (.bool c)):Wd ops o E (c == b):=fun a w hs=>by
 have hm:d∈o.looksAt ops:=by
  unfold Oper.looksAt
  rw [h]
  exact List.mem_append_right _ (by simp [hd])
 have hv:=hs d hm
 rw [hE] at hv
 have hv':a.tmps.getD d undef=.bool c:=hv
 have hq:a.tmps[d]? = some (.bool c):=by
  cases hx:a.tmps[d]? with
  | none=>
   rw [Array.getD_eq_getD_getElem?,hx] at hv'
   cases hv'
  | some x=>
   rw [Array.getD_eq_getD_getElem?,hx] at hv'
   rw [←hv'];rfl
 unfold Region.wanted yielded
 rw [h]
 simp only [hd,Option.bind_some,hq]
 cases b <;> cases c <;> rfl
theorem wd_yes {j:Nat} {b:Bool} {d:Tmp} (h:o.guard=some (j,b)) (hd:(ops[j]?).bind (·.dst)=some d) (hE:E d=.inl (.bool b)):Wd ops o E true:=by
 have:=wd_some h hd hE
 rwa [beq_self_eq_true] at this
theorem wd_no {j:Nat} {b:Bool} {d:Tmp} (h:o.guard=some (j,b)) (hd:(ops[j]?).bind (·.dst)=some d) (hE:E d=.inl (.bool (!b))):Wd ops o E false:=by
 have:=wd_some h hd hE
 have e:((!b) == b)=false:=by cases b <;> rfl
 rwa [e] at this
theorem wdA (h:(match o.guard with|none=>true|some (j,b)=>match (ops[j]?).bind (·.dst) with|some d=>(match E d with|.inl (.bool c)=>c == b|_=>false)|none=>false)=true):Wd ops o E true:=by
 split at h
 ·exact wd_none (by assumption)
 ·split at h
  ·split at h
   ·rename_i hg _ _ hd _ _ hE
    obtain rfl:=eq_of_beq h
    exact wd_yes hg hd hE
   ·cases h
  ·cases h
theorem tw_skip (hw:Wd ops o E false) (hr:wpT I P ops w0 Fin rest (E.put o.dst (.inl undef)) (.inl undef :: Ts)):wpT I P ops w0 Fin (o :: rest) E Ts:=
 ⟨.inl undef,stable_is _,fun a w _ hs=>by rw [if_neg (by rw [hw a w hs];decide)];rfl,hr⟩
theorem tw_pure (c:Value) (hw:Wd ops o E true) (h:∀(a:Act) (w:World),Ext I w0 w→(∀s∈o.looksAt ops,Ty.of (E s) (a.tmps.getD s undef) w)→(execOp a.eval o).run P w=.ok (.value c) w)
  (hr:wpT I P ops w0 Fin rest (E.put o.dst (.inl c)) (.inl c :: Ts)):wpT I P ops w0 Fin (o :: rest) E Ts:=
 ⟨.inl c,stable_is _,fun a w hx hs=>by
  rw [if_pos (hw a w hs)]
  unfold Oper.wp
  rw [h a w hx hs,Oper.upon_value]
  exact⟨c,rfl,Ext.refl w,rfl⟩,hr⟩
theorem tw_val (T:Ty) (hst:Stable I T) (hw:Wd ops o E true) (h:∀(a:Act) (w:World),Ext I w0 w→(∀s∈o.looksAt ops,Ty.of (E s) (a.tmps.getD s undef) w)→∃v w',(execOp a.eval o).run P w=.ok (.value v) w'∧Ext I w w'∧Ty.of T v w')
  (hr:wpT I P ops w0 Fin rest (E.put o.dst T) (T :: Ts)):wpT I P ops w0 Fin (o :: rest) E Ts:=
 ⟨T,hst,fun a w hx hs=>by
  rw [if_pos (hw a w hs)]
  obtain⟨v,w',h1,h2,h3⟩:=h a w hx hs
  unfold Oper.wp
  rw [h1,Oper.upon_value]
  exact⟨v,rfl,h2,h3⟩,hr⟩
theorem tw_call (T : Ty) (hst : Stable I T) (hw : Wd ops o E true) (h : ∀ (a : Act) (w : World), Ext I w0 w → (∀ s ∈ o.looksAt ops, Ty.of (E s) (a.tmps.getD s undef) w) →
      ∃ f args, (execOp a.eval o).run P w = .ok (.enter f args) w ∧ Calls P f args w fun e w' => ∃ v, e = .returned v ∧ Ext I w w' ∧ Ty.of T v w')
    (hr : wpT I P ops w0 Fin rest (E.put o.dst T) (T :: Ts)) : wpT I P ops w0 Fin (o :: rest) E Ts :=
  ⟨T, hst, fun a w hx hs => by
    rw [if_pos (hw a w hs)]
    obtain ⟨f, args, h1, h2⟩ := h a w hx hs
    unfold Oper.wp
    rw [h1, Oper.upon_enter]
    refine h2.mono ?_
    rintro e w' ⟨v, rfl, h3, h4⟩
    exact ⟨v, rfl, h3, h4⟩, hr⟩
theorem tw_move {s:Tmp} (T:Ty) (hst:Stable I T) (hop:o.op=.move (.tmp s)∨o.op=.assign (.tmp s)) (hE:E s=T) (hw:Wd ops o E true)
  (hr:wpT I P ops w0 Fin rest (E.put o.dst T) (T :: Ts)):wpT I P ops w0 Fin (o :: rest) E Ts:=
 tw_val T hst hw (fun a w _ hs=>by
  have hm:s∈o.looksAt ops:=by
   unfold Oper.looksAt
   rcases hop with h|h <;> rw [h] <;> simp [Op.operands]
  have hv:=hs s hm
  rw [hE] at hv
  refine⟨a.tmps.getD s undef,w,?_,Ext.refl w,hv⟩
  rcases hop with h|h <;> · unfold execOp;simp only [h];rfl) hr
theorem looks_of {o:Oper} {x:Operand} {s:Tmp} (h:x∈o.op.operands) (hx:x=.tmp s):s∈o.looksAt ops:=by
 subst hx
 exact List.mem_append_left _ (List.mem_filterMap.2 ⟨.tmp s,by simpa using h,rfl⟩)
end
def evalE (E:Env):Operand→Option Value
 | .tmp s=>match E s with
  | .inl c=>some c
  | .inr _=>none
 | .const v=>some v
 | .global g=>some (.pointer (some ⟨g,0,none⟩))
 | .func f=>some (.func (.func f) #[] #[])
theorem evalE_of {E:Env} {ops:Array Oper} {o:Oper} {a:Act} {w:World} {x:Operand} {c:Value} (h:evalE E x=some c) (hm:x∈o.op.operands)
  (hs:∀s∈o.looksAt ops,Ty.of (E s) (a.tmps.getD s undef) w):a.eval x=c:=by
 cases x with
 | const v=>simpa [evalE,Act.eval] using h
 | global g=>simpa [evalE,Act.eval] using h
 | func f=>simpa [evalE,Act.eval] using h
 | tmp s=>
  have hv:=hs s (looks_of hm rfl)
  simp only [evalE] at h
  cases hE:E s with
  | inl d=>
   rw [hE] at h hv
   simp only [Option.some.injEq] at h
   subst h
   exact hv
  | inr T=>rw [hE] at h;cases h
theorem map_of {E:Env} {ops:Array Oper} {o:Oper} {a:Act} {w:World} {xs:Array Operand} {args:Array Value} (h:xs.toList.map (evalE E)=args.toList.map some) (hm:∀x∈xs,x∈o.op.operands)
  (hs:∀s∈o.looksAt ops,Ty.of (E s) (a.tmps.getD s undef) w):xs.map a.eval=args:=by
 apply Array.ext'
 rw [Array.toList_map]
 have key:∀(l:List Operand) (m:List Value),(∀x∈l,x∈o.op.operands)→l.map (evalE E)=m.map some→l.map a.eval=m:=by
  intro l
  induction l with
  | nil=>intro m _ h;cases m with
   | nil=>rfl
   | cons _ _=>simp at h
  | cons x l ih=>intro m hm h;cases m with
   | nil=>simp at h
   | cons c m=>
    simp only [List.map_cons,List.cons.injEq] at h ⊢
    exact⟨evalE_of h.1 (hm x (by simp)) hs,ih m (fun y hy=>hm y (by simp [hy])) h.2⟩
 exact key _ _ (fun x hx=>hm x (by simpa using hx)) h
section
variable {ops:Array Oper} {w0:World} {Fin:List Ty→Prop} {rest:List Oper} {E:Env} {Ts:List Ty} {o:Oper} {P:Program}
theorem tw_fn {f:FuncId} {xs:Array Operand} {ts:Array TypeId} (args:Array Value) (T:Ty) (hst:Stable I T) (hop:o.op=.call { callee:=.value (.func f),args:=xs,argTypes:=ts})
  (hcf:∀(W:World),(callFunc f args).run P W=.ok (.enter f args) W) (hx:xs.toList.map (evalE E)=args.toList.map some) (hw:Wd ops o E true)
  (hc:∀W,Ext I w0 W→Calls P f args W fun e w'=>∃v,e=.returned v∧Ext I W w'∧Ty.of T v w')
  (hr:wpT I P ops w0 Fin rest (E.put o.dst T) (T :: Ts)):wpT I P ops w0 Fin (o :: rest) E Ts:=
 tw_call T hst hw (fun a W hW hs=>by
  have hm:=map_of (o:=o) (a:=a) (w:=W) hx (fun x hx=>by rw [hop];simp [Op.operands,Call.operands,hx]) hs
  refine⟨f,args,?_,hc W hW⟩
  unfold execOp
  simp only [hop,resolve,Act.eval,Deferred.ofValue,hm,Sem.run_bind,Sem.run_pure,Result.andThen_ok,invoke,Array.append_empty,Array.empty_append,hcf W]) hr
end
section
variable {ops:Array Oper} {w0:World} {Fin:List Ty→Prop} {rest:List Oper} {E:Env} {Ts:List Ty} {o:Oper} {P:Program}
theorem tw_op1 {x:Operand} {c:Value} (d:Value) (hop:o.op.operands.toList=[x]) (hE:evalE E x=some c) (hw:Wd ops o E true)
  (h:∀(ρ:Operand→Value) (W:World),Ext I w0 W→ρ x=c→(execOp ρ o).run P W=.ok (.value d) W)
  (hr:wpT I P ops w0 Fin rest (E.put o.dst (.inl d)) (.inl d :: Ts)):wpT I P ops w0 Fin (o :: rest) E Ts:=
 have hm:x∈o.op.operands:=by rw [←Array.mem_toList_iff,hop];simp
 tw_pure d hw (fun a W hW hs=>h a.eval W hW (evalE_of hE hm hs)) hr
theorem tw_op2 {x y:Operand} {c e:Value} (d:Value) (hop:o.op.operands.toList=[x,y]) (hE:evalE E x=some c) (hE':evalE E y=some e) (hw:Wd ops o E true)
  (h:∀(ρ:Operand→Value) (W:World),Ext I w0 W→ρ x=c→ρ y=e→(execOp ρ o).run P W=.ok (.value d) W)
  (hr:wpT I P ops w0 Fin rest (E.put o.dst (.inl d)) (.inl d :: Ts)):wpT I P ops w0 Fin (o :: rest) E Ts:=
 have hm:x∈o.op.operands:=by rw [←Array.mem_toList_iff,hop];simp
 have hm':y∈o.op.operands:=by rw [←Array.mem_toList_iff,hop];simp
 tw_pure d hw (fun a W hW hs=>h a.eval W hW (evalE_of hE hm hs) (evalE_of hE' hm' hs)) hr
theorem tw_pickL {x y z:Operand} {b:Bool} {f:Value} (hop:o.op=.pick x y z) (hE:evalE E x=some (.bool b)) (hE3:evalE E (if b then y else z)=some f) (hw:Wd ops o E true)
  (hr:wpT I P ops w0 Fin rest (E.put o.dst (.inl f)) (.inl f :: Ts)):wpT I P ops w0 Fin (o :: rest) E Ts:=
 tw_pure f hw (fun a W hW hs=>by
  have h1:a.eval x=.bool b:=evalE_of hE (by rw [hop];simp [Op.operands]) hs
  have h2:a.eval (if b then y else z)=f:=evalE_of hE3 (by rw [hop];cases b <;> simp [Op.operands]) hs
  unfold execOp
  cases b <;> simp_all [asBool]) hr
theorem tw_mv {x:Operand} {c:Value} (hop:o.op=.move x∨o.op=.assign x) (hE:evalE E x=some c) (hw:Wd ops o E true)
  (hr:wpT I P ops w0 Fin rest (E.put o.dst (.inl c)) (.inl c :: Ts)):wpT I P ops w0 Fin (o :: rest) E Ts:=
 tw_pure c hw (fun a W hW hs=>by
  have h1:a.eval x=c:=evalE_of hE (by rcases hop with h|h <;> rw [h] <;> simp [Op.operands]) hs
  unfold execOp
  rcases hop with h|h <;> simp [h,h1]) hr
theorem tw_lens {x:Operand} {s:ByteArray} (hop:o.op=.call { callee:=.builtin .len,args:=#[x],argTypes:=#[9]}) (hE:evalE E x=some (.string s)) (hw:Wd ops o E true)
  (hr:wpT I Tryz.prog ops w0 Fin rest (E.put o.dst (.inl (.int .i64 (s.size:Int)))) (.inl (.int .i64 (s.size:Int)) :: Ts)):wpT I Tryz.prog ops w0 Fin (o :: rest) E Ts:=
 tw_pure _ hw (fun a W hW hs=>by
  have h1:a.eval x=.string s:=evalE_of hE (by rw [hop];simp [Op.operands,Call.operands]) hs
  unfold execOp
  simp only [hop,resolve,invoke,builtin,Sem.run_bind,Sem.run_pure,Result.andThen_ok,List.map_toArray,List.map_cons,List.map_nil,h1]
  go_simp) hr
end
section
variable {ops:Array Oper} {w0:World} {Fin:List Ty→Prop} {rest:List Oper} {E:Env} {Ts:List Ty} {o:Oper} {P:Program}
theorem tw_clo {x:Operand} {g:FuncId} {lb:Array Value} {xs:Array Operand} {ts:Array TypeId} (args:Array Value) (T:Ty) (hst:Stable I T) (hop:o.op=.call { callee:=.value x,args:=xs,argTypes:=ts})
  (hE:evalE E x=some (.func (.func g) #[] lb)) (hcf:∀(W:World),(callFunc g (args++lb)).run P W=.ok (.enter g (args++lb)) W) (hx:xs.toList.map (evalE E)=args.toList.map some) (hw:Wd ops o E true)
  (hc:∀W,Ext I w0 W→Calls P g (args++lb) W fun e w'=>∃v,e=.returned v∧Ext I W w'∧Ty.of T v w')
  (hr:wpT I P ops w0 Fin rest (E.put o.dst T) (T :: Ts)):wpT I P ops w0 Fin (o :: rest) E Ts:=
 tw_call T hst hw (fun a W hW hs=>by
  have hm:=map_of (o:=o) (a:=a) (w:=W) hx (fun x hx=>by rw [hop];simp [Op.operands,Call.operands,hx]) hs
  have h1:a.eval x=.func (.func g) #[] lb:=evalE_of hE (by rw [hop];simp [Op.operands,Call.operands]) hs
  refine⟨g,args++lb,?_,hc W hW⟩
  unfold execOp
  simp only [hop,resolve,h1,Deferred.ofValue,hm,Sem.run_bind,Sem.run_pure,Result.andThen_ok,invoke,Array.append_empty,Array.empty_append,hcf W]) hr
theorem tw_op2p {s:Tmp} {y:Operand} {T:Value→World→Prop} {c e:Value} (d:Value) (hop:o.op.operands.toList=[.tmp s,y]) (hE:E s=.inr T) (hT:∀v w,T v w→v=c) (hE':evalE E y=some e) (hw:Wd ops o E true)
  (h:∀(ρ:Operand→Value) (W:World),Ext I w0 W→ρ (.tmp s)=c→ρ y=e→(execOp ρ o).run P W=.ok (.value d) W)
  (hr:wpT I P ops w0 Fin rest (E.put o.dst (.inl d)) (.inl d :: Ts)):wpT I P ops w0 Fin (o :: rest) E Ts:=
 have hm:Operand.tmp s∈o.op.operands:=by rw [←Array.mem_toList_iff,hop];simp
 have hm':y∈o.op.operands:=by rw [←Array.mem_toList_iff,hop];simp
 tw_pure d hw (fun a W hW hs=>h a.eval W hW (by have h1:=hs s (looks_of hm rfl);rw [hE] at h1;exact hT _ _ h1) (evalE_of hE' hm' hs)) hr
end
end Go.Proofs.YtnfokaecobddkaaGreatDoor.TI
end
section
namespace Go.Proofs.YtnfokaecobddkaaGreatDoor
open Go.RowKit
set_option linter.unusedSimpArgs false
set_option linter.unusedVariables false
theorem made_i64 (n:Nat):madeCells #[Value.int .i64 0] n=(ints .i64 (List.replicate n 0)).toArray:=by
 apply Array.ext'
 apply List.ext_getElem
 ·simp [madeCells,ints]
 ·intro i h1 h2
  simp [madeCells,ints,Nat.mod_one]
theorem treeI_not {v:List NodeL} (h:v.length=0∨512 < v.length∨(∃n,v[0]? = some n∧n.kind≠1)∨endN v 12 0≠some v.length):treeI v=false:=by
 unfold treeI
 cases v with
 | nil=>rfl
 | cons n t=>
  simp only [Bool.and_eq_false_iff,decide_eq_false_iff_not]
  rcases h with h|h|⟨n',h1,h⟩|h
  ·simp at h
  ·left;left;omega
  ·simp at h1;subst h1;left;right;exact h
  ·right;exact h
theorem treeI_yes {v:List NodeL} {n:NodeL} (h1:v.length≤512) (hn:v[0]? = some n) (h2:n.kind=1) (h3:endN v 12 0=some v.length):treeI v=true:=by
 unfold treeI
 cases v with
 | nil=>simp at hn
 | cons m t=>
  simp at hn
  subst hn
  simp only [List.length_cons] at h1
  simp [h1,h2,h3,Nat.le_of_succ_le_succ h1]
def BehPost (v:List NodeL) (w:World) (e:Ending) (w':World):Prop:=
 Below w.heap.size w w'∧((treeI v=false∧e=.returned (.slice none 0 0))∨
  (treeI v=true∧∃g es,e=.returned (.slice (some ⟨g,0,none⟩) v.length v.length)∧w.heap.size≤g∧RowI w' g es∧es.length=v.length∧Filled v es 0 v.length))
theorem make_row (W:World) (n:Nat) (hn:n≤512):(Instr.makeSlice 121 (.int .i64 (n:Int)) (.int .i64 (n:Int))).run Tryz.prog W=.ok (.slice (some ⟨W.heap.size,0,none⟩) n n) (W.alloc (.cells (ints .i64 (List.replicate n 0)).toArray 3)):=by
 obtain⟨i0,hi,hz0,hz1,hz2⟩:=info_parts info_i64
 have h:=run_make (P:=Tryz.prog) W 121 3 i0 (.int .i64 0) Tryz.underlying121 hi hz0 .i64 .i64 n n (by omega) (by omega) (by rw [hz2];omega) (by omega)
 rw [hz1,Nat.mul_one] at h
 rw [←made_i64]
 simpa [Value.cells] using h
theorem Cl.drew {w0:World} {Bv Bw Be G N c:Nat} {A:Option Addr} {W:World} (h:Cl w0 Bv Bw Be G N c A W):Cl w0 Bv Bw Be G N c A W.drew:=⟨h.low.drew,h.cv,h.cw,h.ce,h.h0,h.h1,h.h2,h.h3⟩
theorem var_new (w:World) (v:Value) (t:TypeId):VarE (w.alloc (.cells #[v] t)) w.heap.size v:=⟨t,heap_alloc_new w _⟩
theorem VarE.alloc {w:World} {g:Nat} {v:Value} (h:VarE w g v) (o:Obj):VarE (w.alloc o) g v:=h.ext ((Below.refl _ _).alloc (Nat.le_refl _) _)
theorem behind_cl (w : World) (A : Option Addr) (N c : Nat) (t1 t2 t3 : TypeId) (es : List Int) : ∃ W1, W1 = ((((w.alloc (.cells #[.slice A N c] t1)).alloc (.cells (ints .i64 es).toArray t2)).alloc (.cells #[.slice (some ⟨w.heap.size + 1, 0, none⟩) N N] t3)).alloc
      (.cells #[.func (.func 118) #[] #[.pointer (some ⟨w.heap.size, 0, none⟩), .pointer (some ⟨w.heap.size + 1 + 1 + 1, 0, none⟩), .pointer (some ⟨w.heap.size + 1 + 1, 0, none⟩)]] 169)) ∧
    Cl w w.heap.size (w.heap.size + 1 + 1 + 1) (w.heap.size + 1 + 1) (w.heap.size + 1) N c A W1 ∧ RowI W1 (w.heap.size + 1) es := by
  refine ⟨_, rfl, ⟨?_, ?_, ?_, ?_, by omega, by omega, by omega, by omega⟩, ?_⟩
  · exact ((((Below.refl _ _).alloc (Nat.le_refl _) _).alloc (by simp) _).alloc (by simp; omega) _).alloc (by simp; omega) _
  · exact (((var_new w _ _).alloc _).alloc _).alloc _
  · have h := var_new (((w.alloc (.cells #[.slice A N c] t1)).alloc (.cells (ints .i64 es).toArray t2)).alloc (.cells #[.slice (some ⟨w.heap.size + 1, 0, none⟩) N N] t3)) (.func (.func 118) #[] #[.pointer (some ⟨w.heap.size, 0, none⟩), .pointer (some ⟨w.heap.size + 1 + 1 + 1, 0, none⟩), .pointer (some ⟨w.heap.size + 1 + 1, 0, none⟩)]) 169
    simpa using h
  · have h := var_new ((w.alloc (.cells #[.slice A N c] t1)).alloc (.cells (ints .i64 es).toArray t2)) (.slice (some ⟨w.heap.size + 1, 0, none⟩) N N) t3
    refine VarE.alloc ?_ _
    simpa using h
  · have h : RowI ((w.alloc (.cells #[.slice A N c] t1)).alloc (.cells (ints .i64 es).toArray t2)) (w.heap.size + 1) es := by
      refine ⟨t2, ?_⟩
      have h := heap_alloc_new (w.alloc (.cells #[.slice A N c] t1)) (.cells (ints .i64 es).toArray t2)
      simpa using h
    exact (h.ext ((Below.refl _ _).alloc (Nat.le_refl _) _)).ext ((Below.refl _ _).alloc (Nat.le_refl _) _)
set_option maxHeartbeats 4000000 in
set_option maxRecDepth 10000 in
theorem behind_any (v:List NodeL) (A:Option Addr) (c:Nat) (w:World) (hc:v.length≤c) (hz:SzV 1000000000 v) (hr:RdV w w.heap.size A v) :
  Calls Tryz.prog 66 #[.slice A v.length c] w (BehPost v w):=by
 by_cases h0:v.length=0
 ·have HT:=treeI_not (.inl h0)
  have HTH:=Lib.hid HT
  clear HT
  rw [h0]
  go_enter Tryz.func66,Tryz.ntmps66
  go_wp2
  go_ret
  exact⟨(Below.refl _ _).alloc (Nat.le_refl _) _,.inl ⟨HTH.out,rfl⟩⟩
 ·have hnil:((v.length:Int) == 0)=false:=by rw [beq_eq_false_iff_ne];omega
  by_cases h512:512 < v.length
  ·have HTH:=Lib.hid (treeI_not (.inr (.inl h512)))
   have h512':(512:Int) < v.length:=by omega
   generalize v.length=N at *
   go_enter Tryz.func66,Tryz.ntmps66
   go_wp2
   go_ret
   exact⟨(Below.refl _ _).alloc (Nat.le_refl _) _,.inl ⟨HTH.out,rfl⟩⟩
  ·have h512':¬(512:Int) < v.length:=by omega
   obtain⟨n,hn⟩:∃n,v[0]? = some n:=⟨_,List.getElem?_eq_getElem (by omega)⟩
   obtain⟨b,off,rfl,hb,hcc⟩:=hr (by omega)
   have c0:=(hcc 0 n hn).1
   rw [Nat.zero_mul,Nat.add_zero] at c0
   have hne:b≠w.heap.size:=by omega
   have hpos:(0:Int) < v.length:=by omega
   by_cases hk:n.kind=1
   ·rw [hk] at c0
    have HN:=Lib.hid hn
    have HK:=Lib.hid hk
    have HR:=Lib.hid hr
    have hmk:=make_row (w.alloc (.cells #[.slice (some ⟨b,off,none⟩) v.length c] 30)) v.length (by omega)
    have HZ:=Lib.hid hz
    obtain⟨W1,hW1,hcl,hrow⟩:=behind_cl w (some ⟨b,off,none⟩) v.length c 30 3 121 (List.replicate v.length 0)
    have HCALL:=Lib.hid (fun W es (h1:Cl w w.heap.size (w.heap.size+1+1+1) (w.heap.size+1+1) (w.heap.size+1) v.length c (some ⟨b,off,none⟩) W) (h2:RowI W (w.heap.size+1) es) (h3:es.length=v.length)=>behind1_any v (some ⟨b,off,none⟩) c hc hz w w.heap.size (w.heap.size+1+1+1) (w.heap.size+1+1) (w.heap.size+1) hr 12 12 0 W es (Nat.le_refl _) rfl (Nat.zero_le _) h1 h2 h3)
    have hcld:=hcl.drew
    have hrowd:=hrow
    unfold EndPost at HCALL
    have eg:=enters_of (P:=Tryz.prog) Tryz.func118 (by kernel_rfl) rfl
    have cv:=hcl.cv.cell
    have cw:=hcl.cw.cell
    have hlen:=hz.1
    have HW1:=Lib.hid hW1
    clear hn hk hr hcc hz hcl hrow hW1
    go_enter Tryz.func66,Tryz.ntmps66
    go_wp2
    rw [←HW1.out]
    have HCLD:=Lib.hid hcld
    have HROWD:=Lib.hid hrowd
    clear hcld hrowd cv cw HW1
    refine TI.wp_region_typed (I:=fun i W=>if i=0 then Cl w w.heap.size (w.heap.size+1+1+1) (w.heap.size+1+1) (w.heap.size+1) v.length c (some ⟨b,off,none⟩) W∧∃es,RowI W (w.heap.size+1) es∧es.length=v.length else ∃es,RowI W (w.heap.size+1) es∧es.length=v.length∧∀e,endN v 12 0=some e→Filled v es 0 e) rfl (by kernel_rfl) (by kernel_rfl) ?_
    have hI:∀W,TI.Ext (fun i W=>if i=0 then Cl w w.heap.size (w.heap.size+1+1+1) (w.heap.size+1+1) (w.heap.size+1) v.length c (some ⟨b,off,none⟩) W∧∃es,RowI W (w.heap.size+1) es∧es.length=v.length else ∃es,RowI W (w.heap.size+1) es∧es.length=v.length∧∀e,endN v 12 0=some e→Filled v es 0 e) W1.drew W→
      Cl w w.heap.size (w.heap.size+1+1+1) (w.heap.size+1+1) (w.heap.size+1) v.length c (some ⟨b,off,none⟩) W∧∃es,RowI W (w.heap.size+1) es∧es.length=v.length:=fun W hW=>by
     have h:=hW 0 (by simp only [if_true];exact⟨HCLD.out,_,HROWD.out,by simp⟩)
     simpa using h
    have HI:=Lib.hid hI
    clear hI
    refine TI.tw_op1 (x:=.tmp 4) (c:=.pointer (some ⟨w.heap.size+1+1+1,0,none⟩)) (.func (.func 118) #[] #[.pointer (some ⟨w.heap.size,0,none⟩),.pointer (some ⟨w.heap.size+1+1+1,0,none⟩),.pointer (some ⟨w.heap.size+1+1,0,none⟩)]) rfl rfl (TI.wd_none rfl) (fun ρ W hW h1=>by
     have h2:=(HI.out W hW).1.cw.cell
     simp only [execOp,h1];go_simp) ?_
    refine TI.tw_clo #[.int .i64 0,.int .i64 12] (.inr fun u W=>u=.int .i64 (placeI (endN v 12 0))∧∃es,RowI W (w.heap.size+1) es∧es.length=v.length∧∀e,endN v 12 0=some e→Filled v es 0 e) ?_ rfl rfl (fun W=>eg _ W) rfl (TI.wd_none rfl) (fun W hW=>?_) ?_
    ·intro u W W' h hx
     have h2:=hx 1 (by simpa using h.2)
     exact⟨h.1,by simpa using h2⟩
    ·obtain⟨hc1,es,hr1,hl1⟩:=HI.out W hW
     refine(HCALL.out W es hc1 hr1 hl1).mono ?_
     rintro e w2 ⟨rfl,hC2,es2,hR2,hL2,hP2,hF2⟩
     refine⟨_,rfl,fun i hi=>?_,rfl,es2,hR2,hL2,hF2⟩
     by_cases h0:i=0
     ·simp only [h0,if_true]
      exact⟨hC2,es2,hR2,hL2⟩
     ·simp only [h0,if_false]
      exact⟨es2,hR2,hL2,hF2⟩
    refine TI.tw_op1 (x:=.tmp 1) (c:=.pointer (some ⟨w.heap.size,0,none⟩)) (.slice (some ⟨b,off,none⟩) v.length c) rfl rfl (TI.wd_none rfl) (fun ρ W hW h1=>by
     have h2:=(HI.out W hW).1.cv.cell
     simp only [execOp,h1];go_simp) ?_
    refine TI.tw_op1 (x:=.tmp 26) (c:=.slice (some ⟨b,off,none⟩) v.length c) (.int .i64 (v.length:Int)) rfl rfl (TI.wd_none rfl) (fun ρ W hW h1=>by
     simp only [execOp,resolve,invoke,builtin,Sem.run_bind,Sem.run_pure,Result.andThen_ok,List.map_toArray,List.map_cons,List.map_nil,h1];go_simp) ?_
    refine TI.tw_op2p (s:=25) (y:=.tmp 27) (c:=.int .i64 (placeI (endN v 12 0))) (e:=.int .i64 (v.length:Int)) (.bool (placeI (endN v 12 0) != (v.length:Int))) rfl rfl (fun u W h=>h.1) rfl (TI.wd_none rfl) (fun ρ W hW h1 h2=>by
     simp only [execOp,h1,h2];go_simp) ?_
    dsimp only [TI.wpT,List.reverse,List.reverseAux,TI.FinT]
    intro u W hW hF
    simp only [Act.put,List.setIfInBounds_toArray,List.set_cons_zero,List.set_cons_succ]
    obtain⟨hc1,-⟩:=HI.out W hW
    obtain⟨rfl,es,hr1,hl1,hf1⟩:=hF.2
    have HC1:=Lib.hid hc1
    have HR1:=Lib.hid hr1
    have HL1:=Lib.hid hl1
    have HF1:=Lib.hid hf1
    have ce:=hc1.ce.cell
    clear hc1 hr1 hl1 hf1 hW HCALL HI
    cases hen:endN v 12 0 with
    | none=>
     have HT:=Lib.hid (treeI_not (v:=v) (.inr (.inr (.inr (by rw [hen];simp)))))
     have hq:((-1:Int) != (v.length:Int))=true:=by rw [bne_iff_ne];omega
     unfold placeI
     clear hen
     go_wp2
     go_ret
     exact⟨HC1.out.low,.inl ⟨HT.out,rfl⟩⟩
    | some e=>
     by_cases he:e=v.length
     ·subst he
      have HT:=Lib.hid (treeI_yes (by omega) HN.out HK.out hen)
      have HE:=Lib.hid hen
      unfold placeI
      clear hen
      go_wp2
      go_ret
      exact⟨HC1.out.low,.inr ⟨HT.out,_,es,rfl,by omega,HR1.out,HL1.out,HF1.out _ HE.out⟩⟩
     ·have HT:=Lib.hid (treeI_not (v:=v) (.inr (.inr (.inr (by rw [hen];simpa using he)))))
      have hq:((e:Int) != (v.length:Int))=true:=by rw [bne_iff_ne];omega
      unfold placeI
      clear hen
      go_wp2
      go_ret
      exact⟨HC1.out.low,.inl ⟨HT.out,rfl⟩⟩
   ·have hk':(n.kind != 1)=true:=by simpa using hk
    have HTH:=Lib.hid (treeI_not (.inr (.inr (.inl ⟨n,hn,hk⟩))))
    clear hk hn hr hcc
    generalize v.length=N at *
    go_enter Tryz.func66,Tryz.ntmps66
    go_wp2
    go_ret
    exact⟨(Below.refl _ _).alloc (Nat.le_refl _) _,.inl ⟨HTH.out,rfl⟩⟩
end Go.Proofs.YtnfokaecobddkaaGreatDoor
end
section
namespace Go.Proofs.YtnfokaecobddkaaGreatDoor
open Go.RowKit
set_option linter.unusedSimpArgs false
set_option linter.unusedVariables false
def treeErr (v:List NodeL):Int:=if treeI v then 0 else 8
theorem tcheck_any (v:List NodeL) (A:Option Addr) (c:Nat) (w:World) (hc:v.length≤c) (hz:SzV 1000000000 v) (hr:RdV w w.heap.size A v) :
  Calls Tryz.prog 70 #[.slice A v.length c] w fun e w'=>e=.returned (.int .i64 (treeErr v))∧Below w.heap.size w w':=by
 have H:=Lib.hid (behind_any v A c w hc hz hr)
 have hq:=fun W a n m=>eql_nil (P:=Tryz.prog) W 121 3 a n m Tryz.underlying121
 unfold BehPost at H
 clear hr hz hc
 generalize v.length=N at *
 go_enter Tryz.func70,Tryz.ntmps70
 go_wp2_with fail
 refine H.out.mono ?_
 rintro e w1 ⟨hb,⟨ht,rfl⟩|⟨ht,g,es,rfl,-⟩⟩
 all_goals
  have X:=Lib.hid hb
  have HT:=Lib.hid ht
  clear hb ht
  go_wp2
  go_ret
  exact⟨ret_int (by unfold treeErr;rw [HT.out];rfl),X.out⟩
def AskPost (v:List NodeL) (w:World) (e:Ending) (w':World):Prop:=
 ∃g es,e=.returned (.tuple #[.slice (some ⟨g,0,none⟩) v.length v.length,.int .i64 0])∧Below w.heap.size w w'∧w.heap.size≤g∧RowI w' g es∧es.length=v.length∧Filled v es 0 v.length
theorem asked_any (v:List NodeL) (A:Option Addr) (c i:Nat) (w:World) (hc:v.length≤c) (hz:SzV 1000000000 v) (hr:RdV w w.heap.size A v) (ht:treeI v=true) (hi:i < v.length) :
  Calls Tryz.prog 128 #[.slice A v.length c,.int .i64 (i:Int)] w (AskPost v w):=by
 have H:=Lib.hid (behind_any v A c w hc hz hr)
 have hq:=fun W a n m=>eql_nil (P:=Tryz.prog) W 121 3 a n m Tryz.underlying121
 unfold BehPost at H
 have HT:=Lib.hid ht
 have hi0:¬(i:Int) < 0:=by omega
 have hi1:¬(v.length:Int)≤(i:Int):=by omega
 have hin:(i:Int) < (v.length:Int):=by omega
 clear hr hz hc ht
 go_enter Tryz.func128,Tryz.ntmps128
 go_wp2_with fail
 refine H.out.mono ?_
 rintro e w1 ⟨hb,⟨ht,rfl⟩|⟨ht,g,es,rfl,h1,h2,h3,h4⟩⟩
 ·rw [HT.out] at ht;cases ht
 ·have X:=Lib.hid hb
  have Y1:=Lib.hid h1
  have Y2:=Lib.hid h2
  have Y3:=Lib.hid h3
  have Y4:=Lib.hid h4
  clear hb ht h1 h2 h3 h4
  go_wp2
  go_ret2
  exact⟨g,es,rfl,X.out,Y1.out,Y2.out,Y3.out,Y4.out⟩
theorem own_mono {w:World} {base base' s n:Nat} {e:TypeId} {v:Value} {xs:List Value} (h:w.ownsRow base e s v n xs) (hb:base'≤base):w.ownsRow base' e s v n xs:=by
 refine⟨h.1,?_⟩
 rcases h.2 with h1|⟨g,cap,cur,h1,h2,h3⟩
 ·exact .inl h1
 ·exact .inr ⟨g,cap,cur,h1,by omega,h3⟩
def KidsPost (v:List NodeL) (i:Nat) (w:World) (e:Ending) (w':World):Prop:=
 ∃u,e=.returned (.tuple #[u,.int .i64 0])∧w'.ownsRow w.heap.size 3 1 u (kidsI v i).length (ints .i64 ((kidsI v i).map fun k:Nat=>(k:Int)))∧Below w.heap.size w w'
set_option maxHeartbeats 4000000 in
set_option maxRecDepth 10000 in
theorem kids_any (v:List NodeL) (A:Option Addr) (c i:Nat) (w:World) (hc:v.length≤c) (hz:SzV 1000000000 v) (hr:RdV w w.heap.size A v) (ht:treeI v=true) (hi:i < v.length) :
  Calls Tryz.prog 81 #[.slice A v.length c,.int .i64 (i:Int)] w (KidsPost v i w):=by
 have H:=Lib.hid (asked_any v A c i w hc hz hr ht hi)
 unfold AskPost at H
 obtain⟨e,he,hie,hel⟩:=tree_ends ht hi
 have hN:=(tree_parts ht).2.1
 have HCH:=Lib.hid (chain_start he)
 have hme:=((chain_start he).lt (by omega)).1
 have HE:=Lib.hid he
 have HK:Hid (kidsI v i=kidL v (manyN v i) (i+1)):=rfl
 clear hr hz hc ht he
 generalize manyN v i=m at *
 go_enter Tryz.func81,Tryz.ntmps81
 go_wp2_with fail
 refine H.out.mono ?_
 rintro e1 w1 ⟨g,es,rfl,hb,hg,hrow,hel2,hfi⟩
 have X:=Lib.hid hb
 have HG:=hg
 have HROW:=Lib.hid hrow
 have HFI:=Lib.hid hfi
 have HEL:=Lib.hid hel2
 have hgs:=row_lt hrow.choose_spec
 clear hb hrow hfi hel2
 go_wp2
 go_loopw [4,7] (fun s4 s7 wr=>∃(j:Nat),j≤m∧s7=.int .i64 (kidP v j (i+1):Nat)∧Hid (Below w1.heap.size w1 wr)∧Hid (wr.ownsRow w1.heap.size 3 1 s4 j (ints .i64 ((kidL v j (i+1)).map fun k:Nat=>(k:Int))))) (fun _ s7 _=>e - (intOf s7).toNat)
 case atStart=>exact⟨0,Nat.zero_le _,by unfold kidP;go_num,Lib.hid (Below.refl _ _),World.ownsRow_nil _ _ _ _⟩
 case round=>
  obtain⟨j,hj,rfl,HB,HO⟩:=hrel
  obtain⟨hch,hple⟩:=kidP_chain (by decide) (by omega) HCH.out j hj
  obtain⟨A4,c4,rfl⟩:=own_form HO.out
  have HROWr:Hid (RowI wr g es):=HROW.out.ext HB.out
  obtain⟨q,hq1,hq2⟩:=HFI.out i (Nat.zero_le _) hi
  rw [HE.out] at hq2
  simp only [Option.some.injEq] at hq2
  subst hq2
  have d0:=HROWr.out.cell hq1
  by_cases hlt:j < m
  ·rw [show m - j=(m - (j+1))+1 by omega] at hch
   have hl:=hch.lt hple
   obtain⟨x,hx,hlx,hlv,hxv,hch2⟩:=hch.step (by decide)
   have hl2:=hch2.lt hxv
   obtain⟨q,hq3,hq4⟩:=HFI.out _ (Nat.zero_le _) hlv
   rw [hx] at hq4
   simp only [Option.some.injEq] at hq4
   subst hq4
   have HS:Hid (kidL v (j+1) (i+1)=kidL v j (i+1)++[kidP v j (i+1)]):=kidL_succ v j (i+1)
   have HP:Hid (kidP v (j+1) (i+1)=x):=by show _=_;rw [kidP,hx];rfl
   clear hq1 hch hch2 hx
   generalize kidP v j (i+1)=p at *
   have ho:=HO.out
   have hsz:=HB.out.size
   have hrn:Rd (wr.alloc (.cells #[.int .i64 (p:Int)] 3)) (wr.heap.size+1) 1 (some ⟨wr.heap.size,0,none⟩) 1 (ints .i64 [(p:Int)]):=rd_int1 wr _ _ _
   have HRN:=Lib.hid hrn
   have HOA:=Lib.hid (ho.alloc (.cells #[.int .i64 (p:Int)] 3))
   have HQ3:=Lib.hid hq3
   clear ho hrn hq3
   go_wp2_with (at_builtin;refine app_i64s rfl _ _ rfl w1.heap.size _ j _ rfl HOA.out _ _ _ _ _ rfl HRN.out (by omega) (by simp;omega) ?_)
   intro v4 w4 hown4 hg4 hbk
   have HX4:Hid (Below w1.heap.size w1 w4):=(HB.out.alloc hsz _).grown hg4 (by simp;omega) (fun q hq=>(HO.out.lt q hq).1)
   have HO4:=Lib.hid hown4
   have d1:=(HROW.out.ext HX4.out).cell HQ3.out
   clear hown4 hg4 hbk d0
   go_wp2
   go_roundw
   case rel=>exact⟨j+1,by omega,by rw [HP.out],HX4,by rw [HS.out,List.map_append];exact HO4.out⟩
   case measure=>simp [intOf];omega
  ·obtain rfl:j=m:=by omega
   rw [Nat.sub_self] at hch
   have hpe:=hch.zero
   have HLEN:Hid ((kidL v j (i+1)).length=j):=kidL_len _ _ _
   rw [hpe]
   clear hq1 hch hpe
   go_wp2
   go_ret2
   exact⟨_,rfl,by rw [show kidsI v i=_ from HK.out,HLEN.out];exact own_mono HO.out X.out.size,X.out.trans (HB.out.mono X.out.size)⟩
theorem size_nodes (W:World):(sizeOf (Tryz.prog.elem 30)).run Tryz.prog W=.ok 6 W:=by kernel_rfl
theorem mid_nodes (A:Option Addr) (m c i j:Nat) (hij:i≤j) (hj:j≤m) (hc:m≤c):∃A',(∀W,(Instr.slice 30 (.slice A m c) (some (.int .i64 (i:Int))) (some (.int .i64 (j:Int))) none).run Tryz.prog W=.ok (.slice A' (j - i) (c - i)) W)∧
  ∀W B (v:List NodeL),v.length=m→RdV W B A v→RdV W B A' ((v.drop i).take (j - i)):=by
 refine⟨if c=i then A else A.map (·.add (i*6)),fun W=>?_,fun W B v hl h=>?_⟩
 ·rw [run_slice_lh W 30 A m c (by kernel_rfl) .i64 .i64 i j (by omega) (by omega) (by omega),size_nodes]
  rfl
 ·intro h0
  rw [List.length_take,List.length_drop] at h0
  obtain⟨b,off,rfl,hb,hcell⟩:=h (by omega)
  rw [if_neg (by omega)]
  refine⟨b,off+i*6,by simp [Addr.add],hb,fun k n hk=>?_⟩
  rw [List.getElem?_take] at hk
  split at hk
  ·rw [List.getElem?_drop] at hk
   have:=hcell (i+k) n hk
   rwa [show off+i*6+k*6=off+(i+k)*6 by rw [Nat.add_mul];omega]
  ·cases hk
def SubPost (v:List NodeL) (i:Nat) (w:World) (e:Ending) (w':World):Prop:=
 ∃A' c',e=.returned (.tuple #[.slice A' (partI v i).length c',.int .i64 0])∧(partI v i).length≤c'∧NewV w.heap.size w' A' c' (partI v i)∧Below w.heap.size w w'
theorem NewV.mono {base base':Nat} {w:World} {A:Option Addr} {c:Nat} {v:List NodeL} (h:NewV base w A c v) (hb:base'≤base):NewV base' w A c v:=by
 obtain⟨l,h1,h2,h3⟩:=h
 refine⟨l,h1,own_mono h2 hb,fun i x hi=>⟨(h3 i x hi).1,fun h0=>?_⟩⟩
 obtain⟨b,off,e1,e2,e3⟩:=(h3 i x hi).2 h0
 exact⟨b,off,e1,by omega,e3⟩
set_option maxHeartbeats 4000000 in
set_option maxRecDepth 10000 in
theorem sub_any (v:List NodeL) (A:Option Addr) (c i:Nat) (w:World) (hc:v.length≤c) (hz:SzV 1000000000 v) (hr:RdV w w.heap.size A v) (ht:treeI v=true) (n:NodeL) (hn:v[i]? = some n) (hk:n.kind=1) :
  Calls Tryz.prog 83 #[.slice A v.length c,.int .i64 (i:Int)] w (SubPost v i w):=by
 have hi:=(List.getElem?_eq_some_iff.1 hn).1
 have H:=Lib.hid (asked_any v A c i w hc hz hr ht hi)
 unfold AskPost at H
 obtain⟨e,he,hie,hel⟩:=tree_ends ht hi
 have hN:=(tree_parts ht).2.1
 have HPL:Hid ((partI v i).length=e - i):=part_len he
 have HPD:Hid (partI v i=(v.drop i).take (e - i)):=by show _=_;unfold partI;rw [he];rfl
 have HE:=Lib.hid he
 have HPZ:Hid (SzV 1000000000 (partI v i)):=⟨by rw [HPL.out];omega,part_sz hz.2⟩
 have HR:=Lib.hid hr
 obtain⟨b,off,rfl,hb,hcc⟩:=hr (by omega)
 have c0:=(hcc i n hn).1
 rw [hk] at c0
 have HC0:=Lib.hid c0
 have hin:(i:Int) < (v.length:Int):=by omega
 obtain⟨A2,hsl,hrd⟩:=mid_nodes (some ⟨b,off,none⟩) v.length c i e (by omega) hel hc
 have HRD:=Lib.hid hrd
 have hci:¬c=i:=by omega
 clear hz hc ht he hn hcc hrd hr c0
 unfold SubPost
 go_enter Tryz.func83,Tryz.ntmps83
 go_wp2_with fail
 refine H.out.mono ?_
 rintro e1 w1 ⟨g,es,rfl,hb1,hg,hrow,hel2,hfi⟩
 have X:=Lib.hid hb1
 have HROW:=Lib.hid hrow
 have c0:=(hb1.cell (p:=⟨b,off+i*6,none⟩) hb).trans HC0.out
 obtain⟨q,hq1,hq2⟩:=hfi i (Nat.zero_le _) hi
 rw [HE.out] at hq2
 simp only [Option.some.injEq] at hq2
 subst hq2
 have d0:=hrow.cell hq1
 have htw:=twin_any A2 (c - i) (partI v i) w1 (by rw [HPD.out];exact((HRD.out w1 w.heap.size v rfl (HR.out.below hb1 (Nat.le_refl _)))).more hb1.size) HPZ.out
 rw [HPL.out] at htw
 have HTW:=Lib.hid htw
 unfold TwinPost at HTW
 rw [HPL.out] at HTW
 clear hb1 hrow hfi hel2 hq1 htw
 generalize e - i=K at *
 go_wp2_with fail
 refine HTW.out.mono ?_
 rintro e2 w2 ⟨A3,c3,rfl,hl3,hnew,hb2⟩
 have Y1:=Lib.hid hl3
 have Y2:=Lib.hid hnew
 have X2:=Lib.hid hb2
 clear hl3 hnew hb2
 go_wp2
 go_ret2
 exact⟨A3,c3,by rw [HPL.out];rfl,by rw [HPL.out];exact Y1.out,Y2.out.mono X.out.size,X.out.trans (X2.out.mono X.out.size)⟩
end Go.Proofs.YtnfokaecobddkaaGreatDoor
end
