/- Part 2 of a proof laid in parts, one behind the other; no condition of its own. -/
import Derived.WalkKit
import Derived.Deep.QuietTactic
import Derived.Test.YtnfokaecobddkaaGreatDoorProg
import Derived.WalkSpells
import Derived.WalkLawsBesides
import Derived.Lib.Hide
import Derived.BigQuiet
import Derived.Maps.AppendAt
import Derived.Deep.AppendLies
set_option linter.all false
section
namespace Go.Proofs.YtnfokaecobddkaaGreatDoor
open Go.RowKit
def Ext (w w':World):Prop:=Below w.heap.size w w'
theorem Ext.refl (w:World):Ext w w:=Below.refl _ _
theorem Ext.trans {a b c:World} (h:Ext a b) (k:Ext b c):Ext a c:=Below.trans h (k.mono h.size)
theorem Ext.drewN (w:World) (n:Nat):Ext w (w.drewN n):=⟨rfl,rfl,rfl,Nat.le_refl _,fun _ _=>rfl⟩
abbrev Ty:=Value ⊕ (Value→World→Prop)
def Ty.of:Ty→Value→World→Prop
 | .inl c,v,_=>v=c
 | .inr T,v,w=>T v w
def Stable (T:Ty):Prop:=∀v w w',Ty.of T v w→Ext w w'→Ty.of T v w'
theorem stable_is (c:Value):Stable (.inl c):=fun _ _ _ h _=>h
abbrev Env:=Tmp→Ty
def Env.put (E:Env) (d:Option Tmp) (T:Ty):Env:=
 match d with
 | some d=>fun s=>if s=d then T else E s
 | none=>E
theorem Env.put_same (E:Env) (d:Tmp) (T:Ty):E.put (some d) T d=T:=by simp [Env.put]
theorem Env.put_other (E:Env) (d s:Tmp) (T:Ty) (h:s≠d):E.put (some d) T s=E s:=by simp [Env.put,h]
theorem Env.put_none (E:Env) (T:Ty):E.put none T=E:=rfl
section
variable (P:Program) (ops:Array Oper) (w0:World)
def OpT (o:Oper) (E:Env) (T:Ty):Prop:=
 ∀(a:Act) (w:World),Ext w0 w→(∀s∈o.looksAt ops,Ty.of (E s) (a.tmps.getD s undef) w)→
  if Region.wanted o (yielded ops a.tmps)=true then o.wp P a w (fun a' w'=>∃v,a'=a.put o.dst v∧Ext w w'∧Ty.of T v w') (fun _ _ _=>False)
  else Ty.of T undef w
def FinT (Q:Act→World→Prop):List Oper→List Ty→Act→(World→Prop)→Prop
 | o :: os,.inl c :: Ts,a,F=>FinT Q os Ts (a.put o.dst c) F
 | o :: os,.inr T :: Ts,a,F=>
  match o.dst with
  | some d=>∀v,FinT Q os Ts (a.put (some d) v) (fun w=>F w∧T v w)
  | none=>FinT Q os Ts a F
 | _,_,a,F=>∀w,Ext w0 w→F w→Q a w
def wpT (Fin:List Ty→Prop):List Oper→Env→List Ty→Prop
 | [],_,Ts=>Fin Ts.reverse
 | o :: rest,E,Ts=>∃T,Stable T∧OpT P ops w0 o E T∧wpT Fin rest (E.put o.dst T) (T :: Ts)
end
def tyB (ops:Array Oper):Bool:=
 Region.noSelect ops &&
 (List.range ops.size).all fun i=>match ops[i]? with
  | none=>true
  | some o=>(o.after.all fun e=>!Region.binds .any e || decide (e.on < i)) &&
   (List.range ops.size).all fun j=>match ops[j]? with
    | none=>true
    | some p=>match p.dst with
     | none=>true
     | some d=>(decide (i=j) || o.dst != some d) && (!(o.looksAt ops).contains d ||
       (decide (j < i) && o.after.any fun e=>Region.binds .any e && e.on == j) || (decide (i < j) && p.after.any fun e=>Region.binds .any e && e.on == i))
theorem tyB_edges {ops:Array Oper} (h:tyB ops=true) {i:Nat} {o:Oper} (hi:ops[i]? = some o):∀e∈o.after,Region.binds .any e=true→e.on < i:=by
 have hlt:i < ops.size:=(Array.getElem?_eq_some_iff.1 hi).1
 simp only [tyB,Bool.and_eq_true] at h
 have h2:=List.all_eq_true.1 h.2 i (List.mem_range.2 hlt)
 simp only [hi,Bool.and_eq_true] at h2
 intro e he hb
 have:=Array.all_eq_true_iff_forall_mem.1 h2.1 e he
 simpa [hb] using this
theorem tyB_pair {ops:Array Oper} (h:tyB ops=true) {i j:Nat} {o p:Oper} {d:Tmp} (hi:ops[i]? = some o) (hj:ops[j]? = some p) (hd:p.dst=some d) :
  (i=j∨o.dst≠some d)∧(d∈o.looksAt ops→(j < i∧∃e∈o.after,Region.binds .any e=true∧e.on=j)∨(i < j∧∃e∈p.after,Region.binds .any e=true∧e.on=i)):=by
 have hlt:i < ops.size:=(Array.getElem?_eq_some_iff.1 hi).1
 have hlt':j < ops.size:=(Array.getElem?_eq_some_iff.1 hj).1
 simp only [tyB,Bool.and_eq_true] at h
 have h2:=List.all_eq_true.1 h.2 i (List.mem_range.2 hlt)
 simp only [hi,Bool.and_eq_true] at h2
 have h3:=List.all_eq_true.1 h2.2 j (List.mem_range.2 hlt')
 simp only [hj,hd,Bool.and_eq_true,Bool.or_eq_true,decide_eq_true_eq,bne_iff_ne,ne_eq,Bool.not_eq_true',List.contains_eq_mem,decide_eq_false_iff_not,Array.any_eq_true',beq_iff_eq] at h3
 refine⟨h3.1,fun hm=>?_⟩
 rcases h3.2 with (h4|⟨h4,e,he,hb⟩)|⟨h4,e,he,hb⟩
 ·exact absurd hm h4
 ·exact .inl ⟨h4,e,he,hb⟩
 ·exact .inr ⟨h4,e,he,hb⟩
section
variable {P:Program} {ops:Array Oper} {w0:World}
theorem wp_anyQ {o:Oper} {a:Act} {w:World} {K K':Act→World→Prop} {Q:Exit→Act→World→Prop} (h:∀a w,K a w→K' a w) (hh:o.wp P a w K (fun _ _ _=>False)):o.wp P a w K' Q:=by
 unfold Oper.wp at *
 generalize (execOp a.eval o).run P w=r at *
 cases r with
 | ok n w'=>
  cases n <;> simp only [Oper.upon] at hh ⊢ <;>
   first
    | exact h _ _ hh
    | exact Calls.mono hh (fun e w'' he=>by
      cases e with
      | returned v=>exact h _ _ he
      | panicked c=>exact he.elim
      | outgrown=>obtain⟨_,_,hf⟩:=he;exact hf.elim)
    | exact Rows.mono hh (fun _ _ he=>h _ _ he)
 | halt x w'=>cases x <;> simp only [Oper.upon] at hh ⊢ <;> first|exact hh|exact hh.elim
theorem wpT_types {Fin:List Ty→Prop}:∀(l:List Oper) (E:Env) (Ts:List Ty),wpT P ops w0 Fin l E Ts→
  ∃Us:List Ty,Us.length=l.length∧Fin (Ts.reverse++Us)∧∀k o,l[k]? = some o→∃T,Us[k]? = some T∧Stable T∧
   OpT P ops w0 o ((List.zip (l.take k) (Us.take k)).foldl (fun E p=>E.put p.1.dst p.2) E) T:=by
 intro l
 induction l with
 | nil=>intro E Ts h;exact⟨[],rfl,by simpa [wpT] using h,fun k o h=>by simp at h⟩
 | cons o l ih=>
  intro E Ts h
  obtain⟨T,hs,ho,hr⟩:=h
  obtain⟨Us,hlen,hfin,hk⟩:=ih _ _ hr
  refine⟨T :: Us,by simp [hlen],by simpa using hfin,fun k p hp=>?_⟩
  cases k with
  | zero=>simp at hp;subst hp;exact⟨T,by simp,hs,by simpa using ho⟩
  | succ k=>
   obtain⟨T',h1,h2,h3⟩:=hk k p (by simpa using hp)
   exact⟨T',by simpa using h1,h2,by simpa using h3⟩
def writer (ops:Array Oper) (listed:Array Bool) (s:Tmp):Option Nat:=
 (List.range ops.size).find? fun i=>listed.getD i false && (ops[i]?.bind (·.dst)) == some s
theorem writer_some {listed:Array Bool} {s:Tmp} {i:Nat} (h:writer ops listed s=some i):listed.getD i false=true∧∃o,ops[i]? = some o∧o.dst=some s:=by
 have:=List.find?_some h
 simp only [Bool.and_eq_true,beq_iff_eq] at this
 refine⟨this.1,?_⟩
 obtain⟨o,ho,hd⟩:=Option.bind_eq_some_iff.1 this.2
 exact⟨o,ho,hd⟩
theorem writer_none {listed:Array Bool} {s:Tmp} (h:writer ops listed s=none) {i:Nat} {o:Oper} (hi:ops[i]? = some o) (hl:listed.getD i false=true):o.dst≠some s:=by
 have hlt:i < ops.size:=(Array.getElem?_eq_some_iff.1 hi).1
 have:=List.find?_eq_none.1 h i (List.mem_range.2 hlt)
 simp only [Bool.and_eq_true,beq_iff_eq,not_and] at this
 intro hd
 exact this hl (by simp [hi,hd])
theorem writer_put {listed:Array Bool} {s:Tmp} {i:Nat} {o:Oper} (hi:ops[i]? = some o) (hd:o.dst≠some s):writer ops (listed.setIfInBounds i true) s=writer ops listed s:=by
 unfold writer
 congr 1
 funext j
 by_cases hij:i=j
 ·subst hij
  have:((ops[i]?.bind (·.dst)) == some s)=false:=by
   rw [hi];simpa using hd
  simp [this]
 ·rw [getD_set_ne false hij]
def typeAt (ops:Array Oper) (E:Env) (Us:List Ty) (listed:Array Bool) (s:Tmp):Ty:=
 match writer ops listed s with
 | some i=>Us.getD i (.inl undef)
 | none=>E s
def lexEnv (l:List Oper) (Us:List Ty) (E:Env) (k:Nat):Env:=(List.zip (l.take k) (Us.take k)).foldl (fun E p=>E.put p.1.dst p.2) E
theorem lexEnv_succ {l:List Oper} {Us:List Ty} {E:Env} {k:Nat} {o:Oper} {T:Ty} (ho:l[k]? = some o) (hT:Us[k]? = some T):lexEnv l Us E (k+1)=(lexEnv l Us E k).put o.dst T:=by
 unfold lexEnv
 have h1:k < l.length:=(List.getElem?_eq_some_iff.1 ho).1
 have h2:k < Us.length:=(List.getElem?_eq_some_iff.1 hT).1
 rw [List.take_add_one,List.take_add_one,ho,hT]
 simp only [Option.toList_some]
 rw [List.zip_append (by simp;omega),List.foldl_append]
 rfl
theorem lexEnv_none {l:List Oper} {Us:List Ty} {E:Env} {s:Tmp} (hlen:Us.length=l.length):∀k,(∀j o,j < k→l[j]? = some o→o.dst≠some s)→lexEnv l Us E k s=E s
 | 0,_=>by simp [lexEnv]
 | k+1,h=>by
  cases ho:l[k]? with
  | none=>
   have hk:l.length≤k:=List.getElem?_eq_none_iff.1 ho
   have e:lexEnv l Us E (k+1)=lexEnv l Us E k:=by
    unfold lexEnv
    rw [List.take_of_length_le (by omega:l.length≤k+1),List.take_of_length_le (by omega:Us.length≤k+1),List.take_of_length_le hk,List.take_of_length_le (by omega:Us.length≤k)]
   rw [e]
   exact lexEnv_none hlen k fun j o hj=>h j o (by omega)
  | some o=>
   have hk:k < l.length:=(List.getElem?_eq_some_iff.1 ho).1
   have hT:Us[k]? = some (Us[k]'(by omega)):=List.getElem?_eq_getElem (by omega)
   rw [lexEnv_succ ho hT]
   have hd:=h k o (by omega) ho
   cases hdst:o.dst with
   | none=>exact lexEnv_none hlen k fun j o hj=>h j o (by omega)
   | some d=>
    rw [Env.put_other _ _ _ _ (fun e=>hd (by rw [hdst,e]))]
    exact lexEnv_none hlen k fun j o hj=>h j o (by omega)
theorem lexEnv_some {l:List Oper} {Us:List Ty} {E:Env} {s:Tmp} {j:Nat} {p:Oper} (hlen:Us.length=l.length) (hj:l[j]? = some p) (hd:p.dst=some s)
  (huniq:∀i o,l[i]? = some o→i≠j→o.dst≠some s):∀k,j < k→lexEnv l Us E k s=Us.getD j (.inl undef)
 | 0,h=>by omega
 | k+1,h=>by
  have hjl:j < l.length:=(List.getElem?_eq_some_iff.1 hj).1
  cases ho:l[k]? with
  | none=>
   have hk:l.length≤k:=List.getElem?_eq_none_iff.1 ho
   have e:lexEnv l Us E (k+1)=lexEnv l Us E k:=by
    unfold lexEnv
    rw [List.take_of_length_le (by omega:l.length≤k+1),List.take_of_length_le (by omega:Us.length≤k+1),List.take_of_length_le hk,List.take_of_length_le (by omega:Us.length≤k)]
   rw [e]
   exact lexEnv_some hlen hj hd huniq k (by omega)
  | some o=>
   have hk:k < l.length:=(List.getElem?_eq_some_iff.1 ho).1
   have hT:Us[k]? = some (Us[k]'(by omega)):=List.getElem?_eq_getElem (by omega)
   rw [lexEnv_succ ho hT]
   by_cases hkj:k=j
   ·subst hkj
    rw [ho] at hj
    injection hj with hj
    subst hj
    rw [hd,Env.put_same,List.getD_eq_getElem?_getD,hT]
    rfl
   ·have hne:=huniq k o ho hkj
    cases hdst:o.dst with
    | none=>exact lexEnv_some hlen ‹_› hd huniq k (by omega)
    | some d=>
     rw [Env.put_other _ _ _ _ (fun e=>hne (by rw [hdst,e]))]
     exact lexEnv_some hlen ‹_› hd huniq k (by omega)
structure InvT (ops:Array Oper) (E:Env) (Us:List Ty) (w0:World) (a0:Act) (listed:Array Bool) (a:Act) (w:World):Prop where
 ext:Ext w0 w
 size:a.tmps.size=a0.tmps.size
 defers:a.defers=a0.defers
 lsize:listed.size=ops.size
 closed:∀j oj,ops[j]? = some oj→listed.getD j false=true→∀e∈oj.after,Region.binds .any e=true→listed.getD e.on false=true
 typed:∀s,Ty.of (typeAt ops E Us listed s) (a.tmps.getD s undef) w
theorem getD_false_of_true {listed:Array Bool} {i:Nat} (h:listed.getD i true=false):listed.getD i false=false:=by
 rcases Nat.lt_or_ge i listed.size with h'|h'
 ·simp [h'] at h ⊢;exact h
 ·simp [Array.getElem?_eq_none h'] at h
theorem InvT.step {E : Env} {Us : List Ty} {a0 : Act} {listed : Array Bool} {a : Act} {w : World} {i : Nat} {o : Oper} {T : Ty} (hB : tyB ops = true) (hlen : Us.length = ops.size)
    (hst : ∀ (k : Nat) (T : Ty), Us[k]? = some T → Stable T) (hE : ∀ s, Stable (E s)) (hdst : ∀ (k : Nat) o d, ops[k]? = some o → o.dst = some d → d < a0.tmps.size)
    (inv : InvT ops E Us w0 a0 listed a w) (hi : ops[i]? = some o) (hr : i ∈ Region.ready .any ops listed) (hT : Us[i]? = some T)
    (ho : OpT P ops w0 o (lexEnv ops.toList Us E i) T) {Q : Exit → Act → World → Prop} {K : Act → World → Prop} (hK : ∀ a' w', InvT ops E Us w0 a0 (listed.setIfInBounds i true) a' w' → K a' w') : wpOp P ops Q i K a w := by
  obtain ⟨hun, o', ho', hall⟩ := mem_ready.1 hr
  have hoo : o' = o := Option.some.inj (ho'.symm.trans hi)
  subst hoo
  have hilt : i < ops.size := (Array.getElem?_eq_some_iff.1 hi).1
  have hunf : listed.getD i false = false := getD_false_of_true hun
  have hlook : ∀ s ∈ o'.looksAt ops, typeAt ops E Us listed s = lexEnv ops.toList Us E i s := by
    intro s hs
    unfold typeAt
    cases hw : writer ops listed s with
    | some j =>
      obtain ⟨hjl, p, hp, hpd⟩ := writer_some hw
      have hpl : ops.toList[j]? = some p := by simpa using hp
      have hji : j ≠ i := by rintro rfl; rw [hunf] at hjl; cases hjl
      rcases (tyB_pair hB hi hp hpd).2 hs with ⟨hlt, _⟩ | ⟨_, e, he, hb, hon⟩
      · refine (lexEnv_some (by simpa using hlen) hpl hpd ?_ i hlt).symm
        intro k q hq hkj hqd
        rcases (tyB_pair hB (by simpa using hq) hp hpd).1 with h | h
        · exact hkj h
        · exact h hqd
      · have := inv.closed j p hp hjl e he hb
        rw [hon, hunf] at this
        cases this
    | none =>
      refine (lexEnv_none (by simpa using hlen) i ?_).symm
      intro j p hj hp hpd
      have hp' : ops[j]? = some p := by simpa using hp
      rcases (tyB_pair hB hi hp' hpd).2 hs with ⟨_, e, he, hb, hon⟩ | ⟨hlt, _⟩
      · have := hall e he hb
        rw [hon] at this
        exact writer_none hw hp' this hpd
      · omega
  have hfacts : ∀ s ∈ o'.looksAt ops, Ty.of (lexEnv ops.toList Us E i s) (a.tmps.getD s undef) w := fun s hs => by
    rw [← hlook s hs]; exact inv.typed s
  have hop := ho a w inv.ext hfacts
  have hgo : ∀ v w', Ext w w' → Ty.of T v w' → InvT ops E Us w0 a0 (listed.setIfInBounds i true) (a.put o'.dst v) w' := by
    intro v w' hw hv
    refine ⟨inv.ext.trans hw, ?_, ?_, by simp [inv.lsize], ?_, ?_⟩
    · rw [← inv.size]; cases o'.dst <;> simp [Act.put]
    · rw [← inv.defers]; cases o'.dst <;> simp [Act.put]
    · intro j oj hj hl e he hb
      by_cases hij : i = j
      · subst hij
        have hoj : oj = o' := Option.some.inj (hj.symm.trans hi)
        subst hoj
        exact getD_set_true (hall e he hb)
      · rw [getD_set_ne false hij] at hl
        exact getD_set_true (inv.closed j oj hj hl e he hb)
    · intro s
      by_cases hs : o'.dst = some s
      · have hw' : writer ops (listed.setIfInBounds i true) s = some i := by
          cases hq : writer ops (listed.setIfInBounds i true) s with
          | none =>
            have := writer_none hq hi (by have : i < listed.size := by rw [inv.lsize]; exact hilt
                                          simp [this])
            exact absurd hs this
          | some j =>
            obtain ⟨_, p, hp, hpd⟩ := writer_some hq
            rcases (tyB_pair hB hi hp hpd).1 with h | h
            · rw [h]
            · exact absurd hs h
        have hval : (a.put o'.dst v).tmps.getD s undef = v := by
          rw [hs]
          have hlt := hdst i o' s hi hs
          rw [← inv.size] at hlt
          simp [Act.put, hlt]
        unfold typeAt
        rw [hw', hval]
        simp only [List.getD_eq_getElem?_getD, hT, Option.getD_some]
        exact hv
      · have h1 : typeAt ops E Us (listed.setIfInBounds i true) s = typeAt ops E Us listed s := by unfold typeAt; rw [writer_put hi hs]
        have h2 : (a.put o'.dst v).tmps.getD s undef = a.tmps.getD s undef := by
          cases hd : o'.dst with
          | none => rfl
          | some d =>
            have hne : d ≠ s := fun e => hs (by rw [hd, e])
            simp [Act.put, Array.getElem?_setIfInBounds_ne hne]
        rw [h1, h2]
        have h3 : Stable (typeAt ops E Us listed s) := by
          unfold typeAt
          cases hw : writer ops listed s with
          | none => exact hE s
          | some j =>
            obtain ⟨_, p, hp, _⟩ := writer_some hw
            have hjlt : j < ops.size := (Array.getElem?_eq_some_iff.1 hp).1
            have hj : Us[j]? = some (Us[j]'(by omega)) := List.getElem?_eq_getElem (by omega)
            simp only [List.getD_eq_getElem?_getD, hj, Option.getD_some]
            exact hst j _ hj
        exact h3 _ _ _ (inv.typed s) hw
  unfold wpOp
  rw [hi]
  dsimp only
  by_cases hw : Region.wanted o' (yielded ops a.tmps) = true
  · rw [if_pos hw] at hop ⊢
    refine .inl (wp_anyQ (fun a' w' h => ?_) hop)
    obtain ⟨v, rfl, he, hv⟩ := h
    exact hK _ _ (hgo v w' he hv)
  · rw [if_neg hw] at hop ⊢
    exact hK _ _ (hgo undef w (Ext.refl w) hop)
def leftT (ops:Array Oper) (listed:Array Bool):Nat:=((List.range ops.size).filter fun i=>!listed.getD i false).length
theorem all_of_none_ready {E:Env} {Us:List Ty} {a0:Act} {listed:Array Bool} {a:Act} {w:World} (hB:tyB ops=true) (inv:InvT ops E Us w0 a0 listed a w) (hr:Region.ready .any ops listed=[]) :
  ∀i,i < ops.size→listed.getD i false=true:=by
 intro i
 induction i using Nat.strongRecOn with
 | _ i ih=>
  intro hi
  cases hl:listed.getD i false with
  | true=>rfl
  | false=>
   have ho:ops[i]? = some ops[i]:=by simp [hi]
   have hmem:i∈Region.ready .any ops listed:=mem_ready.2 ⟨by
    have:i < listed.size:=by rw [inv.lsize];exact hi
    simp [this] at hl ⊢;exact hl,_,ho,fun e he hb=>ih e.on (tyB_edges hB ho e he hb) (by have:=tyB_edges hB ho e he hb;omega)⟩
   rw [hr] at hmem
   cases hmem
theorem leftT_step {listed:Array Bool} {i:Nat} (hi:i < ops.size) (hs:listed.size=ops.size) (hun:listed.getD i false=false):leftT ops (listed.setIfInBounds i true) < leftT ops listed:=by
 unfold leftT
 have hsub:((List.range ops.size).filter fun j=>!(listed.setIfInBounds i true).getD j false)=(((List.range ops.size).filter fun j=>!listed.getD j false).filter fun j=>decide (j≠i)):=by
  rw [List.filter_filter]
  congr 1
  funext j
  by_cases hij:i=j
  ·subst hij
   have:i < listed.size:=by omega
   simp [this]
  ·rw [getD_set_ne false hij]
   have:j≠i:=fun e=>hij e.symm
   simp [this]
 rw [hsub]
 refine List.length_filter_lt_length_iff_exists.2 ⟨i,?_,by simp⟩
 rw [List.mem_filter]
 exact⟨List.mem_range.2 hi,by simp only [hun,Bool.not_false]⟩
def putAll (a:Act):List Oper→Act→Act
 | [],b=>b
 | o :: os,b=>putAll a os (b.put o.dst (match o.dst with|some d=>a.tmps.getD d undef|none=>undef))
theorem putAll_size (a:Act):∀(l:List Oper) (b:Act),(putAll a l b).tmps.size=b.tmps.size∧(putAll a l b).defers=b.defers
 | [],b=>⟨rfl,rfl⟩
 | o :: os,b=>by
  have h:=putAll_size a os (b.put o.dst (match o.dst with|some d=>a.tmps.getD d undef|none=>undef))
  simp only [putAll]
  refine⟨h.1.trans ?_,h.2.trans ?_⟩ <;> cases o.dst <;> simp [Act.put]
theorem putAll_get (a:Act) (s:Tmp):∀(l:List Oper) (b:Act),s < b.tmps.size→b.tmps.size=a.tmps.size→
  (putAll a l b).tmps.getD s undef=if ∃o∈l,o.dst=some s then a.tmps.getD s undef else b.tmps.getD s undef
 | [],b,_,_=>by simp [putAll]
 | o :: os,b,hs,hsz=>by
  have hsz':(b.put o.dst (match o.dst with|some d=>a.tmps.getD d undef|none=>undef)).tmps.size=b.tmps.size:=by cases o.dst <;> simp [Act.put]
  simp only [putAll]
  rw [putAll_get a s os _ (by rw [hsz'];exact hs) (by rw [hsz',hsz])]
  by_cases h1:∃o'∈os,o'.dst=some s
  ·have h2:∃o'∈o :: os,o'.dst=some s:=by obtain⟨o',h,hd⟩:=h1;exact⟨o',List.mem_cons_of_mem _ h,hd⟩
   rw [if_pos h1,if_pos h2]
  ·rw [if_neg h1]
   by_cases h3:o.dst=some s
   ·have h2:∃o'∈o :: os,o'.dst=some s:=⟨o,List.mem_cons_self,h3⟩
    rw [if_pos h2,h3]
    simp [Act.put,hs]
   ·have h2:¬∃o'∈o :: os,o'.dst=some s:=by
     rintro ⟨o',h,hd⟩
     rcases List.mem_cons.1 h with rfl|h
     ·exact h3 hd
     ·exact h1 ⟨o',h,hd⟩
    rw [if_neg h2]
    cases hd:o.dst with
    | none=>rfl
    | some d=>
     have hne:d≠s:=fun e=>h3 (by rw [hd,e])
     simp [Act.put,Array.getElem?_setIfInBounds_ne hne]
theorem FinT.out {Q:Act→World→Prop} {a:Act} {w:World} (hw:Ext w0 w):∀(l:List Oper) (Us:List Ty) (b:Act) (F:World→Prop),FinT w0 Q l Us b F→Us.length=l.length→F w→
  (∀(k:Nat) o T d,l[k]? = some o→Us[k]? = some T→o.dst=some d→Ty.of T (a.tmps.getD d undef) w)→(∀(k:Nat) o d,l[k]? = some o→o.dst=some d→True)→Q (putAll a l b) w
 | [],[],b,F,h,_,hF,_,_=>h w hw hF
 | [],_ :: _,_,_,_,hl,_,_,_=>by simp at hl
 | _ :: _,[],_,_,_,hl,_,_,_=>by simp at hl
 | o :: os,.inl c :: Ts,b,F,h,hl,hF,ht,_=>by
  simp only [putAll]
  have hn:(b.put o.dst (match o.dst with|some d=>a.tmps.getD d undef|none=>undef))=b.put o.dst c:=by
   cases hd:o.dst with
   | none=>rfl
   | some d=>
    have:a.tmps.getD d undef=c:=ht 0 o (.inl c) d rfl rfl hd
    simp [this]
  rw [hn]
  exact FinT.out hw os Ts _ F h (by simpa using hl) hF (fun k o' T d h1 h2 h3=>ht (k+1) o' T d (by simpa using h1) (by simpa using h2) h3) (fun _ _ _ _ _=>trivial)
 | o :: os,.inr T :: Ts,b,F,h,hl,hF,ht,_=>by
  simp only [putAll]
  cases hd:o.dst with
  | none=>
   simp only [FinT,hd] at h
   exact FinT.out hw os Ts _ F h (by simpa using hl) hF (fun k o' T d h1 h2 h3=>ht (k+1) o' T d (by simpa using h1) (by simpa using h2) h3) (fun _ _ _ _ _=>trivial)
  | some d=>
   simp only [FinT,hd] at h
   have h0:T (a.tmps.getD d undef) w:=ht 0 o (.inr T) d rfl rfl hd
   exact FinT.out hw os Ts _ _ (h _) (by simpa using hl) ⟨hF,h0⟩ (fun k o' T d h1 h2 h3=>ht (k+1) o' T d (by simpa using h1) (by simpa using h2) h3) (fun _ _ _ _ _=>trivial)
theorem InvT.fin {Us:List Ty} {a0:Act} {listed:Array Bool} {a:Act} {w:World} (hB:tyB ops=true) (hlen:Us.length=ops.size) (inv:InvT ops (fun s=>.inl (a0.tmps.getD s undef)) Us w0 a0 listed a w)
  (hall:∀i,i < ops.size→listed.getD i false=true) {Q:Act→World→Prop} (h:FinT w0 Q ops.toList Us a0 (fun _=>True)):Q a w:=by
 have hty:∀(k:Nat) o T d,ops.toList[k]? = some o→Us[k]? = some T→o.dst=some d→Ty.of T (a.tmps.getD d undef) w:=by
  intro k o T d hk hT hd
  have hk':ops[k]? = some o:=by simpa using hk
  have hlt:k < ops.size:=(Array.getElem?_eq_some_iff.1 hk').1
  have:=inv.typed d
  unfold typeAt at this
  cases hq:writer ops listed d with
  | none=>exact absurd hd (writer_none hq hk' (hall k hlt))
  | some j=>
   obtain⟨_,p,hp,hpd⟩:=writer_some hq
   rcases (tyB_pair hB hk' hp hpd).1 with h|h
   ·subst h
    rw [hq] at this
    simpa only [List.getD_eq_getElem?_getD,hT,Option.getD_some] using this
   ·exact absurd hd h
 have hfin:=FinT.out (a:=a) inv.ext ops.toList Us a0 _ h (by simpa using hlen) trivial hty (fun _ _ _ _ _=>trivial)
 have heq:putAll a ops.toList a0=a:=by
  have hsz:=putAll_size a ops.toList a0
  have h1:(putAll a ops.toList a0).tmps=a.tmps:=by
   apply Array.ext
   ·rw [hsz.1,inv.size]
   ·intro s hs1 hs2
    have hs0:s < a0.tmps.size:=by rw [←hsz.1];exact hs1
    have hg:=putAll_get a s ops.toList a0 hs0 inv.size.symm
    have hu:a.tmps.getD s undef=a.tmps[s]:=by simp [hs2]
    have hv:(putAll a ops.toList a0).tmps.getD s undef=(putAll a ops.toList a0).tmps[s]:=by simp [hs1]
    refine(hv.symm.trans (hg.trans ?_)).trans hu
    by_cases hno:∃o∈ops.toList,o.dst=some s
    ·rw [if_pos hno]
    ·rw [if_neg hno]
     have this:=inv.typed s
     unfold typeAt at this
     cases hq:writer ops listed s with
     | none=>rw [hq] at this;exact Eq.symm this
     | some j=>
      obtain⟨_,p,hp,hpd⟩:=writer_some hq
      exact absurd ⟨p,by simpa using Array.mem_of_getElem? hp,hpd⟩ hno
  cases hpa:putAll a ops.toList a0 with
  | mk t d=>
   rw [hpa] at h1 hsz
   have h2:=hsz.2.trans inv.defers.symm
   cases a
   simp_all
 rwa [heq] at hfin
theorem wpAny_typed {Us:List Ty} {a0:Act} (hB:tyB ops=true) (hlen:Us.length=ops.size) (hst:∀(k:Nat) (T:Ty),Us[k]? = some T→Stable T)
  (hdst:∀(k:Nat) o d,ops[k]? = some o→o.dst=some d→d < a0.tmps.size)
  (hop:∀(k:Nat) o,ops[k]? = some o→∃T,Us[k]? = some T∧OpT P ops w0 o (lexEnv ops.toList Us (fun s=>.inl (a0.tmps.getD s undef)) k) T)
  {Q:Exit→Act→World→Prop} (h:FinT w0 (fun a w=>Q .normal a w) ops.toList Us a0 (fun _=>True)) :
  ∀(fuel:Nat) (listed:Array Bool) (a:Act) (w:World),leftT ops listed≤fuel→InvT ops (fun s=>.inl (a0.tmps.getD s undef)) Us w0 a0 listed a w→wpAny P .any ops Q fuel listed a w
 | 0,listed,a,w,hl,inv=>by
  have hall:∀i,i < ops.size→listed.getD i false=true:=by
   intro i hi
   cases hq:listed.getD i false with
   | true=>rfl
   | false=>
    have:=leftT_step hi inv.lsize hq
    omega
  refine⟨?_,inv.fin hB hlen hall h⟩
  cases hr:Region.ready .any ops listed with
  | nil=>rfl
  | cons i rs=>
   have hm:i∈Region.ready .any ops listed:=by rw [hr];exact List.mem_cons_self
   obtain⟨hun,o,ho,_⟩:=mem_ready.1 hm
   have:=hall i (Array.getElem?_eq_some_iff.1 ho).1
   rw [getD_false_of_true hun] at this
   cases this
 | fuel+1,listed,a,w,hl,inv=>by
  refine⟨fun hr=>inv.fin hB hlen (all_of_none_ready hB inv hr) h,fun i hi=>?_⟩
  obtain⟨hun,o,ho,_⟩:=mem_ready.1 hi
  obtain⟨T,hT,hopT⟩:=hop i o ho
  refine inv.step hB hlen hst (fun s=>stable_is _) hdst ho hi hT hopT (fun a' w' inv'=>?_)
  refine wpAny_typed hB hlen hst hdst hop h fuel _ a' w' ?_ inv'
  have:=leftT_step (Array.getElem?_eq_some_iff.1 ho).1 inv.lsize (getD_false_of_true hun)
  omega
def dstB (ops:Array Oper) (n:Nat):Bool:=ops.all fun o=>match o.dst with|some d=>decide (d < n)|none=>true
theorem dstB_spec {n:Nat} (h:dstB ops n=true):∀(k:Nat) o d,ops[k]? = some o→o.dst=some d→d < n:=by
 intro k o d hk hd
 have:=Array.all_eq_true_iff_forall_mem.1 h o (Array.mem_of_getElem? hk)
 simpa [hd] using this
theorem wp_region_typed {id:Nat} {Q:Exit→Act→World→Prop} {a:Act} {w:World} (hm:P.follows .mixedOrders=true) (hB:tyB ops=true) (hD:dstB ops a.tmps.size=true)
  (h:wpT P ops w.drew (fun Us=>FinT w.drew (fun a w=>Q .normal a w) ops.toList Us a (fun _=>True)) ops.toList (fun s=>.inl (a.tmps.getD s undef)) []):(Code.region id ops true).wp P Q a w:=by
 obtain⟨Us,hlen,hfin,hk⟩:=wpT_types _ _ _ h
 have hlen':Us.length=ops.size:=by simpa using hlen
 refine wp_region_any hm ?_
 refine wpAny_typed (P:=P) (w0:=w.drew) (a0:=a) hB hlen' ?_ (dstB_spec hD) ?_ (by simpa using hfin) ops.size _ a _ ?_ ?_
 ·intro k T hT
  have hlt:k < ops.toList.length:=by have:=(List.getElem?_eq_some_iff.1 hT).1;omega
  obtain⟨T',h1,h2,_⟩:=hk k _ (List.getElem?_eq_getElem hlt)
  rw [hT] at h1
  injection h1 with h1
  subst h1
  exact h2
 ·intro k o ho
  obtain⟨T,h1,_,h3⟩:=hk k o (by simpa using ho)
  exact⟨T,h1,h3⟩
 ·unfold leftT
  exact Nat.le_trans (List.length_filter_le _ _) (by simp)
 ·refine⟨Ext.refl _,rfl,rfl,by simp,?_,?_⟩
  ·intro j oj _ hl
   rcases Nat.lt_or_ge j ops.size with hj|hj
   ·simp [hj] at hl
   ·simp [hj] at hl
  ·intro s
   have hw:writer ops (Array.replicate ops.size false) s=none:=by
    unfold writer
    rw [List.find?_eq_none]
    intro i hi
    simp [List.mem_range.1 hi]
   unfold typeAt
   rw [hw]
   rfl
end
section
variable {P:Program} {ops:Array Oper} {w0:World} {Fin:List Ty→Prop} {rest:List Oper} {E:Env} {Ts:List Ty} {o:Oper}
def Wd (ops:Array Oper) (o:Oper) (E:Env) (b:Bool):Prop:=
 ∀(a:Act) (w:World),(∀s∈o.looksAt ops,Ty.of (E s) (a.tmps.getD s undef) w)→Region.wanted o (yielded ops a.tmps)=b
theorem wd_none (h:o.guard=none):Wd ops o E true:=fun a w _=>by simp [Region.wanted,h]
theorem wd_some {j:Nat} {b c:Bool} {d:Tmp} (h:o.guard=some (j,b)) (hd:(ops[j]?).bind (·.dst)=some d) (hE:E d=.inl (.bool c)):Wd ops o E (c == b):=fun a w hs=>by
 have hm:d∈o.looksAt ops:=by
  unfold Oper.looksAt
  rw [h]
  exact List.mem_append_right _ (by simp [hd])
 have hv:=hs d hm
 rw [hE] at hv
 have hv':a.tmps.getD d undef=.bool c:=hv
 have hq:a.tmps[d]? = some (.bool c):=by
  cases hx:a.tmps[d]? with
  | none=>
   rw [Array.getD_eq_getD_getElem?,hx] at hv'
   cases hv'
  | some x=>
   rw [Array.getD_eq_getD_getElem?,hx] at hv'
   rw [←hv'];rfl
 unfold Region.wanted yielded
 rw [h]
 simp only [hd,Option.bind_some,hq]
 cases b <;> cases c <;> rfl
theorem wd_yes {j:Nat} {b:Bool} {d:Tmp} (h:o.guard=some (j,b)) (hd:(ops[j]?).bind (·.dst)=some d) (hE:E d=.inl (.bool b)):Wd ops o E true:=by
 have:=wd_some h hd hE
 rwa [beq_self_eq_true] at this
theorem wd_no {j:Nat} {b:Bool} {d:Tmp} (h:o.guard=some (j,b)) (hd:(ops[j]?).bind (·.dst)=some d) (hE:E d=.inl (.bool (!b))):Wd ops o E false:=by
 have:=wd_some h hd hE
 have e:((!b) == b)=false:=by cases b <;> rfl
 rwa [e] at this
theorem wdA (h:(match o.guard with|none=>true|some (j,b)=>match (ops[j]?).bind (·.dst) with|some d=>(match E d with|.inl (.bool c)=>c == b|_=>false)|none=>false)=true):Wd ops o E true:=by
 split at h
 ·exact wd_none (by assumption)
 ·split at h
  ·split at h
   ·rename_i hg _ _ hd _ _ hE
    obtain rfl:=eq_of_beq h
    exact wd_yes hg hd hE
   ·cases h
  ·cases h
theorem tw_skip (hw:Wd ops o E false) (hr:wpT P ops w0 Fin rest (E.put o.dst (.inl undef)) (.inl undef :: Ts)):wpT P ops w0 Fin (o :: rest) E Ts:=
 ⟨.inl undef,stable_is _,fun a w _ hs=>by rw [if_neg (by rw [hw a w hs];decide)];rfl,hr⟩
theorem tw_pure (c:Value) (hw:Wd ops o E true) (h:∀(a:Act) (w:World),Ext w0 w→(∀s∈o.looksAt ops,Ty.of (E s) (a.tmps.getD s undef) w)→(execOp a.eval o).run P w=.ok (.value c) w)
  (hr:wpT P ops w0 Fin rest (E.put o.dst (.inl c)) (.inl c :: Ts)):wpT P ops w0 Fin (o :: rest) E Ts:=
 ⟨.inl c,stable_is _,fun a w hx hs=>by
  rw [if_pos (hw a w hs)]
  unfold Oper.wp
  rw [h a w hx hs,Oper.upon_value]
  exact⟨c,rfl,Ext.refl w,rfl⟩,hr⟩
theorem tw_val (T:Ty) (hst:Stable T) (hw:Wd ops o E true) (h:∀(a:Act) (w:World),Ext w0 w→(∀s∈o.looksAt ops,Ty.of (E s) (a.tmps.getD s undef) w)→∃v w',(execOp a.eval o).run P w=.ok (.value v) w'∧Ext w w'∧Ty.of T v w')
  (hr:wpT P ops w0 Fin rest (E.put o.dst T) (T :: Ts)):wpT P ops w0 Fin (o :: rest) E Ts:=
 ⟨T,hst,fun a w hx hs=>by
  rw [if_pos (hw a w hs)]
  obtain⟨v,w',h1,h2,h3⟩:=h a w hx hs
  unfold Oper.wp
  rw [h1,Oper.upon_value]
  exact⟨v,rfl,h2,h3⟩,hr⟩
theorem tw_call (T : Ty) (hst : Stable T) (hw : Wd ops o E true) (h : ∀ (a : Act) (w : World), Ext w0 w → (∀ s ∈ o.looksAt ops, Ty.of (E s) (a.tmps.getD s undef) w) →
      ∃ f args, (execOp a.eval o).run P w = .ok (.enter f args) w ∧ Calls P f args w fun e w' => ∃ v, e = .returned v ∧ Ext w w' ∧ Ty.of T v w')
    (hr : wpT P ops w0 Fin rest (E.put o.dst T) (T :: Ts)) : wpT P ops w0 Fin (o :: rest) E Ts :=
  ⟨T, hst, fun a w hx hs => by
    rw [if_pos (hw a w hs)]
    obtain ⟨f, args, h1, h2⟩ := h a w hx hs
    unfold Oper.wp
    rw [h1, Oper.upon_enter]
    refine h2.mono ?_
    rintro e w' ⟨v, rfl, h3, h4⟩
    exact ⟨v, rfl, h3, h4⟩, hr⟩
theorem tw_move {s:Tmp} (T:Ty) (hst:Stable T) (hop:o.op=.move (.tmp s)∨o.op=.assign (.tmp s)) (hE:E s=T) (hw:Wd ops o E true)
  (hr:wpT P ops w0 Fin rest (E.put o.dst T) (T :: Ts)):wpT P ops w0 Fin (o :: rest) E Ts:=
 tw_val T hst hw (fun a w _ hs=>by
  have hm:s∈o.looksAt ops:=by
   unfold Oper.looksAt
   rcases hop with h|h <;> rw [h] <;> simp [Op.operands]
  have hv:=hs s hm
  rw [hE] at hv
  refine⟨a.tmps.getD s undef,w,?_,Ext.refl w,hv⟩
  rcases hop with h|h <;> · unfold execOp;simp only [h];rfl) hr
theorem looks_of {o:Oper} {x:Operand} {s:Tmp} (h:x∈o.op.operands) (hx:x=.tmp s):s∈o.looksAt ops:=by
 subst hx
 exact List.mem_append_left _ (List.mem_filterMap.2 ⟨.tmp s,by simpa using h,rfl⟩)
end
end Go.Proofs.YtnfokaecobddkaaGreatDoor
end
section
namespace Go.Proofs.YtnfokaecobddkaaGreatDoor
open Go.RowKit
theorem add_mk (b off j:Nat):(⟨b,off,none⟩:Addr).add j=⟨b,off+j,none⟩:=by unfold Addr.add;split <;> simp_all
theorem block_of_add (a:Addr) (n:Nat):(a.add n).block=a.block:=by unfold Addr.add;split <;> rfl
def Rd (w:World) (B s:Nat) (A:Option Addr) (n:Nat) (xs:List Value):Prop:=
 xs.length=n*s∧(0 < n→∃b off,A=some ⟨b,off,none⟩∧b < B∧∀j u,xs[j]? = some u→w.cell? ⟨b,off+j,none⟩=some u)
section
variable {w w':World} {B B' s n:Nat} {A:Option Addr} {xs:List Value}
theorem Rd.at_ {k:Nat} (h:Rd w B 1 A n xs) (hk:k < n) :
  ∃b off u,A=some ⟨b,off,none⟩∧b < B∧xs[k]? = some u∧w.cell? ⟨b,off+k,none⟩=some u:=by
 obtain⟨b,off,e,hb,hc⟩:=h.2 (by omega)
 have hl:k < xs.length:=by have:=h.1;omega
 exact⟨b,off,xs[k],e,hb,List.getElem?_eq_getElem hl,hc k _ (List.getElem?_eq_getElem hl)⟩
theorem Rd.keep (h:Rd w B s A n xs) (hk:∀p:Addr,p.block < B→w'.cell? p=w.cell? p):Rd w' B s A n xs:=
 ⟨h.1,fun hn=>by
  obtain⟨b,off,e,hb,hc⟩:=h.2 hn
  exact⟨b,off,e,hb,fun j u hu=>(hk _ hb).trans (hc j u hu)⟩⟩
theorem Rd.more (h:Rd w B s A n xs) (hB:B≤B'):Rd w B' s A n xs:=
 ⟨h.1,fun hn=>by
  obtain⟨b,off,e,hb,hc⟩:=h.2 hn
  exact⟨b,off,e,by omega,hc⟩⟩
theorem Rd.below {C:Nat} (h:Rd w B s A n xs) (hb:Below C w w') (hC:B≤C):Rd w' B s A n xs:=h.keep fun _ hp=>hb.cell (by omega)
theorem Rd.drew (h:Rd w B s A n xs):Rd w.drew B s A n xs:=h
theorem Rd.drewN (h:Rd w B s A n xs) (k:Nat):Rd (w.drewN k) B s A n xs:=h
theorem Rd.alloc (h:Rd w B s A n xs) (hB:B≤w.heap.size) (o:Obj):Rd (w.alloc o) B s A n xs:=h.keep fun p hp=>World.cell?_alloc_lt w o p (by omega)
theorem Rd.setCell (h:Rd w B s A n xs) {p:Addr} (hB:B≤p.block) (u:Value):Rd (w.setCell p u) B s A n xs:=
 h.keep fun q hq=>World.cell?_setCell_other w p q u (fun e=>by subst e;omega)
theorem Rd.grown (h:Rd w B s A n xs) {row:Option Nat} (hg:w.grownBy w' row) (hB:B≤w.heap.size) (hr:∀g,row=some g→B≤g):Rd w' B s A n xs:=
 h.keep fun p hp=>World.cell?_of_block (hg.block p.block (by omega) (fun e=>by have:=hr _ e.symm;omega))
theorem Rd.cut {k cap:Nat} (h:Rd w B s A n xs) (hk:k≤n) (hc:n≤cap):Rd w B s (if cap=k then A else A.map (·.add (k*s))) (n - k) (xs.drop (k*s)):=by
 refine⟨by rw [List.length_drop,h.1,Nat.sub_mul],fun hn=>?_⟩
 obtain⟨b,off,rfl,hb,hcell⟩:=h.2 (by omega)
 rw [if_neg (by omega)]
 refine⟨b,off+k*s,by simp [add_mk],hb,fun j u hu=>?_⟩
 rw [Nat.add_assoc]
 exact hcell _ u (by rw [←hu,List.getElem?_drop])
theorem Rd.of_own {base:Nat} {e:TypeId} {c:Nat} (h:w.ownsRow base e s (.slice A n c) n xs):Rd w w.heap.size s A n xs:=by
 refine⟨h.1,fun hn=>?_⟩
 rcases h.2 with ⟨_,h0⟩|⟨g,cap,cur,hv,_,hh,_⟩
 ·omega
 ·injection hv with hv _ _
  subst hv
  refine⟨_,_,rfl,(Array.getElem?_eq_some_iff.1 hh).1,fun j u hu=>?_⟩
  have:=h.cells (g:=g) rfl j u hu
  rwa [add_mk] at this
end
theorem own_form {w:World} {base:Nat} {e:TypeId} {s:Nat} {v:Value} {n:Nat} {xs:List Value} (h:w.ownsRow base e s v n xs):∃A c,v=.slice A n c:=by
 rcases h.2 with ⟨rfl,rfl⟩|⟨g,cap,cur,rfl,_⟩
 ·exact⟨_,_,rfl⟩
 ·exact⟨_,_,rfl⟩
theorem Rd.new (w:World) (t:TypeId) (cs:Array Value) {s n:Nat} (hn:cs.size=n*s):Rd (w.alloc (.cells cs t)) (w.heap.size+1) s (some ⟨w.heap.size,0,none⟩) n cs.toList:=by
 refine⟨by simpa using hn,fun _=>⟨_,_,rfl,by simp,fun j u hj=>?_⟩⟩
 have h:=cell_of_row (w.alloc (.cells cs t)) w.heap.size j cs t (0,0) (heap_alloc_new w _)
 rw [Nat.zero_add,h]
 simpa using hj
section
variable {P:Program} (w:World)
theorem app_nil (base:Nat) (t ty e:TypeId) (i:TypeInfo) (size:Nat) (ht:P.underlying t=some (.slice e)) (hi:P.info? e=some i)
  (v:Value) (n:Nat) (xs:List Value) (hown:w.ownsRow base e size v n xs) (c:Nat):(Builtin.append_ #[t,t] ty #[v,.slice none 0 c]).run P w=.ok v w:=by
 rcases hown.2 with ⟨rfl,rfl⟩|⟨g,cap,cur,rfl,_,_,hnc,_⟩
 ·simp [Builtin.append_,run_underlying ht,sizeOf,typeInfo,hi,Builtin.lenOf,Builtin.firstCells]
 ·simp [Builtin.append_,run_underlying ht,sizeOf,typeInfo,hi,Builtin.lenOf,Builtin.firstCells,hnc,storeCells]
theorem app_run (base:Nat) (t ty e:TypeId) (i:TypeInfo) (z:Value) (size bytes:Nat) (ht:P.underlying t=some (.slice e)) (hi:P.info? e=some i) (hz:i.zero=some z)
  (hsize:i.size=size) (hby:i.bytes=bytes) (hzs:z.cells.size=size) (hsz:0 < size)
  (v:Value) (n:Nat) (xs:List Value) (hown:w.ownsRow base e size v n xs)
  (B:Nat) (A:Option Addr) (m c:Nat) (news:List Value) (hr:Rd w B size A m news) (h1:∀u∈news,u.oneCell'=true)
  (h63:n+m≤maxLen) (hbytes:(n+m)*bytes≤140737488355328) (hbase:base≤w.heap.size) :
  ∃v' w',(Builtin.append_ #[t,t] ty #[v,.slice A m c]).run P w=.ok v' w'∧w'.ownsRow base e size v' (n+m) (xs++news)∧w.grownBy w' v.ownBlock∧
   (v'.ownBlock=v.ownBlock∨v'.ownBlock=some w.heap.size):=by
 by_cases hA:∃ad,A=some ad
 ·obtain⟨ad,rfl⟩:=hA
  have hcells:∀j u,news[j]? = some u→w.cell? (ad.add j)=some u:=by
   intro j u hu
   rcases Nat.eq_zero_or_pos m with h0|h0
   ·have hn:news=[]:=List.eq_nil_of_length_eq_zero (by have:=hr.1;subst h0;simpa using this)
    subst hn
    simp at hu
   ·obtain⟨b,off,h,_,hc⟩:=hr.2 h0
    injection h with h
    subst h
    rw [add_mk]
    exact hc j u hu
  obtain⟨v',w',hrun,h2,h3,_,h5⟩:=run_append_own_at (P:=P) w base t ty e i z size bytes ht hi hz hsize hby hzs hsz v n xs hown ad m c news hr.1 hcells h1 h63 hbytes hbase
  exact⟨v',w',hrun,h2,h3,h5⟩
 ·have hA':A=none:=by cases A with
   | none=>rfl
   | some a=>exact absurd ⟨a,rfl⟩ hA
  subst hA'
  have hm:m=0:=by
   rcases Nat.eq_zero_or_pos m with h0|h0
   ·exact h0
   ·obtain⟨_,_,h,_⟩:=hr.2 h0
    cases h
  subst hm
  have hn:news=[]:=List.eq_nil_of_length_eq_zero (by simpa using hr.1)
  subst hn
  exact⟨v,w,app_nil w base t ty e i size ht hi v n xs hown c,by simpa using hown,World.grownBy.refl w _,.inl rfl⟩
theorem app_wp {o:Oper} {a:Act} {K:Act→World→Prop} {Q:Exit→Act→World→Prop} (s x:Operand) (t:TypeId)
  (ho:o.op=.call { callee:=.builtin .append,args:=#[s,x],argTypes:=#[t,t]})
  (base:Nat) (e:TypeId) (i:TypeInfo) (z:Value) (size bytes:Nat) (ht:P.underlying t=some (.slice e)) (hi:P.info? e=some i) (hz:i.zero=some z)
  (hsize:i.size=size) (hby:i.bytes=bytes) (hzs:z.cells.size=size) (hsz:0 < size)
  (v:Value) (n:Nat) (xs:List Value) (hs:a.eval s=v) (hown:w.ownsRow base e size v n xs)
  (B:Nat) (A:Option Addr) (m c:Nat) (news:List Value) (hx:a.eval x=.slice A m c) (hr:Rd w B size A m news) (h1:∀u∈news,u.oneCell'=true)
  (h63:n+m≤maxLen) (hbytes:(n+m)*bytes≤140737488355328) (hbase:base≤w.heap.size)
  (h:∀v' w',w'.ownsRow base e size v' (n+m) (xs++news)→w.grownBy w' v.ownBlock→(v'.ownBlock=v.ownBlock∨v'.ownBlock=some w.heap.size)→K (a.put o.dst v') w'):o.wp P a w K Q:=by
 obtain⟨v',w',hrun,h2,h3,h4⟩:=app_run (P:=P) w base t o.type e i z size bytes ht hi hz hsize hby hzs hsz v n xs hown B A m c news hr h1 h63 hbytes hbase
 unfold Oper.wp execOp
 simp only [ho,resolve,invoke,builtin,Sem.run_bind,Sem.run_pure,Result.andThen_ok,List.map_toArray,List.map_cons,List.map_nil,hs,hx,hrun]
 exact h v' w' h2 h3 h4
theorem app_wpList {ops:Array Oper} {rest:List Oper} {o:Oper} {a:Act} {Q:Exit→Act→World→Prop} (hgd:o.guard=none) (s x:Operand) (t:TypeId)
  (ho:o.op=.call { callee:=.builtin .append,args:=#[s,x],argTypes:=#[t,t]})
  (base:Nat) (e:TypeId) (i:TypeInfo) (z:Value) (size bytes:Nat) (ht:P.underlying t=some (.slice e)) (hi:P.info? e=some i) (hz:i.zero=some z)
  (hsize:i.size=size) (hby:i.bytes=bytes) (hzs:z.cells.size=size) (hsz:0 < size)
  (v:Value) (n:Nat) (xs:List Value) (hs:a.eval s=v) (hown:w.ownsRow base e size v n xs)
  (B:Nat) (A:Option Addr) (m c:Nat) (news:List Value) (hx:a.eval x=.slice A m c) (hr:Rd w B size A m news) (h1:∀u∈news,u.oneCell'=true)
  (h63:n+m≤maxLen) (hbytes:(n+m)*bytes≤140737488355328) (hbase:base≤w.heap.size)
  (h:∀v' w',w'.ownsRow base e size v' (n+m) (xs++news)→w.grownBy w' v.ownBlock→(v'.ownBlock=v.ownBlock∨v'.ownBlock=some w.heap.size)→wpList P ops Q rest (a.put o.dst v') w'):wpList P ops Q (o :: rest) a w:=
 wpList_plain hgd fun _ hK=>app_wp w s x t ho base e i z size bytes ht hi hz hsize hby hzs hsz v n xs hs hown B A m c news hx hr h1 h63 hbytes hbase fun v' w' h2 h3 h4=>hK _ _ (h v' w' h2 h3 h4)
end
def ints (k:IntKind) (l:List Int):List Value:=l.map (Value.int k)
theorem ints_one {k:IntKind} {l:List Int}:∀u∈ints k l,u.oneCell'=true:=by
 intro u hu
 simp only [ints,List.mem_map] at hu
 obtain⟨x,_,rfl⟩:=hu
 rfl
theorem rd_int1 (w:World) (t:TypeId) (k:IntKind) (x:Int):Rd (w.alloc (.cells #[.int k x] t)) (w.heap.size+1) 1 (some ⟨w.heap.size,0,none⟩) 1 (ints k [x]):=Rd.new w t #[.int k x] rfl
theorem ints_append {k:IntKind} {l l':List Int}:ints k (l++l')=ints k l++ints k l':=by simp [ints]
theorem info_u8:(Tryz.prog.info? 5).map (fun i=>(i.zero,i.size,i.bytes))=some (some (.int .u8 0),1,1):=by kernel_rfl
theorem below_drewN {B:Nat} {a w:World} (h:Below B a w) (n:Nat):Below B a (w.drewN n):=⟨h.os,h.tape,h.output,h.size,h.block⟩
def SlT (k:IntKind) (xs:List Int):Ty:=.inr fun v w=>∃A c,v=.slice A xs.length c∧Rd w w.heap.size 1 A xs.length (ints k xs)
theorem ret_int {k:IntKind} {a b:Int} (h:a=b):Ending.returned (.int k a)=.returned (.int k b):=by rw [h]
theorem ret_bool {a b:Bool} (h:a=b):Ending.returned (.bool a)=.returned (.bool b):=by rw [h]
end Go.Proofs.YtnfokaecobddkaaGreatDoor
end
