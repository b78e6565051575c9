/- Part 19 of a proof laid in parts, one behind the other; no condition of its own. -/
import Derived.Test.YtnfokaecobddkaaGreatDoorV13
import Derived.Test.YtnfokaecobddkaaGreatDoorV15
import Derived.Test.YtnfokaecobddkaaGreatDoorV18
import Derived.Test.YtnfokaecobddkaaGreatDoorV12
import Derived.Tactics
import Derived.Below
import Derived.KernelRfl
import Derived.Laws.Cells
import Derived.Recover
import Derived.Laws.IdiomCopy
import Derived.Deep.AppendSrc
set_option linter.all false
section
namespace Go.Proofs.YtnfokaecobddkaaGreatDoor
open Go.RowKit
set_option linter.unusedSimpArgs false
set_option linter.unusedVariables false
section
variable {ops:Array Oper} {w0:World} {Fin:List Ty→Prop} {rest:List Oper} {E:Env} {Ts:List Ty} {o:Oper}
end
theorem set_load (w:World) (v:List NodeL) (A:Option Addr) (c:Nat) (hv:RdV w w.heap.size A v) (hc:v.length≤c):∃W,W=w.alloc (.cells #[.slice A v.length c] 30)∧RdW W W.heap.size (some ⟨w.heap.size,0,none⟩) [v]∧Below w.heap.size w W:=by
 have hx:Below w.heap.size w (w.alloc (.cells #[.slice A v.length c] 30)):=(Below.refl _ _).alloc (Nat.le_refl _) _
 refine⟨_,rfl,fun _=>⟨w.heap.size,0,rfl,by simp,fun i y hi=>?_⟩,hx⟩
 cases i with
 | succ i=>simp at hi
 | zero=>
  simp only [List.getElem?_cons_zero,Option.some.injEq] at hi
  subst hi
  exact⟨A,c,(Row.new w _ _).at' 0 rfl,hc,(hv.below hx (Nat.le_refl _)).more hx.size⟩
theorem one_row (w:World) (x:ItemL) (A:Option Addr) (c:Nat) (hg:RdS w A x.groups) (hl:x.groups.length≤c):∃W,W=w.alloc (.cells (cI x A c) 48)∧RdI W (some ⟨w.heap.size,0,none⟩) [x]∧Below w.heap.size w W:=by
 have hx:Below w.heap.size w (w.alloc (.cells (cI x A c) 48)):=(Below.refl _ _).alloc (Nat.le_refl _) _
 refine⟨_,rfl,fun _=>⟨w.heap.size,0,rfl,by simp,fun i y hi=>?_⟩,hx⟩
 cases i with
 | succ i=>simp at hi
 | zero=>
  simp only [List.getElem?_cons_zero,Option.some.injEq] at hi
  subst hi
  refine⟨A,c,fun r v hv=>?_,hl,hg.ext hx⟩
  have:=(Row.new w 48 (cI x A c)).at' r hv
  simpa using this
theorem told_szv {x:ItemL} (h:itemI x=true) (hz:SzL [x]) (gone:Bool) (ver:Int):SzV 1000000000 (queryV [x] gone ver):=by
 have ht:=(put_tree (query_put (l:=[x]) (gone:=gone) (ver:=ver) (ros_one h)).1).1
 have h3:=(tree_parts ht).2.1
 have hi:=items_szw hz (ros_one h) gone
 exact⟨by unfold queryV;omega,joinV_sz (queryN_sz ver) hi.1 (fun v hv=>(hi.2 v hv).2)⟩
theorem szl_one {l:List ItemL} (hz:SzL l) {x:ItemL} (hx:x∈l):SzL [x]:=⟨by simp,fun y hy=>by rw [List.mem_singleton.1 hy];exact hz.2 x hx⟩
theorem set_sz {v:List NodeL} (h:SzV 1000000000 v):SzS (setS v):=by
 refine⟨⟨by show(0:Int)≤3;omega,by show(3:Int) < 256;omega⟩,by show(3:Nat)≤_;omega,by show(1:Nat)≤_;omega,by show(0:Nat)≤_;omega,by show(0:Nat)≤_;omega,by show(1:Nat)≤_;omega,fun u hu=>?_⟩
 rw [List.mem_singleton.1 hu]
 exact h
end Go.Proofs.YtnfokaecobddkaaGreatDoor
end
section
namespace Go.Proofs.YtnfokaecobddkaaGreatDoor.Clo
set_option linter.unusedVariables false
set_option linter.unusedSimpArgs false
inductive D4|a|b|c|d
 deriving DecidableEq
abbrev Id:=List D4
inductive AV where
 | u
 | nil
 | cons (x r:AV)
 | inil
 | ifc (t:TypeId) (x:AV)
 | fnil
 | fn (f:Fn) (first cap:AV)
 | mn
 | mp (r:Id)
 | tu (l:AV)
 | ag (l:AV)
 | sn
 | sl (r:Id) (o n:Nat) (c:Option Nat)
 | sg (r:Id) (o n z:Nat)
 | se (r:Id)
 | pn
 | p (r:Id) (o:Nat)
 | s (l:List Nat)
 | b (x:Bool)
 | i (k:IntKind) (n:Int)
 deriving Inhabited
abbrev Plc:=Nat×Nat
def bytesOf (l:List Nat):ByteArray:=⟨(l.map UInt8.ofNat).toArray⟩
def AV.says (φ:Id→Option Plc):AV→(Value→Prop)×(List Value→Prop)
 | .u=>(fun _=>True,fun _=>False)
 | .nil=>(fun _=>False,fun l=>l=[])
 | .cons x r=>(fun _=>False,fun l=>∃v vs,l=v :: vs∧(x.says φ).1 v∧(r.says φ).2 vs)
 | .inil=>(fun v=>v=.nilIface,fun _=>False)
 | .ifc t x=>(fun v=>∃w,v=.iface t w∧(x.says φ).1 w,fun _=>False)
 | .fnil=>(fun v=>v=.nilFunc,fun _=>False)
 | .fn f a c=>(fun v=>∃xs ys:Array Value,v=.func f xs ys∧(a.says φ).2 xs.toList∧(c.says φ).2 ys.toList,fun _=>False)
 | .mn=>(fun v=>v=.map none,fun _=>False)
 | .mp r=>(fun v=>∃g,φ r=some g∧v=.map (some g.1),fun _=>False)
 | .tu l=>(fun v=>∃xs:Array Value,v=.tuple xs∧(l.says φ).2 xs.toList,fun _=>False)
 | .ag l=>(fun v=>∃xs:Array Value,v=.agg xs∧(l.says φ).2 xs.toList,fun _=>False)
 | .sn=>(fun v=>v=.slice none 0 0,fun _=>False)
 | .sl r o n c=>(fun v=>∃g k,φ r=some g∧v=.slice (some ⟨g.1,o,none⟩) n k∧n≤k∧(∀m,c=some m→k=m),fun _=>False)
 | .sg r o n z=>(fun v=>∃g k,φ r=some g∧v=.slice (some ⟨g.1,o,none⟩) n k∧n≤k∧o+k*z=g.2,fun _=>False)
 | .se r=>(fun v=>∃g o k,φ r=some g∧v=.slice (some ⟨g.1,o,none⟩) 0 k,fun _=>False)
 | .pn=>(fun v=>v=.pointer none,fun _=>False)
 | .p r o=>(fun v=>∃g,φ r=some g∧v=.pointer (some ⟨g.1,o,none⟩),fun _=>False)
 | .s l=>(fun v=>v=.string (bytesOf l)∧∀x∈l,x < 256,fun _=>False)
 | .b x=>(fun v=>v=.bool x,fun _=>False)
 | .i k n=>(fun v=>v=.int k n,fun _=>False)
abbrev VR (φ:Id→Option Plc) (x:AV) (v:Value):Prop:=(x.says φ).1 v
abbrev VL (φ:Id→Option Plc) (x:AV) (l:List Value):Prop:=(x.says φ).2 l
def More (φ ψ:Id→Option Plc):Prop:=∀r g,φ r=some g→ψ r=some g
theorem More.refl (φ:Id→Option Plc):More φ φ:=fun _ _ h=>h
theorem More.trans {φ ψ χ:Id→Option Plc} (h:More φ ψ) (k:More ψ χ):More φ χ:=fun r g e=>k r g (h r g e)
theorem says_more {φ ψ:Id→Option Plc} (h:More φ ψ):∀x:AV,(∀v,VR φ x v→VR ψ x v)∧(∀l,VL φ x l→VL ψ x l):=by
 intro x
 induction x with
 | u=>exact⟨fun _ h=>h,fun _ h=>h⟩
 | nil=>exact⟨fun _ h=>h,fun _ h=>h⟩
 | cons x r hx hr=>exact⟨fun _ h=>h,fun l ⟨v,vs,e,h1,h2⟩=>⟨v,vs,e,hx.1 v h1,hr.2 vs h2⟩⟩
 | inil=>exact⟨fun _ h=>h,fun _ h=>h⟩
 | ifc t x hx=>exact⟨fun v ⟨w,e,h1⟩=>⟨w,e,hx.1 w h1⟩,fun _ h=>h⟩
 | fnil=>exact⟨fun _ h=>h,fun _ h=>h⟩
 | fn f a c ha hc=>exact⟨fun v ⟨xs,ys,e,h1,h2⟩=>⟨xs,ys,e,ha.2 _ h1,hc.2 _ h2⟩,fun _ h=>h⟩
 | mn=>exact⟨fun _ h=>h,fun _ h=>h⟩
 | mp r=>exact⟨fun v ⟨g,h1,e⟩=>⟨g,h r g h1,e⟩,fun _ h=>h⟩
 | tu l hl=>exact⟨fun v ⟨xs,e,h1⟩=>⟨xs,e,hl.2 _ h1⟩,fun _ h=>h⟩
 | ag l hl=>exact⟨fun v ⟨xs,e,h1⟩=>⟨xs,e,hl.2 _ h1⟩,fun _ h=>h⟩
 | sn=>exact⟨fun _ h=>h,fun _ h=>h⟩
 | sl r o n c=>exact⟨fun v ⟨g,k,h1,e⟩=>⟨g,k,h r g h1,e⟩,fun _ h=>h⟩
 | sg r o n z=>exact⟨fun v ⟨g,k,h1,e⟩=>⟨g,k,h r g h1,e⟩,fun _ h=>h⟩
 | se r=>exact⟨fun v ⟨g,o,k,h1,e⟩=>⟨g,o,k,h r g h1,e⟩,fun _ h=>h⟩
 | pn=>exact⟨fun _ h=>h,fun _ h=>h⟩
 | p r o=>exact⟨fun v ⟨g,h1,e⟩=>⟨g,h r g h1,e⟩,fun _ h=>h⟩
 | s l=>exact⟨fun _ h=>h,fun _ h=>h⟩
 | b x=>exact⟨fun _ h=>h,fun _ h=>h⟩
 | i k n=>exact⟨fun _ h=>h,fun _ h=>h⟩
theorem VR.more {φ ψ:Id→Option Plc} {x:AV} {v:Value} (h:VR φ x v) (k:More φ ψ):VR ψ x v:=(says_more k x).1 v h
theorem VL.more {φ ψ:Id→Option Plc} {x:AV} {l:List Value} (h:VL φ x l) (k:More φ ψ):VL ψ x l:=(says_more k x).2 l h
inductive T4 (α:Type) where
 | e
 | l (v:α)
 | n (a b c d:T4 α)
section
variable {α:Type}
noncomputable def T4.get (p:Id):T4 α→Option α:=
 List.rec (motive:=fun _=>T4 α→Option α) (fun t=>T4.rec (motive:=fun _=>Option α) none (fun v=>some v) (fun _ _ _ _ _ _ _ _=>none) t)
  (fun q _ ih t=>T4.rec (motive:=fun _=>Option α) none (fun _=>none) (fun a b c d _ _ _ _=>ih (D4.rec a b c d q)) t) p
noncomputable def T4.set (p:Id):α→T4 α→T4 α:=
 List.rec (motive:=fun _=>α→T4 α→T4 α) (fun v _=>.l v)
  (fun q _ ih v t=>T4.rec (motive:=fun _=>T4 α) (D4.rec (.n (ih v .e) .e .e .e) (.n .e (ih v .e) .e .e) (.n .e .e (ih v .e) .e) (.n .e .e .e (ih v .e)) q)
   (fun _=>D4.rec (.n (ih v .e) .e .e .e) (.n .e (ih v .e) .e .e) (.n .e .e (ih v .e) .e) (.n .e .e .e (ih v .e)) q)
   (fun a b c d _ _ _ _=>D4.rec (.n (ih v a) b c d) (.n a (ih v b) c d) (.n a b (ih v c) d) (.n a b c (ih v d)) q) t) p
noncomputable def T4.del (p:Id):T4 α→T4 α:=
 List.rec (motive:=fun _=>T4 α→T4 α) (fun _=>.e)
  (fun q _ ih t=>T4.rec (motive:=fun _=>T4 α) .e (fun _=>.e) (fun a b c d _ _ _ _=>D4.rec (.n (ih a) b c d) (.n a (ih b) c d) (.n a b (ih c) d) (.n a b c (ih d)) q) t) p
theorem T4.get_e:∀p:Id,(T4.e:T4 α).get p=none
 | []=>rfl
 | _ :: _=>rfl
theorem T4.get_set_same (v:α):∀(p:Id) (t:T4 α),(t.set p v).get p=some v
 | [],t=>rfl
 | q :: p,t=>by cases t <;> cases q <;> exact T4.get_set_same v p _
theorem T4.get_set_other (v:α):∀(p p':Id) (t:T4 α),p.length=p'.length→p'≠p→(t.set p v).get p'=t.get p'
 | [],[],t,_,h=>absurd rfl h
 | q :: p,q' :: p',t,hl,h=>by
  have hl':p.length=p'.length:=by simpa using hl
  by_cases hq:q'=q
  ·subst hq
   have hp:p'≠p:=fun e=>h (by rw [e])
   cases t <;> cases q' <;> first|exact(T4.get_set_other v p p' _ hl' hp).trans (T4.get_e p')|exact T4.get_set_other v p p' _ hl' hp
  ·cases t <;> cases q <;> cases q' <;> first|exact absurd rfl hq|exact T4.get_e p'|rfl
theorem T4.get_del_other:∀(p p':Id) (t:T4 α),p.length=p'.length→p'≠p→(t.del p).get p'=t.get p'
 | [],[],t,_,h=>absurd rfl h
 | q :: p,q' :: p',t,hl,h=>by
  have hl':p.length=p'.length:=by simpa using hl
  by_cases hq:q'=q
  ·subst hq
   have hp:p'≠p:=fun e=>h (by rw [e])
   cases t <;> cases q' <;> first|rfl|exact T4.get_del_other p p' _ hl' hp
  ·cases t <;> cases q <;> cases q' <;> first|exact absurd rfl hq|rfl
end
section
variable {α:Type}
theorem T4.get_of_set (v:α):∀(p r:Id) (t:T4 α) (y:α),(t.set p v).get r=some y→r≠p→t.get r=some y
 | [],[],t,y,_,h=>absurd rfl h
 | [],_ :: _,t,y,he,_=>by cases he
 | q :: p,[],t,y,he,_=>by cases t <;> cases q <;> cases he
 | q :: p,q' :: r,t,y,he,h=>by
  by_cases hq:q'=q
  ·subst hq
   have hp:r≠p:=fun e'=>h (by rw [e'])
   cases t <;> cases q' <;> first|exact T4.get_of_set v p r _ y he hp|(have:=T4.get_of_set v p r _ y he hp;rw [T4.get_e] at this;cases this)
  ·cases t <;> cases q <;> cases q' <;> first|exact absurd rfl hq|exact he|(have e':=(T4.get_e r).symm.trans he;cases e')
theorem T4.get_of_del:∀(p r:Id) (t:T4 α) (y:α),(t.del p).get r=some y→t.get r=some y∧r≠p
 | [],r,t,y,he=>by
  have e':=(T4.get_e r).symm.trans he
  cases e'
 | q :: p,[],t,y,he=>by cases t <;> cases q <;> cases he
 | q :: p,q' :: r,t,y,he=>by
  by_cases hq:q'=q
  ·subst hq
   cases t <;> cases q' <;> first|(cases he;done)|(obtain⟨h1,h2⟩:=T4.get_of_del p r _ y he;exact⟨h1,fun e'=>h2 (by cases e';rfl)⟩)
  ·refine⟨?_,fun e'=>hq (by cases e';rfl)⟩
   cases t <;> cases q <;> cases q' <;> first|exact absurd rfl hq|exact he|(cases he;done)
end
def dig (k:Nat):D4:=match k % 4 with|0=>.a|1=>.b|2=>.c|_=>.d
def path:Nat→Nat→Id
 | 0,_=>[]
 | f+1,k=>dig k :: path f (k / 4)
theorem path_len:∀f k,(path f k).length=f
 | 0,_=>rfl
 | f+1,k=>by simp [path,path_len f]
theorem dig_inj {j k:Nat} (h:dig j=dig k):j % 4=k % 4:=by
 unfold dig at h
 have hj:j % 4 < 4:=Nat.mod_lt _ (by decide)
 have hk:k % 4 < 4:=Nat.mod_lt _ (by decide)
 generalize j % 4=x at *
 generalize k % 4=y at *
 match x,hj,y,hk with
 | 0,_,0,_|1,_,1,_|2,_,2,_|3,_,3,_=>rfl
 | 0,_,1,_|0,_,2,_|0,_,3,_|1,_,0,_|1,_,2,_|1,_,3,_|2,_,0,_|2,_,1,_|2,_,3,_|3,_,0,_|3,_,1,_|3,_,2,_=>cases h
theorem path_inj:∀(f j k:Nat),j < 4 ^ f→k < 4 ^ f→path f j=path f k→j=k
 | 0,j,k,hj,hk,_=>by simp at hj hk;omega
 | f+1,j,k,hj,hk,h=>by
  simp only [path,List.cons.injEq] at h
  have h1:=dig_inj h.1
  have e:4 ^ (f+1)=4*4 ^ f:=by rw [Nat.pow_succ,Nat.mul_comm]
  have h2:=path_inj f (j / 4) (k / 4) (by omega) (by omega) h.2
  omega
def inc:Id→Id
 | []=>[]
 | .a :: r=>.b :: r
 | .b :: r=>.c :: r
 | .c :: r=>.d :: r
 | .d :: r=>.a :: inc r
def num:Id→Nat
 | []=>0
 | .a :: r=>4*num r
 | .b :: r=>4*num r+1
 | .c :: r=>4*num r+2
 | .d :: r=>4*num r+3
theorem inc_len:∀p:Id,(inc p).length=p.length
 | []=>rfl
 | x :: p=>by cases x <;> simp [inc,inc_len p]
def last:Id→Bool
 | []=>true
 | .d :: r=>last r
 | _=>false
theorem inc_num:∀p:Id,last p=false→num (inc p)=num p+1
 | [],h=>by cases h
 | x :: p,h=>by
  cases x <;> simp only [inc,num] <;> try omega
  have:=inc_num p (by simpa [last] using h)
  omega
end Go.Proofs.YtnfokaecobddkaaGreatDoor.Clo
end
section
namespace Go.Proofs.YtnfokaecobddkaaGreatDoor.Clo
open Go.RowKit
set_option linter.unusedVariables false
set_option linter.unusedSimpArgs false
def DB:Nat:=8
def FzR (fz:Option Nat) (m:Nat×Nat) (K:Nat):Prop:=match fz with
 | some z=>∀i,i < K→m.1≤i→i < m.2→i < z
 | none=>True
inductive Blk where
 | row (t:TypeId) (grow:Bool) (fz:Option Nat) (ro:Bool) (cells:AV)
 | tab (l:AV)
 | iter (s:List Nat) (pos:Nat)
def Blk.ro:Blk→Bool
 | .row _ _ _ ro _=>ro
 | _=>false
def ents (φ:Id→Option Plc):AV→List MapEntry→Prop
 | .nil,l=>l=[]
 | .cons (.cons k v) r,l=>∃e es,l=e :: es∧VR φ k e.key∧VR φ v e.val∧ents φ r es
 | _,_=>False
def Blk.says (φ:Id→Option Plc) (K:Nat):Blk→Obj→Prop
 | .row t grow fz _ cells,o=>∃(c:Array Value) (l rest:List Value) (m:Nat×Nat),o=.cells c t m∧c.toList=l++rest∧VL φ cells l∧(grow=false→rest=[])∧c.size=K∧FzR fz m K
 | .tab l,o=>∃es k,o=.map es k∧ents φ l es.toList
 | .iter s p,o=>o=.stringIter (bytesOf s) p
theorem ents_more {φ ψ:Id→Option Plc} (h:More φ ψ):∀(x:AV) (l:List MapEntry),ents φ x l→ents ψ x l
 | .nil,_,k=>k
 | .cons (.cons k v) r,l,⟨e,es,h1,h2,h3,h4⟩=>⟨e,es,h1,h2.more h,h3.more h,ents_more h r es h4⟩
theorem Blk.says_more {φ ψ:Id→Option Plc} (h:More φ ψ) {K:Nat} {x:Blk} {o:Obj} (k:x.says φ K o):x.says ψ K o:=by
 cases x with
 | row t grow fz ro cells=>obtain⟨c,l,rest,m,h1,h2,h3,h4⟩:=k;exact⟨c,l,rest,m,h1,h2,h3.more h,h4⟩
 | tab l=>obtain⟨es,c,h1,h2⟩:=k;exact⟨es,c,h1,ents_more h l _ h2⟩
 | iter s p=>exact k
abbrev Mem:=T4 Blk
structure WR (φ:Id→Option Plc) (B:Nat) (h:Mem) (nx:Id) (w:World):Prop where
 len:nx.length=DB
 fresh:∀r,h.get r≠none∨φ r≠none→r.length=DB∧num r < num nx
 blk:∀r x g,h.get r=some x→φ r=some g→∃o,w.heap[g.1]? = some o∧x.says φ g.2 o
 inj:∀r r' x x' g g',h.get r=some x→h.get r'=some x'→φ r=some g→φ r'=some g'→g.1=g'.1→r=r'
 lt:∀r g,φ r=some g→g.1 < w.heap.size
 base:∀r x g,h.get r=some x→x.ro=false→φ r=some g→B≤g.1
 bsz:B≤w.heap.size
structure RW (φ:Id→Option Plc) (h:Mem) (w:World):Prop where
 blk:∀r x g,h.get r=some x→φ r=some g→∃o,w.heap[g.1]? = some o∧x.says φ g.2 o
theorem WR.rw {φ:Id→Option Plc} {B:Nat} {h:Mem} {nx:Id} {w:World} (hw:WR φ B h nx w):RW φ h w:=⟨hw.blk⟩
def Own (φ:Id→Option Plc) (h:Mem) (b:Nat):Prop:=∃r x g,h.get r=some x∧x.ro=false∧φ r=some g∧g.1=b
structure Step (φ:Id→Option Plc) (h:Mem) (nx:Id) (w:World) (ψ:Id→Option Plc) (h':Mem) (nx':Id) (w':World):Prop where
 more:More φ ψ
 os:w'.os=w.os
 tape:w'.tape=w.tape
 out:w'.output=w.output
 size:w.heap.size≤w'.heap.size
 keep:∀g,g < w.heap.size→¬Own φ h g→w'.heap[g]? = w.heap[g]?
 back:∀g,g < w.heap.size→Own ψ h' g→Own φ h g
 ghost:∀r x,h.get r=some x→φ r=none→h'.get r=some x∧ψ r=none
 next:num nx≤num nx'
 old:∀r,r.length=DB→num r < num nx→ψ r=φ r
section
variable {φ ψ χ:Id→Option Plc} {h h' h'':Mem} {nx nx' nx'':Id} {w w' w'':World} {B:Nat}
theorem Step.refl:Step φ h nx w φ h nx w:=⟨.refl _,rfl,rfl,rfl,Nat.le_refl _,fun _ _ _=>rfl,fun _ _ h=>h,fun _ _ h k=>⟨h,k⟩,Nat.le_refl _,fun _ _ _=>rfl⟩
theorem Step.trans (a:Step φ h nx w ψ h' nx' w') (b:Step ψ h' nx' w' χ h'' nx'' w''):Step φ h nx w χ h'' nx'' w'' where
 more:=a.more.trans b.more
 os:=b.os.trans a.os
 tape:=b.tape.trans a.tape
 out:=b.out.trans a.out
 size:=Nat.le_trans a.size b.size
 keep g hg hn:=(b.keep g (Nat.lt_of_lt_of_le hg a.size) (fun ho=>hn (a.back g hg ho))).trans (a.keep g hg hn)
 back g hg ho:=a.back g hg (b.back g (Nat.lt_of_lt_of_le hg a.size) ho)
 ghost r x hr hn:=by
  obtain⟨h1,h2⟩:=a.ghost r x hr hn
  exact b.ghost r x h1 h2
 next:=Nat.le_trans a.next b.next
 old r hl hr:=(b.old r hl (Nat.lt_of_lt_of_le hr a.next)).trans (a.old r hl hr)
theorem Step.below (hw:WR φ B h nx w) (a:Step φ h nx w ψ h' nx' w'):Below B w w':=
 ⟨a.os,a.tape,a.out,a.size,fun b hb=>a.keep b (Nat.lt_of_lt_of_le hb hw.bsz) (fun⟨r,x,g,h1,h2,h3,h4⟩=>by have:=hw.base r x g h1 h2 h3;omega)⟩
end
structure NewW (w:World) (o:Obj) (w':World):Prop where
 os:w'.os=w.os
 tape:w'.tape=w.tape
 out:w'.output=w.output
 size:w'.heap.size=w.heap.size+1
 old:∀j,j < w.heap.size→w'.heap[j]? = w.heap[j]?
 at':w'.heap[w.heap.size]? = some o
theorem NewW.alloc (w:World) (o:Obj):NewW w o (w.alloc o):=⟨rfl,rfl,rfl,by simp,fun j hj=>Below.heap_alloc w o j hj,heap_alloc_new w o⟩
def ext (φ:Id→Option Plc) (r:Id) (g:Plc):Id→Option Plc:=fun q=>if q=r then some g else φ q
theorem ext_same (φ:Id→Option Plc) (r:Id) (g:Plc):ext φ r g r=some g:=by simp [ext]
theorem ext_other (φ:Id→Option Plc) {r q:Id} (g:Plc) (h:q≠r):ext φ r g q=φ q:=by simp [ext,h]
theorem ext_more {φ:Id→Option Plc} {r:Id} (g:Plc) (h:φ r=none):More φ (ext φ r g):=fun q k e=>by
 by_cases hq:q=r
 ·subst hq;rw [h] at e;cases e
 ·rw [ext_other φ g hq];exact e
section
variable {φ:Id→Option Plc} {h:Mem} {nx:Id} {w:World} {B:Nat}
theorem WR.nx_none (hw:WR φ B h nx w):h.get nx=none∧φ nx=none:=by
 constructor
 ·cases e:h.get nx with
  | none=>rfl
  | some x=>have:=(hw.fresh nx (.inl (by rw [e];simp))).2;omega
 ·cases e:φ nx with
  | none=>rfl
  | some x=>have:=(hw.fresh nx (.inr (by rw [e];simp))).2;omega
theorem WR.new (hw:WR φ B h nx w) (hl:last nx=false) {x:Blk} {o:Obj} {K:Nat} {w':World} (hx:x.says φ K o) (hn:NewW w o w') :
  WR (ext φ nx (w.heap.size,K)) B (h.set nx x) (inc nx) w'∧Step φ h nx w (ext φ nx (w.heap.size,K)) (h.set nx x) (inc nx) w':=by
 obtain⟨hn1,hn2⟩:=hw.nx_none
 have hm:More φ (ext φ nx (w.heap.size,K)):=ext_more _ hn2
 have hinc:=inc_num nx hl
 have hd:nx.length=DB:=hw.len
 have hne:∀r,h.get r≠none∨φ r≠none→r≠nx:=fun r hr e=>by subst e;have:=(hw.fresh _ hr).2;omega
 have back:∀r y,(h.set nx x).get r=some y→r≠nx→h.get r=some y:=fun r y e hr=>T4.get_of_set x nx r h y e hr
 have same:(h.set nx x).get nx=some x:=T4.get_set_same x nx h
 have fwd:∀r y,h.get r=some y→(h.set nx x).get r=some y:=fun r y e=>by
  have hf:=hw.fresh r (.inl (by rw [e];simp))
  exact(T4.get_set_other x nx r h (hd.trans hf.1.symm) (hne r (.inl (by rw [e];simp)))).trans e
 have hlt:∀r g,φ r=some g→g.1≠w.heap.size:=fun r g e=>Nat.ne_of_lt (hw.lt r g e)
 constructor
 ·refine⟨by rw [inc_len];exact hd,fun r hr=>?_,fun r y g hr hg=>?_,fun r r' y y' g g' hr hr' hg hg' hgg=>?_,fun r g hg=>?_,fun r y g hr hy hg=>?_,by rw [hn.size];have:=hw.bsz;omega⟩
  ·by_cases hq:r=nx
   ·subst hq;exact⟨hd,by rw [hinc];omega⟩
   ·have:h.get r≠none∨φ r≠none:=by
     rcases hr with hr|hr
     ·left
      cases e:(h.set nx x).get r with
      | none=>exact absurd e hr
      | some y=>rw [back r y e hq];simp
     ·right;rw [ext_other φ _ hq] at hr;exact hr
    have hf:=hw.fresh r this
    exact⟨hf.1,by rw [hinc];omega⟩
  ·by_cases hq:r=nx
   ·subst hq
    rw [same] at hr
    rw [ext_same] at hg
    cases hr;cases hg
    exact⟨o,hn.at',Blk.says_more hm hx⟩
   ·rw [ext_other φ _ hq] at hg
    obtain⟨o',h1,h2⟩:=hw.blk r y g (back r y hr hq) hg
    exact⟨o',(hn.old g.1 (hw.lt r g hg)).trans h1,Blk.says_more hm h2⟩
  ·by_cases hq:r=nx
   ·subst hq
    rw [ext_same] at hg
    cases hg
    by_cases hq':r'=r
    ·exact hq'.symm
    ·rw [ext_other φ _ hq'] at hg'
     exact absurd hgg.symm (hlt r' _ hg')
   ·rw [ext_other φ _ hq] at hg
    by_cases hq':r'=nx
    ·subst hq'
     rw [ext_same] at hg'
     cases hg'
     exact absurd hgg (hlt r _ hg)
    ·rw [ext_other φ _ hq'] at hg'
     exact hw.inj r r' y y' g g' (back r y hr hq) (back r' y' hr' hq') hg hg' hgg
  ·by_cases hq:r=nx
   ·subst hq;rw [ext_same] at hg;cases hg;show w.heap.size < _;rw [hn.size];omega
   ·rw [ext_other φ _ hq] at hg;have:=hw.lt r g hg;rw [hn.size];omega
  ·by_cases hq:r=nx
   ·subst hq;rw [ext_same] at hg;cases hg;exact hw.bsz
   ·rw [ext_other φ _ hq] at hg;exact hw.base r y g (back r y hr hq) hy hg
 ·refine⟨hm,hn.os,hn.tape,hn.out,by rw [hn.size];omega,fun g hg _=>hn.old g hg,fun g hg ⟨r,y,g',h1,h2,h3,h4⟩=>?_,fun r y hr hn'=>⟨fwd r y hr,by rw [ext_other φ _ (hne r (.inl (by rw [hr];simp)))];exact hn'⟩,by rw [hinc];omega,fun r hr hl=>ext_other φ _ (fun e=>by subst e;omega)⟩
  by_cases hq:r=nx
  ·subst hq;rw [ext_same] at h3;cases h3;simp only at h4;omega
  ·rw [ext_other φ _ hq] at h3
   exact⟨r,y,g',back r y h1 hq,h2,h3,h4⟩
theorem WR.put (hw:WR φ B h nx w) {r:Id} {x y:Blk} {g:Plc} {w':World} {o:Obj} (hr:h.get r=some x) (hx:x.ro=false) (hy:y.ro=false) (hg:φ r=some g)
  (hos:w'.os=w.os) (htape:w'.tape=w.tape) (hout:w'.output=w.output) (hsz:w'.heap.size=w.heap.size) (hkeep:∀k,k≠g.1→w'.heap[k]? = w.heap[k]?) (hat:w'.heap[g.1]? = some o) (ho:y.says φ g.2 o) :
  WR φ B (h.set r y) nx w'∧Step φ h nx w φ (h.set r y) nx w':=by
 have hrl:=(hw.fresh r (.inl (by rw [hr];simp))).1
 have back:∀q z,(h.set r y).get q=some z→q≠r→h.get q=some z:=fun q z e hq=>T4.get_of_set y r q h z e hq
 have same:(h.set r y).get r=some y:=T4.get_set_same y r h
 have fwd:∀q z,h.get q=some z→q≠r→(h.set r y).get q=some z:=fun q z e hq=>by
  have hf:=hw.fresh q (.inl (by rw [e];simp))
  exact(T4.get_set_other y r q h (hrl.trans hf.1.symm) hq).trans e
 constructor
 ·refine⟨hw.len,fun q hq=>hw.fresh q ?_,fun q z k hq hk=>?_,fun q q' z z' k k' hq hq' hk hk' hkk=>?_,fun q k hk=>by rw [hsz];exact hw.lt q k hk,fun q z k hq hz hk=>?_,by rw [hsz];exact hw.bsz⟩
  ·rcases hq with hq|hq
   ·left
    by_cases e:q=r
    ·subst e;rw [hr];simp
    ·cases e':(h.set r y).get q with
     | none=>exact absurd e' hq
     | some z=>rw [back q z e' e];simp
   ·exact .inr hq
  ·by_cases e:q=r
   ·subst e
    rw [same] at hq
    rw [hg] at hk
    cases hq;cases hk
    exact⟨o,hat,ho⟩
   ·have hz:=back q z hq e
    obtain⟨o',h1,h2⟩:=hw.blk q z k hz hk
    exact⟨o',(hkeep k.1 (fun ek=>e (hw.inj q r z x _ _ hz hr hk hg ek))).trans h1,h2⟩
  ·have hz:∃z0,h.get q=some z0:=by
    by_cases e:q=r
    ·exact⟨x,by rw [e];exact hr⟩
    ·exact⟨z,back q z hq e⟩
   have hz':∃z0,h.get q'=some z0:=by
    by_cases e:q'=r
    ·exact⟨x,by rw [e];exact hr⟩
    ·exact⟨z',back q' z' hq' e⟩
   obtain⟨z0,hz⟩:=hz
   obtain⟨z0',hz'⟩:=hz'
   exact hw.inj q q' z0 z0' k k' hz hz' hk hk' hkk
  ·by_cases e:q=r
   ·subst e;exact hw.base q x k hr hx hk
   ·exact hw.base q z k (back q z hq e) hz hk
 ·refine⟨.refl _,hos,htape,hout,by rw [hsz];exact Nat.le_refl _,fun k hk hn=>hkeep k (fun e=>hn (by subst e;exact⟨r,x,g,hr,hx,hg,rfl⟩)),fun k hk ⟨q,z,g',h1,h2,h3,h4⟩=>?_,fun q z hq hn=>⟨fwd q z hq (fun e=>by subst e;rw [hg] at hn;cases hn),hn⟩,Nat.le_refl _,fun _ _ _=>rfl⟩
  by_cases e:q=r
  ·subst e;exact⟨q,x,g',hr,hx,h3,h4⟩
  ·exact⟨q,z,g',back q z h1 e,h2,h3,h4⟩
end
end Go.Proofs.YtnfokaecobddkaaGreatDoor.Clo
end
section
namespace Go.Proofs.YtnfokaecobddkaaGreatDoor.Clo
open Go.RowKit
set_option linter.unusedVariables false
set_option linter.unusedSimpArgs false
def Runs {α:Type} (P:Program) (s:Sem α) (w:World) (Q:α→World→Prop):Prop:=∃a w',s.run P w=.ok a w'∧Q a w'
section
variable {α β:Type} {P:Program} {w:World}
theorem Runs.pure {a:α} {Q:α→World→Prop} (h:Q a w):Runs P (Pure.pure a:Sem α) w Q:=⟨a,w,rfl,h⟩
theorem Runs.ret {a:α} {Q:α→World→Prop} (h:Q a w):Runs P (Sem.pure a) w Q:=⟨a,w,rfl,h⟩
theorem Runs.bind {s:Sem α} {f:α→Sem β} {Q:β→World→Prop} (h:Runs P s w fun a w'=>Runs P (f a) w' Q):Runs P (s >>= f) w Q:=by
 obtain⟨a,w1,h1,b,w2,h2,h3⟩:=h
 refine⟨b,w2,?_,h3⟩
 rw [Sem.run_bind,h1]
 exact h2
theorem Runs.mono {s:Sem α} {Q R:α→World→Prop} (h:Runs P s w Q) (k:∀a w,Q a w→R a w):Runs P s w R:=by
 obtain⟨a,w1,h1,h2⟩:=h
 exact⟨a,w1,h1,k _ _ h2⟩
theorem Runs.of {s:Sem α} {a:α} {w':World} {Q:α→World→Prop} (h:s.run P w=.ok a w') (k:Q a w'):Runs P s w Q:=⟨a,w',h,k⟩
theorem runs_underlying {t:TypeId} {d:TypeDesc} {Q:TypeDesc→World→Prop} (hd:P.underlying t=some d) (h:Q d w):Runs P (underlying t) w Q:=by
 refine⟨d,w,?_,h⟩
 unfold underlying
 rw [Sem.run_bind]
 show(match P.underlying t with|some d=>Pure.pure d|none=>stuck "no such type":Sem TypeDesc).run P w=_
 rw [hd]
 rfl
theorem runs_typeInfo {t:TypeId} {d:TypeInfo} {Q:TypeInfo→World→Prop} (hd:P.info? t=some d) (h:Q d w):Runs P (typeInfo t) w Q:=by
 refine⟨d,w,?_,h⟩
 unfold typeInfo
 rw [Sem.run_bind]
 show(match P.info? t with|some d=>Pure.pure d|none=>stuck "no such type":Sem TypeInfo).run P w=_
 rw [hd]
 rfl
theorem runs_sizeOf {t:TypeId} {d:TypeInfo} {Q:Nat→World→Prop} (hd:P.info? t=some d) (h:Q d.size w):Runs P (sizeOf t) w Q:=by
 unfold sizeOf
 exact .bind (runs_typeInfo hd (.pure h))
def aggT (P:Program) (t:TypeId):Option Bool:=match P.underlying t with
 | some (.struct _)|some (.array _ _)=>some true
 | some _=>some false
 | none=>none
theorem runs_isAgg {t:TypeId} {b:Bool} {Q:Bool→World→Prop} (hd:aggT P t=some b) (h:Q b w):Runs P (isAgg t) w Q:=by
 unfold isAgg
 unfold aggT at hd
 cases hu:P.underlying t with
 | none=>rw [hu] at hd;cases hd
 | some d=>
  rw [hu] at hd
  refine .bind (runs_underlying hu ?_)
  cases d <;> simp only [Option.some.injEq] at hd <;> subst hd <;> exact .pure h
theorem runs_load {a:Addr} {v:Value} {Q:Value→World→Prop} (hv:w.cell? a=some v) (h:Q v w):Runs P (load a) w Q:=by
 refine⟨v,w,?_,h⟩
 simp [load,Sem.run,hv]
end
def AV.len:AV→Nat
 | .cons _ r=>r.len+1
 | _=>0
noncomputable def AV.at (n:Nat):AV→AV:=
 Nat.rec (motive:=fun _=>AV→AV) (fun l=>match l with|.cons x _=>x|_=>.u) (fun _ ih l=>match l with|.cons _ r=>ih r|_=>.u) n
noncomputable def AV.drop (n:Nat):AV→AV:=
 Nat.rec (motive:=fun _=>AV→AV) (fun l=>l) (fun _ ih l=>match l with|.cons _ r=>ih r|_=>.nil) n
noncomputable def AV.take (n:Nat):AV→AV:=
 Nat.rec (motive:=fun _=>AV→AV) (fun _=>.nil) (fun _ ih l=>match l with|.cons x r=>.cons x (ih r)|_=>.nil) n
noncomputable def AV.setAt (n:Nat):AV→AV→AV:=
 Nat.rec (motive:=fun _=>AV→AV→AV) (fun v l=>match l with|.cons _ r=>.cons v r|l=>l) (fun _ ih v l=>match l with|.cons x r=>.cons x (ih v r)|l=>l) n
def AV.app:AV→AV→AV
 | .cons x r,m=>.cons x (r.app m)
 | _,m=>m
section
variable {φ:Id→Option Plc}
theorem VL.nil:VL φ .nil []:=rfl
theorem VL.cons {x r:AV} {v:Value} {vs:List Value} (h:VR φ x v) (k:VL φ r vs):VL φ (.cons x r) (v :: vs):=⟨v,vs,rfl,h,k⟩
theorem VL.len:∀{x:AV} {l:List Value},VL φ x l→l.length=x.len
 | .nil,l,h=>by have:l=[]:=h;subst this;rfl
 | .cons x r,l,⟨v,vs,e,_,h⟩=>by subst e;simp [AV.len,VL.len h]
theorem VL.at:∀{x:AV} {l:List Value} (_:VL φ x l) {i:Nat} {v:Value},l[i]? = some v→VR φ (x.at i) v
 | .nil,l,h,i,v,hv=>by have:l=[]:=h;subst this;simp at hv
 | .cons x r,l,⟨v0,vs,e,h1,h2⟩,0,v,hv=>by subst e;simp at hv;subst hv;exact h1
 | .cons x r,l,⟨v0,vs,e,h1,h2⟩,i+1,v,hv=>by subst e;simp at hv;exact VL.at h2 hv
theorem VL.drop:∀(n:Nat) {x:AV} {l:List Value},VL φ x l→VL φ (x.drop n) (l.drop n)
 | 0,x,l,h=>h
 | n+1,.nil,l,h=>by have:l=[]:=h;subst this;exact rfl
 | n+1,.cons x r,l,⟨v,vs,e,h1,h2⟩=>by subst e;exact VL.drop n h2
theorem VL.take:∀(n:Nat) {x:AV} {l:List Value},VL φ x l→VL φ (x.take n) (l.take n)
 | 0,x,l,h=>rfl
 | n+1,.nil,l,h=>by have:l=[]:=h;subst this;exact rfl
 | n+1,.cons x r,l,⟨v,vs,e,h1,h2⟩=>by subst e;exact⟨v,_,rfl,h1,VL.take n h2⟩
theorem VL.setAt:∀(n:Nat) {x y:AV} {l:List Value} {v:Value},VL φ x l→VR φ y v→VL φ (AV.setAt n y x) (l.set n v)
 | n,.nil,y,l,v,h,k=>by have:l=[]:=h;subst this;cases n <;> exact rfl
 | 0,.cons x r,y,l,v,⟨v0,vs,e,h1,h2⟩,k=>by subst e;exact⟨v,vs,rfl,k,h2⟩
 | n+1,.cons x r,y,l,v,⟨v0,vs,e,h1,h2⟩,k=>by subst e;exact⟨v0,_,rfl,h1,VL.setAt n h2 k⟩
theorem VL.app:∀{x y:AV} {l m:List Value},VL φ x l→VL φ y m→VL φ (x.app y) (l++m)
 | .nil,y,l,m,h,k=>by have:l=[]:=h;subst this;exact k
 | .cons x r,y,l,m,⟨v,vs,e,h1,h2⟩,k=>by subst e;exact⟨v,_,rfl,h1,VL.app h2 k⟩
end
end Go.Proofs.YtnfokaecobddkaaGreatDoor.Clo
end
section
namespace Go.Proofs.YtnfokaecobddkaaGreatDoor.Clo
open Go.RowKit
set_option linter.unusedVariables false
set_option linter.unusedSimpArgs false
theorem add_lit (g o n:Nat):(⟨g,o,none⟩:Addr).add n=⟨g,o+n,none⟩:=by
 unfold Addr.add
 split <;> simp_all
section
variable {φ:Id→Option Plc} {h:Mem} {nx:Id} {w:World} {B:Nat} {P:Program}
theorem RW.row (hw:RW φ h w) {r:Id} {t:TypeId} {gr:Bool} {fz:Option Nat} {ro:Bool} {cells:AV} {g:Plc} (hr:h.get r=some (.row t gr fz ro cells)) (hg:φ r=some g) :
  ∃(c:Array Value) (l rest:List Value) (m:Nat×Nat),w.heap[g.1]? = some (.cells c t m)∧c.toList=l++rest∧VL φ cells l∧(gr=false→rest=[])∧c.size=g.2∧FzR fz m g.2:=by
 obtain⟨o,h1,c,l,rest,m,h2,h3,h4,h5,h6⟩:=hw.blk r _ g hr hg
 exact⟨c,l,rest,m,by rw [h1,h2],h3,h4,h5,h6⟩
theorem cell_row {c:Array Value} {l rest:List Value} {t:TypeId} {fr:Nat×Nat} {g i:Nat} {v:Value} (h1:w.heap[g]? = some (.cells c t fr)) (h2:c.toList=l++rest) (hv:l[i]? = some v):w.cell? ⟨g,i,none⟩=some v:=by
 rw [cell_of_row w g i c t fr h1,←Array.getElem?_toList,h2,List.getElem?_append_left (List.getElem?_eq_some_iff.1 hv).1]
 exact hv
theorem RW.cell (hw:RW φ h w) {r:Id} {t:TypeId} {gr:Bool} {fz:Option Nat} {ro:Bool} {cells:AV} {g:Plc} {i:Nat} (hr:h.get r=some (.row t gr fz ro cells)) (hg:φ r=some g) (hi:i < cells.len) :
  ∃v,w.cell? ⟨g.1,i,none⟩=some v∧VR φ (cells.at i) v:=by
 obtain⟨c,l,rest,m,h1,h2,h3,_⟩:=hw.row hr hg
 have hl:=VL.len h3
 have hv:l[i]? = some (l[i]'(by omega)):=List.getElem?_eq_getElem (by omega)
 exact⟨_,cell_row h1 h2 hv,VL.at h3 hv⟩
theorem RW.cells (hw:RW φ h w) {r:Id} {t:TypeId} {gr:Bool} {fz:Option Nat} {ro:Bool} {cells:AV} {g:Plc} {o n:Nat} (hr:h.get r=some (.row t gr fz ro cells)) (hg:φ r=some g) (hn:o+n≤cells.len) :
  ∃vs:List Value,(loadCells ⟨g.1,o,none⟩ n).run P w=.ok vs.toArray w∧VL φ ((cells.drop o).take n) vs∧vs.length=n∧∀j v,vs[j]? = some v→w.cell? ⟨g.1,o+j,none⟩=some v:=by
 obtain⟨c,l,rest,m,h1,h2,h3,_⟩:=hw.row hr hg
 have hl:=VL.len h3
 have hlen:((l.drop o).take n).length=n:=by rw [List.length_take,List.length_drop];omega
 have hat:∀j v,((l.drop o).take n)[j]? = some v→w.cell? ⟨g.1,o+j,none⟩=some v:=fun j v hv=>by
  refine cell_row h1 h2 ?_
  rw [List.getElem?_take] at hv
  split at hv
  ·rw [List.getElem?_drop] at hv;exact hv
  ·cases hv
 refine⟨(l.drop o).take n,?_,VL.take n (VL.drop o h3),hlen,hat⟩
 have:=run_loadCells_list (P:=P) (w:=w) ⟨g.1,o,none⟩ ((l.drop o).take n) (fun j v hv=>by rw [add_lit];exact hat j v hv)
 rw [hlen] at this
 exact this
noncomputable def AV.setMany0:AV→Nat→AV→AV
 | .cons y r,o,x=>r.setMany0 (o+1) (AV.setAt o y x)
 | _,_,x=>x
noncomputable def AV.setMany (y:AV) (o:Nat) (x:AV):AV:=
 Bool.rec (motive:=fun _=>AV) (y.setMany0 o x) (Bool.rec (motive:=fun _=>AV) (y.setMany0 o x) y (Nat.beq y.len x.len)) (Nat.beq o 0)
def setManyA:List Value→Nat→Array Value→Array Value
 | [],_,c=>c
 | v :: r,o,c=>setManyA r (o+1) (c.setIfInBounds o v)
theorem setCell_row (w:World) (g o:Nat) (c:Array Value) (t:TypeId) (fr:Nat×Nat) (v:Value) (h:w.heap[g]? = some (.cells c t fr)):(w.setCell ⟨g,o,none⟩ v).heap[g]? = some (.cells (c.setIfInBounds o v) t fr):=by
 simp [World.setCell,Array.getElem?_modify,h]
theorem setCells_row (g:Nat) (t:TypeId) (fr:Nat×Nat):∀(vs:List Value) (o:Nat) (w:World) (c:Array Value),w.heap[g]? = some (.cells c t fr)→(w.setCells g o vs).heap[g]? = some (.cells (setManyA vs o c) t fr)
 | [],_,_,_,h=>h
 | v :: r,o,w,c,h=>setCells_row g t fr r (o+1) _ _ (setCell_row w g o c t fr v h)
theorem setCells_other (g:Nat):∀(vs:List Value) (o:Nat) (w:World) (k:Nat),k≠g→(w.setCells g o vs).heap[k]? = w.heap[k]?
 | [],_,_,_,_=>rfl
 | v :: r,o,w,k,h=>(setCells_other g r (o+1) _ k h).trans (heap_setCell_other w _ k _ h)
theorem setCells_meta (g:Nat):∀(vs:List Value) (o:Nat) (w:World),(w.setCells g o vs).os=w.os∧(w.setCells g o vs).tape=w.tape∧(w.setCells g o vs).output=w.output∧(w.setCells g o vs).heap.size=w.heap.size
 | [],_,_=>⟨rfl,rfl,rfl,rfl⟩
 | v :: r,o,w=>by
  obtain⟨h1,h2,h3,h4⟩:=setCells_meta g r (o+1) (w.setCell ⟨g,o,none⟩ v)
  exact⟨h1,h2,h3,h4.trans (by simp [World.setCell])⟩
theorem setManyA_size:∀(vs:List Value) (o:Nat) (c:Array Value),(setManyA vs o c).size=c.size
 | [],_,_=>rfl
 | v :: r,o,c=>(setManyA_size r (o+1) _).trans (by simp)
theorem VL.setMany0:∀{y x:AV} {vs l rest:List Value} {o:Nat} {c:Array Value},VL φ y vs→VL φ x l→c.toList=l++rest→o+vs.length≤l.length→
  ∃l',(setManyA vs o c).toList=l'++rest∧VL φ (y.setMany0 o x) l'
 | .nil,x,vs,l,rest,o,c,h,k,e,hl=>by have:vs=[]:=h;subst this;exact⟨l,e,k⟩
 | .cons y r,x,vs,l,rest,o,c,⟨v,vs',e',h1,h2⟩,k,e,hl=>by
  subst e'
  simp only [List.length_cons] at hl
  have e2:(c.setIfInBounds o v).toList=l.set o v++rest:=by rw [Array.toList_setIfInBounds,e,List.set_append_left _ _ (by omega)]
  have:=VL.setMany0 h2 (VL.setAt o k h1) e2 (o:=o+1) (by rw [List.length_set];omega)
  exact this
theorem setManyA_all:∀(vs:List Value) (o:Nat) (c:Array Value) (a l rest:List Value),c.toList=a++(l++rest)→a.length=o→vs.length=l.length→(setManyA vs o c).toList=a++(vs++rest)
 | [],o,c,a,l,rest,h,ha,hl=>by
  have:l=[]:=List.length_eq_zero_iff.1 hl.symm
  subst this
  exact h
 | v :: r,o,c,a,l,rest,h,ha,hl=>by
  cases l with
  | nil=>cases hl
  | cons y l=>
  have e:(c.setIfInBounds o v).toList=(a++[v])++(l++rest):=by
   rw [Array.toList_setIfInBounds,h,←ha,List.set_append_right _ _ (Nat.le_refl _)]
   simp
  have:=setManyA_all r (o+1) (c.setIfInBounds o v) (a++[v]) l rest e (by simp [ha]) (by simpa using hl)
  simpa [setManyA] using this
theorem VL.setMany {y x:AV} {vs l rest:List Value} {o:Nat} {c:Array Value} (h:VL φ y vs) (k:VL φ x l) (e:c.toList=l++rest) (hl:o+vs.length≤l.length) :
  ∃l',(setManyA vs o c).toList=l'++rest∧VL φ (y.setMany o x) l':=by
 have slow:=VL.setMany0 h k e hl
 unfold AV.setMany
 cases h1:Nat.beq o 0 with
 | false=>exact slow
 | true=>
  cases h2:Nat.beq y.len x.len with
  | false=>exact slow
  | true=>
   have h1':=Nat.eq_of_beq_eq_true h1
   have h2':=Nat.eq_of_beq_eq_true h2
   subst h1'
   have hv:=VL.len h
   have hx:=VL.len k
   exact⟨vs,setManyA_all vs 0 c [] l rest e rfl (by omega),h⟩
def okF (fz:Option Nat) (q:Nat):Bool:=match fz with
 | some z=>Nat.ble z q
 | none=>false
theorem okF_not {fz:Option Nat} {q i K:Nat} {m:Nat×Nat} (h:okF fz q=true) (hm:FzR fz m K) (hi:i < K) (hq:q≤i):¬(m.1≤i∧i < m.2):=by
 intro ⟨h1,h2⟩
 cases fz with
 | none=>cases h
 | some z=>
  have:=hm i hi h1 h2
  have hz:z≤q:=Nat.le_of_ble_eq_true h
  omega
theorem WR.store (hw:WR φ B h nx w) {r:Id} {t:TypeId} {gr:Bool} {fz:Option Nat} {cells:AV} {g:Plc} {o:Nat} (hr:h.get r=some (.row t gr fz false cells)) (hg:φ r=some g) {y:AV} {vs:List Value} (hy:VL φ y vs) (hn:o+vs.length≤cells.len) (hf:okF fz o=true) (h1:∀v∈vs,v.oneCell'=true) :
  (storeCells ⟨g.1,o,none⟩ vs).run P w=.ok () (w.setCells g.1 o vs)∧WR φ B (h.set r (.row t gr fz false (y.setMany o cells))) nx (w.setCells g.1 o vs)∧Step φ h nx w φ (h.set r (.row t gr fz false (y.setMany o cells))) nx (w.setCells g.1 o vs):=by
 obtain⟨c,l,rest,m,e1,e2,e3,e4,e7,e8⟩:=hw.rw.row hr hg
 have hl:=VL.len e3
 obtain⟨l',e5,e6⟩:=VL.setMany hy e3 e2 (o:=o) (by omega)
 obtain⟨m1,m2,m3,m4⟩:=setCells_meta g.1 vs o w
 refine⟨?_,hw.put hr rfl rfl hg m1 m2 m3 m4 (fun k hk=>setCells_other g.1 vs o w k hk) (setCells_row g.1 t m vs o w c e1) ⟨_,l',rest,m,rfl,e5,e6,e4,by rw [setManyA_size];exact e7,e8⟩⟩
 have hst:=run_storeCells_cells (P:=P) g.1 o vs 0 w (fun j hj=>?_) (fun j hj=>?_) h1
 ·simpa using hst
 ·have hv:l[o+j]? = some (l[o+j]'(by omega)):=List.getElem?_eq_getElem (by omega)
  rw [Nat.add_zero,cell_row e1 e2 hv];rfl
 ·have hlt:o+j < g.2:=by rw [←e7,←Array.length_toList,e2,List.length_append];omega
  have hno:=okF_not (i:=o+j) hf e8 hlt (by omega)
  unfold World.frozen?
  rw [e1]
  simp only [Nat.add_zero,Bool.and_eq_false_iff,decide_eq_false_iff_not]
  by_cases h1:m.1≤o+j
  ·exact .inr fun h2=>hno ⟨h1,h2⟩
  ·exact .inl h1
end
end Go.Proofs.YtnfokaecobddkaaGreatDoor.Clo
end
section
namespace Go.Proofs.YtnfokaecobddkaaGreatDoor.Clo
open Go.RowKit
set_option linter.unusedVariables false
set_option linter.unusedSimpArgs false
inductive HP where|mk (m:Mem) (nx:Id)
def HP.m:HP→Mem|.mk m _=>m
def HP.nx:HP→Id|.mk _ n=>n
abbrev R:=Option (AV×HP)
abbrev Env:=List AV
abbrev Tr:=T4 AV
abbrev KV:=AV→HP→R
abbrev KP:=AV→HP→R
inductive Ex where|normal|exit (i:Nat)|ret|pan (v:AV)
abbrev KC:=Ex→Tr→HP→R
structure Hd where
 c:FuncId→AV→HP→KV→KP→R
 d:FuncId→AV→AV→HP→KV→R
inductive GV where|mk (f:Env→Tr→AV)
inductive OM where|mk (f:Hd→Env→Tr→HP→KV→KP→R)
inductive RM where|mk (f:Hd→Env→Tr→HP→KC→R)
inductive CM where|mk (f:Hd→Tr→HP→KC→R)
inductive FM where|mk (f:Hd→AV→HP→KV→KP→R)
noncomputable def GV.run (g:GV):Env→Tr→AV:=GV.rec (fun f=>f) g
noncomputable def OM.run (g:OM):Hd→Env→Tr→HP→KV→KP→R:=OM.rec (fun f=>f) g
noncomputable def RM.run (g:RM):Hd→Env→Tr→HP→KC→R:=RM.rec (fun f=>f) g
noncomputable def CM.run (g:CM):Hd→Tr→HP→KC→R:=CM.rec (fun f=>f) g
noncomputable def FM.run (g:FM):Hd→AV→HP→KV→KP→R:=FM.rec (fun f=>f) g
noncomputable def AV.on_cons (a:AV) (k:AV→AV→R):R:=AV.rec (motive:=fun _=>R) none none (fun x0 x1 _ _=>k x0 x1) none (fun _ _ _=>none) none (fun _ _ _ _ _=>none) none (fun _=>none) (fun _ _=>none) (fun _ _=>none) none (fun _ _ _ _=>none) (fun _ _ _ _=>none) (fun _=>none) none (fun _ _=>none) (fun _=>none) (fun _=>none) (fun _ _=>none) a
theorem AV.on_cons_some {a:AV} {k:AV→AV→R} {r:AV×HP} (h:a.on_cons k=some r):∃x0 x1,a=.cons x0 x1∧k x0 x1=some r:=by
 cases a <;> first|exact⟨_,_,rfl,h⟩|cases h
noncomputable def AV.on_ifc (a:AV) (k:TypeId→AV→R):R:=AV.rec (motive:=fun _=>R) none none (fun _ _ _ _=>none) none (fun x0 x1 _=>k x0 x1) none (fun _ _ _ _ _=>none) none (fun _=>none) (fun _ _=>none) (fun _ _=>none) none (fun _ _ _ _=>none) (fun _ _ _ _=>none) (fun _=>none) none (fun _ _=>none) (fun _=>none) (fun _=>none) (fun _ _=>none) a
theorem AV.on_ifc_some {a:AV} {k:TypeId→AV→R} {r:AV×HP} (h:a.on_ifc k=some r):∃x0 x1,a=.ifc x0 x1∧k x0 x1=some r:=by
 cases a <;> first|exact⟨_,_,rfl,h⟩|cases h
noncomputable def AV.on_fn (a:AV) (k:Fn→AV→AV→R):R:=AV.rec (motive:=fun _=>R) none none (fun _ _ _ _=>none) none (fun _ _ _=>none) none (fun x0 x1 x2 _ _=>k x0 x1 x2) none (fun _=>none) (fun _ _=>none) (fun _ _=>none) none (fun _ _ _ _=>none) (fun _ _ _ _=>none) (fun _=>none) none (fun _ _=>none) (fun _=>none) (fun _=>none) (fun _ _=>none) a
theorem AV.on_fn_some {a:AV} {k:Fn→AV→AV→R} {r:AV×HP} (h:a.on_fn k=some r):∃x0 x1 x2,a=.fn x0 x1 x2∧k x0 x1 x2=some r:=by
 cases a <;> first|exact⟨_,_,_,rfl,h⟩|cases h
noncomputable def AV.on_mp (a:AV) (k:Id→R):R:=AV.rec (motive:=fun _=>R) none none (fun _ _ _ _=>none) none (fun _ _ _=>none) none (fun _ _ _ _ _=>none) none k (fun _ _=>none) (fun _ _=>none) none (fun _ _ _ _=>none) (fun _ _ _ _=>none) (fun _=>none) none (fun _ _=>none) (fun _=>none) (fun _=>none) (fun _ _=>none) a
theorem AV.on_mp_some {a:AV} {k:Id→R} {r:AV×HP} (h:a.on_mp k=some r):∃x0,a=.mp x0∧k x0=some r:=by
 cases a <;> first|exact⟨_,rfl,h⟩|cases h
noncomputable def AV.on_tu (a:AV) (k:AV→R):R:=AV.rec (motive:=fun _=>R) none none (fun _ _ _ _=>none) none (fun _ _ _=>none) none (fun _ _ _ _ _=>none) none (fun _=>none) (fun x0 _=>k x0) (fun _ _=>none) none (fun _ _ _ _=>none) (fun _ _ _ _=>none) (fun _=>none) none (fun _ _=>none) (fun _=>none) (fun _=>none) (fun _ _=>none) a
theorem AV.on_tu_some {a:AV} {k:AV→R} {r:AV×HP} (h:a.on_tu k=some r):∃x0,a=.tu x0∧k x0=some r:=by
 cases a <;> first|exact⟨_,rfl,h⟩|cases h
noncomputable def AV.on_ag (a:AV) (k:AV→R):R:=AV.rec (motive:=fun _=>R) none none (fun _ _ _ _=>none) none (fun _ _ _=>none) none (fun _ _ _ _ _=>none) none (fun _=>none) (fun _ _=>none) (fun x0 _=>k x0) none (fun _ _ _ _=>none) (fun _ _ _ _=>none) (fun _=>none) none (fun _ _=>none) (fun _=>none) (fun _=>none) (fun _ _=>none) a
theorem AV.on_ag_some {a:AV} {k:AV→R} {r:AV×HP} (h:a.on_ag k=some r):∃x0,a=.ag x0∧k x0=some r:=by
 cases a <;> first|exact⟨_,rfl,h⟩|cases h
noncomputable def AV.on_p (a:AV) (k:Id→Nat→R):R:=AV.rec (motive:=fun _=>R) none none (fun _ _ _ _=>none) none (fun _ _ _=>none) none (fun _ _ _ _ _=>none) none (fun _=>none) (fun _ _=>none) (fun _ _=>none) none (fun _ _ _ _=>none) (fun _ _ _ _=>none) (fun _=>none) none k (fun _=>none) (fun _=>none) (fun _ _=>none) a
theorem AV.on_p_some {a:AV} {k:Id→Nat→R} {r:AV×HP} (h:a.on_p k=some r):∃x0 x1,a=.p x0 x1∧k x0 x1=some r:=by
 cases a <;> first|exact⟨_,_,rfl,h⟩|cases h
noncomputable def AV.on_s (a:AV) (k:List Nat→R):R:=AV.rec (motive:=fun _=>R) none none (fun _ _ _ _=>none) none (fun _ _ _=>none) none (fun _ _ _ _ _=>none) none (fun _=>none) (fun _ _=>none) (fun _ _=>none) none (fun _ _ _ _=>none) (fun _ _ _ _=>none) (fun _=>none) none (fun _ _=>none) k (fun _=>none) (fun _ _=>none) a
theorem AV.on_s_some {a:AV} {k:List Nat→R} {r:AV×HP} (h:a.on_s k=some r):∃x0,a=.s x0∧k x0=some r:=by
 cases a <;> first|exact⟨_,rfl,h⟩|cases h
noncomputable def AV.on_b (a:AV) (k:Bool→R):R:=AV.rec (motive:=fun _=>R) none none (fun _ _ _ _=>none) none (fun _ _ _=>none) none (fun _ _ _ _ _=>none) none (fun _=>none) (fun _ _=>none) (fun _ _=>none) none (fun _ _ _ _=>none) (fun _ _ _ _=>none) (fun _=>none) none (fun _ _=>none) (fun _=>none) k (fun _ _=>none) a
theorem AV.on_b_some {a:AV} {k:Bool→R} {r:AV×HP} (h:a.on_b k=some r):∃x0,a=.b x0∧k x0=some r:=by
 cases a <;> first|exact⟨_,rfl,h⟩|cases h
noncomputable def AV.on_i (a:AV) (k:IntKind→Int→R):R:=AV.rec (motive:=fun _=>R) none none (fun _ _ _ _=>none) none (fun _ _ _=>none) none (fun _ _ _ _ _=>none) none (fun _=>none) (fun _ _=>none) (fun _ _=>none) none (fun _ _ _ _=>none) (fun _ _ _ _=>none) (fun _=>none) none (fun _ _=>none) (fun _=>none) (fun _=>none) k a
theorem AV.on_i_some {a:AV} {k:IntKind→Int→R} {r:AV×HP} (h:a.on_i k=some r):∃x0 x1,a=.i x0 x1∧k x0 x1=some r:=by
 cases a <;> first|exact⟨_,_,rfl,h⟩|cases h
noncomputable def getT (p:Id):Tr→AV:=
 List.rec (motive:=fun _=>Tr→AV) (fun t=>T4.rec (motive:=fun _=>AV) .u (fun v=>v) (fun _ _ _ _ _ _ _ _=>.u) t)
  (fun q _ ih t=>T4.rec (motive:=fun _=>AV) .u (fun _=>.u) (fun a b c d _ _ _ _=>ih (D4.rec a b c d q)) t) p
theorem getT_get:∀(p:Id) (t:Tr),getT p t=(t.get p).getD .u
 | [],t=>by cases t <;> rfl
 | q :: p,t=>by cases t <;> first|rfl|exact getT_get p _
noncomputable def envAt (n:Nat):Env→AV:=
 Nat.rec (motive:=fun _=>Env→AV) (fun e=>List.rec (motive:=fun _=>AV) .u (fun v _ _=>v) e) (fun _ ih e=>List.rec (motive:=fun _=>AV) .u (fun _ r _=>ih r) e) n
def idx (d:Nat):List (Option Nat)→Option Nat
 | []=>none
 | x :: r=>if x=some d then some 0 else(idx d r).map (·+1)
def DfR (φ:Id→Option Plc):AV→List Deferred→Prop
 | .u,l=>l=[]
 | .cons (.cons (.fn (.func f) first cap) args) r,l=>∃(us ys ars:Array Value) (ds:List Deferred),l={ target:=.fn (.func f) ys,args:=us++ars} :: ds∧VL φ first us.toList∧VL φ cap ys.toList∧VL φ args ars.toList∧DfR φ r ds
 | _,_=>False
theorem DfR.more {φ ψ:Id→Option Plc} (k:More φ ψ):∀{x:AV} {l:List Deferred},DfR φ x l→DfR ψ x l
 | .u,l,h=>h
 | .cons (.cons (.fn (.func f) first cap) args) r,l,⟨us,ys,ars,ds,e,h1,h2,h3,h4⟩=>⟨us,ys,ars,ds,e,h1.more k,h2.more k,h3.more k,DfR.more k h4⟩
structure FR (φ:Id→Option Plc) (dt n:Nat) (lo:Nat→Bool) (t:Tr) (a:Act):Prop where
 sz:a.tmps.size=n
 cap:n < 4 ^ dt
 at':∀d,d < n→VR φ (getT (path dt d) t) (a.tmps.getD d undef)
 lo:∀d,d < n→lo d=true→getT (path dt d) t=.u
 df:DfR φ (getT (path dt n) t) a.defers
def EnvR (φ:Id→Option Plc) (ds:List (Option Nat)) (e:Env) (tmps:Array Value):Prop:=∀d j,idx d ds=some j→VR φ (envAt j e) (tmps.getD d undef)
def Glo (G:Nat) (φ:Id→Option Plc):Prop:=∀g,g < G→∃K,φ (path DB g)=some (g,K)
theorem Glo.more {G:Nat} {φ ψ:Id→Option Plc} (h:Glo G φ) (k:More φ ψ):Glo G ψ:=fun g hg=>let ⟨K,e⟩:=h g hg;⟨K,k _ _ e⟩
theorem FR.more {φ ψ:Id→Option Plc} {dt n:Nat} {lo:Nat→Bool} {t:Tr} {a:Act} (h:FR φ dt n lo t a) (k:More φ ψ):FR ψ dt n lo t a:=⟨h.sz,h.cap,fun d hd=>(h.at' d hd).more k,h.lo,h.df.more k⟩
theorem EnvR.more {φ ψ:Id→Option Plc} {ds:List (Option Nat)} {e:Env} {tmps:Array Value} (h:EnvR φ ds e tmps) (k:More φ ψ):EnvR ψ ds e tmps:=fun d j hj=>(h d j hj).more k
theorem EnvR.nil (φ:Id→Option Plc) (e:Env) (tmps:Array Value):EnvR φ [] e tmps:=fun d j hj=>by cases hj
def ofCell:Value→AV
 | .bool b=>.b b
 | .int k n=>.i k n
 | .string s=>.s (s.data.toList.map UInt8.toNat)
 | .pointer none=>.pn
 | .slice none 0 0=>.sn
 | .map none=>.mn
 | .nilFunc=>.fnil
 | .nilIface=>.inil
 | _=>.u
def ofList:List Value→AV
 | []=>.nil
 | v :: r=>.cons (ofCell v) (ofList r)
def ofConst:Value→AV
 | .agg cs=>.ag (ofList cs.toList)
 | .tuple cs=>.tu (ofList cs.toList)
 | v=>ofCell v
theorem bytes_back (s:ByteArray):bytesOf (s.data.toList.map UInt8.toNat)=s:=by
 unfold bytesOf
 rw [List.map_map,show UInt8.ofNat ∘ UInt8.toNat=id from funext fun x=>UInt8.ofNat_toNat,List.map_id]
theorem ofCell_ok (φ:Id→Option Plc) (v:Value):VR φ (ofCell v) v:=by
 unfold ofCell
 split <;> first|exact trivial|exact rfl|exact⟨by rw [bytes_back],fun x hx=>by obtain⟨y,_,rfl⟩:=List.mem_map.1 hx;exact y.toNat_lt⟩
theorem ofList_ok (φ:Id→Option Plc):∀l:List Value,VL φ (ofList l) l
 | []=>rfl
 | v :: r=>⟨v,r,rfl,ofCell_ok φ v,ofList_ok φ r⟩
theorem ofConst_ok (φ:Id→Option Plc) (v:Value):VR φ (ofConst v) v:=by
 unfold ofConst
 split
 ·exact⟨_,rfl,ofList_ok φ _⟩
 ·exact⟨_,rfl,ofList_ok φ _⟩
 ·exact ofCell_ok φ _
section
variable (G dt n:Nat) (lo:Nat→Bool)
noncomputable def opd (ds:List (Option Nat)):Operand→GV
 | .tmp d=>match idx d ds with
  | some j=>.mk fun e _=>envAt j e
  | none=>if d < n then .mk fun _ t=>getT (path dt d) t else .mk fun _ _=>.u
 | .const v=>.mk fun _ _=>ofConst v
 | .global g=>if g < G then .mk fun _ _=>.p (path DB g) 0 else .mk fun _ _=>.u
 | .func f=>.mk fun _ _=>.fn (.func f) .nil .nil
variable {G dt n lo}
theorem opd_ok {φ:Id→Option Plc} {ds:List (Option Nat)} {e:Env} {t:Tr} {a:Act} (hg:Glo G φ) (hf:FR φ dt n lo t a) (he:EnvR φ ds e a.tmps) (x:Operand):VR φ ((opd G dt n ds x).run e t) (a.eval x):=by
 cases x with
 | tmp d=>
  cases hj:idx d ds with
  | some j=>
   have h1:opd G dt n ds (.tmp d)=.mk fun e _=>envAt j e:=by simp only [opd,hj]
   rw [h1]
   exact he d j hj
  | none=>
   by_cases hd:d < n
   ·have h1:opd G dt n ds (.tmp d)=.mk fun _ t=>getT (path dt d) t:=by simp only [opd,hj,hd,if_true]
    rw [h1]
    exact hf.at' d hd
   ·have h1:opd G dt n ds (.tmp d)=.mk fun _ _=>.u:=by simp only [opd,hj,hd,if_false]
    rw [h1]
    exact trivial
 | const v=>exact ofConst_ok φ v
 | func f=>exact⟨#[],#[],rfl,rfl,rfl⟩
 | _=>
  rename_i g
  by_cases h:g < G
  ·have h1:opd G dt n ds (.global g)=.mk fun _ _=>.p (path DB g) 0:=by simp only [opd,h,if_true]
   rw [h1]
   obtain⟨K,e⟩:=hg g h
   exact⟨(g,K),e,rfl⟩
  ·have h1:opd G dt n ds (.global g)=.mk fun _ _=>.u:=by simp only [opd,h,if_false]
   rw [h1]
   exact trivial
end
section
variable {φ:Id→Option Plc} {dt n:Nat} {lo:Nat→Bool} {t:Tr} {a:Act} {ds:List (Option Nat)} {e:Env} {v:AV} {v':Value}
theorem getD_put_same {d:Nat} (h:d < a.tmps.size):(a.put (some d) v').tmps.getD d undef=v':=by
 simp [Act.put,Array.getD_eq_getD_getElem?,Array.getElem?_setIfInBounds,h]
theorem getD_put_other {d k:Nat} (h:d≠k):(a.put (some d) v').tmps.getD k undef=a.tmps.getD k undef:=by
 simp [Act.put,Array.getD_eq_getD_getElem?,Array.getElem?_setIfInBounds,h]
theorem FR.put_none (hf:FR φ dt n lo t a):FR φ dt n lo t (a.put none v'):=hf
theorem FR.put_lo (hf:FR φ dt n lo t a) {d:Nat} (hd:d < n) (hl:lo d=true):FR φ dt n lo t (a.put (some d) v'):=by
 refine⟨by simpa [Act.put] using hf.sz,hf.cap,fun k hk=>?_,hf.lo,hf.df⟩
 by_cases h:d=k
 ·subst h;rw [hf.lo d hk hl];exact trivial
 ·rw [getD_put_other h];exact hf.at' k hk
theorem FR.put (hf:FR φ dt n lo t a) {d:Nat} (hd:d < n) (hl:lo d=false) (hv:VR φ v v'):FR φ dt n lo (t.set (path dt d) v) (a.put (some d) v'):=by
 have ne:∀k,k≤n→d≠k→path dt k≠path dt d:=fun k hk h e=>h (path_inj dt k d (Nat.lt_of_le_of_lt hk hf.cap) (Nat.lt_trans hd hf.cap) e).symm
 refine⟨by simpa [Act.put] using hf.sz,hf.cap,fun k hk=>?_,fun k hk hl'=>?_,?_⟩
 ·by_cases h:d=k
  ·subst h;rw [getT_get,T4.get_set_same,getD_put_same (by rw [hf.sz];exact hd)];exact hv
  ·have hp:=ne k (Nat.le_of_lt hk) h
   rw [getT_get,T4.get_set_other v _ _ _ (by rw [path_len,path_len]) hp,getD_put_other h,←getT_get]
   exact hf.at' k hk
 ·have h:d≠k:=fun e=>by subst e;rw [hl] at hl';cases hl'
  have hp:=ne k (Nat.le_of_lt hk) h
  rw [getT_get,T4.get_set_other v _ _ _ (by rw [path_len,path_len]) hp,←getT_get]
  exact hf.lo k hk hl'
 ·have hp:=ne n (Nat.le_refl n) (Nat.ne_of_lt hd)
  rw [getT_get,T4.get_set_other v _ _ _ (by rw [path_len,path_len]) hp,←getT_get]
  exact hf.df
theorem EnvR.put (he:EnvR φ ds e a.tmps) (hv:VR φ v v') (dst:Option Nat) (hd:∀d,dst=some d→d < a.tmps.size):EnvR φ (dst :: ds) (v :: e) (a.put dst v').tmps:=fun d j hj=>by
 unfold idx at hj
 split at hj
 ·rename_i h
  subst h
  simp only [Option.some.injEq] at hj
  subst hj
  rw [getD_put_same (hd d rfl)]
  exact hv
 ·rename_i h
  obtain⟨j',hj',rfl⟩:=Option.map_eq_some_iff.1 hj
  have:=he d j' hj'
  cases dst with
  | none=>exact this
  | some d'=>rw [getD_put_other (fun e=>h (by rw [e]))];exact this
end
abbrev WH (φ:Id→Option Plc) (B:Nat) (hp:HP) (w:World):Prop:=WR φ B hp.m hp.nx w
abbrev RH (φ:Id→Option Plc) (hp:HP) (w:World):Prop:=RW φ hp.m w
abbrev StH (φ:Id→Option Plc) (hp:HP) (w:World) (ψ:Id→Option Plc) (hp':HP) (w':World):Prop:=Step φ hp.m hp.nx w ψ hp'.m hp'.nx w'
def one (v:Value):List PanicEntry:=[{ v,recovered:=false}]
def CallOk (P:Program) (f:FuncId) (ars:Array Value) (w:World) (Q:Value→World→Prop):Prop:=
 ((callFunc f ars).run P w=.ok (.enter f ars) w∧Calls P f ars w fun e w'=>∃v,e=.returned v∧Q v w')∨∃v w',(callFunc f ars).run P w=.ok (.value v) w'∧Q v w'
def CallPan (P:Program) (f:FuncId) (ars:Array Value) (w:World) (Q:Value→World→Prop):Prop:=
 (callFunc f ars).run P w=.ok (.enter f ars) w∧Calls P f ars w fun e w'=>∃v,e=.panicked (one v)∧Q v w'
def Aft (φ:Id→Option Plc) (B:Nat) (hp:HP) (w:World) (v:AV) (hp':HP) (v':Value) (w':World):Prop:=∃ψ,VR ψ v v'∧StH φ hp w ψ hp' w'∧WH ψ B hp' w'
def ModeR (φ:Id→Option Plc):AV→FrameMode→Prop
 | .nil,u=>u=.returning
 | .cons v .nil,u=>∃v',u=.panicking (one v')∧VR φ v v'
 | _,_=>False
def HdOkC (P:Program) (G:Nat) (hd:Hd):Prop:=∀f args hp k kp r,hd.c f args hp k kp=some r→
 (∃v hp',k v hp'=some r∧∀φ B w (ars:Array Value),Glo G φ→WH φ B hp w→VL φ args ars.toList→CallOk P f ars w (Aft φ B hp w v hp'))∨
 (∃v hp',kp v hp'=some r∧∀φ B w (ars:Array Value),Glo G φ→WH φ B hp w→VL φ args ars.toList→CallPan P f ars w (Aft φ B hp w v hp'))
def HdOkD (P:Program) (G:Nat) (hd:Hd):Prop:=∀f args md hp k r,hd.d f args md hp k=some r→∃md' hp',k md' hp'=some r∧∀φ B w (ars:Array Value) u,Glo G φ→WH φ B hp w→VL φ args ars.toList→ModeR φ md u→
 (callFunc f ars).run P w=.ok (.enter f ars) w∧CallsD P f ars u w fun e u' w'=>(∃v,e=.returned v)∧∃ψ,ModeR ψ md' (settle u')∧StH φ hp w ψ hp' w'∧WH ψ B hp' w'
def HdOk (P:Program) (G:Nat) (hd:Hd):Prop:=HdOkC P G hd∧HdOkD P G hd
def OpsR (G dt n:Nat) (ds:List (Option Nat)) (φ:Id→Option Plc) (e:Env) (t:Tr) (ev:Operand→Value) (op:Op):Prop:=∀x∈op.operands,VR φ ((opd G dt n ds x).run e t) (ev x)
def OpOk (P:Program) (G dt n:Nat) (ds:List (Option Nat)) (o:Oper) (m:OM):Prop:=
 ∀hd,HdOk P G hd→∀e t hp k kp r,m.run hd e t hp k kp=some r→
  (∃v hp',k v hp'=some r∧∀φ B a w,Glo G φ→OpsR G dt n ds φ e t a.eval o.op→WH φ B hp w→∀(K:Act→World→Prop) Q,
   (∀v' w',Aft φ B hp w v hp' v' w'→K (a.put o.dst v') w')→o.wp P a w K Q)∨
  (∃v hp',kp v hp'=some r∧∀φ B a w,Glo G φ→OpsR G dt n ds φ e t a.eval o.op→WH φ B hp w→∀(K:Act→World→Prop) Q,
   (∀v' w',Aft φ B hp w v hp' v' w'→Q (.panic (one v')) a w')→o.wp P a w K Q)
abbrev VM:=Env→Tr→HP→KV→R
def StillOk (P:Program) (G dt n:Nat) (ds:List (Option Nat)) (o:Oper) (F:VM):Prop:=
 ∀e t hp k r,F e t hp k=some r→∃v,k v hp=some r∧∀φ (a:Act) w,Glo G φ→OpsR G dt n ds φ e t a.eval o.op→RH φ hp w→
  ∃v',(execOp a.eval o).run P w=.ok (.value v') w∧VR φ v v'
def PureOk (P:Program) (G dt n:Nat) (ds:List (Option Nat)) (o:Oper) (F:VM):Prop:=
 ∀e t hp k r,F e t hp k=some r→∃v,k v hp=some r∧∀φ (a:Act) w,OpsR G dt n ds φ e t a.eval o.op→∃v',(execOp a.eval o).run P w=.ok (.value v') w∧VR φ v v'
def MakeOk (P:Program) (G dt n:Nat) (ds:List (Option Nat)) (o:Oper) (F:VM):Prop:=
 ∀e t hp k r,F e t hp k=some r→∃m nx v x,hp=.mk m nx∧last nx=false∧x.ro=false∧k v (.mk (m.set nx x) (inc nx))=some r∧∀φ (a:Act) w,Glo G φ→OpsR G dt n ds φ e t a.eval o.op→
  ∃v' ob K w',(execOp a.eval o).run P w=.ok (.value v') w'∧NewW w ob w'∧x.says φ K ob∧∀ψ,More φ ψ→ψ nx=some (w.heap.size,K)→VR ψ v v'
def ValOk (P:Program) (G dt n:Nat) (ds:List (Option Nat)) (o:Oper) (F:VM):Prop:=
 ∀e t hp k r,F e t hp k=some r→∃v hp',k v hp'=some r∧∀φ B (a:Act) w,Glo G φ→OpsR G dt n ds φ e t a.eval o.op→WH φ B hp w→
  ∃ψ v' w',((execOp a.eval o).run P w=.ok (.value v') w'∨((execOp a.eval o).run P w=.ok .skip w'∧v'=undef))∧VR ψ v v'∧StH φ hp w ψ hp' w'∧WH ψ B hp' w'
inductive Kd where|pure|still|make|eff
def OmOk (P:Program) (G dt n:Nat) (ds:List (Option Nat)) (o:Oper):Kd×OM→Prop
 | (.pure,m)=>∃F,m=.mk (fun _ e t hp k _=>F e t hp k)∧PureOk P G dt n ds o F
 | (.still,m)=>∃F,m=.mk (fun _ e t hp k _=>F e t hp k)∧StillOk P G dt n ds o F
 | (.make,m)=>∃F,m=.mk (fun _ e t hp k _=>F e t hp k)∧MakeOk P G dt n ds o F
 | (.eff,m)=>OpOk P G dt n ds o m
section
variable {P:Program} {G dt n:Nat} {ds:List (Option Nat)} {o:Oper} {F:VM}
theorem ValOk.op (h:ValOk P G dt n ds o F):OpOk P G dt n ds o (.mk fun _ e t hp k _=>F e t hp k):=by
 intro hd hok e t hp k kp r hr
 obtain⟨v,hp',h1,h2⟩:=h e t hp k r hr
 refine .inl ⟨v,hp',h1,fun φ B a w g1 g2 g3 K Q hK=>?_⟩
 obtain⟨ψ,v',w',h3,h4,h5,h6⟩:=h2 φ B a w g1 g2 g3
 unfold Oper.wp
 rcases h3 with h3|⟨h3,rfl⟩
 ·rw [h3];exact hK v' w' ⟨ψ,h4,h5,h6⟩
 ·rw [h3];exact hK undef w' ⟨ψ,h4,h5,h6⟩
theorem StillOk.val (h:StillOk P G dt n ds o F):ValOk P G dt n ds o F:=by
 intro e t hp k r hr
 obtain⟨v,h1,h2⟩:=h e t hp k r hr
 refine⟨v,hp,h1,fun φ B a w g1 g2 g3=>?_⟩
 obtain⟨v',h3,h4⟩:=h2 φ a w g1 g2 g3.rw
 exact⟨φ,v',w,.inl h3,h4,Step.refl,g3⟩
theorem PureOk.still (h:PureOk P G dt n ds o F):StillOk P G dt n ds o F:=by
 intro e t hp k r hr
 obtain⟨v,h1,h2⟩:=h e t hp k r hr
 exact⟨v,h1,fun φ a w _ g2 _=>h2 φ a w g2⟩
theorem PureOk.pure (h:∀e t hp k r,F e t hp k=some r→∃v,k v hp=some r∧∀φ (a:Act) w,OpsR G dt n ds φ e t a.eval o.op→∃v',(execOp a.eval o).run P w=.ok (.value v') w∧VR φ v v'):PureOk P G dt n ds o F:=h
theorem MakeOk.val (h:MakeOk P G dt n ds o F):ValOk P G dt n ds o F:=by
 intro e t hp k r hr
 obtain⟨m,nx,v,x,rfl,hl,_,h1,h2⟩:=h e t hp k r hr
 refine⟨v,_,h1,fun φ B a w g1 g2 g3=>?_⟩
 obtain⟨v',ob,K,w',h3,hn,h4,h5⟩:=h2 φ a w g1 g2
 obtain⟨h6,h7⟩:=WR.new g3 hl h4 hn
 exact⟨_,v',_,.inl h3,h5 _ h7.more (ext_same φ nx _),h7,h6⟩
theorem OmOk.op {q:Kd×OM} (h:OmOk P G dt n ds o q):OpOk P G dt n ds o q.2:=by
 obtain⟨kd,m⟩:=q
 cases kd with
 | pure=>obtain⟨F,rfl,h1⟩:=h;exact h1.still.val.op
 | still=>obtain⟨F,rfl,h1⟩:=h;exact h1.val.op
 | make=>obtain⟨F,rfl,h1⟩:=h;exact h1.val.op
 | eff=>exact h
end
end Go.Proofs.YtnfokaecobddkaaGreatDoor.Clo
end
