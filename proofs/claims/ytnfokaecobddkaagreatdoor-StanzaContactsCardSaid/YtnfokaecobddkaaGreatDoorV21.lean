/- Part 21 of a proof laid in parts, one behind the other; no condition of its own. -/
import Derived.Test.YtnfokaecobddkaaGreatDoorV20
import Derived.Laws.AppendOwn
import Derived.Deep.Upon
import Derived.Laws.Tables
set_option linter.all false
section
namespace Go.Proofs.YtnfokaecobddkaaGreatDoor.Clo
open Go.RowKit
set_option linter.unusedVariables false
set_option linter.unusedSimpArgs false
inductive EK|bool|ptr|sl|map|fn|ifc
def EK.of (P:Program) (t:TypeId):Option EK:=match P.underlying t with
 | some .bool=>some .bool
 | some (.pointer _)=>some .ptr
 | some (.slice _)=>some .sl
 | some (.map _ _)=>some .map
 | some (.func _ _ _)=>some .fn
 | some (.interface _)=>some .ifc
 | _=>none
def nilEq (c:Bool):EK→AV→AV→Option Bool
 | .bool,.b x,.b y=>some (x == y)
 | .ptr,.pn,.pn=>some true
 | .ptr,.pn,.p _ _=>some false
 | .ptr,.p _ _,.pn=>some false
 | .sl,.sn,.sn=>some true
 | .sl,.sn,.sl _ _ _ _=>some false
 | .sl,.sl _ _ _ _,.sn=>some false
 | .sl,.sn,.sg _ _ _ _=>some false
 | .sl,.sg _ _ _ _,.sn=>some false
 | .map,.mn,.mn=>some true
 | .map,.mn,.mp _=>some false
 | .map,.mp _,.mn=>some false
 | .fn,.fnil,.fnil=>some true
 | .fn,.fnil,.fn _ _ _=>some false
 | .fn,.fn _ _ _,.fnil=>some false
 | .ifc,.inil,.inil=>match c with|true=>some true|false=>none
 | .ifc,.inil,.ifc _ _=>some false
 | .ifc,.ifc _ _,.inil=>some false
 | _,_,_=>none
def shiftF (op:BinOp) (k:IntKind) (x y:Int):Option AV:=match y with
 | .ofNat m=>match op with
  | .shl=>some (.i k (k.wrap (x*2 ^ (min m k.bits))))
  | .shr=>some (.i k (x.fdiv (2 ^ (min m k.bits))))
  | _=>none
 | _=>none
noncomputable def binF (ek:Option EK) (c:Bool) (op:BinOp) (a b:AV):Option AV:=match a,b with
 | .i k x,.i k' y=>match op with
  | .shl=>shiftF .shl k x y
  | .shr=>shiftF .shr k x y
  | _=>if k=k' then intBin op k x y else none
 | .s l,.s m=>strBin op l m
 | a,b=>match ek with
  | none=>none
  | some ek=>match op with
   | .eql=>match nilEq c ek a b with|some z=>some (.b z)|none=>none
   | .neq=>match nilEq c ek a b with|some z=>some (.b (!z))|none=>none
   | _=>none
def isConst:Operand→Bool
 | .const _=>true
 | _=>false
section
variable {P:Program} {G dt n:Nat} {ds:List (Option Nat)} {o:Oper}
theorem guard_run (op:BinOp) (t:TypeId) (x y:Operand) (a b:Value) (w:World) (h:(∃v,a=v∧(∀xs,v≠.agg xs)∧v≠.nilIface)∨(a=.nilIface∧(b≠.nilIface∨isConst x=true∨isConst y=true))) :
  (eqGuard op t x y a b).run P w=.ok () w:=by
 rcases h with ⟨v,rfl,h1,h2⟩|⟨rfl,h3⟩
 ·cases op <;> cases a <;> first|rfl|exact absurd rfl (h1 _)|exact absurd rfl h2
 ·rcases h3 with h3|h3|h3
  ·cases op <;> cases b <;> first|rfl|exact absurd rfl h3
  ·cases x <;> first|(cases h3;done)|(cases op <;> cases b <;> rfl)
  ·cases y <;> first|(cases h3;done)|(cases op <;> cases b <;> cases x <;> rfl)
theorem ek_of {t:TypeId} {ek:EK} (h:EK.of P t=some ek):match ek with
  | .bool=>P.underlying t=some .bool
  | .ptr=>∃e,P.underlying t=some (.pointer e)
  | .sl=>∃e,P.underlying t=some (.slice e)
  | .map=>∃k e,P.underlying t=some (.map k e)
  | .fn=>∃a b c,P.underlying t=some (.func a b c)
  | .ifc=>∃ms,P.underlying t=some (.interface ms):=by
 unfold EK.of at h
 split at h <;> first|(cases h;done)|skip
 all_goals
  rename_i hu
  cases h
  first|exact hu|exact⟨_,hu⟩|exact⟨_,_,hu⟩|exact⟨_,_,_,hu⟩
theorem equal_run {t:TypeId} {d:TypeDesc} {x y:Value} {z:Bool} {w:World} (hu:P.underlying t=some d) (h:(match d,x,y with
  | .bool,.bool a,.bool b=>some (a == b)
  | .pointer _,.pointer none,.pointer b=>some b.isNone
  | .pointer _,.pointer (some _),.pointer none=>some false
  | .slice _,.slice none _ _,.slice b _ _=>some b.isNone
  | .slice _,.slice (some _) _ _,.slice none _ _=>some false
  | .map _ _,.map none,.map b=>some b.isNone
  | .map _ _,.map (some _),.map none=>some false
  | .func _ _ _,.nilFunc,.nilFunc=>some true
  | .func _ _ _,.nilFunc,.func _ _ _=>some false
  | .func _ _ _,.func _ _ _,.nilFunc=>some false
  | .interface _,.nilIface,.nilIface=>some true
  | .interface _,.nilIface,.iface _ _=>some false
  | .interface _,.iface _ _,.nilIface=>some false
  | _,_,_=>none)=some z):(Op.equal t x y).run P w=.ok z w:=by
 show(Op.equalIn (9999+1) t x y).run P w=_
 rw [Op.equalIn,Sem.run_bind,run_underlying hu]
 split at h <;> first|(cases h;done)|(cases h;rfl)
theorem bin_ok {op:BinOp} {t yt:TypeId} {x y:Operand} (ho:o.op=.binOp op t x y yt) :
  PureOk P G dt n ds o (fun e t0 hp k=>Option.rec (motive:=fun _=>R) none (fun v=>k v hp) (binF (EK.of P t) (isConst x || isConst y) op ((opd G dt n ds x).run e t0) ((opd G dt n ds y).run e t0))):=
 .pure fun e t0 hp k r hr=>by
  cases hb:binF (EK.of P t) (isConst x || isConst y) op ((opd G dt n ds x).run e t0) ((opd G dt n ds y).run e t0) with
  | none=>rw [hb] at hr;cases hr
  | some v=>
  rw [hb] at hr
  refine⟨v,hr,fun φ a w hx=>?_⟩
  have h1:=(hx x (by rw [ho];simp [Op.operands,Call.operands]))
  have h2:=(hx y (by rw [ho];simp [Op.operands,Call.operands]))
  generalize (opd G dt n ds x).run e t0=A at hb h1
  generalize (opd G dt n ds y).run e t0=B at hb h2
  have fin:∀(va vb v':Value),a.eval x=va→a.eval y=vb→(eqGuard op t x y va vb).run P w=.ok () w→(Go.binOp op t va vb).run P w=.ok v' w→VR φ v v'→∃v',(execOp a.eval o).run P w=.ok (.value v') w∧VR φ v v':=by
   intro va vb v' e1 e2 e3 e4 e5
   refine⟨v',?_,e5⟩
   unfold execOp
   rw [ho]
   simp only [e1,e2,Sem.run_bind,e3,Result.andThen_ok,e4]
   rfl
  unfold binF at hb
  split at hb
  ·rename_i k u k' u'
   have e1:a.eval x=.int k u:=h1
   have e2:a.eval y=.int k' u':=h2
   have hg:(eqGuard op t x y (.int k u) (.int k' u')).run P w=.ok () w:=guard_run op t x y _ _ w (.inl ⟨_,rfl,(fun _ h=>by cases h),(fun h=>by cases h)⟩)
   have shf:∀op',op=op'→(op'=.shl∨op'=.shr)→shiftF op' k u u'=some v→∃v',(execOp a.eval o).run P w=.ok (.value v') w∧VR φ v v':=by
    intro op' eop hop hs
    subst eop
    unfold shiftF at hs
    split at hs
    ·rename_i m
     rcases hop with rfl|rfl
     ·simp only [Option.some.injEq] at hs
      subst hs
      exact fin _ _ (.int k (k.wrap (u*2 ^ (min m k.bits)))) e1 e2 hg (by simp [Go.binOp,Op.shift];intro h;omega) rfl
     ·simp only [Option.some.injEq] at hs
      subst hs
      exact fin _ _ (.int k (u.fdiv (2 ^ (min m k.bits)))) e1 e2 hg (by simp [Go.binOp,Op.shift];intro h;omega) rfl
    ·cases hs
   split at hb
   ·exact shf .shl rfl (.inl rfl) hb
   ·exact shf .shr rfl (.inr rfl) hb
   ·split at hb
    ·rename_i hk
     subst hk
     obtain⟨v',h3,h4⟩:=intBin_ok (P:=P) hb φ t w
     exact fin _ _ v' e1 e2 hg h3 h4
    ·cases hb
  ·rename_i l m
   obtain⟨e1,b1⟩:=h1
   obtain⟨e2,b2⟩:=h2
   obtain⟨v',h3,h4⟩:=strBin_ok (P:=P) b1 b2 hb φ t w
   exact fin _ _ v' e1 e2 (guard_run op t x y _ _ w (.inl ⟨_,rfl,(fun _ h=>by cases h),(fun h=>by cases h)⟩)) h3 h4
  ·split at hb
   ·cases hb
   ·rename_i ek hek
    have key:∀z,nilEq (isConst x || isConst y) ek A B=some z→(eqGuard op t x y (a.eval x) (a.eval y)).run P w=.ok () w∧(Op.equal t (a.eval x) (a.eval y)).run P w=.ok z w∧
      (op=.eql→(Go.binOp op t (a.eval x) (a.eval y)).run P w=.ok (.bool z) w)∧(op=.neq→(Go.binOp op t (a.eval x) (a.eval y)).run P w=.ok (.bool (!z)) w):=by
     intro z hz
     have mk:∀va vb,a.eval x=va→a.eval y=vb→(eqGuard op t x y va vb).run P w=.ok () w→(Op.equal t va vb).run P w=.ok z w→(∀k u,va≠.int k u)→(∀k u,va≠.float k u)→(∀k u v,va≠.complex k u v)→(∀s,va≠.string s)→
       (eqGuard op t x y (a.eval x) (a.eval y)).run P w=.ok () w∧(Op.equal t (a.eval x) (a.eval y)).run P w=.ok z w∧
       (op=.eql→(Go.binOp op t (a.eval x) (a.eval y)).run P w=.ok (.bool z) w)∧(op=.neq→(Go.binOp op t (a.eval x) (a.eval y)).run P w=.ok (.bool (!z)) w):=by
      intro va vb e1 e2 g1 g2 n1 n2 n3 n4
      rw [e1,e2]
      refine⟨g1,g2,fun h=>?_,fun h=>?_⟩
      ·subst h
       have:Go.binOp .eql t va vb=(do Pure.pure (.bool (←Op.equal t va vb))):=by
        cases va <;> first|rfl|exact absurd rfl (n1 _ _)|exact absurd rfl (n2 _ _)|exact absurd rfl (n3 _ _ _)|exact absurd rfl (n4 _)
       rw [this,Sem.run_bind,g2];rfl
      ·subst h
       have:Go.binOp .neq t va vb=(do Pure.pure (.bool (!(←Op.equal t va vb)))):=by
        cases va <;> first|rfl|exact absurd rfl (n1 _ _)|exact absurd rfl (n2 _ _)|exact absurd rfl (n3 _ _ _)|exact absurd rfl (n4 _)
       rw [this,Sem.run_bind,g2];rfl
     have hu:=ek_of hek
     have no:∀va vb,(∀xs,va≠.agg xs)→va≠.nilIface→(eqGuard op t x y va vb).run P w=.ok () w:=fun va vb q1 q2=>guard_run op t x y va vb w (.inl ⟨va,rfl,q1,q2⟩)
     have ni:∀vb,vb≠.nilIface→(eqGuard op t x y .nilIface vb).run P w=.ok () w:=fun vb q=>guard_run op t x y _ vb w (.inr ⟨rfl,.inl q⟩)
     unfold nilEq at hz
     split at hz <;> first|(cases hz;done)|skip
     ·simp only at hu
      simp only [Option.some.injEq] at hz
      subst hz
      have e1:a.eval x=.bool _:=h1
      have e2:a.eval y=.bool _:=h2
      exact mk _ _ e1 e2 (no _ _ (fun _ h=>by cases h) (fun h=>by cases h)) (equal_run hu rfl) (fun _ _ h=>by cases h) (fun _ _ h=>by cases h) (fun _ _ _ h=>by cases h) (fun _ h=>by cases h)
     ·obtain⟨_,hu⟩:=hu
      simp only [Option.some.injEq] at hz
      subst hz
      have e1:a.eval x=.pointer none:=h1
      have e2:a.eval y=.pointer none:=h2
      exact mk _ _ e1 e2 (no _ _ (fun _ h=>by cases h) (fun h=>by cases h)) (equal_run hu rfl) (fun _ _ h=>by cases h) (fun _ _ h=>by cases h) (fun _ _ _ h=>by cases h) (fun _ h=>by cases h)
     ·obtain⟨_,hu⟩:=hu
      simp only [Option.some.injEq] at hz
      subst hz
      have e1:a.eval x=.pointer none:=h1
      obtain⟨ge2,_,e2⟩:=h2
      exact mk _ _ e1 e2 (no _ _ (fun _ h=>by cases h) (fun h=>by cases h)) (equal_run hu rfl) (fun _ _ h=>by cases h) (fun _ _ h=>by cases h) (fun _ _ _ h=>by cases h) (fun _ h=>by cases h)
     ·obtain⟨_,hu⟩:=hu
      simp only [Option.some.injEq] at hz
      subst hz
      obtain⟨ge1,_,e1⟩:=h1
      have e2:a.eval y=.pointer none:=h2
      exact mk _ _ e1 e2 (no _ _ (fun _ h=>by cases h) (fun h=>by cases h)) (equal_run hu rfl) (fun _ _ h=>by cases h) (fun _ _ h=>by cases h) (fun _ _ _ h=>by cases h) (fun _ h=>by cases h)
     ·obtain⟨_,hu⟩:=hu
      simp only [Option.some.injEq] at hz
      subst hz
      have e1:a.eval x=.slice none 0 0:=h1
      have e2:a.eval y=.slice none 0 0:=h2
      exact mk _ _ e1 e2 (no _ _ (fun _ h=>by cases h) (fun h=>by cases h)) (equal_run hu rfl) (fun _ _ h=>by cases h) (fun _ _ h=>by cases h) (fun _ _ _ h=>by cases h) (fun _ h=>by cases h)
     ·obtain⟨_,hu⟩:=hu
      simp only [Option.some.injEq] at hz
      subst hz
      have e1:a.eval x=.slice none 0 0:=h1
      obtain⟨ge2,ke2,_,e2,_⟩:=h2
      exact mk _ _ e1 e2 (no _ _ (fun _ h=>by cases h) (fun h=>by cases h)) (equal_run hu rfl) (fun _ _ h=>by cases h) (fun _ _ h=>by cases h) (fun _ _ _ h=>by cases h) (fun _ h=>by cases h)
     ·obtain⟨_,hu⟩:=hu
      simp only [Option.some.injEq] at hz
      subst hz
      obtain⟨ge1,ke1,_,e1,_⟩:=h1
      have e2:a.eval y=.slice none 0 0:=h2
      exact mk _ _ e1 e2 (no _ _ (fun _ h=>by cases h) (fun h=>by cases h)) (equal_run hu rfl) (fun _ _ h=>by cases h) (fun _ _ h=>by cases h) (fun _ _ _ h=>by cases h) (fun _ h=>by cases h)
     ·obtain⟨_,hu⟩:=hu
      simp only [Option.some.injEq] at hz
      subst hz
      have e1:a.eval x=.slice none 0 0:=h1
      obtain⟨ge2,ke2,_,e2,_⟩:=h2
      exact mk _ _ e1 e2 (no _ _ (fun _ h=>by cases h) (fun h=>by cases h)) (equal_run hu rfl) (fun _ _ h=>by cases h) (fun _ _ h=>by cases h) (fun _ _ _ h=>by cases h) (fun _ h=>by cases h)
     ·obtain⟨_,hu⟩:=hu
      simp only [Option.some.injEq] at hz
      subst hz
      obtain⟨ge1,ke1,_,e1,_⟩:=h1
      have e2:a.eval y=.slice none 0 0:=h2
      exact mk _ _ e1 e2 (no _ _ (fun _ h=>by cases h) (fun h=>by cases h)) (equal_run hu rfl) (fun _ _ h=>by cases h) (fun _ _ h=>by cases h) (fun _ _ _ h=>by cases h) (fun _ h=>by cases h)
     ·obtain⟨_,_,hu⟩:=hu
      simp only [Option.some.injEq] at hz
      subst hz
      have e1:a.eval x=.map none:=h1
      have e2:a.eval y=.map none:=h2
      exact mk _ _ e1 e2 (no _ _ (fun _ h=>by cases h) (fun h=>by cases h)) (equal_run hu rfl) (fun _ _ h=>by cases h) (fun _ _ h=>by cases h) (fun _ _ _ h=>by cases h) (fun _ h=>by cases h)
     ·obtain⟨_,_,hu⟩:=hu
      simp only [Option.some.injEq] at hz
      subst hz
      have e1:a.eval x=.map none:=h1
      obtain⟨ge2,_,e2⟩:=h2
      exact mk _ _ e1 e2 (no _ _ (fun _ h=>by cases h) (fun h=>by cases h)) (equal_run hu rfl) (fun _ _ h=>by cases h) (fun _ _ h=>by cases h) (fun _ _ _ h=>by cases h) (fun _ h=>by cases h)
     ·obtain⟨_,_,hu⟩:=hu
      simp only [Option.some.injEq] at hz
      subst hz
      obtain⟨ge1,_,e1⟩:=h1
      have e2:a.eval y=.map none:=h2
      exact mk _ _ e1 e2 (no _ _ (fun _ h=>by cases h) (fun h=>by cases h)) (equal_run hu rfl) (fun _ _ h=>by cases h) (fun _ _ h=>by cases h) (fun _ _ _ h=>by cases h) (fun _ h=>by cases h)
     ·obtain⟨_,_,_,hu⟩:=hu
      simp only [Option.some.injEq] at hz
      subst hz
      have e1:a.eval x=.nilFunc:=h1
      have e2:a.eval y=.nilFunc:=h2
      exact mk _ _ e1 e2 (no _ _ (fun _ h=>by cases h) (fun h=>by cases h)) (equal_run hu rfl) (fun _ _ h=>by cases h) (fun _ _ h=>by cases h) (fun _ _ _ h=>by cases h) (fun _ h=>by cases h)
     ·obtain⟨_,_,_,hu⟩:=hu
      simp only [Option.some.injEq] at hz
      subst hz
      have e1:a.eval x=.nilFunc:=h1
      obtain⟨xse2,yse2,e2,_⟩:=h2
      exact mk _ _ e1 e2 (no _ _ (fun _ h=>by cases h) (fun h=>by cases h)) (equal_run hu rfl) (fun _ _ h=>by cases h) (fun _ _ h=>by cases h) (fun _ _ _ h=>by cases h) (fun _ h=>by cases h)
     ·obtain⟨_,_,_,hu⟩:=hu
      simp only [Option.some.injEq] at hz
      subst hz
      obtain⟨xse1,yse1,e1,_⟩:=h1
      have e2:a.eval y=.nilFunc:=h2
      exact mk _ _ e1 e2 (no _ _ (fun _ h=>by cases h) (fun h=>by cases h)) (equal_run hu rfl) (fun _ _ h=>by cases h) (fun _ _ h=>by cases h) (fun _ _ _ h=>by cases h) (fun _ h=>by cases h)
     ·obtain⟨_,hu⟩:=hu
      split at hz
      ·rename_i hc
       simp only [Option.some.injEq] at hz
       subst hz
       have e1:a.eval x=.nilIface:=h1
       have e2:a.eval y=.nilIface:=h2
       exact mk _ _ e1 e2 (guard_run op t x y _ _ w (.inr ⟨rfl,.inr (by simpa [Bool.or_eq_true] using hc)⟩)) (equal_run hu rfl) (fun _ _ h=>by cases h) (fun _ _ h=>by cases h) (fun _ _ _ h=>by cases h) (fun _ h=>by cases h)
      ·cases hz
     ·obtain⟨_,hu⟩:=hu
      simp only [Option.some.injEq] at hz
      subst hz
      have e1:a.eval x=.nilIface:=h1
      obtain⟨we2,e2,_⟩:=h2
      exact mk _ _ e1 e2 (ni _ (fun h=>by cases h)) (equal_run hu rfl) (fun _ _ h=>by cases h) (fun _ _ h=>by cases h) (fun _ _ _ h=>by cases h) (fun _ h=>by cases h)
     ·obtain⟨_,hu⟩:=hu
      simp only [Option.some.injEq] at hz
      subst hz
      obtain⟨we1,e1,_⟩:=h1
      have e2:a.eval y=.nilIface:=h2
      exact mk _ _ e1 e2 (no _ _ (fun _ h=>by cases h) (fun h=>by cases h)) (equal_run hu rfl) (fun _ _ h=>by cases h) (fun _ _ h=>by cases h) (fun _ _ _ h=>by cases h) (fun _ h=>by cases h)
    cases op <;> simp only at hb <;> first|(cases hb;done)|skip
    all_goals
     split at hb
     ·rename_i z hz
      simp only [Option.some.injEq] at hb
      subst hb
      obtain⟨g1,g2,g3,g4⟩:=key z hz
      first
       | exact fin _ _ (.bool z) rfl rfl g1 (g3 rfl) rfl
       | exact fin _ _ (.bool (!z)) rfl rfl g1 (g4 rfl) rfl
     ·cases hb
end
end Go.Proofs.YtnfokaecobddkaaGreatDoor.Clo
end
section
namespace Go.Proofs.YtnfokaecobddkaaGreatDoor.Clo
open Go.RowKit
set_option linter.unusedVariables false
set_option linter.unusedSimpArgs false
section
variable {P:Program} {G dt n:Nat} {ds:List (Option Nat)} {o:Oper}
theorem not_ok {t:TypeId} {x:Operand} (ho:o.op=.unOp .not t x):PureOk P G dt n ds o (fun e t0 hp k=>((opd G dt n ds x).run e t0).on_b fun b=>k (.b (Bool.rec true false b)) hp):=
 .pure fun e t0 hp k r hr=>by
  obtain⟨b,hb,h1⟩:=AV.on_b_some hr
  refine⟨_,h1,fun φ a w hx=>⟨.bool (!b),?_,by cases b <;> rfl⟩⟩
  have hc:a.eval x=.bool b:=by have:=(hx x (by rw [ho];simp [Op.operands,Call.operands]));rw [hb] at this;exact this
  unfold execOp
  rw [ho]
  simp only [Op.unary,hc]
  rfl
noncomputable def nthR (n:Nat):List Nat→(Nat→R)→R:=
 Nat.rec (motive:=fun _=>List Nat→(Nat→R)→R) (fun l k=>List.rec (motive:=fun _=>R) none (fun x _ _=>k x) l) (fun _ ih l k=>List.rec (motive:=fun _=>R) none (fun _ r _=>ih r k) l) n
theorem nthR_some:∀(n:Nat) {l:List Nat} {k:Nat→R} {x:AV×HP},nthR n l k=some x→∃b,l[n]? = some b∧k b=some x
 | 0,[],k,x,h=>by cases h
 | 0,y :: l,k,x,h=>⟨y,rfl,h⟩
 | n+1,[],k,x,h=>by cases h
 | n+1,y :: l,k,x,h=>nthR_some n (l:=l) h
noncomputable def onNat (a:Int) (k:Nat→R):R:=Int.rec (motive:=fun _=>R) k (fun _=>none) a
theorem onNat_some {a:Int} {k:Nat→R} {x:AV×HP} (h:onNat a k=some x):∃m:Nat,a=m∧k m=some x:=by
 cases a with
 | ofNat m=>exact⟨m,rfl,h⟩
 | negSucc m=>cases h
theorem indexS_ok {t:TypeId} {x y:Operand} (ho:o.op=.index t x y) (hu:P.underlying t=some .string) :
  PureOk P G dt n ds o (fun e t0 hp k=>((opd G dt n ds x).run e t0).on_s fun l=>((opd G dt n ds y).run e t0).on_i fun _ j=>onNat j fun j=>nthR j l fun b=>k (.i .u8 (Int.ofNat b)) hp):=
 .pure fun e t0 hp k r hr=>by
  obtain⟨l,hl,h1⟩:=AV.on_s_some hr
  obtain⟨kd,j,hj,h2⟩:=AV.on_i_some h1
  obtain⟨m,rfl,h3⟩:=onNat_some h2
  obtain⟨b,hb,h4⟩:=nthR_some m h3
  refine⟨_,h4,fun φ a w hx=>?_⟩
  obtain⟨e1,b1⟩:a.eval x=.string (bytesOf l)∧∀x∈l,x < 256:=by have:=(hx x (by rw [ho];simp [Op.operands,Call.operands]));rw [hl] at this;exact this
  have e2:a.eval y=.int kd (m:Int):=by have:=(hx y (by rw [ho];simp [Op.operands,Call.operands]));rw [hj] at this;exact this
  have hb':b < 256:=b1 b (List.mem_of_getElem? hb)
  have hg:(bytesOf l)[(m:Int).toNat]? = some (UInt8.ofNat b):=by rw [Int.toNat_natCast,bytes_get,hb];rfl
  refine⟨.int .u8 b,?_,rfl⟩
  unfold execOp
  rw [ho]
  simp only [Instr.index,e1,e2,asIntOf,Sem.run_bind,Sem.run_pure,Result.andThen_ok,run_underlying hu]
  rw [if_pos (Int.natCast_nonneg m),hg]
  simp [UInt8.toNat_ofNat',Nat.mod_eq_of_lt hb']
noncomputable def lenL (l:List Nat):Nat:=List.rec (motive:=fun _=>Nat) 0 (fun _ _ n=>Nat.succ n) l
theorem lenL_eq:∀l:List Nat,lenL l=l.length
 | []=>rfl
 | x :: l=>congrArg Nat.succ (lenL_eq l)
theorem lenS_ok {t:TypeId} {x:Operand} (ho:o.op=.call { callee:=.builtin .len,args:=#[x],argTypes:=#[t]}) (hu:P.underlying t=some .string) :
  PureOk P G dt n ds o (fun e t0 hp k=>((opd G dt n ds x).run e t0).on_s fun l=>k (.i .i64 (Int.ofNat (lenL l))) hp):=
 .pure fun e t0 hp k r hr=>by
  obtain⟨l,hl,h1⟩:=AV.on_s_some hr
  refine⟨_,h1,fun φ a w hx=>⟨.int .i64 (l.length:Int),?_,by rw [lenL_eq];rfl⟩⟩
  obtain⟨e1,b1⟩:a.eval x=.string (bytesOf l)∧∀x∈l,x < 256:=by have:=(hx x (by rw [ho];simp [Op.operands,Call.operands]));rw [hl] at this;exact this
  unfold execOp
  rw [ho]
  simp [resolve,invoke,builtin,Builtin.len_,e1,run_underlying hu,goInt,bytes_size]
noncomputable def sliceLen (a:AV) (k:Nat→R):R:=match a with
 | .sn=>k 0
 | .sl _ _ m _=>k m
 | .sg _ _ m _=>k m
 | _=>none
theorem sliceLen_some {a:AV} {k:Nat→R} {x:AV×HP} (h:sliceLen a k=some x):∃m,k m=some x∧∀φ v,VR φ a v→∃b c,v=.slice b m c:=by
 unfold sliceLen at h
 split at h
 ·exact⟨0,h,fun φ v hv=>⟨none,0,hv⟩⟩
 ·rename_i r q m c
  exact⟨m,h,fun φ v ⟨g,c',_,e,_⟩=>⟨_,_,e⟩⟩
 ·rename_i r q m c
  exact⟨m,h,fun φ v ⟨g,c',_,e,_⟩=>⟨_,_,e⟩⟩
 ·cases h
theorem lenV_ok {t el:TypeId} {x:Operand} (ho:o.op=.call { callee:=.builtin .len,args:=#[x],argTypes:=#[t]}) (hu:P.underlying t=some (.slice el)) :
  PureOk P G dt n ds o (fun e t0 hp k=>sliceLen ((opd G dt n ds x).run e t0) fun m=>k (.i .i64 (Int.ofNat m)) hp):=
 .pure fun e t0 hp k r hr=>by
  obtain⟨m,h1,h2⟩:=sliceLen_some hr
  refine⟨_,h1,fun φ a w hx=>⟨.int .i64 (m:Int),?_,rfl⟩⟩
  obtain⟨b,c,e1⟩:=h2 φ _ ((hx x (by rw [ho];simp [Op.operands,Call.operands])))
  unfold execOp
  rw [ho]
  simp [resolve,invoke,builtin,Builtin.len_,e1,run_underlying hu,goInt]
end
end Go.Proofs.YtnfokaecobddkaaGreatDoor.Clo
end
section
namespace Go.Proofs.YtnfokaecobddkaaGreatDoor.Clo
open Go.RowKit
set_option linter.unusedVariables false
set_option linter.unusedSimpArgs false
section
variable {P:Program} {G dt n:Nat} {ds:List (Option Nat)} {o:Oper}
noncomputable def callF (g:GV) (gs:List GV):OM:=.mk fun hd e t hp k kp=>(g.run e t).on_fn fun f first cap=>match f with
 | .func f=>hd.c f (first.app ((argsA gs e t).app cap)) hp k kp
 | _=>none
theorem call_ok {f:Operand} {xs:Array Operand} {ts:Array TypeId} (ho:o.op=.call { callee:=.value f,args:=xs,argTypes:=ts}) :
  OpOk P G dt n ds o (callF (opd G dt n ds f) (xs.toList.map (opd G dt n ds))):=by
 intro hd hok e t hp k kp r hr
 have hr':((opd G dt n ds f).run e t).on_fn (fun f first cap=>match f with
  | .func f=>hd.c f (first.app ((argsA (xs.toList.map (opd G dt n ds)) e t).app cap)) hp k kp
  | _=>none)=some r:=hr
 obtain⟨fn,first,cap,hf,h1⟩:=AV.on_fn_some hr'
 split at h1
 ·rename_i fid
  have prep:∀φ (a:Act) (w:World),Glo G φ→OpsR G dt n ds φ e t a.eval o.op→∃ars:Array Value,VL φ (first.app ((argsA (xs.toList.map (opd G dt n ds)) e t).app cap)) ars.toList∧(execOp a.eval o).run P w=(callFunc fid ars).run P w:=by
   intro φ a w g1 g2
   have hfv:=g2 f (by rw [ho];simp [Op.operands,Call.operands])
   rw [hf] at hfv
   obtain⟨us,ys,e1,v1,v2⟩:=hfv
   have e1':a.eval f=.func (.func fid) us ys:=e1
   refine⟨(us++xs.map a.eval)++ys,?_,?_⟩
   ·rw [Array.toList_append,Array.toList_append,Array.toList_map,List.append_assoc]
    exact VL.app v1 (VL.app (argsA_ok fun x hm=>g2 x (by rw [ho];simp only [Op.operands,Call.operands,Array.mem_append];exact .inr (Array.mem_toList_iff.1 hm))) v2)
   ·unfold execOp
    rw [ho]
    simp only [resolve,e1',Deferred.ofValue,Sem.run_bind,Sem.run_pure,Result.andThen_ok,invoke]
  rcases hok.1 fid _ hp k kp r h1 with ⟨v,hp',h2,h3⟩|⟨v,hp',h2,h3⟩
  ·refine .inl ⟨v,hp',h2,fun φ B a w g1 g2 g4 K Q hK=>?_⟩
   obtain⟨ars,hargs,hrun⟩:=prep φ a w g1 g2
   have hc:=h3 φ B w _ g1 g4 hargs
   unfold Oper.wp
   rw [hrun]
   rcases hc with ⟨c1,c2⟩|⟨v',w',c1,c2⟩
   ·rw [c1]
    refine Calls.mono c2 fun e' w' he=>?_
    obtain⟨v',rfl,c3⟩:=he
    exact hK v' w' c3
   ·rw [c1]
    exact hK v' w' c2
  ·refine .inr ⟨v,hp',h2,fun φ B a w g1 g2 g4 K Q hQ=>?_⟩
   obtain⟨ars,hargs,hrun⟩:=prep φ a w g1 g2
   obtain⟨c1,c2⟩:=h3 φ B w _ g1 g4 hargs
   unfold Oper.wp
   rw [hrun,c1]
   refine Calls.mono c2 fun e' w' he=>?_
   obtain⟨v',rfl,c3⟩:=he
   exact hQ v' w' c3
 ·cases h1
end
end Go.Proofs.YtnfokaecobddkaaGreatDoor.Clo
end
section
namespace Go.Proofs.YtnfokaecobddkaaGreatDoor.Clo
open Go.RowKit
set_option linter.unusedVariables false
set_option linter.unusedSimpArgs false
section
variable {φ:Id→Option Plc} {h:Mem} {nx:Id} {w:World} {B:Nat}
theorem WR.drew (hw:WR φ B h nx w):WR φ B h nx w.drew∧Step φ h nx w φ h nx w.drew:=
 ⟨⟨hw.len,hw.fresh,hw.blk,hw.inj,hw.lt,hw.base,hw.bsz⟩,⟨.refl _,rfl,rfl,rfl,Nat.le_refl _,fun _ _ _=>rfl,fun _ _ h=>h,fun _ _ h k=>⟨h,k⟩,Nat.le_refl _,fun _ _ _=>rfl⟩⟩
theorem WR.del (hw:WR φ B h nx w) {r:Id} {x:Blk} {g:Plc} (hr:h.get r=some x) (hg:φ r=some g):WR φ B (h.del r) nx w∧Step φ h nx w φ (h.del r) nx w:=by
 have hrl:=(hw.fresh r (.inl (by rw [hr];simp))).1
 have back:∀q z,(h.del r).get q=some z→h.get q=some z:=fun q z e=>(T4.get_of_del r q h z e).1
 refine⟨⟨hw.len,fun q hq=>hw.fresh q ?_,fun q z k hq hk=>hw.blk q z k (back q z hq) hk,fun q q' z z' k k' hq hq' hk hk' hkk=>hw.inj q q' z z' k k' (back q z hq) (back q' z' hq') hk hk' hkk,hw.lt,fun q z k hq hz hk=>hw.base q z k (back q z hq) hz hk,hw.bsz⟩,
  ⟨.refl _,rfl,rfl,rfl,Nat.le_refl _,fun _ _ _=>rfl,fun b _ ⟨q,z,k,h1,h2,h3,h4⟩=>⟨q,z,k,back q z h1,h2,h3,h4⟩,fun q z hq hn=>⟨?_,hn⟩,Nat.le_refl _,fun _ _ _=>rfl⟩⟩
 ·rcases hq with hq|hq
  ·left
   cases e:(h.del r).get q with
   | none=>exact absurd e hq
   | some z=>rw [back q z e];simp
  ·exact .inr hq
 ·have hql:=(hw.fresh q (.inl (by rw [hq];simp))).1
  have hne:q≠r:=fun e=>by subst e;rw [hg] at hn;cases hn
  exact(T4.get_del_other r q h (hrl.trans hql.symm) hne).trans hq
theorem WR.heir (hw:WR φ B h nx w) (hl:last nx=false) {r:Id} {x y:Blk} {g:Plc} {w':World} {o:Obj} (hr:h.get r=some x) (hx:x.ro=false) (hg:φ r=some g)
  (hos:w'.os=w.os) (htape:w'.tape=w.tape) (hout:w'.output=w.output) (hsz:w'.heap.size=w.heap.size) (hkeep:∀k,k≠g.1→w'.heap[k]? = w.heap[k]?) (hat:w'.heap[g.1]? = some o) (ho:y.says φ g.2 o) :
  WR (ext φ nx g) B ((h.del r).set nx y) (inc nx) w'∧Step φ h nx w (ext φ nx g) ((h.del r).set nx y) (inc nx) w':=by
 obtain⟨hn1,hn2⟩:=hw.nx_none
 have hm:More φ (ext φ nx g):=ext_more _ hn2
 have hinc:=inc_num nx hl
 have hd:nx.length=DB:=hw.len
 have hrl:=(hw.fresh r (.inl (by rw [hr];simp))).1
 have hne:∀q,h.get q≠none∨φ q≠none→q≠nx:=fun q hq e=>by subst e;have:=(hw.fresh _ hq).2;omega
 have back:∀q z,((h.del r).set nx y).get q=some z→q≠nx→h.get q=some z∧q≠r:=fun q z e hq=>T4.get_of_del r q h z (T4.get_of_set y nx q (h.del r) z e hq)
 have same:((h.del r).set nx y).get nx=some y:=T4.get_set_same y nx (h.del r)
 have fwd:∀q z,h.get q=some z→q≠r→((h.del r).set nx y).get q=some z:=fun q z e hq=>by
  have hf:=hw.fresh q (.inl (by rw [e];simp))
  exact(T4.get_set_other y nx q (h.del r) (hd.trans hf.1.symm) (hne q (.inl (by rw [e];simp)))).trans ((T4.get_del_other r q h (hrl.trans hf.1.symm) hq).trans e)
 have own:Own φ h g.1:=⟨r,x,g,hr,hx,hg,rfl⟩
 constructor
 ·refine⟨by rw [inc_len];exact hd,fun q hq=>?_,fun q z k hq hk=>?_,fun q q' z z' k k' hq hq' hk hk' hkk=>?_,fun q k hk=>?_,fun q z k hq hz hk=>?_,by rw [hsz];exact hw.bsz⟩
  ·by_cases e:q=nx
   ·subst e;exact⟨hd,by rw [hinc];omega⟩
   ·have:h.get q≠none∨φ q≠none:=by
     rcases hq with hq|hq
     ·left
      cases e':((h.del r).set nx y).get q with
      | none=>exact absurd e' hq
      | some z=>rw [(back q z e' e).1];simp
     ·right;rw [ext_other φ _ e] at hq;exact hq
    have hf:=hw.fresh q this
    exact⟨hf.1,by rw [hinc];omega⟩
  ·by_cases e:q=nx
   ·subst e
    rw [same] at hq
    rw [ext_same] at hk
    cases hq;cases hk
    exact⟨o,hat,Blk.says_more hm ho⟩
   ·obtain⟨hz,hqr⟩:=back q z hq e
    rw [ext_other φ _ e] at hk
    obtain⟨o',h1,h2⟩:=hw.blk q z k hz hk
    exact⟨o',(hkeep k.1 (fun ek=>hqr (hw.inj q r z x k g hz hr hk hg ek))).trans h1,Blk.says_more hm h2⟩
  ·by_cases e:q=nx
   ·subst e
    rw [ext_same] at hk
    cases hk
    by_cases e':q'=q
    ·exact e'.symm
    ·obtain⟨hz',hqr⟩:=back q' z' hq' e'
     rw [ext_other φ _ e'] at hk'
     exact absurd (hw.inj q' r z' x k' g hz' hr hk' hg hkk.symm) hqr
   ·obtain⟨hz,hqr⟩:=back q z hq e
    rw [ext_other φ _ e] at hk
    by_cases e':q'=nx
    ·subst e'
     rw [ext_same] at hk'
     cases hk'
     exact absurd (hw.inj q r z x k g hz hr hk hg hkk) hqr
    ·obtain⟨hz',_⟩:=back q' z' hq' e'
     rw [ext_other φ _ e'] at hk'
     exact hw.inj q q' z z' k k' hz hz' hk hk' hkk
  ·rw [hsz]
   by_cases e:q=nx
   ·subst e;rw [ext_same] at hk;cases hk;exact hw.lt r g hg
   ·rw [ext_other φ _ e] at hk;exact hw.lt q k hk
  ·by_cases e:q=nx
   ·subst e;rw [ext_same] at hk;cases hk;exact hw.base r x g hr hx hg
   ·rw [ext_other φ _ e] at hk;exact hw.base q z k (back q z hq e).1 hz hk
 ·refine⟨hm,hos,htape,hout,by rw [hsz];exact Nat.le_refl _,fun k hk hn=>hkeep k (fun e=>hn (by rw [e];exact own)),fun k hk ⟨q,z,g',h1,h2,h3,h4⟩=>?_,fun q z hq hn=>⟨fwd q z hq (fun e=>by subst e;rw [hg] at hn;cases hn),by rw [ext_other φ _ (hne q (.inl (by rw [hq];simp)))];exact hn⟩,by rw [hinc];omega,fun q hq hlt=>ext_other φ _ (fun e=>by subst e;omega)⟩
  by_cases e:q=nx
  ·subst e;rw [ext_same] at h3;cases h3;rw [←h4];exact own
  ·rw [ext_other φ _ e] at h3
   exact⟨q,z,g',(back q z h1 e).1,h2,h3,h4⟩
end
end Go.Proofs.YtnfokaecobddkaaGreatDoor.Clo
end
section
namespace Go.Proofs.YtnfokaecobddkaaGreatDoor.Clo
open Go.RowKit
set_option linter.unusedVariables false
set_option linter.unusedSimpArgs false
noncomputable def bytesA (l:List Nat):AV:=List.rec (motive:=fun _=>AV) .nil (fun x _ r=>.cons (.i .u8 (Int.ofNat x)) r) l
theorem bytesA_ok {φ:Id→Option Plc}:∀{l:List Nat},B256 l→VL φ (bytesA l) (byteCells (bytesOf l))
 | [],_=>rfl
 | x :: l,h=>by
  have hx:x < 256:=h x (by simp)
  have e:byteCells (bytesOf (x :: l))=.int .u8 ((x:Nat):Int) :: byteCells (bytesOf l):=by
   simp [byteCells,bytesOf,UInt8.toNat_ofNat',Nat.mod_eq_of_lt hx]
  rw [e]
  exact⟨_,_,rfl,rfl,bytesA_ok fun y hy=>h y (by simp [hy])⟩
noncomputable def rowF (size:Nat) (r:Id) (q m:Nat) (hp:HP) (k:Nat→AV→R):R:=
 hp.on fun mem _=>onRow mem r fun _ _ _ _ cells=>Option.rec (motive:=fun _=>R) none (fun y=>match y.allOne with|true=>k m y|false=>none) ((cells.drop q).takeO (Nat.mul m size))
noncomputable def srcF (size:Nat) (a:AV) (hp:HP) (k:Nat→AV→R):R:=match a with
 | .sn=>k 0 .nil
 | .sl r q m _=>rowF size r q m hp k
 | .sg r q m _=>rowF size r q m hp k
 | .s l=>match Nat.beq size 1 with
  | true=>k (lenL l) (bytesA l)
  | false=>none
 | _=>none
section
variable {P:Program} {tx:TypeId}
theorem drop_take {cells y:AV} {q m:Nat} (h:(cells.drop q).takeO m=some y):(q+m≤cells.len∨m=0)∧y=(cells.drop q).take m:=by
 obtain⟨h1,h2⟩:=AV.takeO_some m h
 refine⟨?_,h2⟩
 rcases Nat.eq_zero_or_pos m with h0|h0
 ·exact .inr h0
 ·have:=AV.drop_len q cells (by omega)
  exact .inl (by omega)
theorem seg_ok (P:Program) {φ:Id→Option Plc} {B:Nat} {h:Mem} {nx:Id} {w:World} (hw:WR φ B h nx w) {r:Id} {t:TypeId} {gr:Bool} {fz:Option Nat} {ro:Bool} {cells y:AV} {g:Plc} {q m:Nat} (hr:h.get r=some (.row t gr fz ro cells)) (hg:φ r=some g) (ht:(cells.drop q).takeO m=some y) :
  ∃vs:List Value,VL φ y vs∧vs.length=m∧∀j v,vs[j]? = some v→w.cell? ((⟨g.1,q,none⟩:Addr).add j)=some v:=by
 obtain⟨h1,h2⟩:=drop_take ht
 rcases h1 with h1|h1
 ·obtain⟨vs,_,e2,e3,e4⟩:=RW.cells (P:=P) hw.rw hr hg h1
  exact⟨vs,by rw [h2];exact e2,e3,fun j v hv=>by rw [add_lit];exact e4 j v hv⟩
 ·subst h1
  exact⟨[],by rw [h2];rfl,rfl,fun j v hv=>by simp at hv⟩
theorem srcF_some {size:Nat} {a:AV} {hp:HP} {k:Nat→AV→R} {x:AV×HP} (h:srcF size a hp k=some x):∃m y,k m y=some x∧∀φ B w v,WH φ B hp w→VR φ a v→((∃e',P.underlying tx=some (.slice e'))∨P.underlying tx=some .string)→
  ∃news,Src P size tx v m news w∧VL φ y news:=by
 have row:∀r q m,rowF size r q m hp k=some x→∃y,k m y=some x∧∀φ B w (g:Plc) c,WH φ B hp w→φ r=some g→((∃e',P.underlying tx=some (.slice e'))∨P.underlying tx=some .string)→∃news,Src P size tx (.slice (some ⟨g.1,q,none⟩) m c) m news w∧VL φ y news:=by
  intro r q m hh
  cases hp with
  | mk mem nx=>
  obtain⟨t,gr,fz,ro,cells,hm,h2⟩:=onRow_some hh
  cases ht:(cells.drop q).takeO (Nat.mul m size) with
  | none=>simp only [ht] at h2;cases h2
  | some y=>
   simp only [ht] at h2
   split at h2
   ·rename_i ho
    refine⟨y,h2,fun φ B w g c hw hg hk=>?_⟩
    obtain⟨vs,e1,e2,e3⟩:=seg_ok P hw hm hg ht
    have hl:vs.length=m*size:=e2
    exact⟨vs,⟨hk,fun _=>rfl,run_firstCells_some w size m _ m c vs hl e3,run_firstCells_some w.drew size m _ m c vs hl (by simpa using e3),hl,AV.allOne_ok ho e1⟩,e1⟩
   ·cases h2
 unfold srcF at h
 split at h
 ·exact⟨0,.nil,h,fun φ B w v hw hv hk=>⟨[],⟨hk,fun _=>by have:v=_:=hv;subst this;rfl,by have:v=_:=hv;subst this;exact run_firstCells_none w size 0 0 0,by have:v=_:=hv;subst this;exact run_firstCells_none w.drew size 0 0 0,by simp,fun _ hu=>by cases hu⟩,rfl⟩⟩
 ·rename_i r q m c
  obtain⟨y,h1,h2⟩:=row r q m h
  refine⟨m,y,h1,fun φ B w v hw hv hk=>?_⟩
  obtain⟨g,c',hg,e,_⟩:=hv
  subst e
  exact h2 φ B w g c' hw hg hk
 ·rename_i r q m z
  obtain⟨y,h1,h2⟩:=row r q m h
  refine⟨m,y,h1,fun φ B w v hw hv hk=>?_⟩
  obtain⟨g,c',hg,e,_⟩:=hv
  subst e
  exact h2 φ B w g c' hw hg hk
 ·rename_i l
  split at h
  ·rename_i hs
   have hs':=Nat.eq_of_beq_eq_true hs
   subst hs'
   refine⟨lenL l,bytesA l,h,fun φ B w v hw hv hk=>?_⟩
   obtain⟨e,b1⟩:=hv
   subst e
   have hz:(bytesOf l).size=lenL l:=by rw [bytes_size,lenL_eq]
   refine⟨byteCells (bytesOf l),⟨hk,fun _=>by rw [←hz];rfl,by rw [←hz];exact firstCells_string _ w,by rw [←hz];exact firstCells_string _ w.drew,by rw [byteCells_length,hz,Nat.mul_one],fun u hu=>?_⟩,bytesA_ok b1⟩
   obtain⟨_,_,rfl⟩:=List.mem_map.1 hu
   rfl
  ·cases h
 ·cases h
end
end Go.Proofs.YtnfokaecobddkaaGreatDoor.Clo
end
section
namespace Go.Proofs.YtnfokaecobddkaaGreatDoor.Clo
open Go.RowKit
set_option linter.unusedVariables false
set_option linter.unusedSimpArgs false
noncomputable def growF (e:TypeId) (size bytes:Nat) (olds y:AV) (m:Nat) (hp:HP) (k:KV):R:=
 hp.on fun mem nx=>match last nx with
  | true=>none
  | false=>match Nat.ble (Nat.mul (Nat.mul 2 m) bytes) 281474976710656 with
   | false=>none
   | true=>match Nat.ble m 1000000000000 with
    | false=>none
    | true=>k (.sg nx 0 m size) (.mk (mem.set nx (.row e true (some 0) false (olds.app y))) (inc nx))
section
variable {P:Program} {G dt n:Nat} {lo:Nat→Bool} {ds:List (Option Nat)} {o:Oper}
theorem grow_ok {t tx e ty:TypeId} {i:TypeInfo} {z:Value} (ht:P.underlying t=some (.slice e)) (hi:P.info? e=some i) (hz:i.zero=some z) (hzs:z.cells.size=i.size)
  {olds y:AV} {m:Nat} {hp:HP} {k:KV} {x:AV×HP} (h:growF e i.size i.bytes olds y m hp k=some x):∃v hp',k v hp'=some x∧∀φ B w (base:Option Addr) (sLen sCap nn:Nat) (xv:Value) (os news:List Value),WH φ B hp w→sLen+nn=m→sCap < m→
   (Builtin.firstCells i.size sLen (.slice base sLen sCap)).run P w.drew=.ok os.toArray w.drew→os.length=sLen*i.size→VL φ olds os→VL φ y news→Src P i.size tx xv nn news w→
   ∃ψ v' w',(Builtin.append_ #[t,tx] ty #[.slice base sLen sCap,xv]).run P w=.ok v' w'∧VR ψ v v'∧StH φ hp w ψ hp' w'∧WH ψ B hp' w':=by
 cases hp with
 | mk mem nx=>
 have h':(match last nx with
  | true=>none
  | false=>match Nat.ble (Nat.mul (Nat.mul 2 m) i.bytes) 281474976710656 with
   | false=>none
   | true=>match Nat.ble m 1000000000000 with
    | false=>none
    | true=>k (.sg nx 0 m i.size) (.mk (mem.set nx (.row e true (some 0) false (olds.app y))) (inc nx)):R)=some x:=h
 split at h'
 ·cases h'
 rename_i hl
 split at h'
 ·cases h'
 rename_i hf
 split at h'
 ·cases h'
 rename_i hm
 have hf':2*m*i.bytes≤281474976710656:=Nat.le_of_ble_eq_true hf
 have hm':m≤1000000000000:=Nat.le_of_ble_eq_true hm
 refine⟨_,_,h',fun φ B w base sLen sCap nn xv os news hw hmn hcap hold hol ho hy hs=>?_⟩
 subst hmn
 have hfit:Builtin.nextslicecap (sLen+nn) sCap*i.bytes≤281474976710656:=Nat.le_trans (Nat.mul_le_mul_right _ (nextslicecap_le hcap)) hf'
 have hrun:=run_append_grow_src (P:=P) w t tx ty e i z ht hi hz base sLen sCap os hold xv nn news hs hcap (by omega) hfit
 have hgc:=grownCap_ge w (sLen+nn) sCap e
 generalize grownCap w (sLen+nn) sCap e=gc at hrun hgc
 obtain⟨hw1,hs1⟩:=WR.drew hw
 have hK:((os++news).toArray++Builtin.zeroCells z.cells (gc - (sLen+nn))).size=gc*i.size:=by
  rw [Array.size_append,size_zeroCells,hzs,List.size_toArray,List.length_append,hol,hs.newsLen,←Nat.add_mul,←Nat.add_mul]
  congr 1
  omega
 obtain⟨h1,h2⟩:=WR.new hw1 hl (x:=.row e true (some 0) false (olds.app y)) (o:=.cells ((os++news).toArray++Builtin.zeroCells z.cells (gc - (sLen+nn))) e) (K:=gc*i.size)
  ⟨_,os++news,(Builtin.zeroCells z.cells (gc - (sLen+nn))).toList,(0,0),rfl,by simp,VL.app ho hy,(fun h=>by cases h),hK,fun i _ _ h=>h⟩ (.alloc _ _)
 exact⟨_,_,_,hrun,⟨(w.drew.heap.size,gc*i.size),gc,ext_same φ nx _,rfl,hgc,by simp⟩,hs1.trans h2,h1⟩
end
end Go.Proofs.YtnfokaecobddkaaGreatDoor.Clo
end
section
namespace Go.Proofs.YtnfokaecobddkaaGreatDoor.Clo
open Go.RowKit
set_option linter.unusedVariables false
set_option linter.unusedSimpArgs false
noncomputable def heirF (e:TypeId) (size bytes:Nat) (r:Id) (m:Nat) (nn:Nat) (y:AV) (hp:HP) (k:KV):R:=
 hp.on fun mem nx=>match last nx with
  | true=>none
  | false=>onRow mem r fun t gr fz ro cells=>match ro with
   | true=>none
   | false=>match okF fz (Nat.mul m size) with
    | false=>none
    | true=>match Nat.beq t e with
     | false=>none
     | true=>match Nat.beq cells.len (Nat.mul m size) with
      | false=>none
      | true=>match Nat.ble (Nat.mul (Nat.mul 2 (Nat.add m nn)) bytes) 281474976710656 with
       | false=>none
       | true=>match Nat.ble (Nat.add m nn) 1000000000000 with
        | false=>none
        | true=>k (.sg nx 0 (Nat.add m nn) size) (.mk ((mem.del r).set nx (.row e true fz false (cells.app y))) (inc nx))
theorem setManyA_room:∀(vs l rest:List Value) (c:Array Value),c.toList=l++rest→vs.length≤rest.length→(setManyA vs l.length c).toList=(l++vs)++rest.drop vs.length
 | [],l,rest,c,h,_=>by simpa [setManyA] using h
 | v :: vs,l,[],c,h,hl=>by simp at hl
 | v :: vs,l,a :: rest,c,h,hl=>by
  have e:(c.setIfInBounds l.length v).toList=(l++[v])++rest:=by
   rw [Array.toList_setIfInBounds,h,List.set_append_right _ _ (Nat.le_refl _)]
   simp
  have:=setManyA_room vs (l++[v]) rest _ e (by simpa using hl)
  simp only [List.length_append,List.length_cons,List.length_nil,Nat.zero_add] at this
  simpa [setManyA] using this
section
variable {P:Program}
theorem heir_ok {t tx e ty:TypeId} {i:TypeInfo} {z:Value} (ht:P.underlying t=some (.slice e)) (hi:P.info? e=some i) (hz:i.zero=some z) (hzs:z.cells.size=i.size)
  {r:Id} {y:AV} {m nn:Nat} {hp:HP} {k:KV} {x:AV×HP} (h:heirF e i.size i.bytes r m nn y hp k=some x):∃v hp',k v hp'=some x∧∀φ B w (s:Value) (xv:Value) (news:List Value),WH φ B hp w→VR φ (.sg r 0 m i.size) s→
   VL φ y news→Src P i.size tx xv nn news w→
   ∃ψ v' w',(Builtin.append_ #[t,tx] ty #[s,xv]).run P w=.ok v' w'∧VR ψ v v'∧StH φ hp w ψ hp' w'∧WH ψ B hp' w':=by
 cases hp with
 | mk mem nx=>
 have h':(match last nx with
  | true=>none
  | false=>onRow mem r fun t gr fz ro cells=>match ro with
   | true=>none
   | false=>match okF fz (Nat.mul m i.size) with
    | false=>none
    | true=>match Nat.beq t e with
     | false=>none
     | true=>match Nat.beq cells.len (Nat.mul m i.size) with
      | false=>none
      | true=>match Nat.ble (Nat.mul (Nat.mul 2 (Nat.add m nn)) i.bytes) 281474976710656 with
       | false=>none
       | true=>match Nat.ble (Nat.add m nn) 1000000000000 with
        | false=>none
        | true=>k (.sg nx 0 (Nat.add m nn) i.size) (.mk ((mem.del r).set nx (.row e true fz false (cells.app y))) (inc nx)):R)=some x:=h
 split at h'
 ·cases h'
 rename_i hl
 obtain⟨t1,gr,fz,ro,cells,hm,h2⟩:=onRow_some h'
 cases ro with
 | true=>cases h2
 | false=>
 simp only at h2
 split at h2
 ·cases h2
 rename_i hfz
 split at h2
 ·cases h2
 rename_i hte
 split at h2
 ·cases h2
 rename_i hcl
 split at h2
 ·cases h2
 rename_i hb
 split at h2
 ·cases h2
 rename_i hmm
 have hte':t1=e:=Nat.eq_of_beq_eq_true hte
 have hcl':cells.len=m*i.size:=Nat.eq_of_beq_eq_true hcl
 have hb':2*(m+nn)*i.bytes≤281474976710656:=Nat.le_of_ble_eq_true hb
 have hm':m+nn≤1000000000000:=Nat.le_of_ble_eq_true hmm
 subst hte'
 refine⟨_,_,h2,fun φ B w s xv news hw hs hy hsrc=>?_⟩
 obtain⟨g,c,hg,e0,hmc,hK⟩:=hs
 subst e0
 obtain⟨ca,l,rest,mk,e1,e2,e3,e4,e5,e6⟩:=RW.row (WR.rw hw) hm hg
 have hll:l.length=m*i.size:=(VL.len e3).trans hcl'
 have hnl:=hsrc.newsLen
 have hca:l.length+rest.length=g.2:=by rw [←e5,←Array.length_toList,e2,List.length_append]
 rw [Nat.zero_add] at hK
 by_cases hroom:m+nn≤c
 ·have hle:(m+nn)*i.size≤c*i.size:=Nat.mul_le_mul_right _ hroom
  rw [Nat.add_mul] at hle
  have hrun:=run_append_room_src (P:=P) w t tx ty t1 i ht hi g.1 0 m c xv nn news hsrc hroom (fun j hj=>?_) (fun j hj=>?_)
  ·obtain⟨m1,m2,m3,m4⟩:=setCells_meta g.1 news (0+m*i.size) w
   have hat:=setCells_row g.1 t1 mk news (0+m*i.size) w ca e1
   have hset:=setManyA_room news l rest ca e2 (by omega)
   obtain⟨h3,h4⟩:=WR.heir hw hl (y:=.row t1 true fz false (cells.app y)) hm rfl hg m1 m2 m3 m4 (fun k hk=>setCells_other g.1 news _ w k hk) hat
    ⟨_,l++news,rest.drop news.length,mk,rfl,by rw [Nat.zero_add,←hll];exact hset,VL.app e3 hy,(fun h=>by cases h),by rw [setManyA_size];exact e5,e6⟩
   exact⟨_,_,_,hrun,⟨g,c,ext_same φ nx _,rfl,hroom,by rw [Nat.zero_add];exact hK⟩,h4,h3⟩
  ·rw [cell_of_row w g.1 _ ca t1 mk e1]
   have:0+m*i.size+j < ca.size:=by omega
   simp [this]
   try omega
  ·have hlt:0+m*i.size+j < g.2:=by rw [←e5];omega
   have hno:=okF_not (i:=0+m*i.size+j) hfz e6 hlt (by show m*i.size≤_;omega)
   unfold World.frozen?
   rw [e1]
   simp only [Bool.and_eq_false_iff,decide_eq_false_iff_not]
   by_cases h1:mk.1≤0+m*i.size+j
   ·exact .inr fun h2=>hno ⟨h1,h2⟩
   ·exact .inl h1
 ·have hcap:c < m+nn:=by omega
  have hfit:Builtin.nextslicecap (m+nn) c*i.bytes≤281474976710656:=Nat.le_trans (Nat.mul_le_mul_right _ (nextslicecap_le hcap)) hb'
  have hcell:∀j v,l[j]? = some v→w.drew.cell? ((⟨g.1,0,none⟩:Addr).add j)=some v:=fun j v hv=>by
   rw [add_lit,Nat.zero_add]
   simpa using cell_row e1 e2 hv
  have hold:=run_firstCells_some (P:=P) w.drew i.size m ⟨g.1,0,none⟩ m c l hll hcell
  have hrun:=run_append_grow_src (P:=P) w t tx ty t1 i z ht hi hz (some ⟨g.1,0,none⟩) m c l hold xv nn news hsrc hcap (by omega) hfit
  have hgc:=grownCap_ge w (m+nn) c t1
  generalize grownCap w (m+nn) c t1=gc at hrun hgc
  obtain⟨hw1,hs1⟩:=WR.drew hw
  obtain⟨hw2,hs2⟩:=WR.del hw1 hm hg
  have hK2:((l++news).toArray++Builtin.zeroCells z.cells (gc - (m+nn))).size=gc*i.size:=by
   rw [Array.size_append,size_zeroCells,hzs,List.size_toArray,List.length_append,hll,hnl,←Nat.add_mul,←Nat.add_mul]
   congr 1
   omega
  obtain⟨h3,h4⟩:=WR.new hw2 hl (x:=.row t1 true fz false (cells.app y)) (o:=.cells ((l++news).toArray++Builtin.zeroCells z.cells (gc - (m+nn))) t1) (K:=gc*i.size)
   ⟨_,l++news,(Builtin.zeroCells z.cells (gc - (m+nn))).toList,(0,0),rfl,by simp,VL.app e3 hy,(fun h=>by cases h),hK2,by
    cases fz with
    | none=>trivial
    | some _=>exact fun i _ _ h=>absurd h (Nat.not_lt_zero i)⟩ (.alloc _ _)
  exact⟨_,_,_,hrun,⟨(w.drew.heap.size,gc*i.size),gc,ext_same φ nx _,rfl,hgc,by simp⟩,(hs1.trans hs2).trans h4,h3⟩
end
end Go.Proofs.YtnfokaecobddkaaGreatDoor.Clo
end
section
namespace Go.Proofs.YtnfokaecobddkaaGreatDoor.Clo
open Go.RowKit
set_option linter.unusedVariables false
set_option linter.unusedSimpArgs false
noncomputable def roomF (size:Nat) (r:Id) (q m c nn:Nat) (y:AV) (hp:HP) (k:KV):R:=
 hp.on fun mem nx=>onRow mem r fun t gr fz ro cells=>match ro with
  | true=>none
  | false=>match okF fz (Nat.add q (Nat.mul m size)) with
   | false=>none
   | true=>match Nat.ble (Nat.add (Nat.add q (Nat.mul m size)) (Nat.mul nn size)) cells.len with
    | false=>none
    | true=>k (.sl r q (Nat.add m nn) (some c)) (.mk (mem.set r (.row t gr fz false (y.setMany (Nat.add q (Nat.mul m size)) cells))) nx)
noncomputable def appF (e:TypeId) (size bytes:Nat) (a:AV) (nn:Nat) (y:AV) (hp:HP) (k:KV):R:=match a with
 | .sn=>match Nat.beq nn 0 with
  | true=>k .sn hp
  | false=>growF e size bytes .nil y nn hp k
 | .sl r q m (some c)=>match Nat.ble (Nat.add m nn) c with
  | true=>roomF size r q m c nn y hp k
  | false=>srcF size (.sl r q m (some c)) hp fun _ olds=>growF e size bytes olds y (Nat.add m nn) hp k
 | .sl r q m none=>match Nat.beq nn 0 with
  | true=>k (.sl r q m none) hp
  | false=>none
 | .sg r q m z=>match Nat.beq q 0 with
  | false=>none
  | true=>match Nat.beq z size with
   | false=>none
   | true=>heirF e size bytes r m nn y hp k
 | _=>none
section
variable {P:Program}
theorem room_ok {t tx e ty:TypeId} {i:TypeInfo} (ht:P.underlying t=some (.slice e)) (hi:P.info? e=some i)
  {r:Id} {y:AV} {q m c nn:Nat} {hp:HP} {k:KV} {x:AV×HP} (hroom:m+nn≤c) (h:roomF i.size r q m c nn y hp k=some x):∃v hp',k v hp'=some x∧∀φ B w (s:Value) (xv:Value) (news:List Value),WH φ B hp w→VR φ (.sl r q m (some c)) s→
   VL φ y news→Src P i.size tx xv nn news w→
   ∃ψ v' w',(Builtin.append_ #[t,tx] ty #[s,xv]).run P w=.ok v' w'∧VR ψ v v'∧StH φ hp w ψ hp' w'∧WH ψ B hp' w':=by
 cases hp with
 | mk mem nx=>
 obtain⟨t1,gr,fz,ro,cells,hm,h2⟩:=onRow_some (show onRow mem r _=some x from h)
 cases ro with
 | true=>cases h2
 | false=>
 simp only at h2
 split at h2
 ·cases h2
 rename_i hfz
 split at h2
 ·cases h2
 rename_i hln
 have hfz':okF fz (q+m*i.size)=true:=hfz
 have hln':q+m*i.size+nn*i.size≤cells.len:=Nat.le_of_ble_eq_true hln
 refine⟨_,_,h2,fun φ B w s xv news hw hs hy hsrc=>?_⟩
 obtain⟨g,c',hg,e0,hmc,hK⟩:=hs
 have hK':=hK c rfl
 subst e0 hK'
 have hnl:=hsrc.newsLen
 obtain⟨ca,l,rest,mk,e1,e2,e3,_,e5,e6⟩:=RW.row (WR.rw hw) hm hg
 have hll:l.length=cells.len:=VL.len e3
 obtain⟨s1,s2,s3⟩:=WR.store (P:=P) hw hm hg hy (o:=q+m*i.size) (by omega) hfz' hsrc.one
 have hrun:=run_append_room_src (P:=P) w t tx ty e i ht hi g.1 q m c' xv nn news hsrc hroom (fun j hj=>?_) (fun j hj=>?_)
 ·exact⟨φ,_,_,hrun,⟨g,c',hg,rfl,hroom,fun _ h=>by cases h;rfl⟩,s3,s2⟩
 ·have hv:l[q+m*i.size+j]? = some (l[q+m*i.size+j]'(by omega)):=List.getElem?_eq_getElem (by omega)
  rw [cell_row e1 e2 hv];rfl
 ·have hlt:q+m*i.size+j < g.2:=by rw [←e5,←Array.length_toList,e2,List.length_append];omega
  have hno:=okF_not (i:=q+m*i.size+j) hfz' e6 hlt (by omega)
  unfold World.frozen?
  rw [e1]
  simp only [Bool.and_eq_false_iff,decide_eq_false_iff_not]
  by_cases h1:mk.1≤q+m*i.size+j
  ·exact .inr fun h2=>hno ⟨h1,h2⟩
  ·exact .inl h1
theorem app_ok {t tx e ty:TypeId} {i:TypeInfo} {z:Value} (ht:P.underlying t=some (.slice e)) (hi:P.info? e=some i) (hz:i.zero=some z) (hzs:z.cells.size=i.size)
  {a y:AV} {nn:Nat} {hp:HP} {k:KV} {x:AV×HP} (h:appF e i.size i.bytes a nn y hp k=some x):∃v hp',k v hp'=some x∧∀φ B w (s:Value) (xv:Value) (news:List Value),WH φ B hp w→VR φ a s→
   VL φ y news→Src P i.size tx xv nn news w→
   ∃ψ v' w',(Builtin.append_ #[t,tx] ty #[s,xv]).run P w=.ok v' w'∧VR ψ v v'∧StH φ hp w ψ hp' w'∧WH ψ B hp' w':=by
 unfold appF at h
 split at h
 ·split at h
  ·rename_i hn
   have hn':=Nat.eq_of_beq_eq_true hn
   subst hn'
   refine⟨_,_,h,fun φ B w s xv news hw hs hy hsrc=>?_⟩
   have hs':s=.slice none 0 0:=hs
   subst hs'
   have hnil:news=[]:=List.length_eq_zero_iff.1 (by have:=hsrc.newsLen;omega)
   subst hnil
   exact⟨φ,_,_,run_append_nothing w t tx ty e i ht hi none 0 0 (Nat.le_refl _) xv hsrc,rfl,Step.refl,hw⟩
  ·rename_i hn
   obtain⟨v,hp',h1,h2⟩:=grow_ok (P:=P) (tx:=tx) (ty:=ty) ht hi hz hzs h
   refine⟨v,hp',h1,fun φ B w s xv news hw hs hy hsrc=>?_⟩
   have hs':s=.slice none 0 0:=hs
   subst hs'
   have hn':nn≠0:=fun e=>by subst e;exact absurd hn (by decide)
   exact h2 φ B w none 0 0 nn xv [] news hw (by omega) (by omega) (run_firstCells_none w.drew i.size 0 0 0) (by simp) rfl hy hsrc
 ·rename_i r q m c
  split at h
  ·rename_i hr
   exact room_ok ht hi (Nat.le_of_ble_eq_true hr) h
  ·rename_i hr
   obtain⟨m',olds,h1,h2⟩:=srcF_some (P:=P) (tx:=t) h
   obtain⟨v,hp',h3,h4⟩:=grow_ok (P:=P) (tx:=tx) (ty:=ty) ht hi hz hzs h1
   refine⟨v,hp',h3,fun φ B w s xv news hw hs hy hsrc=>?_⟩
   obtain⟨os,o1,o2⟩:=h2 φ B w s hw hs (.inl ⟨e,ht⟩)
   obtain⟨g,c',hg,e0,hmc,hK⟩:=hs
   have hK':=hK c rfl
   subst e0 hK'
   have hmm:m'=m:=by
    have e1:=o1.len w
    have e2:(Builtin.lenOf (.slice (some ⟨g.1,q,none⟩) m c')).run P w=.ok m w:=rfl
    rw [e2] at e1
    injection e1 with e1
    exact e1.symm
   subst hmm
   have hcap:c' < m'+nn:=Nat.lt_of_not_le fun hle=>by
    have:=Nat.ble_eq_true_of_le hle
    exact absurd (hr.symm.trans this) (by decide)
   exact h4 φ B w _ m' c' nn xv os news hw rfl hcap o1.cellsD o1.newsLen o2 hy hsrc
 ·rename_i r q m
  split at h
  ·rename_i hn
   have hn':=Nat.eq_of_beq_eq_true hn
   subst hn'
   refine⟨_,_,h,fun φ B w s xv news hw hs hy hsrc=>?_⟩
   have hnil:news=[]:=List.length_eq_zero_iff.1 (by have:=hsrc.newsLen;omega)
   subst hnil
   have hs':=hs
   obtain⟨g,c',hg,e0,hmc,hK⟩:=hs
   subst e0
   exact⟨φ,_,_,run_append_nothing w t tx ty e i ht hi _ m c' hmc xv hsrc,hs',Step.refl,hw⟩
  ·cases h
 ·rename_i r q m zz
  split at h
  ·cases h
  rename_i hq
  split at h
  ·cases h
  rename_i hzz
  have hq':=Nat.eq_of_beq_eq_true hq
  have hzz':=Nat.eq_of_beq_eq_true hzz
  subst hq' hzz'
  exact heir_ok ht hi hz hzs h
 ·cases h
end
section
variable {P:Program} {G dt n:Nat} {ds:List (Option Nat)} {o:Oper}
theorem append_ok {s x:Operand} {t tx e:TypeId} {i:TypeInfo} {z:Value} (ho:o.op=.call { callee:=.builtin .append,args:=#[s,x],argTypes:=#[t,tx]})
  (ht:P.underlying t=some (.slice e)) (hi:P.info? e=some i) (hz:i.zero=some z) (hzs:z.cells.size=i.size) (hk:(∃e',P.underlying tx=some (.slice e'))∨P.underlying tx=some .string) :
  ValOk P G dt n ds o (fun E t0 hp k=>srcF i.size ((opd G dt n ds x).run E t0) hp fun nn y=>appF e i.size i.bytes ((opd G dt n ds s).run E t0) nn y hp k):=by
 intro E t0 hp k r hr
 obtain⟨nn,y,h1,h2⟩:=srcF_some (P:=P) (tx:=tx) hr
 obtain⟨v,hp',h3,h4⟩:=app_ok (P:=P) (tx:=tx) (ty:=o.type) ht hi hz hzs h1
 refine⟨v,hp',h3,fun φ B a w g1 g2 hw=>?_⟩
 have hx:=g2 x (by rw [ho];simp [Op.operands,Call.operands])
 have hs:=g2 s (by rw [ho];simp [Op.operands,Call.operands])
 obtain⟨news,n1,n2⟩:=h2 φ B w (a.eval x) hw hx hk
 obtain⟨ψ,v',w',e1,e2,e3,e4⟩:=h4 φ B w (a.eval s) (a.eval x) news hw hs n2 n1
 refine⟨ψ,v',w',.inl ?_,e2,e3,e4⟩
 unfold execOp
 simp only [ho,resolve,invoke,builtin,Sem.run_bind,Sem.run_pure,Result.andThen_ok,List.map_toArray,List.map_cons,List.map_nil,e1]
end
end Go.Proofs.YtnfokaecobddkaaGreatDoor.Clo
end
section
namespace Go.Proofs.YtnfokaecobddkaaGreatDoor.Clo
open Go.RowKit
set_option linter.unusedVariables false
set_option linter.unusedSimpArgs false
noncomputable def anySl (a:AV) (k:Id→Nat→Nat→R):R:=match a with
 | .sl r q m _=>k r q m
 | .sg r q m _=>k r q m
 | _=>none
theorem anySl_some {a:AV} {k:Id→Nat→Nat→R} {x:AV×HP} (h:anySl a k=some x):∃r q m,k r q m=some x∧∀φ v,VR φ a v→∃(g:Plc) (c:Nat),φ r=some g∧v=.slice (some ⟨g.1,q,none⟩) m c∧m≤c:=by
 unfold anySl at h
 split at h
 ·rename_i r q m c
  exact⟨r,q,m,h,fun φ v ⟨g,c',h1,e,h2,_⟩=>⟨g,c',h1,e,h2⟩⟩
 ·rename_i r q m c
  exact⟨r,q,m,h,fun φ v ⟨g,c',h1,e,h2,_⟩=>⟨g,c',h1,e,h2⟩⟩
 ·cases h
section
variable {P:Program} {G dt n:Nat} {ds:List (Option Nat)} {o:Oper}
theorem indexAddrG_ok {t el:TypeId} {x y:Operand} {i:TypeInfo} (ho:o.op=.indexAddr t x y) (hu:P.underlying t=some (.slice el)) (hi:P.info? el=some i) :
  PureOk P G dt n ds o (fun e t0 hp k=>anySl ((opd G dt n ds x).run e t0) fun r q m=>((opd G dt n ds y).run e t0).on_i fun _ j=>onNat j fun j=>match Nat.blt j m with
   | true=>k (.p r (Nat.add q (Nat.mul j i.size))) hp
   | false=>none):=
 .pure fun e t0 hp k r hr=>by
  obtain⟨b,q,m,h1,hb⟩:=anySl_some hr
  obtain⟨kd,j,hj,h2⟩:=AV.on_i_some h1
  obtain⟨j,rfl,h3⟩:=onNat_some h2
  split at h3
  ·rename_i hlt
   have hlt':j < m:=by simpa [Nat.blt_eq] using hlt
   refine⟨_,h3,fun φ a w hx=>?_⟩
   obtain⟨g,c',hg,e1,_⟩:=hb φ _ ((hx x (by rw [ho];simp [Op.operands,Call.operands])))
   have e2:a.eval y=.int kd (j:Int):=by have:=(hx y (by rw [ho];simp [Op.operands,Call.operands]));rw [hj] at this;exact this
   refine⟨.pointer (some ⟨g.1,q+j*i.size,none⟩),?_,g,hg,rfl⟩
   unfold execOp
   rw [ho]
   simp only [Instr.indexAt,e1,e2,asIntOf,Sem.run_bind,Sem.run_pure,Result.andThen_ok,run_underlying hu]
   rw [if_pos ⟨Int.natCast_nonneg j,by omega⟩]
   simp [sizeOf,typeInfo,program,Sem.run,hi,add_lit]
  ·cases h3
theorem indexAddrA_ok {t el:TypeId} {len:Nat} {x y:Operand} {i:TypeInfo} (ho:o.op=.indexAddr t x y) (hu:P.underlying t=some (.array len el)) (hi:P.info? el=some i) :
  PureOk P G dt n ds o (fun e t0 hp k=>((opd G dt n ds x).run e t0).on_p fun r q=>((opd G dt n ds y).run e t0).on_i fun _ j=>onNat j fun j=>match Nat.blt j len with
   | true=>k (.p r (Nat.add q (Nat.mul j i.size))) hp
   | false=>none):=
 .pure fun e t0 hp k r hr=>by
  obtain⟨b,q,hb,h1⟩:=AV.on_p_some hr
  obtain⟨kd,j,hj,h2⟩:=AV.on_i_some h1
  obtain⟨j,rfl,h3⟩:=onNat_some h2
  split at h3
  ·rename_i hlt
   have hlt':j < len:=by simpa [Nat.blt_eq] using hlt
   refine⟨_,h3,fun φ a w hx=>?_⟩
   obtain⟨g,hg,e1⟩:∃g,φ b=some g∧a.eval x=.pointer (some ⟨g.1,q,none⟩):=by have:=(hx x (by rw [ho];simp [Op.operands,Call.operands]));rw [hb] at this;exact this
   have e2:a.eval y=.int kd (j:Int):=by have:=(hx y (by rw [ho];simp [Op.operands,Call.operands]));rw [hj] at this;exact this
   refine⟨.pointer (some ⟨g.1,q+j*i.size,none⟩),?_,g,hg,rfl⟩
   unfold execOp
   rw [ho]
   simp only [Instr.indexAt,Instr.sureAddr,e1,e2,asIntOf,Sem.run_bind,Sem.run_pure,Result.andThen_ok,run_underlying hu]
   rw [if_pos ⟨Int.natCast_nonneg j,by omega⟩]
   simp [sizeOf,typeInfo,program,Sem.run,hi,add_lit]
  ·cases h3
end
end Go.Proofs.YtnfokaecobddkaaGreatDoor.Clo
end
section
namespace Go.Proofs.YtnfokaecobddkaaGreatDoor.Clo
open Go.RowKit
set_option linter.unusedVariables false
set_option linter.unusedSimpArgs false
theorem foldl_setMany (off:Nat):∀(l:List Value) (m:Nat) (cells:Array Value),(l.zipIdx m).foldl (fun cs (p:Value×Nat)=>cs.setIfInBounds (off+p.2) p.1) cells=setManyA l (off+m) cells
 | [],_,_=>rfl
 | v :: r,m,cells=>by
  rw [List.zipIdx_cons,List.foldl_cons]
  exact foldl_setMany off r (m+1) _
noncomputable def fillR (L:List (Nat×Nat×GV)) (e:Env) (t:Tr):AV→(AV→R)→R:=
 List.rec (motive:=fun _=>AV→(AV→R)→R) (fun cells k=>k cells) (fun p _ ih cells k=>Option.rec (motive:=fun _=>R) none (fun c=>match Nat.beq c.len p.2.1 with
  | false=>none
  | true=>match Nat.ble (Nat.add p.1 p.2.1) cells.len with
   | false=>none
   | true=>ih (c.setMany p.1 cells) k) (p.2.2.run e t).cellsO) L
section
variable {P:Program} {G dt n:Nat} {ds:List (Option Nat)} {o:Oper}
noncomputable def plan (G dt n:Nat) (ds:List (Option Nat)) (place:Nat→Option (Nat×Nat)):List (Nat×Operand)→Option (List (Nat×Nat×GV))
 | []=>some []
 | (i,x) :: r=>match place i with
  | none=>none
  | some (of,sz)=>match plan G dt n ds place r with
   | none=>none
   | some l=>some ((of,sz,opd G dt n ds x) :: l)
theorem fillR_some {place:Nat→Option (Nat×Nat)}:∀{ps:List (Nat×Operand)} {L:List (Nat×Nat×GV)},plan G dt n ds place ps=some L→∀{e:Env} {t:Tr} {cells:AV} {k:AV→R} {x:AV×HP},fillR L e t cells k=some x→
  ∃cells',k cells'=some x∧∀φ (ev:Operand→Value) (ca:Array Value),(∀p∈ps,VR φ ((opd G dt n ds p.2).run e t) (ev p.2))→VL φ cells ca.toList→∃ca',Instr.fill place ca (ps.map fun p=>(p.1,ev p.2))=some ca'∧VL φ cells' ca'.toList∧ca'.size=ca.size
 | [],L,hL,e,t,cells,k,x,h=>by
  cases hL
  exact⟨cells,h,fun φ ev ca _ hc=>⟨ca,rfl,hc,rfl⟩⟩
 | (i,y) :: r,L,hL,e,t,cells,k,x,h=>by
  unfold plan at hL
  split at hL
  ·cases hL
  rename_i of sz hp
  split at hL
  ·cases hL
  rename_i l hl
  cases hL
  have h':(Option.rec (motive:=fun _=>R) none (fun c=>match Nat.beq c.len sz with
   | false=>none
   | true=>match Nat.ble (Nat.add of sz) cells.len with
    | false=>none
    | true=>fillR l e t (c.setMany of cells) k) ((opd G dt n ds y).run e t).cellsO:R)=some x:=h
  cases hc:((opd G dt n ds y).run e t).cellsO with
  | none=>rw [hc] at h';cases h'
  | some c=>
  rw [hc] at h'
  simp only at h'
  split at h'
  ·cases h'
  rename_i hsz
  split at h'
  ·cases h'
  rename_i hle
  have hsz':c.len=sz:=Nat.eq_of_beq_eq_true hsz
  have hle':of+sz≤cells.len:=Nat.le_of_ble_eq_true hle
  obtain⟨cells',h1,h2⟩:=fillR_some hl h'
  refine⟨cells',h1,fun φ ev ca hx hca=>?_⟩
  obtain⟨hv,_⟩:=AV.cellsO_ok hc (show VR φ _ (ev y) from hx (i,y) (by simp))
  have hlv:(ev y).cells.toList.length=sz:=(VL.len hv).trans hsz'
  have hlv':(ev y).cells.size=sz:=by rw [←Array.length_toList];exact hlv
  have hlc:ca.toList.length=cells.len:=VL.len hca
  obtain⟨l',e1,e2⟩:=VL.setMany hv hca (rest:=[]) (c:=ca) (List.append_nil _).symm (o:=of) (by omega)
  rw [List.append_nil] at e1
  obtain⟨ca',f1,f2,f3⟩:=h2 φ ev (setManyA (ev y).cells.toList of ca) (fun p hp=>hx p (by simp [hp])) (by rw [e1];exact e2)
  refine⟨ca',?_,f2,by rw [f3,setManyA_size]⟩
  have hfold:(ev y).cells.zipIdx.foldl (fun cs (p:Value×Nat)=>cs.setIfInBounds (of+p.2) p.1) ca=setManyA (ev y).cells.toList of ca:=by
   rw [←Array.foldl_toList,Array.toList_zipIdx]
   exact foldl_setMany of _ 0 ca
  have hca':ca.size=cells.len:=by rw [←Array.length_toList];exact hlc
  rw [List.map_cons,Instr.fill]
  simp only [hp]
  rw [if_neg (by simp [hlv',hca'];omega)]
  exact(congrArg (fun q=>Instr.fill place q (r.map fun p=>(p.1,ev p.2))) hfold).trans f1
theorem parts_of {φ:Id→Option Plc} {e:Env} {t:Tr} {ev:Operand→Value} {op:Op} {ps:Array (Nat×Operand)} (hop:op.operands=(ps.toList.map (·.2)).toArray) (hx:OpsR G dt n ds φ e t ev op):∀p∈ps.toList,VR φ ((opd G dt n ds p.2).run e t) (ev p.2):=fun p hp=>hx p.2 (by
 rw [hop]
 simp only [List.mem_toArray]
 exact List.mem_map_of_mem hp)
theorem buildS_ok {t:TypeId} {parts:Array (Nat×Operand)} {fields:Array Field} {it:TypeInfo} {z:Value} {zc:AV} {places:List (Nat×Nat)} {L:List (Nat×Nat×GV)} (ho:o.op=.build t parts)
  (hu:P.underlying t=some (.struct fields)) (hit:P.info? t=some it) (hz:it.zero=some z) (hzc:(ofConst z).cellsO=some zc) (hpl:fields.toList.mapM (fun f=>(P.info? f.type).map fun i=>(f.offset,i.size))=some places)
  (hL:plan G dt n ds (fun x=>places[x]?) parts.toList=some L) :
  PureOk P G dt n ds o (fun e t0 hp k=>fillR L e t0 zc fun c=>k (.ag c) hp):=
 .pure fun e t0 hp k r hr=>by
  obtain⟨cells',h1,h2⟩:=fillR_some hL hr
  refine⟨_,h1,fun φ a w hx=>?_⟩
  obtain⟨h3,_⟩:=AV.cellsO_ok hzc (ofConst_ok φ z)
  obtain⟨ca',f1,f2,_⟩:=h2 φ a.eval z.cells (parts_of (by rw [ho];rfl) hx) h3
  refine⟨.agg ca',?_,ca',rfl,f2⟩
  have hb:P.built t (parts.map fun(i,x)=>(i,a.eval x)).toList=some ca':=by
   unfold Program.built
   simp only [hit,hu,hz,hpl]
   rw [Array.toList_map]
   simpa using f1
  unfold execOp
  simp only [ho,Sem.run_bind,run_build w t _ ca' hb,Result.andThen_ok]
  rfl
end
end Go.Proofs.YtnfokaecobddkaaGreatDoor.Clo
end
section
namespace Go.Proofs.YtnfokaecobddkaaGreatDoor.Clo
open Go.RowKit
set_option linter.unusedVariables false
set_option linter.unusedSimpArgs false
section
variable {P:Program} {G dt n:Nat} {ds:List (Option Nat)} {o:Oper}
theorem buildA_ok {t el:TypeId} {len:Nat} {parts:Array (Nat×Operand)} {it i:TypeInfo} {z:Value} {zc:AV} {L:List (Nat×Nat×GV)} (ho:o.op=.build t parts)
  (hu:P.underlying t=some (.array len el)) (hit:P.info? t=some it) (hz:it.zero=some z) (hzc:(ofConst z).cellsO=some zc) (hi:P.info? el=some i)
  (hL:plan G dt n ds (fun x=>some (x*i.size,i.size)) parts.toList=some L) :
  PureOk P G dt n ds o (fun e t0 hp k=>fillR L e t0 zc fun c=>k (.ag c) hp):=
 .pure fun e t0 hp k r hr=>by
  obtain⟨cells',h1,h2⟩:=fillR_some hL hr
  refine⟨_,h1,fun φ a w hx=>?_⟩
  obtain⟨h3,_⟩:=AV.cellsO_ok hzc (ofConst_ok φ z)
  obtain⟨ca',f1,f2,_⟩:=h2 φ a.eval z.cells (parts_of (by rw [ho];rfl) hx) h3
  refine⟨.agg ca',?_,ca',rfl,f2⟩
  have hb:P.built t (parts.map fun(i,x)=>(i,a.eval x)).toList=some ca':=by
   unfold Program.built
   simp only [hit,hu,hz,hi]
   rw [Array.toList_map]
   simpa using f1
  unfold execOp
  simp only [ho,Sem.run_bind,run_build w t _ ca' hb,Result.andThen_ok]
  rfl
end
end Go.Proofs.YtnfokaecobddkaaGreatDoor.Clo
end
