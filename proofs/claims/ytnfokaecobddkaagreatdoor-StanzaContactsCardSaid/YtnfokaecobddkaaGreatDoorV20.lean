/- Part 20 of a proof laid in parts, one behind the other; no condition of its own. -/
import Derived.Test.YtnfokaecobddkaaGreatDoorV19
import Derived.Scope
import Derived.Laws.Strings
set_option linter.all false
section
namespace Go.Proofs.YtnfokaecobddkaaGreatDoor.Clo
open Go.RowKit
set_option linter.unusedVariables false
set_option linter.unusedSimpArgs false
def undefA:AV:=.tu .nil
theorem undefA_ok (φ:Id→Option Plc):VR φ undefA undef:=⟨#[],rfl,rfl⟩
def ExR (φ:Id→Option Plc):Ex→Exit→Prop
 | .normal,e=>e=.normal
 | .exit i,e=>e=.exit i
 | .ret,e=>e=.ret
 | .pan v,e=>∃v',e=.panic (one v')∧VR φ v v'
noncomputable def guardB (a:AV) (kt kf:R):R:=AV.rec (motive:=fun _=>R) none none (fun _ _ _ _=>none) none (fun _ _ _=>none) none (fun _ _ _ _ _=>none) none (fun _=>none) (fun _ _=>kf) (fun _ _=>none) none (fun _ _ _ _=>none) (fun _ _ _ _=>none) (fun _=>none) none (fun _ _=>none) (fun _=>none) (fun x=>Bool.rec kf kt x) (fun _ _=>none) a
noncomputable def guardN (a:AV) (kt kf:R):R:=AV.rec (motive:=fun _=>R) none none (fun _ _ _ _=>none) none (fun _ _ _=>none) none (fun _ _ _ _ _=>none) none (fun _=>none) (fun _ _=>kf) (fun _ _=>none) none (fun _ _ _ _=>none) (fun _ _ _ _=>none) (fun _=>none) none (fun _ _=>none) (fun _=>none) (fun x=>Bool.rec kt kf x) (fun _ _=>none) a
noncomputable def argsA:List GV→Env→Tr→AV
 | [],_,_=>.nil
 | g :: r,e,t=>.cons (g.run e t) (argsA r e t)
abbrev OpM:=List (Option Nat)→Oper→Option (Kd×OM)
section
variable (P:Program) (G dt n:Nat) (lo:Nat→Bool) (opM:OpM)
noncomputable def wantedM (ds : List (Option Nat)) (ops : Array Oper) (o : Oper) (m : OM) : OM :=
  match o.guard with
  | none => m
  | some (j, w) => match (ops[j]?).bind (·.dst) with
    | none => .mk fun _ _ _ _ _ _ => none
    | some d => let g := opd G dt n ds (.tmp d)
      match w with
      | true => .mk fun hd e t hp k kp => guardB (g.run e t) (m.run hd e t hp k kp) (k undefA hp)
      | false => .mk fun hd e t hp k kp => guardN (g.run e t) (m.run hd e t hp k kp) (k undefA hp)
noncomputable def isFn (a:AV) (k:R):R:=a.on_fn fun f _ _=>match f with|.func _=>k|_=>none
noncomputable def opsM (ops : Array Oper) : List Oper → List (Option Nat) → RM
  | [], _ => .mk fun _ _ t hp k => k .normal t hp
  | o :: r, ds => match opM ds o with
    | none => match o.guard, o.dst, o.op with
      | none, none, .defer c => match c.callee with
        | .value f => let g := opd G dt n ds f
          let gs := c.args.toList.map (opd G dt n ds)
          let p := path dt n
          let q := opsM ops r (none :: ds)
          .mk fun hd e t hp k => isFn (g.run e t) (q.run hd (undefA :: e) (t.set p (.cons (.cons (g.run e t) (argsA gs e t)) (getT p t))) hp k)
        | _ => .mk fun _ _ _ _ _ => none
      | _, _, _ => .mk fun _ _ _ _ _ => none
    | some (_, m) =>
      let m := wantedM G dt n ds ops o m
      let q := opsM ops r (o.dst :: ds)
      match o.dst with
      | none => .mk fun hd e t hp k => m.run hd e t hp (fun v hp => q.run hd (v :: e) t hp k) fun v hp => k (.pan v) t hp
      | some d => if d < n then (if lo d then .mk fun hd e t hp k => m.run hd e t hp (fun v hp => q.run hd (v :: e) t hp k) fun v hp => k (.pan v) t hp
          else let p := path dt d; .mk fun hd e t hp k => m.run hd e t hp (fun v hp => q.run hd (v :: e) (t.set p v) hp k) fun v hp => k (.pan v) t hp)
        else .mk fun _ _ _ _ _ => none
variable {P G dt n lo opM}
theorem opsR_of {φ:Id→Option Plc} {ds:List (Option Nat)} {e:Env} {t:Tr} {a:Act} (hg:Glo G φ) (hf:FR φ dt n lo t a) (he:EnvR φ ds e a.tmps) (op:Op):OpsR G dt n ds φ e t a.eval op:=fun x _=>opd_ok hg hf he x
theorem argsA_ok {φ:Id→Option Plc} {ds:List (Option Nat)} {e:Env} {t:Tr} {ev:Operand→Value}:∀{l:List Operand},(∀x∈l,VR φ ((opd G dt n ds x).run e t) (ev x))→VL φ (argsA (l.map (opd G dt n ds)) e t) (l.map ev)
 | [],_=>rfl
 | x :: l,hx=>⟨_,_,rfl,hx x (by simp),argsA_ok fun y hy=>hx y (by simp [hy])⟩
def OpOkG (P:Program) (G dt n:Nat) (lo:Nat→Bool) (ds:List (Option Nat)) (ops:Array Oper) (o:Oper) (m:OM):Prop:=
 ∀hd,HdOk P G hd→∀e t hp k kp r,m.run hd e t hp k kp=some r→
  (∃v hp',k v hp'=some r∧∀φ B a w,Glo G φ→FR φ dt n lo t a→EnvR φ ds e a.tmps→WH φ B hp w→∀(K:Act→World→Prop) Q,
   (∀v' w',Aft φ B hp w v hp' v' w'→K (a.put o.dst v') w')→if Region.wanted o (yielded ops a.tmps)=true then o.wp P a w K Q else K (a.put o.dst undef) w)∨
  (∃v hp',kp v hp'=some r∧∀φ B a w,Glo G φ→FR φ dt n lo t a→EnvR φ ds e a.tmps→WH φ B hp w→∀(K:Act→World→Prop) Q,
   (∀v' w',Aft φ B hp w v hp' v' w'→Q (.panic (one v')) a w')→if Region.wanted o (yielded ops a.tmps)=true then o.wp P a w K Q else K (a.put o.dst undef) w)
theorem guardB_some {a:AV} {kt kf:R} {r:AV×HP} (h:guardB a kt kf=some r):(a=.b true∧kt=some r)∨(((∃l,a=.tu l)∨a=.b false)∧kf=some r):=by
 cases a <;> first|(cases h;done)|skip
 ·exact .inr ⟨.inl ⟨_,rfl⟩,h⟩
 ·rename_i x
  cases x
  ·exact .inr ⟨.inr rfl,h⟩
  ·exact .inl ⟨rfl,h⟩
theorem guardN_some {a:AV} {kt kf:R} {r:AV×HP} (h:guardN a kt kf=some r):(a=.b false∧kt=some r)∨(((∃l,a=.tu l)∨a=.b true)∧kf=some r):=by
 cases a <;> first|(cases h;done)|skip
 ·exact .inr ⟨.inl ⟨_,rfl⟩,h⟩
 ·rename_i x
  cases x
  ·exact .inl ⟨rfl,h⟩
  ·exact .inr ⟨.inr rfl,h⟩
theorem yielded_of {ops:Array Oper} {tmps:Array Value} {j d:Nat} (h:(ops[j]?).bind (·.dst)=some d):yielded ops tmps j=match tmps.getD d undef with|.bool b=>some b|_=>none:=by
 unfold yielded
 rw [h]
 simp only [Option.bind_some,Array.getD_eq_getD_getElem?]
 cases tmps[d]? with
 | none=>rfl
 | some v=>cases v <;> rfl
theorem wanted_of {ops:Array Oper} {o:Oper} {j d:Nat} {w:Bool} (hg:o.guard=some (j,w)) (hj:(ops[j]?).bind (·.dst)=some d) (a:Act):Region.wanted o (yielded ops a.tmps)=((match a.tmps.getD d undef with|.bool b=>some b|_=>none) == some w):=by
 unfold Region.wanted
 rw [hg]
 simp only [yielded_of hj]
theorem wantedM_ok {ds:List (Option Nat)} {ops:Array Oper} {o:Oper} {m:OM} (hm:OpOk P G dt n ds o m):OpOkG P G dt n lo ds ops o (wantedM G dt n ds ops o m):=by
 intro hd hok e t hp k kp r hr
 unfold wantedM at hr
 cases hg:o.guard with
 | none=>
  simp only [hg] at hr
  have hw:∀a:Act,Region.wanted o (yielded ops a.tmps)=true:=fun a=>by simp [Region.wanted,hg]
  rcases hm hd hok e t hp k kp r hr with ⟨v,hp',h1,h2⟩|⟨v,hp',h1,h2⟩
  ·exact .inl ⟨v,hp',h1,fun φ B a w g1 g2 g3 g4 K Q hK=>by rw [if_pos (hw a)];exact h2 φ B a w g1 (opsR_of g1 g2 g3 _) g4 K Q hK⟩
  ·exact .inr ⟨v,hp',h1,fun φ B a w g1 g2 g3 g4 K Q hK=>by rw [if_pos (hw a)];exact h2 φ B a w g1 (opsR_of g1 g2 g3 _) g4 K Q hK⟩
 | some jw=>
  obtain⟨j,w⟩:=jw
  simp only [hg] at hr
  cases hj:(ops[j]?).bind (·.dst) with
  | none=>simp only [hj] at hr;cases hr
  | some d=>
   simp only [hj] at hr
   have hw:=fun a:Act=>wanted_of hg hj a
   have go:(((opd G dt n ds (.tmp d)).run e t=.b w∧m.run hd e t hp k kp=some r)∨(((∃l,(opd G dt n ds (.tmp d)).run e t=.tu l)∨(opd G dt n ds (.tmp d)).run e t=.b (!w))∧k undefA hp=some r))→
     (∃v hp',k v hp'=some r∧∀φ B a w,Glo G φ→FR φ dt n lo t a→EnvR φ ds e a.tmps→WH φ B hp w→∀(K:Act→World→Prop) Q,
      (∀v' w',Aft φ B hp w v hp' v' w'→K (a.put o.dst v') w')→if Region.wanted o (yielded ops a.tmps)=true then o.wp P a w K Q else K (a.put o.dst undef) w)∨
     (∃v hp',kp v hp'=some r∧∀φ B a w,Glo G φ→FR φ dt n lo t a→EnvR φ ds e a.tmps→WH φ B hp w→∀(K:Act→World→Prop) Q,
      (∀v' w',Aft φ B hp w v hp' v' w'→Q (.panic (one v')) a w')→if Region.wanted o (yielded ops a.tmps)=true then o.wp P a w K Q else K (a.put o.dst undef) w):=by
    intro hc
    rcases hc with ⟨h1,h2⟩|⟨h1,h2⟩
    ·have hpos:∀φ (a:Act),Glo G φ→FR φ dt n lo t a→EnvR φ ds e a.tmps→Region.wanted o (yielded ops a.tmps)=true:=fun φ a g1 g2 g3=>by
      have hv:=opd_ok (lo:=lo) g1 g2 g3 (.tmp d)
      rw [h1] at hv
      have hv':a.tmps.getD d undef=.bool w:=hv
      rw [hw a,hv'];simp
     rcases hm hd hok e t hp k kp r h2 with ⟨v,hp',h3,h4⟩|⟨v,hp',h3,h4⟩
     ·exact .inl ⟨v,hp',h3,fun φ B a w0 g1 g2 g3 g4 K Q hK=>by rw [if_pos (hpos φ a g1 g2 g3)];exact h4 φ B a w0 g1 (opsR_of g1 g2 g3 _) g4 K Q hK⟩
     ·exact .inr ⟨v,hp',h3,fun φ B a w0 g1 g2 g3 g4 K Q hK=>by rw [if_pos (hpos φ a g1 g2 g3)];exact h4 φ B a w0 g1 (opsR_of g1 g2 g3 _) g4 K Q hK⟩
    ·refine .inl ⟨undefA,hp,h2,fun φ B a w0 g1 g2 g3 g4 K Q hK=>?_⟩
     have hv:=opd_ok (lo:=lo) g1 g2 g3 (.tmp d)
     rw [if_neg ?_]
     ·exact hK undef w0 ⟨φ,undefA_ok φ,Step.refl,g4⟩
     ·rw [hw a]
      rcases h1 with ⟨l,h1⟩|h1
      ·rw [h1] at hv
       obtain⟨xs,hv',_⟩:=hv
       have hv'':a.tmps.getD d undef=.tuple xs:=hv'
       rw [hv'']
       simp
      ·rw [h1] at hv
       have hv'':a.tmps.getD d undef=.bool (!w):=hv
       rw [hv'']
       cases w <;> simp
   cases w with
   | true=>exact go (guardB_some hr)
   | false=>exact go (guardN_some hr)
theorem isFn_some {a:AV} {k:R} {x:AV×HP} (h:isFn a k=some x):∃f first cap,a=.fn (.func f) first cap∧k=some x:=by
 obtain⟨f,first,cap,h1,h2⟩:=AV.on_fn_some (show a.on_fn (fun f _ _=>match f with|.func _=>k|_=>none)=some x from h)
 cases f <;> first|(cases h2;done)|exact⟨_,first,cap,h1,h2⟩
theorem FR.defer {φ:Id→Option Plc} {t:Tr} {a:Act} (hf:FR φ dt n lo t a) {f:FuncId} {first cap args:AV} {us ys ars:Array Value} (h1:VL φ first us.toList) (h2:VL φ cap ys.toList) (h3:VL φ args ars.toList) :
  FR φ dt n lo (t.set (path dt n) (.cons (.cons (.fn (.func f) first cap) args) (getT (path dt n) t))) { a with defers:={ target:=.fn (.func f) ys,args:=us++ars} :: a.defers}:=by
 have ne:∀k,k < n→path dt k≠path dt n:=fun k hk e=>Nat.ne_of_lt hk (path_inj dt k n (Nat.lt_trans hk hf.cap) hf.cap e)
 refine⟨hf.sz,hf.cap,fun k hk=>?_,fun k hk hl=>?_,?_⟩
 ·rw [getT_get,T4.get_set_other _ _ _ _ (by rw [path_len,path_len]) (ne k hk),←getT_get];exact hf.at' k hk
 ·rw [getT_get,T4.get_set_other _ _ _ _ (by rw [path_len,path_len]) (ne k hk),←getT_get];exact hf.lo k hk hl
 ·rw [getT_get (path dt n) (t.set _ _),T4.get_set_same]
  exact⟨us,ys,ars,a.defers,rfl,h1,h2,h3,hf.df⟩
theorem opsM_gen (hop:∀ds o q,opM ds o=some q→OmOk P G dt n ds o q) (ops:Array Oper) (W:(Exit→Act→World→Prop)→List Oper→Act→World→Prop) (hnil:∀Q a w,Q .normal a w→W Q [] a w)
  (hstep:∀Q o l a w,(∀K:Act→World→Prop,(∀a w,W Q l a w→K a w)→if Region.wanted o (yielded ops a.tmps) then o.wp P a w K Q else K (a.put o.dst undef) w)→W Q (o :: l) a w):∀(l:List Oper) (ds:List (Option Nat)) (hd:Hd),HdOk P G hd→∀e t hp k r,(opsM G dt n lo opM ops l ds).run hd e t hp k=some r→
  ∃x t' hp',k x t' hp'=some r∧∀φ B a w,Glo G φ→FR φ dt n lo t a→EnvR φ ds e a.tmps→WH φ B hp w→∀Q,(∀ψ a' w' x',ExR ψ x x'→FR ψ dt n lo t' a'→StH φ hp w ψ hp' w'→WH ψ B hp' w'→Q x' a' w')→W Q l a w
 | [],ds,hd,hok,e,t,hp,k,r,hr=>⟨.normal,t,hp,hr,fun φ B a w g1 g2 g3 g4 Q hQ=>hnil Q a w (hQ φ a w .normal rfl g2 Step.refl g4)⟩
 | o :: l,ds,hd,hok,e,t,hp,k,r,hr=>by
  unfold opsM at hr
  cases ho:opM ds o with
  | none=>
   simp only [ho] at hr
   split at hr
   ·rename_i c hgd hdst hopd
    split at hr
    ·rename_i f hcal
     obtain⟨fid,first,cap,h1,h2⟩:=isFn_some hr
     obtain⟨x,t',hp',h3,h4⟩:=opsM_gen hop ops W hnil hstep l (none :: ds) hd hok _ _ hp k r h2
     refine⟨x,t',hp',h3,fun φ B a w g1 g2 g3 g4 Q hQ=>hstep Q o l a w fun K hK=>?_⟩
     rw [if_pos (by simp [Region.wanted,hgd])]
     have hfv:=opd_ok (lo:=lo) g1 g2 g3 f
     rw [h1] at hfv
     obtain⟨us,ys,e1,v1,v2⟩:=hfv
     have e1':a.eval f=.func (.func fid) us ys:=e1
     have hargs:VL φ (argsA (c.args.toList.map (opd G dt n ds)) e t) (c.args.map a.eval).toList:=by rw [Array.toList_map];exact argsA_ok fun x _=>opd_ok g1 g2 g3 x
     have hrun:(execOp a.eval o).run P w=.ok (.defer { target:=.fn (.func fid) ys,args:=us++c.args.map a.eval}) w:=by
      unfold execOp
      rw [hopd]
      simp only [resolve,hcal,e1',Deferred.ofValue,Sem.run_bind,Sem.run_pure,Result.andThen_ok]
     unfold Oper.wp
     rw [hrun]
     refine hK _ _ ?_
     rw [hdst]
     refine h4 φ B _ w g1 (by rw [h1];exact(FR.defer g2 v1 v2 hargs).put_none) ?_ g4 Q hQ
     exact EnvR.put (v':=undef) (a:={ a with defers:={ target:=.fn (.func fid) ys,args:=us++c.args.map a.eval} :: a.defers}) g3 (undefA_ok φ) none (fun d h=>by cases h)
    ·cases hr
   ·cases hr
  | some km=>
   obtain⟨kd,m⟩:=km
   simp only [ho] at hr
   have hw:=wantedM_ok (lo:=lo) (ops:=ops) (hop ds o _ ho).op
   have key:∀(t2:AV→Tr),(∀φ a v v',FR φ dt n lo t a→VR φ v v'→FR φ dt n lo (t2 v) (a.put o.dst v'))→(∀d,o.dst=some d→d < n)→
     (wantedM G dt n ds ops o m).run hd e t hp (fun v hp=>(opsM G dt n lo opM ops l (o.dst :: ds)).run hd (v :: e) (t2 v) hp k) (fun v hp=>k (.pan v) t hp)=some r→
     ∃x t' hp',k x t' hp'=some r∧∀φ B a w,Glo G φ→FR φ dt n lo t a→EnvR φ ds e a.tmps→WH φ B hp w→∀Q,(∀ψ a' w' x',ExR ψ x x'→FR ψ dt n lo t' a'→StH φ hp w ψ hp' w'→WH ψ B hp' w'→Q x' a' w')→W Q (o :: l) a w:=by
    intro t2 ht2 hdl hrun
    rcases hw hd hok e t hp _ _ r hrun with ⟨v,hp1,h1,h2⟩|⟨v,hp1,h1,h2⟩
    ·obtain⟨x,t',hp',h3,h4⟩:=opsM_gen hop ops W hnil hstep l (o.dst :: ds) hd hok (v :: e) (t2 v) hp1 k r h1
     refine⟨x,t',hp',h3,fun φ B a w g1 g2 g3 g4 Q hQ=>hstep Q o l a w fun K hK=>?_⟩
     refine h2 φ B a w g1 g2 g3 g4 K Q fun v' w' ⟨ψ,hv,hs,hw'⟩=>hK _ _ ?_
     refine h4 ψ B (a.put o.dst v') w' (g1.more hs.more) (ht2 ψ a v v' (g2.more hs.more) hv) (EnvR.put (g3.more hs.more) hv o.dst (fun d hd'=>by rw [g2.sz];exact hdl d hd')) hw' Q fun χ a' w'' x' f0 f1 f2 f3=>?_
     exact hQ χ a' w'' x' f0 f1 (hs.trans f2) f3
    ·refine⟨.pan v,t,hp1,h1,fun φ B a w g1 g2 g3 g4 Q hQ=>hstep Q o l a w fun K hK=>?_⟩
     exact h2 φ B a w g1 g2 g3 g4 K Q fun v' w' ⟨ψ,hv,hs,hw'⟩=>hQ ψ a w' _ ⟨v',rfl,hv⟩ (g2.more hs.more) hs hw'
   cases hds:o.dst with
   | none=>
    simp only [hds] at hr
    exact key (fun _=>t) (fun φ a v v' hf hv=>by rw [hds];exact hf.put_none) (fun d e=>by rw [hds] at e;cases e) (by rw [hds];exact hr)
   | some d=>
    simp only [hds] at hr
    by_cases hdn:d < n
    ·simp only [hdn,if_true] at hr
     by_cases hl:lo d=true
     ·simp only [hl,if_true] at hr
      exact key (fun _=>t) (fun φ a v v' hf hv=>by rw [hds];exact hf.put_lo hdn hl) (fun d' e=>by rw [hds] at e;cases e;exact hdn) (by rw [hds];exact hr)
     ·simp only [hl,if_false,Bool.false_eq_true] at hr
      exact key (fun v=>t.set (path dt d) v) (fun φ a v v' hf hv=>by rw [hds];exact hf.put hdn (by simpa using hl) hv) (fun d' e=>by rw [hds] at e;cases e;exact hdn) (by rw [hds];exact hr)
    ·simp only [hdn,if_false] at hr
     cases hr
theorem opsM_ok (hop:∀ds o q,opM ds o=some q→OmOk P G dt n ds o q) (ops:Array Oper) (l:List Oper) (ds:List (Option Nat)) (hd:Hd) (hok:HdOk P G hd) (e:Env) (t:Tr) (hp:HP) (k:KC) (r:AV×HP) (h:(opsM G dt n lo opM ops l ds).run hd e t hp k=some r) :
  ∃x t' hp',k x t' hp'=some r∧∀φ B a w,Glo G φ→FR φ dt n lo t a→EnvR φ ds e a.tmps→WH φ B hp w→∀Q,(∀ψ a' w' x',ExR ψ x x'→FR ψ dt n lo t' a'→StH φ hp w ψ hp' w'→WH ψ B hp' w'→Q x' a' w')→wpList P ops Q l a w:=
 opsM_gen hop ops (fun Q l a w=>wpList P ops Q l a w) (fun Q a w h=>wpList_nil h) (fun Q o l a w h=>wpList_step h) l ds hd hok e t hp k r h
end
end Go.Proofs.YtnfokaecobddkaaGreatDoor.Clo
end
section
namespace Go.Proofs.YtnfokaecobddkaaGreatDoor.Clo
open Go.RowKit
set_option linter.unusedVariables false
set_option linter.unusedSimpArgs false
section
variable (P:Program) (G dt n:Nat) (lo:Nat→Bool) (opM:OpM) (regM:Array Oper→Option RM) (fuel:Nat)
noncomputable def loopM (m:CM) (fuel:Nat):Hd→Tr→HP→KC→R:=
 Nat.rec (motive:=fun _=>Hd→Tr→HP→KC→R) (fun _ _ _ _=>none) (fun _ ih hd t hp k=>m.run hd t hp fun x t hp=>Ex.rec (ih hd t hp k) (fun j=>k (.exit j) t hp) (k .ret t hp) (fun v=>k (.pan v) t hp) x) fuel
noncomputable def codeM:Code→CM
 | .skip=>.mk fun _ t hp k=>k .normal t hp
 | .label _=>.mk fun _ t hp k=>k .normal t hp
 | .region _ ops draw=>match draw with
  | false=>let m:=opsM G dt n lo opM ops ops.toList [];.mk fun hd t hp k=>m.run hd [] t hp k
  | true=>match regM ops with
   | some m=>.mk fun hd t hp k=>m.run hd [] t hp k
   | none=>.mk fun _ _ _ _=>none
 | .seq a b=>let ma:=codeM a;let mb:=codeM b;.mk fun hd t hp k=>ma.run hd t hp fun x t hp=>Ex.rec (mb.run hd t hp k) (fun i=>k (.exit i) t hp) (k .ret t hp) (fun v=>k (.pan v) t hp) x
 | .cond c a b=>let g:=opd G dt n [] c;let ma:=codeM a;let mb:=codeM b;.mk fun hd t hp k=>(g.run [] t).on_b fun x=>Bool.rec (mb.run hd t hp k) (ma.run hd t hp k) x
 | .block i a=>let ma:=codeM a;.mk fun hd t hp k=>ma.run hd t hp fun x t hp=>Ex.rec (k .normal t hp) (fun j=>Bool.rec (k (.exit j) t hp) (k .normal t hp) (Nat.beq j i)) (k .ret t hp) (fun v=>k (.pan v) t hp) x
 | .loop a=>let ma:=codeM a;.mk (loopM ma fuel)
 | .scope a=>codeM a
 | .exit i=>.mk fun _ t hp k=>k (.exit i) t hp
 | .ret=>.mk fun _ t hp k=>k .ret t hp
 | _=>.mk fun _ _ _ _=>none
variable {P G dt n lo opM regM fuel}
def CMOk (P:Program) (G dt n:Nat) (lo:Nat→Bool) (c:Code) (m:CM):Prop:=
 ∀hd,HdOk P G hd→∀t hp k r,m.run hd t hp k=some r→∃x t' hp',k x t' hp'=some r∧
  ∀φ B a w,Glo G φ→FR φ dt n lo t a→WH φ B hp w→∀Q,(∀ψ a' w' x',ExR ψ x x'→FR ψ dt n lo t' a'→StH φ hp w ψ hp' w'→WH ψ B hp' w'→Q x' a' w')→c.wp P Q a w
def RgOk (P:Program) (G dt n:Nat) (lo:Nat→Bool) (id:Nat) (ops:Array Oper) (m:RM):Prop:=
 ∀hd,HdOk P G hd→∀t hp k r,m.run hd [] t hp k=some r→∃x t' hp',k x t' hp'=some r∧
  ∀φ B a w,Glo G φ→FR φ dt n lo t a→WH φ B hp w→∀Q,(∀ψ a' w' x',ExR ψ x x'→FR ψ dt n lo t' a'→StH φ hp w ψ hp' w'→WH ψ B hp' w'→Q x' a' w')→(Code.region id ops true).wp P Q a w
def LW (P:Program) (c:Code) (Q:Exit→Act→World→Prop) (a:Act) (w:World):Prop:=
 ∀(b:Frame) (k:List Item) (cs:List Frame),∃e a' w',Q e a' w'∧Arrives P (lone (b.at a (.code c :: .inLoop c :: k)) cs w) b k cs e a' w'
theorem lw_step {c:Code} {Q:Exit→Act→World→Prop} {a:Act} {w:World} (h:c.wp P (Exit.then (LW P c Q) Q) a w):LW P c Q a w:=by
 intro b k cs
 obtain⟨e,a₁,w₁,hq,harr⟩:=h b (.inLoop c :: k) cs
 cases e with
 | normal=>
  obtain⟨e₂,a₂,w₂,hq₂,harr₂⟩:=hq b k cs
  exact⟨e₂,a₂,w₂,hq₂,.of_steps (Steps.trans harr (.one step_inLoop)) harr₂⟩
 | exit id=>exact⟨_,a₁,w₁,hq,.pass (x:=.inLoop c) rfl (fun _ _=>.inl (by simp)) harr⟩
 | goto l=>exact⟨_,a₁,w₁,hq,.pass (x:=.inLoop c) rfl (fun _ _=>.inl (by simp)) harr⟩
 | ret=>exact⟨_,a₁,w₁,hq,.pass (x:=.inLoop c) rfl (fun _ _=>.inl (by simp)) harr⟩
 | panic ch=>exact⟨_,a₁,w₁,hq,.pass (x:=.inLoop c) rfl (fun _ _=>.inl (by simp)) harr⟩
 | outgrown=>exact⟨_,a₁,w₁,hq,.pass (x:=.inLoop c) rfl (fun _ _=>.inl (by simp)) harr⟩
theorem wp_of_lw {c:Code} {Q:Exit→Act→World→Prop} {a:Act} {w:World} (h:LW P c Q a w):(Code.loop c).wp P Q a w:=by
 intro b k cs
 obtain⟨e,a',w',hq,harr⟩:=h b k cs
 exact⟨e,a',w',hq,.of_steps (.one step_loop) harr⟩
theorem ExR.to {φ:Id→Option Plc} {x:Ex} {x':Exit} (h:ExR φ x x'):(x=.normal∧x'=.normal)∨(x≠.normal∧x'≠.normal):=by
 cases x with
 | normal=>exact .inl ⟨rfl,h⟩
 | exit i=>have:x'=_:=h;subst this;exact .inr ⟨nofun,nofun⟩
 | ret=>have:x'=_:=h;subst this;exact .inr ⟨nofun,nofun⟩
 | pan v=>obtain⟨v',e,_⟩:=h;subst e;exact .inr ⟨nofun,nofun⟩
theorem then_of {next:Act→World→Prop} {Q:Exit→Act→World→Prop} {x':Exit} {a:Act} {w:World} (hn:x'≠.normal) (h:Q x' a w):Exit.then next Q x' a w:=by
 cases x' <;> first|exact absurd rfl hn|exact h
theorem loop_ok {c:Code} {m:CM} (hm:CMOk P G dt n lo c m) (hd:Hd) (hok:HdOk P G hd):∀(fuel:Nat) (t:Tr) (hp:HP) (k:KC) r,loopM m fuel hd t hp k=some r→∃x t' hp',k x t' hp'=some r∧
  ∀φ B a w,Glo G φ→FR φ dt n lo t a→WH φ B hp w→∀Q,(∀ψ a' w' x',ExR ψ x x'→FR ψ dt n lo t' a'→StH φ hp w ψ hp' w'→WH ψ B hp' w'→Q x' a' w')→LW P c Q a w
 | 0,t,hp,k,r,hr=>by cases hr
 | j+1,t,hp,k,r,hr=>by
  obtain⟨x1,t1,hp1,h1,h2⟩:=hm hd hok t hp _ r hr
  have out:∀x1',x1'≠.normal→x1=x1'→k x1' t1 hp1=some r→∃x t' hp',k x t' hp'=some r∧
    ∀φ B a w,Glo G φ→FR φ dt n lo t a→WH φ B hp w→∀Q,(∀ψ a' w' x',ExR ψ x x'→FR ψ dt n lo t' a'→StH φ hp w ψ hp' w'→WH ψ B hp' w'→Q x' a' w')→LW P c Q a w:=by
   intro x1' hne e hk
   subst e
   exact⟨x1,t1,hp1,hk,fun φ B a w g1 g2 g3 Q hQ=>lw_step (h2 φ B a w g1 g2 g3 _ fun ψ a' w' x' f0 f1 f2 f3=>then_of (by rcases f0.to with ⟨e,_⟩|⟨_,e⟩;exact absurd e hne;exact e) (hQ ψ a' w' x' f0 f1 f2 f3))⟩
  cases x1 with
  | normal=>
   obtain⟨x,t',hp',h3,h4⟩:=loop_ok hm hd hok j t1 hp1 k r h1
   refine⟨x,t',hp',h3,fun φ B a w g1 g2 g3 Q hQ=>lw_step ?_⟩
   refine h2 φ B a w g1 g2 g3 _ fun ψ a' w' x' f0 f1 f2 f3=>?_
   have:x'=.normal:=f0
   subst this
   exact h4 ψ B a' w' (g1.more f2.more) f1 f3 Q fun χ a'' w'' x'' e0 e1 e2 e3=>hQ χ a'' w'' x'' e0 e1 (f2.trans e2) e3
  | exit i=>exact out (.exit i) nofun rfl h1
  | ret=>exact out .ret nofun rfl h1
  | pan v=>exact out (.pan v) nofun rfl h1
theorem codeM_ok (hop:∀ds o q,opM ds o=some q→OmOk P G dt n ds o q) (hrg:∀id ops m,regM ops=some m→RgOk P G dt n lo id ops m):∀c:Code,CMOk P G dt n lo c (codeM G dt n lo opM regM fuel c):=by
 intro c
 induction c with
 | skip=>exact fun hd hok t hp k r hr=>⟨.normal,t,hp,hr,fun φ B a w g1 g2 g3 Q hQ=>wp_skip (hQ φ a w _ rfl g2 Step.refl g3)⟩
 | label l=>exact fun hd hok t hp k r hr=>⟨.normal,t,hp,hr,fun φ B a w g1 g2 g3 Q hQ=>wp_label (hQ φ a w _ rfl g2 Step.refl g3)⟩
 | region id ops draw=>
  intro hd hok t hp k r hr
  cases draw with
  | false=>
   obtain⟨x,t',hp',h1,h2⟩:=opsM_ok hop ops ops.toList [] hd hok [] t hp _ r hr
   exact⟨x,t',hp',h1,fun φ B a w g1 g2 g3 Q hQ=>wp_region_list (h2 φ B a w g1 g2 (EnvR.nil φ [] _) g3 Q hQ)⟩
  | true=>
   unfold codeM at hr
   cases hm:regM ops with
   | none=>simp only [hm] at hr;cases hr
   | some m=>
    simp only [hm] at hr
    exact hrg id ops m hm hd hok t hp _ r hr
 | seq a b iha ihb=>
  intro hd hok t hp k r hr
  obtain⟨x1,t1,hp1,h1,h2⟩:=iha hd hok t hp _ r hr
  have out:∀x1',x1'≠.normal→x1=x1'→k x1' t1 hp1=some r→∃x t' hp',k x t' hp'=some r∧
    ∀φ B a' w,Glo G φ→FR φ dt n lo t a'→WH φ B hp w→∀Q,(∀ψ a' w' x',ExR ψ x x'→FR ψ dt n lo t' a'→StH φ hp w ψ hp' w'→WH ψ B hp' w'→Q x' a' w')→(Code.seq a b).wp P Q a' w:=by
   intro x1' hne e hk
   subst e
   exact⟨x1,t1,hp1,hk,fun φ B a w g1 g2 g3 Q hQ=>wp_seq (h2 φ B a w g1 g2 g3 _ fun ψ a' w' x' f0 f1 f2 f3=>then_of (by rcases f0.to with ⟨e,_⟩|⟨_,e⟩;exact absurd e hne;exact e) (hQ ψ a' w' x' f0 f1 f2 f3))⟩
  cases x1 with
  | normal=>
   obtain⟨x,t',hp',h3,h4⟩:=ihb hd hok t1 hp1 k r h1
   refine⟨x,t',hp',h3,fun φ B a w g1 g2 g3 Q hQ=>wp_seq (h2 φ B a w g1 g2 g3 _ fun ψ a' w' x' f0 f1 f2 f3=>?_)⟩
   have:x'=.normal:=f0
   subst this
   exact h4 ψ B a' w' (g1.more f2.more) f1 f3 Q fun χ a'' w'' x'' e0 e1 e2 e3=>hQ χ a'' w'' x'' e0 e1 (f2.trans e2) e3
  | exit i=>exact out (.exit i) nofun rfl h1
  | ret=>exact out .ret nofun rfl h1
  | pan v=>exact out (.pan v) nofun rfl h1
 | cond c a b iha ihb=>
  intro hd hok t hp k r hr
  obtain⟨x,hx,h1⟩:=AV.on_b_some hr
  have hc:∀φ (a:Act),Glo G φ→FR φ dt n lo t a→a.eval c=.bool x:=fun φ a g1 g2=>by
   have:=opd_ok (lo:=lo) g1 g2 (EnvR.nil φ [] _) c
   rw [hx] at this
   exact this
  cases x with
  | true=>
   obtain⟨y,t',hp',h3,h4⟩:=iha hd hok t hp k r h1
   exact⟨y,t',hp',h3,fun φ B a w g1 g2 g3 Q hQ=>wp_cond_true (hc φ a g1 g2) (h4 φ B a w g1 g2 g3 Q hQ)⟩
  | false=>
   obtain⟨y,t',hp',h3,h4⟩:=ihb hd hok t hp k r h1
   exact⟨y,t',hp',h3,fun φ B a w g1 g2 g3 Q hQ=>wp_cond_false (hc φ a g1 g2) (h4 φ B a w g1 g2 g3 Q hQ)⟩
 | block i a iha=>
  intro hd hok t hp k r hr
  obtain⟨x1,t1,hp1,h1,h2⟩:=iha hd hok t hp _ r hr
  cases x1 with
  | normal=>exact⟨.normal,t1,hp1,h1,fun φ B a w g1 g2 g3 Q hQ=>wp_block (h2 φ B a w g1 g2 g3 _ fun ψ a' w' x' f0 f1 f2 f3=>by have:x'=.normal:=f0;subst this;exact hQ ψ a' w' _ rfl f1 f2 f3)⟩
  | exit j=>
   by_cases hj:j=i
   ·subst hj
    have h1':k .normal t1 hp1=some r:=by simpa using h1
    exact⟨.normal,t1,hp1,h1',fun φ B a w g1 g2 g3 Q hQ=>wp_block (h2 φ B a w g1 g2 g3 _ fun ψ a' w' x' f0 f1 f2 f3=>by
     have:x'=.exit j:=f0
     subst this
     show(if j=j then Q .normal a' w' else Q (.exit j) a' w')
     rw [if_pos rfl]
     exact hQ ψ a' w' _ rfl f1 f2 f3)⟩
   ·have hb:Nat.beq j i=false:=by rw [←Bool.not_eq_true];exact fun e=>hj (Nat.eq_of_beq_eq_true e)
    have h1':k (.exit j) t1 hp1=some r:=by
     have:(Bool.rec (k (.exit j) t1 hp1) (k .normal t1 hp1) (Nat.beq j i):R)=some r:=h1
     rw [hb] at this
     exact this
    exact⟨.exit j,t1,hp1,h1',fun φ B a w g1 g2 g3 Q hQ=>wp_block (h2 φ B a w g1 g2 g3 _ fun ψ a' w' x' f0 f1 f2 f3=>by
     have:x'=.exit j:=f0
     subst this
     show(if j=i then Q .normal a' w' else Q (.exit j) a' w')
     rw [if_neg hj]
     exact hQ ψ a' w' _ rfl f1 f2 f3)⟩
  | ret=>exact⟨.ret,t1,hp1,h1,fun φ B a w g1 g2 g3 Q hQ=>wp_block (h2 φ B a w g1 g2 g3 _ fun ψ a' w' x' f0 f1 f2 f3=>by have:x'=.ret:=f0;subst this;exact hQ ψ a' w' _ rfl f1 f2 f3)⟩
  | pan v=>exact⟨.pan v,t1,hp1,h1,fun φ B a w g1 g2 g3 Q hQ=>wp_block (h2 φ B a w g1 g2 g3 _ fun ψ a' w' x' f0 f1 f2 f3=>by obtain⟨v',e,f0'⟩:=f0;subst e;exact hQ ψ a' w' _ ⟨v',rfl,f0'⟩ f1 f2 f3)⟩
 | loop a iha=>
  intro hd hok t hp k r hr
  obtain⟨x,t',hp',h1,h2⟩:=loop_ok iha hd hok fuel t hp k r hr
  exact⟨x,t',hp',h1,fun φ B a w g1 g2 g3 Q hQ=>wp_of_lw (h2 φ B a w g1 g2 g3 Q hQ)⟩
 | scope a iha=>
  intro hd hok t hp k r hr
  obtain⟨x,t',hp',h1,h2⟩:=iha hd hok t hp k r hr
  exact⟨x,t',hp',h1,fun φ B a w g1 g2 g3 Q hQ=>wp_scope_straight (h2 φ B a w g1 g2 g3 _ fun ψ a' w' x' f0 f1 f2 f3=>by
   have:=hQ ψ a' w' x' f0 f1 f2 f3
   cases x with
   | normal=>have e:x'=.normal:=f0;subst e;exact this
   | exit i=>have e:x'=.exit i:=f0;subst e;exact this
   | ret=>have e:x'=.ret:=f0;subst e;exact this
   | pan v=>obtain⟨v',e,_⟩:=f0;subst e;exact this)⟩
 | exit i=>exact fun hd hok t hp k r hr=>⟨.exit i,t,hp,hr,fun φ B a w g1 g2 g3 Q hQ=>wp_exit (hQ φ a w _ rfl g2 Step.refl g3)⟩
 | ret=>exact fun hd hok t hp k r hr=>⟨.ret,t,hp,hr,fun φ B a w g1 g2 g3 Q hQ=>wp_ret (hQ φ a w _ rfl g2 Step.refl g3)⟩
 | rangeFunc f ps ars b iha ihb=>exact fun hd hok t hp k r hr=>by cases hr
 | goto l=>exact fun hd hok t hp k r hr=>by cases hr
 | refuse s=>exact fun hd hok t hp k r hr=>by cases hr
end
end Go.Proofs.YtnfokaecobddkaaGreatDoor.Clo
end
section
namespace Go.Proofs.YtnfokaecobddkaaGreatDoor.Clo
open Go.RowKit
set_option linter.unusedVariables false
set_option linter.unusedSimpArgs false
section
variable {P:Program} {G dt n:Nat} {ds:List (Option Nat)} {o:Oper}
theorem move_ok {x:Operand} (ho:o.op=.move x∨o.op=.assign x):PureOk P G dt n ds o (fun e t hp k=>k ((opd G dt n ds x).run e t) hp):=
 .pure fun e t hp k r hr=>⟨_,hr,fun φ a w hx=>⟨a.eval x,by unfold execOp;rcases ho with ho|ho <;> rw [ho] <;> rfl,hx x (by rcases ho with ho|ho <;> (rw [ho];simp [Op.operands,Call.operands]))⟩⟩
theorem pick_ok {c x y:Operand} (ho:o.op=.pick c x y):PureOk P G dt n ds o (fun e t hp k=>((opd G dt n ds c).run e t).on_b fun b=>Bool.rec (k ((opd G dt n ds y).run e t) hp) (k ((opd G dt n ds x).run e t) hp) b):=
 .pure fun e t hp k r hr=>by
  obtain⟨b,hb,h1⟩:=AV.on_b_some hr
  cases b with
  | true=>exact⟨_,h1,fun φ a w hx=>⟨a.eval x,by
    have hc:a.eval c=.bool true:=by have:=hx c (by rw [ho];simp [Op.operands,Call.operands]);rw [hb] at this;exact this
    unfold execOp;rw [ho];simp [hc,asBool],hx x (by rw [ho];simp [Op.operands,Call.operands])⟩⟩
  | false=>exact⟨_,h1,fun φ a w hx=>⟨a.eval y,by
    have hc:a.eval c=.bool false:=by have:=hx c (by rw [ho];simp [Op.operands,Call.operands]);rw [hb] at this;exact this
    unfold execOp;rw [ho];simp [hc,asBool],hx y (by rw [ho];simp [Op.operands,Call.operands])⟩⟩
def ltI:Int→Int→Bool
 | .ofNat a,.ofNat b=>Nat.blt a b
 | .ofNat _,.negSucc _=>false
 | .negSucc _,.ofNat _=>true
 | .negSucc a,.negSucc b=>Nat.blt b a
theorem ltI_eq (x y:Int):ltI x y=decide (x < y):=by
 rw [Bool.eq_iff_iff,decide_eq_true_eq]
 cases x <;> cases y <;> simp only [ltI,Nat.blt_eq,Bool.false_eq_true,true_iff,false_iff,Int.ofNat_eq_natCast] <;> omega
def eqI:Int→Int→Bool
 | .ofNat a,.ofNat b=>Nat.beq a b
 | .negSucc a,.negSucc b=>Nat.beq a b
 | _,_=>false
theorem eqI_eq (x y:Int):eqI x y=(x == y):=by
 rw [Bool.eq_iff_iff,beq_iff_eq]
 cases x <;> cases y <;> simp only [eqI,Nat.beq_eq,Bool.false_eq_true,false_iff,Int.ofNat_eq_natCast,Int.negSucc_inj] <;> omega
def topI:IntKind→Nat
 | .i8=>127|.i16=>32767|.i32=>2147483647|.i64=>9223372036854775807
 | .u8=>255|.u16=>65535|.u32=>4294967295|.u64=>18446744073709551615
def wrapF (k:IntKind) (x:Int):Int:=match x with
 | .ofNat m=>match Nat.ble m (topI k) with
  | true=>.ofNat m
  | false=>k.wrap x
 | _=>k.wrap x
theorem wrapF_eq (k:IntKind) (x:Int):wrapF k x=k.wrap x:=by
 unfold wrapF
 split
 ·rename_i m
  split
  ·rename_i h
   have h':m≤topI k:=Nat.le_of_ble_eq_true h
   cases k <;> simp only [topI] at h' <;> simp [IntKind.wrap,IntKind.bits,IntKind.signed] <;> omega
  ·rfl
 ·rfl
def intBin (op:BinOp) (k:IntKind) (x y:Int):Option AV:=match op with
 | .add=>some (.i k (wrapF k (Int.add x y)))
 | .sub=>some (.i k (wrapF k (Int.sub x y)))
 | .mul=>some (.i k (wrapF k (Int.mul x y)))
 | .quo=>match eqI y 0 with|true=>none|false=>some (.i k (wrapF k (x.tdiv y)))
 | .rem=>match eqI y 0 with|true=>none|false=>some (.i k (x.tmod y))
 | .and=>some (.i k (k.wrap ((BitVec.ofInt k.bits x &&& BitVec.ofInt k.bits y).toNat)))
 | .or=>some (.i k (k.wrap ((BitVec.ofInt k.bits x ||| BitVec.ofInt k.bits y).toNat)))
 | .xor=>some (.i k (k.wrap ((BitVec.ofInt k.bits x ^^^ BitVec.ofInt k.bits y).toNat)))
 | .andNot=>some (.i k (k.wrap ((BitVec.ofInt k.bits x &&& ~~~BitVec.ofInt k.bits y).toNat)))
 | .eql=>some (.b (eqI x y))
 | .neq=>some (.b (!eqI x y))
 | .lss=>some (.b (ltI x y))
 | .leq=>some (.b (!ltI y x))
 | .gtr=>some (.b (ltI y x))
 | .geq=>some (.b (!ltI x y))
 | _=>none
theorem intBin_ok {op:BinOp} {k:IntKind} {x y:Int} {v:AV} (h:intBin op k x y=some v) (φ:Id→Option Plc) (t:TypeId) (w:World):∃v',(binOp op t (.int k x) (.int k y)).run P w=.ok v' w∧VR φ v v':=by
 have hle:∀a b:Int,(!ltI b a)=decide (a≤b):=fun a b=>by rw [ltI_eq,Bool.eq_iff_iff];simp
 cases op <;> simp only [intBin] at h <;> try (simp only [Option.some.injEq] at h;subst h)
 case quo=>
  split at h
  ·cases h
  ·rename_i hy
   simp only [Option.some.injEq] at h
   subst h
   have hy':¬y=0:=fun e=>by subst e;simp [eqI] at hy
   exact⟨.int k (k.wrap (x.tdiv y)),by simp [binOp,Op.intDiv,hy'],by rw [wrapF_eq];rfl⟩
 case rem=>
  split at h
  ·cases h
  ·rename_i hy
   simp only [Option.some.injEq] at h
   subst h
   have hy':¬y=0:=fun e=>by subst e;simp [eqI] at hy
   exact⟨.int k (x.tmod y),by simp [binOp,Op.intDiv,hy'],rfl⟩
 case shl=>cases h
 case shr=>cases h
 case and=>exact⟨.int k (k.wrap ((BitVec.ofInt k.bits x &&& BitVec.ofInt k.bits y).toNat)),by cases k <;> rfl,rfl⟩
 case or=>exact⟨.int k (k.wrap ((BitVec.ofInt k.bits x ||| BitVec.ofInt k.bits y).toNat)),by cases k <;> rfl,rfl⟩
 case xor=>exact⟨.int k (k.wrap ((BitVec.ofInt k.bits x ^^^ BitVec.ofInt k.bits y).toNat)),by cases k <;> rfl,rfl⟩
 case andNot=>exact⟨.int k (k.wrap ((BitVec.ofInt k.bits x &&& ~~~BitVec.ofInt k.bits y).toNat)),by cases k <;> rfl,rfl⟩
 all_goals
  refine⟨_,by simp [binOp,Op.intArith,Op.intBits,Op.intCmp];rfl,?_⟩
  first
   | (rw [wrapF_eq];rfl)
   | rfl
   | (rw [eqI_eq];rfl)
   | (rw [ltI_eq];rfl)
   | (rw [hle];rfl)
end
end Go.Proofs.YtnfokaecobddkaaGreatDoor.Clo
end
section
namespace Go.Proofs.YtnfokaecobddkaaGreatDoor.Clo
open Go.RowKit
set_option linter.unusedVariables false
set_option linter.unusedSimpArgs false
def B256 (l:List Nat):Prop:=∀x∈l,x < 256
theorem bytes_size (l:List Nat):(bytesOf l).size=l.length:=by
 show(l.map UInt8.ofNat).toArray.size=_
 simp
theorem bytes_toList (l:List Nat):(bytesOf l).toList=l.map UInt8.ofNat:=by
 rw [ByteArray.toList_eq]
 unfold bytesOf
 simp
theorem bytes_app (l m:List Nat):bytesOf (l++m)=bytesOf l++bytesOf m:=by
 apply ByteArray.ext
 apply Array.ext'
 simp [bytesOf]
theorem bytes_extract (l:List Nat) (i j:Nat):(bytesOf l).extract i j=bytesOf ((l.drop i).take (j - i)):=by
 apply ByteArray.ext
 apply Array.ext'
 simp [bytesOf,List.map_drop,List.map_take]
theorem bytes_get (l:List Nat) (i:Nat):(bytesOf l)[i]? = (l[i]?).map UInt8.ofNat:=by
 by_cases h:i < l.length
 ·rw [getElem?_pos _ _ (by rw [bytes_size];exact h),List.getElem?_eq_getElem h]
  simp [bytesOf,ByteArray.getElem_eq_getElem_data]
 ·rw [getElem?_neg _ _ (by rw [bytes_size];exact h),List.getElem?_eq_none (by omega)]
  rfl
theorem ofNat_inj {x y:Nat} (hx:x < 256) (hy:y < 256) (h:UInt8.ofNat x=UInt8.ofNat y):x=y:=by
 have:=congrArg UInt8.toNat h
 simpa [UInt8.toNat_ofNat',Nat.mod_eq_of_lt hx,Nat.mod_eq_of_lt hy] using this
noncomputable def eqL (a:List Nat):List Nat→Bool:=
 List.rec (motive:=fun _=>List Nat→Bool) (fun b=>List.rec true (fun _ _ _=>false) b) (fun x _ ih b=>List.rec false (fun y r _=>Bool.rec false (ih r) (Nat.beq x y)) b) a
theorem eqL_iff:∀(a b:List Nat),eqL a b=true↔a=b
 | [],[]=>by simp [eqL]
 | [],y :: b=>by simp [eqL]
 | x :: a,[]=>by simp [eqL]
 | x :: a,y :: b=>by
  show(Bool.rec false (eqL a b) (Nat.beq x y):Bool)=true↔_
  cases h:Nat.beq x y with
  | true=>have:=Nat.eq_of_beq_eq_true h;subst this;simp [eqL_iff a b]
  | false=>
   have:x≠y:=fun e=>by subst e;rw [Nat.beq_refl] at h;cases h
   simp [this]
theorem eqL_bytes {a b:List Nat} (ha:B256 a) (hb:B256 b):((bytesOf a).toList == (bytesOf b).toList)=eqL a b:=by
 rw [bytes_toList,bytes_toList,Bool.eq_iff_iff,beq_iff_eq,eqL_iff]
 constructor
 ·intro h
  apply List.ext_getElem?
  intro i
  have hi:=congrArg (·[i]?) h
  simp only [List.getElem?_map] at hi
  cases hx:a[i]? with
  | none=>rw [hx] at hi;cases hy:b[i]? with
   | none=>rfl
   | some y=>rw [hy] at hi;cases hi
  | some x=>
   rw [hx] at hi
   cases hy:b[i]? with
   | none=>rw [hy] at hi;cases hi
   | some y=>
    rw [hy] at hi
    simp only [Option.map_some,Option.some.injEq] at hi
    rw [ofNat_inj (ha x (List.mem_of_getElem? hx)) (hb y (List.mem_of_getElem? hy)) hi]
 ·intro h;rw [h]
def lessL:List Nat→List Nat→Bool
 | _,[]=>false
 | [],_ :: _=>true
 | a :: x,b :: y=>match Nat.blt a b with
  | true=>true
  | false=>match Nat.beq a b with
   | true=>lessL x y
   | false=>false
theorem lessL_bytes:∀{a b:List Nat},B256 a→B256 b→Op.bytesLess (bytesOf a).toList (bytesOf b).toList=lessL a b:=by
 intro a b ha hb
 rw [bytes_toList,bytes_toList]
 induction a generalizing b with
 | nil=>cases b <;> rfl
 | cons x a ih=>
  cases b with
  | nil=>rfl
  | cons y b=>
   have hx:=ha x (by simp)
   have hy:=hb y (by simp)
   have h1:=ih (b:=b) (fun z hz=>ha z (by simp [hz])) (fun z hz=>hb z (by simp [hz]))
   simp only [List.map_cons,Op.bytesLess,lessL,h1]
   have e1:decide (UInt8.ofNat x < UInt8.ofNat y)=Nat.blt x y:=by
    rw [Bool.eq_iff_iff,decide_eq_true_eq,Nat.blt_eq,UInt8.lt_iff_toNat_lt]
    simp [UInt8.toNat_ofNat',Nat.mod_eq_of_lt hx,Nat.mod_eq_of_lt hy]
   have e2:(UInt8.ofNat x == UInt8.ofNat y)=Nat.beq x y:=by
    rw [Bool.eq_iff_iff,beq_iff_eq,Nat.beq_eq]
    exact⟨ofNat_inj hx hy,fun h=>by rw [h]⟩
   rw [e1,e2]
   cases Nat.blt x y <;> cases Nat.beq x y <;> simp
noncomputable def strBin (op:BinOp) (l m:List Nat):Option AV:=match op with
 | .add=>match Nat.ble (Nat.add l.length m.length) 1000000000 with
  | true=>some (.s (l++m))
  | false=>none
 | .eql=>some (.b (eqL l m))
 | .neq=>some (.b (!eqL l m))
 | .lss=>some (.b (lessL l m))
 | .geq=>some (.b (!lessL l m))
 | _=>none
theorem strBin_ok {P:Program} {op:BinOp} {l m:List Nat} {v:AV} (hl:B256 l) (hm:B256 m) (h:strBin op l m=some v) (φ:Id→Option Plc) (t:TypeId) (w:World):∃v',(Go.binOp op t (.string (bytesOf l)) (.string (bytesOf m))).run P w=.ok v' w∧VR φ v v':=by
 cases op <;> simp only [strBin] at h <;> try (cases h;done)
 case add=>
  split at h
  ·rename_i hb
   simp only [Option.some.injEq] at h
   subst h
   have hb':l.length+m.length≤1000000000:=Nat.le_of_ble_eq_true hb
   refine⟨.string (bytesOf l++bytesOf m),?_,by rw [bytes_app],fun x hx=>?_⟩
   ·have:¬(((bytesOf l).size+(bytesOf m).size:Nat):Int) > IntKind.i64.max:=by
     rw [bytes_size,bytes_size]
     show ¬(((l.length+m.length:Nat):Int) > 9223372036854775807)
     omega
    simp only [Go.binOp,Op.stringOp]
    rw [if_neg this]
    rfl
   ·rcases List.mem_append.1 hx with hx|hx
    ·exact hl x hx
    ·exact hm x hx
  ·cases h
 all_goals
  simp only [Option.some.injEq] at h
  subst h
  refine⟨_,by simp only [Go.binOp,Op.stringOp];rfl,?_⟩
  first
   | (rw [eqL_bytes hl hm];rfl)
   | (rw [lessL_bytes hl hm];rfl)
end Go.Proofs.YtnfokaecobddkaaGreatDoor.Clo
end
section
namespace Go.Proofs.YtnfokaecobddkaaGreatDoor.Clo
open Go.RowKit
set_option linter.unusedVariables false
set_option linter.unusedSimpArgs false
noncomputable def HP.on (hp:HP) (k:Mem→Id→R):R:=HP.rec k hp
noncomputable def onRow (m:Mem) (r:Id) (k:TypeId→Bool→Option Nat→Bool→AV→R):R:=
 Option.rec (motive:=fun _=>R) none (fun b=>Blk.rec (motive:=fun _=>R) k (fun _=>none) (fun _ _=>none) b) (m.get r)
theorem onRow_some {m:Mem} {r:Id} {k:TypeId→Bool→Option Nat→Bool→AV→R} {x:AV×HP} (h:onRow m r k=some x):∃t gr fz ro cells,m.get r=some (.row t gr fz ro cells)∧k t gr fz ro cells=some x:=by
 unfold onRow at h
 cases e:m.get r with
 | none=>rw [e] at h;cases h
 | some b=>
  rw [e] at h
  cases b with
  | row t gr fz ro cells=>exact⟨t,gr,fz,ro,cells,rfl,h⟩
  | tab l=>cases h
  | iter s p=>cases h
noncomputable def AV.atR (n:Nat):AV→(AV→R)→R:=
 Nat.rec (motive:=fun _=>AV→(AV→R)→R) (fun l k=>match l with|.cons x _=>k x|_=>none) (fun _ ih l k=>match l with|.cons _ r=>ih r k|_=>none) n
theorem AV.atR_some:∀(n:Nat) {l:AV} {k:AV→R} {x:AV×HP},l.atR n k=some x→n < l.len∧k (l.at n)=some x
 | 0,l,k,x,h=>by
  cases l <;> first|(cases h;done)|exact⟨Nat.succ_pos _,h⟩
 | n+1,l,k,x,h=>by
  cases l <;> first|(cases h;done)|skip
  rename_i y r
  have h':r.atR n k=some x:=h
  obtain⟨h1,h2⟩:=AV.atR_some n h'
  exact⟨Nat.succ_lt_succ h1,h2⟩
noncomputable def AV.takeO (n:Nat):AV→Option AV:=
 Nat.rec (motive:=fun _=>AV→Option AV) (fun _=>some .nil) (fun _ ih l=>match l with|.cons x r=>Option.rec (motive:=fun _=>Option AV) none (fun y=>some (.cons x y)) (ih r)|_=>none) n
theorem AV.takeO_some:∀(n:Nat) {l y:AV},l.takeO n=some y→n≤l.len∧y=l.take n
 | 0,l,y,h=>by cases h;exact⟨Nat.zero_le _,rfl⟩
 | n+1,l,y,h=>by
  cases l <;> first|(cases h;done)|skip
  rename_i x r
  have h':(Option.rec (motive:=fun _=>Option AV) none (fun y=>some (.cons x y)) (r.takeO n):Option AV)=some y:=h
  cases e:r.takeO n with
  | none=>rw [e] at h';cases h'
  | some z=>
   rw [e] at h'
   cases h'
   obtain⟨h1,h2⟩:=AV.takeO_some n e
   exact⟨Nat.succ_le_succ h1,by rw [h2];rfl⟩
theorem AV.drop_len:∀(o:Nat) (l:AV),0 < (l.drop o).len→(l.drop o).len=l.len - o
 | 0,l,_=>rfl
 | o+1,l,h=>by
  cases l <;> first|(exact absurd h (Nat.lt_irrefl 0))|skip
  rename_i x r
  have:=AV.drop_len o r h
  show(r.drop o).len=r.len+1 - (o+1)
  omega
def AV.one:AV→Bool
 | .u|.nil|.cons _ _|.ag _|.tu _=>false
 | _=>true
theorem AV.one_ok {φ:Id→Option Plc}:∀{x:AV} {v:Value},x.one=true→VR φ x v→v.oneCell'=true∧v.cells=#[v]:=by
 intro x v h k
 cases x <;> simp only [AV.one,Bool.false_eq_true] at h
 case inil=>have:v=_:=k;subst this;exact⟨rfl,rfl⟩
 case ifc=>obtain⟨w,e,_⟩:=k;subst e;exact⟨rfl,rfl⟩
 case fnil=>have:v=_:=k;subst this;exact⟨rfl,rfl⟩
 case fn=>obtain⟨xs,ys,e,_⟩:=k;subst e;exact⟨rfl,rfl⟩
 case mn=>have:v=_:=k;subst this;exact⟨rfl,rfl⟩
 case mp=>obtain⟨g,_,e⟩:=k;subst e;exact⟨rfl,rfl⟩
 case sn=>have:v=_:=k;subst this;exact⟨rfl,rfl⟩
 case sl=>obtain⟨g,c,_,e,_⟩:=k;subst e;exact⟨rfl,rfl⟩
 case sg=>obtain⟨g,c,_,e,_⟩:=k;subst e;exact⟨rfl,rfl⟩
 case se=>obtain⟨g,o,k,_,e⟩:=k;subst e;exact⟨rfl,rfl⟩
 case pn=>have:v=_:=k;subst this;exact⟨rfl,rfl⟩
 case p=>obtain⟨g,_,e⟩:=k;subst e;exact⟨rfl,rfl⟩
 case s=>obtain⟨e,_⟩:=k;subst e;exact⟨rfl,rfl⟩
 case b=>have:v=_:=k;subst this;exact⟨rfl,rfl⟩
 case i=>have:v=_:=k;subst this;exact⟨rfl,rfl⟩
def AV.allOne:AV→Bool
 | .nil=>true
 | .cons x r=>x.one && r.allOne
 | _=>false
theorem AV.allOne_ok {φ:Id→Option Plc}:∀{x:AV} {l:List Value},x.allOne=true→VL φ x l→∀v∈l,v.oneCell'=true
 | .nil,l,_,h=>by have:l=[]:=h;subst this;exact fun v hv=>by cases hv
 | .cons x r,l,h,⟨v,vs,e,h1,h2⟩=>by
  subst e
  simp only [AV.allOne,Bool.and_eq_true] at h
  intro u hu
  rcases List.mem_cons.1 hu with rfl|hu
  ·exact(AV.one_ok h.1 h1).1
  ·exact AV.allOne_ok h.2 h2 u hu
def AV.cellsO:AV→Option AV
 | .ag l=>match l.allOne with
  | true=>some l
  | false=>none
 | x=>match x.one with
  | true=>some (.cons x .nil)
  | false=>none
theorem AV.cellsO_ok {φ:Id→Option Plc} {x y:AV} {v:Value} (h:x.cellsO=some y) (k:VR φ x v):VL φ y v.cells.toList∧∀u∈v.cells.toList,u.oneCell'=true:=by
 unfold AV.cellsO at h
 split at h
 ·rename_i l
  split at h
  ·rename_i hl
   cases h
   obtain⟨xs,e,h1⟩:=k
   subst e
   exact⟨h1,AV.allOne_ok hl h1⟩
  ·cases h
 ·split at h
  ·rename_i ho
   cases h
   obtain⟨h1,h2⟩:=AV.one_ok ho k
   rw [h2]
   exact⟨⟨v,[],rfl,k,rfl⟩,fun u hu=>by rw [List.mem_singleton.1 hu];exact h1⟩
  ·cases h
section
variable {P:Program} {G dt n:Nat} {ds:List (Option Nat)} {o:Oper}
theorem fieldAddr_ok {s:TypeId} {x:Operand} {f:Nat} {fs:Array Field} {fd:Field} {i:TypeInfo} (ho:o.op=.fieldAddr s x f) (hs:P.underlying s=some (.struct fs)) (hf:fs[f]? = some fd) (hi:P.info? fd.type=some i) (hz:i.size≠0) :
  PureOk P G dt n ds o (fun e t hp k=>((opd G dt n ds x).run e t).on_p fun r q=>k (.p r (Nat.add q fd.offset)) hp):=
 .pure fun e t hp k r hr=>by
  obtain⟨b,q,hb,h1⟩:=AV.on_p_some hr
  refine⟨_,h1,fun φ a w hx=>?_⟩
  obtain⟨g,hg,hv⟩:∃g,φ b=some g∧a.eval x=.pointer (some ⟨g.1,q,none⟩):=by have:=hx x (by rw [ho];simp [Op.operands,Call.operands]);rw [hb] at this;exact this
  refine⟨.pointer (some ⟨g.1,q+fd.offset,none⟩),?_,g,hg,rfl⟩
  unfold execOp
  rw [ho]
  simp only [Instr.fieldAt,hv,Instr.sureAddr,Sem.run_bind,run_underlying hs,Result.andThen_ok,hf,Sem.run_pure,fieldPlace,sizeOf,typeInfo]
  simp [hi,hz,add_lit,program,Sem.run]
end
end Go.Proofs.YtnfokaecobddkaaGreatDoor.Clo
end
section
namespace Go.Proofs.YtnfokaecobddkaaGreatDoor.Clo
open Go.RowKit
set_option linter.unusedVariables false
set_option linter.unusedSimpArgs false
section
variable {P:Program} {G dt n:Nat} {ds:List (Option Nat)} {o:Oper}
noncomputable def loadF (agg:Bool) (sz:Nat) (r:Id) (q:Nat) (hp:HP) (k:KV):R:=
 hp.on fun m _=>onRow m r fun _ _ _ _ cells=>match agg with
  | false=>cells.atR q fun v=>k v hp
  | true=>Option.rec (motive:=fun _=>R) none (fun y=>k (.ag y) hp) ((cells.drop q).takeO sz)
theorem runs_value {s:Sem Value} {w:World} {Q:Value→World→Prop} (h:Runs P s w Q):∃v' w',(do Pure.pure (Next.value (←s)):Sem Next).run P w=.ok (.value v') w'∧Q v' w':=by
 obtain⟨v,w',h1,h2⟩:=h
 refine⟨v,w',?_,h2⟩
 rw [Sem.run_bind,h1]
 rfl
theorem runs_skip {s:Sem Unit} {w:World} {Q:Unit→World→Prop} (h:Runs P s w Q):∃w',(do s;Pure.pure Next.skip:Sem Next).run P w=.ok .skip w'∧Q () w':=by
 obtain⟨v,w',h1,h2⟩:=h
 refine⟨w',?_,h2⟩
 rw [Sem.run_bind,h1]
 rfl
theorem load_ok {t:TypeId} {x:Operand} {agg:Bool} {i:TypeInfo} (ho:o.op=.load t x) (ha:aggT P t=some agg) (hi:P.info? t=some i) :
  StillOk P G dt n ds o (fun e t hp k=>((opd G dt n ds x).run e t).on_p fun r q=>loadF agg i.size r q hp k):=
 fun e t0 hp k r hr=>by
  obtain⟨b,q,hb,h1⟩:=AV.on_p_some hr
  cases hp with
  | mk m nx=>
  obtain⟨t1,gr,fz,ro,cells,hm,h2⟩:=onRow_some h1
  have key:∀v,(∀φ w g,RW φ m w→φ b=some g→Runs P (loadVar t ⟨g.1,q,none⟩) w fun v' w'=>w'=w∧VR φ v v')→k v (.mk m nx)=some r→
    ∃v,k v (.mk m nx)=some r∧∀φ (a:Act) w,Glo G φ→OpsR G dt n ds φ e t0 a.eval o.op→RH φ (.mk m nx) w→∃v',(execOp a.eval o).run P w=.ok (.value v') w∧VR φ v v':=by
   intro v hv hk
   refine⟨v,hk,fun φ a w _ hx hw=>?_⟩
   obtain⟨g,hg,hv'⟩:∃g,φ b=some g∧a.eval x=.pointer (some ⟨g.1,q,none⟩):=by have:=hx x (by rw [ho];simp [Op.operands,Call.operands]);rw [hb] at this;exact this
   obtain⟨v',w',h3,rfl,h4⟩:=runs_value (hv φ w g hw hg)
   refine⟨v',?_,h4⟩
   unfold execOp
   rw [ho]
   simp only [Instr.loadAt,hv',Instr.sureAddr]
   exact h3
  cases agg with
  | false=>
   obtain⟨h3,h4⟩:=AV.atR_some q h2
   refine key _ (fun φ w g hw hg=>?_) h4
   obtain⟨v',h5,h6⟩:=RW.cell hw hm hg h3
   unfold loadVar
   exact .bind (runs_isAgg ha (runs_load h5 ⟨rfl,h6⟩))
  | true=>
   cases ht:(cells.drop q).takeO i.size with
   | none=>simp only [ht] at h2;cases h2
   | some y=>
    simp only [ht] at h2
    obtain⟨h3,h4⟩:=AV.takeO_some i.size ht
    refine key (.ag y) (fun φ w g hw hg=>?_) h2
    have hlen:q+i.size≤cells.len∨i.size=0:=by
     rcases Nat.eq_zero_or_pos i.size with h0|h0
     ·exact .inr h0
     ·have:=AV.drop_len q cells (by omega)
      exact .inl (by omega)
    unfold loadVar
    refine .bind (runs_isAgg ha (.bind (runs_sizeOf hi (.bind ?_))))
    rcases hlen with hlen|h0
    ·obtain⟨vs,h5,h6,_⟩:=RW.cells (P:=P) hw hm hg hlen
     exact .of h5 (.pure ⟨rfl,vs.toArray,rfl,by rw [h4];exact h6⟩)
    ·rw [h0] at h4 ⊢
     subst h4
     exact .of (a:=#[]) (w':=w) rfl (.pure ⟨rfl,#[],rfl,rfl⟩)
noncomputable def storeF (sz:Nat) (r:Id) (q:Nat) (y:AV) (hp:HP) (k:KV):R:=
 Option.rec (motive:=fun _=>R) none (fun c=>hp.on fun m nx=>onRow m r fun t gr fz ro cells=>
  match ro with
  | true=>none
  | false=>match Nat.beq c.len sz with
   | false=>none
   | true=>match okF fz q with
    | false=>none
    | true=>match Nat.ble (Nat.add q sz) cells.len with
     | false=>none
     | true=>k undefA (.mk (m.set r (.row t gr fz false (c.setMany q cells))) nx)) y.cellsO
theorem store_ok {t:TypeId} {x y:Operand} {i:TypeInfo} (ho:o.op=.store t x y) (hi:P.info? t=some i) :
  ValOk P G dt n ds o (fun e t hp k=>((opd G dt n ds x).run e t).on_p fun r q=>storeF i.size r q ((opd G dt n ds y).run e t) hp k):=by
 intro e t0 hp k r hr
 obtain⟨b,q,hb,h1⟩:=AV.on_p_some hr
 unfold storeF at h1
 cases hc:((opd G dt n ds y).run e t0).cellsO with
 | none=>rw [hc] at h1;cases h1
 | some c=>
 rw [hc] at h1
 cases hp with
 | mk m nx=>
 obtain⟨t1,gr,fz,ro,cells,hm,h2⟩:=onRow_some h1
 cases ro with
 | true=>cases h2
 | false=>
 simp only at h2
 split at h2
 ·cases h2
 rename_i hsz
 split at h2
 ·cases h2
 rename_i hfz
 split at h2
 ·cases h2
 rename_i hln
 have hsz':=Nat.eq_of_beq_eq_true hsz
 have hfz':=hfz
 have hln':q+i.size≤cells.len:=Nat.le_of_ble_eq_true hln
 refine⟨_,_,h2,fun φ B a w g1 g2 hw=>?_⟩
 have hx:=g2 x (by rw [ho];simp [Op.operands,Call.operands])
 have hy:=g2 y (by rw [ho];simp [Op.operands,Call.operands])
 rw [hb] at hx
 obtain⟨g,hg,hv'⟩:=hx
 obtain⟨h3,h4⟩:=AV.cellsO_ok hc hy
 have hl:=VL.len h3
 obtain⟨s1,s2,s3⟩:=WR.store (P:=P) hw hm hg h3 (o:=q) (by omega) hfz' h4
 have hv'':a.eval x=.pointer (some ⟨g.1,q,none⟩):=hv'
 obtain⟨w',h5,h6⟩:=runs_skip (P:=P) (s:=storeVar t ⟨g.1,q,none⟩ (a.eval y)) (w:=w) (Q:=fun _ w'=>w'=w.setCells g.1 q (a.eval y).cells.toList) (by
  unfold storeVar
  refine .bind (runs_sizeOf hi ?_)
  rw [if_neg (by
   have:(a.eval y).cells.size=(a.eval y).cells.toList.length:=by simp
   rw [this,hl]
   omega)]
  exact .of s1 rfl)
 subst h6
 refine⟨φ,undef,_,.inr ⟨?_,rfl⟩,undefA_ok φ,s3,s2⟩
 unfold execOp
 rw [ho]
 simp only [Instr.storeAt,hv'',Instr.sureAddr]
 exact h5
end
end Go.Proofs.YtnfokaecobddkaaGreatDoor.Clo
end
section
namespace Go.Proofs.YtnfokaecobddkaaGreatDoor.Clo
open Go.RowKit
set_option linter.unusedVariables false
set_option linter.unusedSimpArgs false
section
variable {P:Program} {G dt n:Nat} {ds:List (Option Nat)} {o:Oper}
noncomputable def newF (t:TypeId) (cells:AV) (hp:HP) (k:Id→HP→R):R:=
 hp.on fun m nx=>match last nx with
  | true=>none
  | false=>k nx (.mk (m.set nx (.row t false (some 0) false cells)) (inc nx))
theorem newF_some {t:TypeId} {cells:AV} {hp:HP} {k:Id→HP→R} {x:AV×HP} (h:newF t cells hp k=some x):∃m nx,hp=.mk m nx∧last nx=false∧k nx (.mk (m.set nx (.row t false (some 0) false cells)) (inc nx))=some x:=by
 cases hp with
 | mk m nx=>
 have h':(match last nx with|true=>none|false=>k nx (.mk (m.set nx (.row t false (some 0) false cells)) (inc nx)):R)=some x:=h
 cases hl:last nx with
 | true=>rw [hl] at h';cases h'
 | false=>rw [hl] at h';exact⟨m,nx,rfl,hl,h'⟩
theorem row_says {φ:Id→Option Plc} {t:TypeId} {cells:AV} {cs:Array Value} (hc:VL φ cells cs.toList):(Blk.row t false (some 0) false cells).says φ cs.size (.cells cs t):=⟨cs,cs.toList,[],(0,0),rfl,by simp,hc,fun _=>rfl,rfl,fun i _ _ h=>h⟩
theorem box_ok {t:TypeId} {x:Operand} (ho:o.op=.box t x) :
  MakeOk P G dt n ds o (fun e t0 hp k=>Option.rec (motive:=fun _=>R) none (fun c=>newF t c hp fun r hp=>k (.p r 0) hp) (((opd G dt n ds x).run e t0).cellsO)):=by
 intro e t0 hp k r hr
 simp only at hr
 cases hc:((opd G dt n ds x).run e t0).cellsO with
 | none=>rw [hc] at hr;cases hr
 | some c=>
 rw [hc] at hr
 obtain⟨m,nx,e,hl,h1⟩:=newF_some hr
 refine⟨m,nx,_,_,e,hl,rfl,h1,fun φ a w g1 g2=>?_⟩
 have hx:=g2 x (by rw [ho];simp [Op.operands,Call.operands])
 obtain⟨h3,_⟩:=AV.cellsO_ok hc hx
 refine⟨.pointer (some ⟨w.heap.size,0,none⟩),_,_,_,?_,.alloc _ _,row_says h3,fun ψ _ hn=>⟨_,hn,rfl⟩⟩
 unfold execOp
 rw [ho]
 rfl
theorem alloc_ok {t:TypeId} {i:TypeInfo} {z:Value} {c:AV} (ho:o.op=.alloc t) (hi:P.info? t=some i) (hz:i.zero=some z) (hc:(ofConst z).cellsO=some c) :
  MakeOk P G dt n ds o (fun e t0 hp k=>newF t c hp fun r hp=>k (.p r 0) hp):=by
 intro e t0 hp k r hr
 obtain⟨m,nx,e,hl,h1⟩:=newF_some hr
 refine⟨m,nx,_,_,e,hl,rfl,h1,fun φ a w g1 g2=>?_⟩
 obtain⟨h3,_⟩:=AV.cellsO_ok hc (ofConst_ok φ z)
 refine⟨.pointer (some ⟨w.heap.size,0,none⟩),_,_,_,?_,.alloc _ _,row_says h3,fun ψ _ hn=>⟨_,hn,rfl⟩⟩
 unfold execOp
 rw [ho]
 simp [Instr.alloc,zeroValue,typeInfo,program,Sem.run,hi,hz,newVar,newRow]
theorem extract_ok {x:Operand} {j:Nat} (ho:o.op=.extract x j) :
  PureOk P G dt n ds o (fun e t0 hp k=>((opd G dt n ds x).run e t0).on_tu fun l=>l.atR j fun v=>k v hp):=
 .pure fun e t hp k r hr=>by
  obtain⟨l,hl,h1⟩:=AV.on_tu_some hr
  obtain⟨h2,h3⟩:=AV.atR_some j h1
  refine⟨_,h3,fun φ a w hx=>?_⟩
  obtain⟨xs,e1,e2⟩:∃xs:Array Value,a.eval x=.tuple xs∧VL φ l xs.toList:=by have:=hx x (by rw [ho];simp [Op.operands,Call.operands]);rw [hl] at this;exact this
  have hj:j < xs.toList.length:=by rw [VL.len e2];exact h2
  have hv:xs.toList[j]? = some (xs.toList[j]'hj):=List.getElem?_eq_getElem hj
  refine⟨xs.toList[j]'hj,?_,VL.at e2 hv⟩
  unfold execOp
  rw [ho]
  rw [Array.getElem?_toList] at hv
  simp only [Instr.extract,e1,hv]
  rfl
def AV.ok0:AV→Bool
 | .p _ _=>true
 | .ifc _ _=>true
 | .fn (.func _) _ _=>true
 | _=>false
theorem nilCheck_ok {x:Operand} (ho:o.op=.nilCheck x) :
  PureOk P G dt n ds o (fun e t0 hp k=>match ((opd G dt n ds x).run e t0).ok0 with|true=>k ((opd G dt n ds x).run e t0) hp|false=>none):=
 .pure fun e t hp k r hr=>by
  split at hr
  ·rename_i h0
   refine⟨_,hr,fun φ a w hx=>⟨a.eval x,?_,hx x (by rw [ho];simp [Op.operands,Call.operands])⟩⟩
   have h:=hx x (by rw [ho];simp [Op.operands,Call.operands])
   unfold execOp
   rw [ho]
   generalize (opd G dt n ds x).run e t=y at h h0
   cases y <;> simp only [AV.ok0,Bool.false_eq_true] at h0
   ·obtain⟨w',e1,_⟩:=h
    simp only [e1]
    rfl
   ·rename_i f _ _
    obtain⟨xs,ys,e1,_⟩:=h
    cases f <;> simp only [Bool.false_eq_true] at h0
    simp only [e1]
    rfl
   ·obtain⟨g,_,e1⟩:=h
    simp only [e1]
    rfl
  ·cases hr
theorem makeFunc_ok {f:Fn} {xs ys:Array Operand} (ho:o.op=.makeFunc f xs ys) :
  PureOk P G dt n ds o (fun e t0 hp k=>k (.fn f (argsA (xs.toList.map (opd G dt n ds)) e t0) (argsA (ys.toList.map (opd G dt n ds)) e t0)) hp):=
 .pure fun e t hp k r hr=>⟨_,hr,fun φ a w hx=>⟨.func f (xs.map a.eval) (ys.map a.eval),by unfold execOp;rw [ho];rfl,_,_,rfl,by rw [Array.toList_map];exact argsA_ok fun x hm=>hx x (by rw [ho];simp only [Op.operands,Array.mem_append];exact .inl (Array.mem_toList_iff.1 hm)),by rw [Array.toList_map];exact argsA_ok fun x hm=>hx x (by rw [ho];simp only [Op.operands,Array.mem_append];exact .inr (Array.mem_toList_iff.1 hm))⟩⟩
theorem makeInterface_ok {t:TypeId} {x:Operand} {d:TypeDesc} (ho:o.op=.makeInterface t x) (hd:P.underlying t=some d) (hn:∀ms,d≠.interface ms) :
  PureOk P G dt n ds o (fun e t0 hp k=>k (.ifc t ((opd G dt n ds x).run e t0)) hp):=
 .pure fun e t0 hp k r hr=>⟨_,hr,fun φ a w hx=>⟨.iface t (a.eval x),by
  unfold execOp
  rw [ho]
  simp only [Instr.makeInterface,Sem.run_bind,run_underlying hd,Result.andThen_ok]
  cases d <;> first|rfl|exact absurd rfl (hn _),_,rfl,hx x (by rw [ho];simp [Op.operands,Call.operands])⟩⟩
end
end Go.Proofs.YtnfokaecobddkaaGreatDoor.Clo
end
