/- Part 5 of a proof laid in parts, one behind the other; no condition of its own. -/
import Derived.Test.YtnfokaecobddkaaGreatDoorV04
import Derived.Outline
import Derived.Laws.Cover3
import Derived.Test.YtnfokaecobddkaaGreatDoorV01
import Derived.Shelf.Strings.SlTrimAscii
import Derived.Test.YtnfokaecobddkaaGreatDoorV03
import Derived.Laws.EntriesVeiled
set_option linter.all false
section
namespace Go.Proofs.YtnfokaecobddkaaGreatDoor
open Go.RowKit
set_option linter.unusedSimpArgs false
set_option linter.unusedVariables false
theorem flat_len {α β:Type} {f:α→List β} {s:Nat} (hf:∀x,(f x).length=s):∀l:List α,(l.flatMap f).length=l.length*s
 | []=>by simp
 | x :: t=>by rw [List.flatMap_cons,List.length_append,hf,flat_len hf t,List.length_cons,Nat.add_mul];omega
theorem flat_get {α β:Type} {f:α→List β} {s:Nat} (hf:∀x,(f x).length=s):∀{l:List α} {i:Nat} {x:α},l[i]? = some x→∀j,j < s→(l.flatMap f)[i*s+j]? = (f x)[j]?
 | [],i,x,h,_,_=>by simp at h
 | y :: t,i,x,h,j,hj=>by
  rw [List.flatMap_cons]
  cases i with
  | zero=>
   simp only [List.getElem?_cons_zero,Option.some.injEq] at h
   subst h
   rw [Nat.zero_mul,Nat.zero_add,List.getElem?_append_left (by rw [hf];exact hj)]
  | succ i=>
   rw [show(i+1)*s+j=s+(i*s+j) by rw [Nat.add_mul];omega,List.getElem?_append_right (by rw [hf];omega),hf,Nat.add_sub_cancel_left]
   exact flat_get hf (by simpa using h) j hj
theorem flat_set {α β:Type} {f:α→List β} {s:Nat} (hf:∀x,(f x).length=s):∀{l:List α} {i:Nat} {x x':α} {j:Nat} {u:β},l[i]? = some x→j < s→f x'=(f x).set j u→(l.flatMap f).set (i*s+j) u=(l.set i x').flatMap f
 | [],i,x,x',j,u,h,_,_=>by simp at h
 | y :: t,i,x,x',j,u,h,hj,he=>by
  rw [List.flatMap_cons]
  cases i with
  | zero=>
   simp only [List.getElem?_cons_zero,Option.some.injEq] at h
   subst h
   rw [Nat.zero_mul,Nat.zero_add,List.set_append_left _ _ (by rw [hf];exact hj),List.set_cons_zero,List.flatMap_cons,he]
  | succ i=>
   rw [show(i+1)*s+j=s+(i*s+j) by rw [Nat.add_mul];omega,List.set_append_right _ _ (by rw [hf];omega),hf,Nat.add_sub_cancel_left,List.set_cons_succ,List.flatMap_cons,flat_set hf (by simpa using h) hj he]
theorem flat_at {α β:Type} {f:α→List β} {s:Nat} (hs:0 < s) (hf:∀x,(f x).length=s) {l:List α} {j:Nat} {u:β} (h:(l.flatMap f)[j]? = some u):∃i r x,j=i*s+r∧r < s∧l[i]? = some x∧(f x)[r]? = some u:=by
 have hl:=(List.getElem?_eq_some_iff.1 h).1
 rw [flat_len hf] at hl
 have hi:j / s < l.length:=by rw [Nat.div_lt_iff_lt_mul hs];exact hl
 have hr:j % s < s:=Nat.mod_lt _ hs
 have hj:j=j / s*s+j % s:=by rw [Nat.mul_comm];exact(Nat.div_add_mod j s).symm
 have hx:l[j / s]? = some (l[j / s]):=List.getElem?_eq_getElem hi
 refine⟨j / s,j % s,_,hj,hr,hx,?_⟩
 rw [←flat_get hf hx (j % s) hr,←hj,h]
def cA (a:AttrL):List Value:=[.string a.space,.string a.name,.string a.value]
def cellsA (l:List AttrL):List Value:=l.flatMap cA
theorem cA_len (a:AttrL):(cA a).length=3:=rfl
abbrev NodeH:=NodeL×Option Addr×Nat
def cN (x:NodeH):List Value:=[.int .u8 x.1.kind,.string x.1.space,.string x.1.name,.slice x.2.1 x.1.attrs.length x.2.2,.string x.1.text,.int .i64 x.1.many]
def cellsN (l:List NodeH):List Value:=l.flatMap cN
theorem cN_len (x:NodeH):(cN x).length=6:=rfl
abbrev TreeH:=List NodeL×Option Addr×Nat
def cT (x:TreeH):Value:=.slice x.2.1 x.1.length x.2.2
def cellsT (l:List TreeH):List Value:=l.map cT
def cellsS (l:List ByteArray):List Value:=l.map Value.string
theorem cellsA_len (l:List AttrL):(cellsA l).length=l.length*3:=flat_len cA_len l
theorem cellsN_len (l:List NodeH):(cellsN l).length=l.length*6:=flat_len cN_len l
theorem cellsA_app (l m:List AttrL):cellsA (l++m)=cellsA l++cellsA m:=by simp [cellsA]
theorem cellsN_app (l m:List NodeH):cellsN (l++m)=cellsN l++cellsN m:=by simp [cellsN]
theorem cellsT_app (l m:List TreeH):cellsT (l++m)=cellsT l++cellsT m:=by simp [cellsT]
theorem cellsS_app (l m:List ByteArray):cellsS (l++m)=cellsS l++cellsS m:=by simp [cellsS]
theorem cellsA_one (l:List AttrL):∀u∈cellsA l,u.oneCell'=true:=by
 intro u hu
 simp only [cellsA,List.mem_flatMap,cA,List.mem_cons,List.not_mem_nil,or_false] at hu
 obtain⟨a,-,rfl|rfl|rfl⟩:=hu <;> rfl
theorem cellsN_one (l:List NodeH):∀u∈cellsN l,u.oneCell'=true:=by
 intro u hu
 simp only [cellsN,List.mem_flatMap,cN,List.mem_cons,List.not_mem_nil,or_false] at hu
 obtain⟨a,-,rfl|rfl|rfl|rfl|rfl|rfl⟩:=hu <;> rfl
theorem cellsT_one (l:List TreeH):∀u∈cellsT l,u.oneCell'=true:=by
 intro u hu
 simp only [cellsT,List.mem_map,cT] at hu
 obtain⟨a,-,rfl⟩:=hu
 rfl
theorem cellsS_one (l:List ByteArray):∀u∈cellsS l,u.oneCell'=true:=by
 intro u hu
 simp only [cellsS,List.mem_map] at hu
 obtain⟨a,-,rfl⟩:=hu
 rfl
variable {w w':World}
theorem rda_rd {B:Nat} {A:Option Addr} {l:List AttrL} (h:RdA w B A l):Rd w B 3 A l.length (cellsA l):=by
 refine⟨cellsA_len l,fun h0=>?_⟩
 obtain⟨b,off,rfl,hb,hc⟩:=h h0
 refine⟨b,off,rfl,hb,fun j u hu=>?_⟩
 obtain⟨i,r,x,rfl,hr,hx,hru⟩:=flat_at (by decide) cA_len hu
 obtain⟨c0,c1,c2⟩:=hc i x hx
 have hr3:r=0∨r=1∨r=2:=by omega
 rcases hr3 with rfl|rfl|rfl
 all_goals
  simp only [cA,List.getElem?_cons_zero,List.getElem?_cons_succ,Option.some.injEq] at hru
  subst hru
  simp only [Nat.add_zero,←Nat.add_assoc]
  assumption
theorem rd_rda {B:Nat} {A:Option Addr} {l:List AttrL} (h:Rd w B 3 A l.length (cellsA l)):RdA w B A l:=fun h0=>by
 obtain⟨b,off,rfl,hb,hc⟩:=h.2 h0
 refine⟨b,off,rfl,hb,fun i a hi=>?_⟩
 have g:=fun r hr=>flat_get cA_len hi r hr
 refine⟨?_,?_,?_⟩
 ·exact hc (i*3+0) _ ((g 0 (by decide)).trans rfl)
 ·rw [Nat.add_assoc];exact hc (i*3+1) _ ((g 1 (by decide)).trans rfl)
 ·rw [Nat.add_assoc];exact hc (i*3+2) _ ((g 2 (by decide)).trans rfl)
def HeldA (w:World) (B:Nat) (l:List NodeH):Prop:=∀(i:Nat) (x:NodeH),l[i]? = some x→x.1.attrs.length≤x.2.2∧RdA w B x.2.1 x.1.attrs
theorem rdv_rd {B:Nat} {A:Option Addr} {v:List NodeL} (h:RdV w B A v):∃l:List NodeH,l.map (·.1)=v∧Rd w B 6 A v.length (cellsN l)∧HeldA w B l:=by
 rcases Nat.eq_zero_or_pos v.length with h0|h0
 ·obtain rfl:=List.eq_nil_of_length_eq_zero h0
  exact⟨[],rfl,⟨rfl,fun h=>absurd h (by simp)⟩,fun i x hx=>by simp at hx⟩
 ·obtain⟨b,off,rfl,hb,hc⟩:=h h0
  obtain⟨l,hl,hp⟩:=list_of (P:=fun i (x:NodeH)=>v[i]? = some x.1∧w.cell? ⟨b,off+i*6,none⟩=some (.int .u8 x.1.kind)∧w.cell? ⟨b,off+i*6+1,none⟩=some (.string x.1.space)∧w.cell? ⟨b,off+i*6+2,none⟩=some (.string x.1.name)∧
    w.cell? ⟨b,off+i*6+3,none⟩=some (.slice x.2.1 x.1.attrs.length x.2.2)∧w.cell? ⟨b,off+i*6+4,none⟩=some (.string x.1.text)∧w.cell? ⟨b,off+i*6+5,none⟩=some (.int .i64 x.1.many)∧x.1.attrs.length≤x.2.2∧RdA w B x.2.1 x.1.attrs) v.length fun i hi=>by
   obtain⟨c0,c1,c2,⟨A,c,c3,hl,hA⟩,c4,c5⟩:=hc i v[i] (List.getElem?_eq_getElem hi)
   exact⟨(v[i],A,c),List.getElem?_eq_getElem hi,c0,c1,c2,c3,c4,c5,hl,hA⟩
  refine⟨l,?_,⟨by rw [cellsN_len,hl],fun _=>⟨b,off,rfl,hb,fun j u hu=>?_⟩⟩,fun i x hx=>?_⟩
  ·apply List.ext_getElem?
   intro i
   rw [List.getElem?_map]
   by_cases hi:i < l.length
   ·have hx:=List.getElem?_eq_getElem hi
    rw [hx,(hp i _ hx).1]
    rfl
   ·rw [List.getElem?_eq_none (by omega),List.getElem?_eq_none (by omega)]
    rfl
  ·obtain⟨i,r,x,rfl,hr,hx,hru⟩:=flat_at (by decide) cN_len hu
   obtain⟨-,c0,c1,c2,c3,c4,c5,-,-⟩:=hp i x hx
   have hr6:r=0∨r=1∨r=2∨r=3∨r=4∨r=5:=by omega
   rcases hr6 with rfl|rfl|rfl|rfl|rfl|rfl
   all_goals
    simp only [cN,List.getElem?_cons_zero,List.getElem?_cons_succ,Option.some.injEq] at hru
    subst hru
    simp only [Nat.add_zero,←Nat.add_assoc]
    assumption
  ·obtain⟨-,-,-,-,-,-,-,h1,h2⟩:=hp i x hx
   exact⟨h1,h2⟩
theorem rd_rdv {B:Nat} {A:Option Addr} {l:List NodeH} (h:Rd w B 6 A l.length (cellsN l)) (hh:HeldA w B l):RdV w B A (l.map (·.1)):=fun h0=>by
 rw [List.length_map] at h0
 obtain⟨b,off,rfl,hb,hc⟩:=h.2 h0
 refine⟨b,off,rfl,hb,fun i n hi=>?_⟩
 rw [List.getElem?_map,Option.map_eq_some_iff] at hi
 obtain⟨x,hi,rfl⟩:=hi
 have g:=fun r hr=>flat_get cN_len hi r hr
 obtain⟨h1,h2⟩:=hh i x hi
 refine⟨?_,?_,?_,⟨x.2.1,x.2.2,?_,h1,h2⟩,?_,?_⟩
 ·exact hc (i*6+0) _ ((g 0 (by decide)).trans rfl)
 ·rw [Nat.add_assoc];exact hc (i*6+1) _ ((g 1 (by decide)).trans rfl)
 ·rw [Nat.add_assoc];exact hc (i*6+2) _ ((g 2 (by decide)).trans rfl)
 ·rw [Nat.add_assoc];exact hc (i*6+3) _ ((g 3 (by decide)).trans rfl)
 ·rw [Nat.add_assoc];exact hc (i*6+4) _ ((g 4 (by decide)).trans rfl)
 ·rw [Nat.add_assoc];exact hc (i*6+5) _ ((g 5 (by decide)).trans rfl)
theorem info_attr:(Tryz.prog.info? 80).map (fun i=>(i.zero,i.size,i.bytes))=some (some (.agg #[.string ⟨#[]⟩,.string ⟨#[]⟩,.string ⟨#[]⟩]),3,48):=by kernel_rfl
theorem info_node:(Tryz.prog.info? 69).map (fun i=>(i.zero,i.size,i.bytes))=some (some (.agg #[.int .u8 0,.string ⟨#[]⟩,.string ⟨#[]⟩,.slice none 0 0,.string ⟨#[]⟩,.int .i64 0]),6,88):=by kernel_rfl
theorem info_tree:(Tryz.prog.info? 30).map (fun i=>(i.zero,i.size,i.bytes))=some (some (.slice none 0 0),1,24):=by kernel_rfl
theorem info_str:(Tryz.prog.info? 9).map (fun i=>(i.zero,i.size,i.bytes))=some (some (.string ⟨#[]⟩),1,16):=by kernel_rfl
theorem app_attrs {ops:Array Oper} {rest:List Oper} {o:Oper} {a:Act} {Q:Exit→Act→World→Prop} (hgd:o.guard=none) (s x:Operand)
  (ho:o.op=.call { callee:=.builtin .append,args:=#[s,x],argTypes:=#[67,67]})
  (base:Nat) (v:Value) (n:Nat) (xs:List AttrL) (hs:a.eval s=v) (hown:w.ownsRow base 80 3 v n (cellsA xs))
  (B:Nat) (A:Option Addr) (m c:Nat) (news:List AttrL) (hx:a.eval x=.slice A m c) (hr:Rd w B 3 A m (cellsA news)) (hb:n+m≤1000000000000) (hbase:base≤w.heap.size)
  (h:∀v' w',w'.ownsRow base 80 3 v' (n+m) (cellsA (xs++news))→w.grownBy w' v.ownBlock→(v'.ownBlock=v.ownBlock∨v'.ownBlock=some w.heap.size)→wpList Tryz.prog ops Q rest (a.put o.dst v') w'):wpList Tryz.prog ops Q (o :: rest) a w:=by
 obtain⟨i0,hi,hz0,hz1,hz2⟩:=info_parts info_attr
 refine app_wpList w hgd s x _ ho base _ i0 (.agg #[.string ⟨#[]⟩,.string ⟨#[]⟩,.string ⟨#[]⟩]) 3 48 Tryz.underlying67 hi hz0 hz1 hz2 rfl (by decide) v n _ hs hown B A m c _ hx hr (cellsA_one _) (by unfold maxLen;omega) (by omega) hbase ?_
 rw [←cellsA_app];exact h
theorem app_nodes {ops:Array Oper} {rest:List Oper} {o:Oper} {a:Act} {Q:Exit→Act→World→Prop} (hgd:o.guard=none) (s x:Operand)
  (ho:o.op=.call { callee:=.builtin .append,args:=#[s,x],argTypes:=#[30,30]})
  (base:Nat) (v:Value) (n:Nat) (xs:List NodeH) (hs:a.eval s=v) (hown:w.ownsRow base 69 6 v n (cellsN xs))
  (B:Nat) (A:Option Addr) (m c:Nat) (news:List NodeH) (hx:a.eval x=.slice A m c) (hr:Rd w B 6 A m (cellsN news)) (hb:n+m≤1000000000000) (hbase:base≤w.heap.size)
  (h:∀v' w',w'.ownsRow base 69 6 v' (n+m) (cellsN (xs++news))→w.grownBy w' v.ownBlock→(v'.ownBlock=v.ownBlock∨v'.ownBlock=some w.heap.size)→wpList Tryz.prog ops Q rest (a.put o.dst v') w'):wpList Tryz.prog ops Q (o :: rest) a w:=by
 obtain⟨i0,hi,hz0,hz1,hz2⟩:=info_parts info_node
 refine app_wpList w hgd s x _ ho base _ i0 (.agg #[.int .u8 0,.string ⟨#[]⟩,.string ⟨#[]⟩,.slice none 0 0,.string ⟨#[]⟩,.int .i64 0]) 6 88 Tryz.underlying30 hi hz0 hz1 hz2 rfl (by decide) v n _ hs hown B A m c _ hx hr (cellsN_one _) (by unfold maxLen;omega) (by omega) hbase ?_
 rw [←cellsN_app];exact h
theorem app_trees {ops:Array Oper} {rest:List Oper} {o:Oper} {a:Act} {Q:Exit→Act→World→Prop} (hgd:o.guard=none) (s x:Operand)
  (ho:o.op=.call { callee:=.builtin .append,args:=#[s,x],argTypes:=#[22,22]})
  (base:Nat) (v:Value) (n:Nat) (xs:List TreeH) (hs:a.eval s=v) (hown:w.ownsRow base 30 1 v n (cellsT xs))
  (B:Nat) (A:Option Addr) (m c:Nat) (news:List TreeH) (hx:a.eval x=.slice A m c) (hr:Rd w B 1 A m (cellsT news)) (hb:n+m≤1000000000000) (hbase:base≤w.heap.size)
  (h:∀v' w',w'.ownsRow base 30 1 v' (n+m) (cellsT (xs++news))→w.grownBy w' v.ownBlock→(v'.ownBlock=v.ownBlock∨v'.ownBlock=some w.heap.size)→wpList Tryz.prog ops Q rest (a.put o.dst v') w'):wpList Tryz.prog ops Q (o :: rest) a w:=by
 obtain⟨i0,hi,hz0,hz1,hz2⟩:=info_parts info_tree
 refine app_wpList w hgd s x _ ho base _ i0 (.slice none 0 0) 1 24 Tryz.underlying22 hi hz0 hz1 hz2 rfl (by decide) v n _ hs hown B A m c _ hx hr (cellsT_one _) (by unfold maxLen;omega) (by omega) hbase ?_
 rw [←cellsT_app];exact h
theorem app_strs {ops:Array Oper} {rest:List Oper} {o:Oper} {a:Act} {Q:Exit→Act→World→Prop} (hgd:o.guard=none) (s x:Operand)
  (ho:o.op=.call { callee:=.builtin .append,args:=#[s,x],argTypes:=#[44,44]})
  (base:Nat) (v:Value) (n:Nat) (xs:List ByteArray) (hs:a.eval s=v) (hown:w.ownsRow base 9 1 v n (cellsS xs))
  (B:Nat) (A:Option Addr) (m c:Nat) (news:List ByteArray) (hx:a.eval x=.slice A m c) (hr:Rd w B 1 A m (cellsS news)) (hb:n+m≤1000000000000) (hbase:base≤w.heap.size)
  (h:∀v' w',w'.ownsRow base 9 1 v' (n+m) (cellsS (xs++news))→w.grownBy w' v.ownBlock→(v'.ownBlock=v.ownBlock∨v'.ownBlock=some w.heap.size)→wpList Tryz.prog ops Q rest (a.put o.dst v') w'):wpList Tryz.prog ops Q (o :: rest) a w:=by
 obtain⟨i0,hi,hz0,hz1,hz2⟩:=info_parts info_str
 refine app_wpList w hgd s x _ ho base _ i0 (.string ⟨#[]⟩) 1 16 Tryz.underlying44 hi hz0 hz1 hz2 rfl (by decide) v n _ hs hown B A m c _ hx hr (cellsS_one _) (by unfold maxLen;omega) (by omega) hbase ?_
 rw [←cellsS_app];exact h
end Go.Proofs.YtnfokaecobddkaaGreatDoor
end
section
namespace Go.Proofs.YtnfokaecobddkaaGreatDoor
open Go.RowKit
set_option linter.unusedSimpArgs false
set_option linter.unusedVariables false
theorem eql_nil {P:Program} (w:World) (t e:TypeId) (a:Option Addr) (l c:Nat) (h:P.underlying t=some (.slice e)):(binOp .eql t (.slice a l c) (.slice none 0 0)).run P w=.ok (.bool a.isNone) w:=by
 simp [binOp,run_equal_slice_nil w t e a l c h]
set_option maxRecDepth 10000 in
theorem clone_attrs (A:Option Addr) (c:Nat) (l:List AttrL) (w:World) (hr:Rd w w.heap.size 3 A l.length (cellsA l)) (hn:l.length≤1000000000) :
  Calls Tryz.prog 122 #[.slice A l.length c] w fun e w'=>∃v',e=.returned v'∧w'.ownsRow w.heap.size 80 3 v' l.length (cellsA l)∧Below w.heap.size w w':=by
 cases A with
 | none=>
  have h0:l.length=0:=by
   rcases Nat.eq_zero_or_pos l.length with h0|h0
   ·exact h0
   ·obtain⟨_,_,h,_⟩:=hr.2 h0
    cases h
  obtain rfl:=List.eq_nil_of_length_eq_zero h0
  clear h0 hr
  rw [List.length_nil]
  have hq:=fun W=>eql_nil (P:=Tryz.prog) W 67 80 none 0 c Tryz.underlying67
  rw [Option.isNone_none] at hq
  go_enter Tryz.func122,Tryz.ntmps122
  go_wp2
  go_ret
  exact⟨_,rfl,World.ownsRow_nil _ _ _ _,Below.refl _ _⟩
 | some ad=>
  have HR:=Lib.hid hr
  clear hr
  have HO:Hid ((w.alloc (.cells #[] 80)).ownsRow w.heap.size 80 3 (.slice (some ⟨w.heap.size,0,none⟩) 0 0) 0 (cellsA [])):=World.ownsRow_lit w #[] 0 (Nat.le_refl _) (by decide) rfl
  have HRA:Hid (Rd (w.alloc (.cells #[] 80)) w.heap.size 3 (some ad) l.length (cellsA l)):=HR.out.alloc (Nat.le_refl _) _
  have HX:Hid (Below w.heap.size w (w.alloc (.cells #[] 80))):=(Below.refl _ _).alloc (Nat.le_refl _) _
  generalize hL:l.length=N at *
  have HL:=Lib.hid hL
  have hq:=fun W=>eql_nil (P:=Tryz.prog) W 67 80 (some ad) N c Tryz.underlying67
  rw [Option.isNone_some] at hq
  clear hL
  go_enter Tryz.func122,Tryz.ntmps122
  go_wp2_with (at_builtin;refine app_attrs rfl _ _ rfl w.heap.size _ 0 [] rfl HO.out _ _ _ _ l rfl HRA.out (by omega) (by simp) ?_)
  intro v' w2 hown2 hg _
  have X2:Hid (Below w.heap.size w w2):=HX.out.grown hg (by simp) (fun q hq=>by simp [Value.ownBlock] at hq;omega)
  have HO2:=Lib.hid hown2
  clear hown2 hg
  go_wp2
  go_ret
  exact⟨_,rfl,by simpa using HO2.out,X2.out⟩
set_option maxRecDepth 10000 in
theorem clone_nodes (A:Option Addr) (c:Nat) (l:List NodeH) (w:World) (hr:Rd w w.heap.size 6 A l.length (cellsN l)) (hn:l.length≤1000000000) :
  Calls Tryz.prog 121 #[.slice A l.length c] w fun e w'=>∃v',e=.returned v'∧w'.ownsRow w.heap.size 69 6 v' l.length (cellsN l)∧Below w.heap.size w w':=by
 cases A with
 | none=>
  have h0:l.length=0:=by
   rcases Nat.eq_zero_or_pos l.length with h0|h0
   ·exact h0
   ·obtain⟨_,_,h,_⟩:=hr.2 h0
    cases h
  obtain rfl:=List.eq_nil_of_length_eq_zero h0
  clear h0 hr
  rw [List.length_nil]
  have hq:=fun W=>eql_nil (P:=Tryz.prog) W 30 69 none 0 c Tryz.underlying30
  rw [Option.isNone_none] at hq
  go_enter Tryz.func121,Tryz.ntmps121
  go_wp2
  go_ret
  exact⟨_,rfl,World.ownsRow_nil _ _ _ _,Below.refl _ _⟩
 | some ad=>
  have HR:=Lib.hid hr
  clear hr
  have HO:Hid ((w.alloc (.cells #[] 69)).ownsRow w.heap.size 69 6 (.slice (some ⟨w.heap.size,0,none⟩) 0 0) 0 (cellsN [])):=World.ownsRow_lit w #[] 0 (Nat.le_refl _) (by decide) rfl
  have HRA:Hid (Rd (w.alloc (.cells #[] 69)) w.heap.size 6 (some ad) l.length (cellsN l)):=HR.out.alloc (Nat.le_refl _) _
  have HX:Hid (Below w.heap.size w (w.alloc (.cells #[] 69))):=(Below.refl _ _).alloc (Nat.le_refl _) _
  generalize hL:l.length=N at *
  have HL:=Lib.hid hL
  have hq:=fun W=>eql_nil (P:=Tryz.prog) W 30 69 (some ad) N c Tryz.underlying30
  rw [Option.isNone_some] at hq
  clear hL
  go_enter Tryz.func121,Tryz.ntmps121
  go_wp2_with (at_builtin;refine app_nodes rfl _ _ rfl w.heap.size _ 0 [] rfl HO.out _ _ _ _ l rfl HRA.out (by omega) (by simp) ?_)
  intro v' w2 hown2 hg _
  have X2:Hid (Below w.heap.size w w2):=HX.out.grown hg (by simp) (fun q hq=>by simp [Value.ownBlock] at hq;omega)
  have HO2:=Lib.hid hown2
  clear hown2 hg
  go_wp2
  go_ret
  exact⟨_,rfl,by simpa using HO2.out,X2.out⟩
end Go.Proofs.YtnfokaecobddkaaGreatDoor
end
section
namespace Go.Proofs.YtnfokaecobddkaaGreatDoor
open Go.RowKit
set_option linter.unusedSimpArgs false
set_option linter.unusedVariables false
theorem trim_any (s cut:ByteArray) (w:World) (hs:s.size≤1000000000) (hc:cut.size < 1000) (ha:cut.data.toList.all (fun b=>decide (b.toNat < 128))=true) :
  Calls Tryz.prog 82 #[.string s,.string cut] w fun e w'=>e=.returned (.string ⟨(Lib.trimS s.data.toList cut.data.toList).toArray⟩)∧Below w.heap.size w w':=
 Any.strings_Trim_laid Tryz.lays160 (by kernel_rfl) s cut w (by omega) (by omega) (ascii_of_all ha)
set_option maxHeartbeats 1000000 in
theorem idxfunc_no (g:Nat) (lb:Array Value) (s:ByteArray) (w:World) (hs:s.size≤1000000000) (ha:∀i,i < s.size→b_at s i < 128)
  (eg:∀args w,(callFunc g args).run Tryz.prog w=.ok (.enter g args) w)
  (hp:∀(W:World) (i:Nat),Below w.heap.size w W→i < s.size→Calls Tryz.prog g (#[.int .i32 (b_at s i:Int)]++lb) W fun e w'=>e=.returned (.bool false)∧Below W.heap.size W w') :
  Calls Tryz.prog 216 #[.string s,.func (.func g) #[] lb,.bool true] w fun e w'=>e=.returned (.int .i64 (-1))∧Below w.heap.size w w':=by
 have HA:=Lib.hid ha
 have HP:=Lib.hid hp
 have hiter:=(Below.refl w.heap.size w).alloc (Nat.le_refl _)
 have HITER:=Lib.hid hiter
 clear ha hp hiter
 go_enter Tryz.func216,Tryz.ntmps216
 go_wp2
 go_loopw [7,8] (fun _ _ wr=>∃(i:Nat),i≤s.size∧wr.heap[w.heap.size]? = some (.stringIter s i)∧Below w.heap.size w wr) (fun _ _ wr=>s.size - wr.iterPos w.heap.size)
 case atStart=>exact⟨0,Nat.zero_le _,World.iter_heap w s 0,HITER.out _⟩
 case round=>
  obtain⟨i,hi,hit,hb⟩:=hrel
  by_cases hlt:i < s.size
  ·have hbi:=HA.out i hlt
   have hd:=dec_ascii s i hlt hbi
   obtain⟨W1,hW1⟩:∃W1,W1=wr.iterAt w.heap.size s (i+(Utf8.decode s i).2):=⟨_,rfl⟩
   have hnx:=fun ty=>Lib.run_next_any_at (P:=Tryz.prog) wr w.heap.size s i ty hit hlt
   rw [←hW1] at hnx
   rw [hd] at hnx hW1
   have hb1:Below w.heap.size w W1:=by rw [hW1];exact Lib.below_iterAt hb (Nat.le_refl _) _ _
   have hi1:W1.heap[w.heap.size]? = some (.stringIter s (i+1)):=by rw [hW1];exact Lib.iterAt_heap _ _ _ _ _ hit
   have hsz:w.heap.size < W1.heap.size:=(Array.getElem?_eq_some_iff.1 hi1).1
   have HB:=Lib.hid hb1
   have HI:=Lib.hid hi1
   have HI0:=Lib.hid hit
   have hcall:=HP.out W1 i hb1 hlt
   have eg':=eg (#[.int .i32 (b_at s i:Int)]++lb)
   clear hW1 hb hit hb1 hi1 hd
   generalize b_at s i=x at *
   go_wp2_with fail
   refine hcall.mono ?_
   rintro e w2 ⟨rfl,hb2⟩
   have X2:Hid (Below w.heap.size w w2):=HB.out.trans (hb2.mono (by omega))
   have I2:Hid (w2.heap[w.heap.size]? = some (.stringIter s (i+1))):=(hb2.block _ hsz).trans HI.out
   clear hb2 hcall
   go_wp2
   go_roundw
   case rel=>exact⟨i+1,by omega,I2.out,X2.out⟩
   case measure=>rw [iter_pos I2.out,iter_pos HI0.out];omega
  ·obtain rfl:i=s.size:=by omega
   have hnx:=fun ty=>Lib.run_next_end_at (P:=Tryz.prog) wr w.heap.size s s.size ty hit hlt
   have HB:=Lib.hid hb
   clear hb hit
   go_wp2
   try rw [Exit.noGoto_ret]
   go_ret
   exact⟨rfl,HB.out⟩
theorem hasfunc_no (g:Nat) (lb:Array Value) (s:ByteArray) (w:World) (hs:s.size≤1000000000) (ha:∀i,i < s.size→b_at s i < 128)
  (eg:∀args w,(callFunc g args).run Tryz.prog w=.ok (.enter g args) w)
  (hp:∀(W:World) (i:Nat),Below w.heap.size w W→i < s.size→Calls Tryz.prog g (#[.int .i32 (b_at s i:Int)]++lb) W fun e w'=>e=.returned (.bool false)∧Below W.heap.size W w') :
  Calls Tryz.prog 144 #[.string s,.func (.func g) #[] lb] w fun e w'=>e=.returned (.bool false)∧Below w.heap.size w w':=by
 have H:=Lib.hid (idxfunc_no g lb s w hs ha eg hp)
 have H2:Hid (Calls Tryz.prog 183 #[.string s,.func (.func g) #[] lb] w fun e w'=>e=.returned (.int .i64 (-1))∧Below w.heap.size w w'):=by
  show Calls _ _ _ _ _
  clear hp ha
  go_enter Tryz.func183,Tryz.ntmps183
  go_wp2_with fail
  refine H.out.mono ?_
  rintro e w1 ⟨rfl,hb1⟩
  go_wp2
  go_ret
  exact⟨rfl,hb1⟩
 clear H hp ha
 go_enter Tryz.func144,Tryz.ntmps144
 go_wp2_with fail
 refine H2.out.mono ?_
 rintro e w1 ⟨rfl,hb1⟩
 go_wp2
 go_ret
 exact⟨rfl,hb1⟩
theorem of11_any (set:ByteArray) (x B:Nat) (w:World) (hx:x < 128) (hB:w.cell? ⟨B,0,none⟩=some (.string set)) :
  Calls Tryz.prog 145 (#[.int .i32 (x:Int)]++#[.pointer (some ⟨B,0,none⟩)]) w fun e w'=>e=.returned (.bool (!set.data.toList.contains x.toUInt8))∧Below w.heap.size w w':=by
 have H:=Lib.hid (fun W=>(Tryz.strings_ContainsRune_ascii set (x:Int) W (by omega) (by omega)).mono fun e w' h=>(⟨h.1,h.2.symm⟩:e=_∧W=w'))
 rw [show((x:Int).toNat)=x by omega,←Lib.contains_iff_indexByte] at H
 generalize set.data.toList.contains x.toUInt8=r at *
 rw [List.append_toArray,List.singleton_append]
 go_enter Tryz.func145,Tryz.ntmps145
 go_wp2_with fail
 refine(H.out _).mono ?_
 rintro e w1 ⟨rfl,rfl⟩
 go_wp2
 go_ret
 exact⟨ret_bool (by simp),Below.refl _ _⟩
set_option maxHeartbeats 1000000 in
theorem of1_any (set s:ByteArray) (B:Nat) (w:World) (hs:s.size≤1000000000) (hc:set.size < 1000) (ha:set.data.toList.all (fun b=>decide (b.toNat < 128))=true) (hB:w.cell? ⟨B,0,none⟩=some (.string set)) :
  Calls Tryz.prog 143 (#[.string s]++#[.pointer (some ⟨B,0,none⟩)]) w fun e w'=>e=.returned (.bool (setAll set.data.toList s))∧Below w.heap.size w w':=by
 have H:=Lib.hid (trim_any s set w hs hc ha)
 have hBl:=World.block_lt_of_cell? w _ hB
 have eg:=enters_of (P:=Tryz.prog) Tryz.func145 (by kernel_rfl) rfl
 rw [List.append_toArray,List.singleton_append]
 cases hq:setAll set.data.toList s with
 | true=>
  have ha2:∀i,i < s.size→b_at s i < 128:=set_lt (fun b hb=>of_decide_eq_true (List.all_eq_true.1 ha b hb)) hq
  have H2:=Lib.hid (fun W (hW:Below w.heap.size w W)=>hasfunc_no 145 #[.pointer (some ⟨B,0,none⟩)] s W hs ha2 eg (fun W' i hW' hi=>(of11_any set (b_at s i) B W' (ha2 i hi) ((hW'.cell (Nat.lt_of_lt_of_le hBl hW.size)).trans ((hW.cell hBl).trans hB))).mono fun e w' h=>⟨by
   rw [h.1]
   have h1:=set_at hq i hi
   have e1:(b_at s i).toUInt8=s.get! i:=by unfold b_at;simp
   rw [e1,h1];rfl,h.2⟩))
  rw [(trimS_nil _ _).2 hq] at H
  have HB:=Lib.hid (fun W (hW:Below w.heap.size w W)=>(hW.cell hBl).trans hB)
  clear hq ha ha2 eg
  go_enter Tryz.func143,Tryz.ntmps143
  go_wp2_with fail
  refine H.out.mono ?_
  rintro e w1 ⟨rfl,hb1⟩
  have X1:=Lib.hid hb1
  clear hb1
  have hB:=HB.out _ X1.out
  go_wp2_with fail
  refine(H2.out _ X1.out).mono ?_
  rintro e w2 ⟨rfl,hb2⟩
  go_wp2
  go_ret
  exact⟨rfl,X1.out.trans (hb2.mono X1.out.size)⟩
 | false=>
  have hne:Lib.trimS s.data.toList set.data.toList≠[]:=fun h=>by
   rw [trimS_nil] at h
   unfold setAll at hq
   rw [h] at hq
   cases hq
  obtain⟨t,ht⟩:∃t:ByteArray,t=⟨(Lib.trimS s.data.toList set.data.toList).toArray⟩:=⟨_,rfl⟩
  have he:t.toList.isEmpty=false:=by
   rw [Lib.toList_data,ht]
   cases h:Lib.trimS s.data.toList set.data.toList with
   | nil=>exact absurd h hne
   | cons a l=>rfl
  rw [←ht] at H
  clear hq hne ht ha eg
  go_enter Tryz.func143,Tryz.ntmps143
  go_wp2_with fail
  refine H.out.mono ?_
  rintro e w1 ⟨rfl,hb1⟩
  have X1:=Lib.hid hb1
  clear hb1
  go_wp2
  go_ret
  exact⟨rfl,X1.out⟩
end Go.Proofs.YtnfokaecobddkaaGreatDoor
end
section
namespace Go.Proofs.YtnfokaecobddkaaGreatDoor
open Go.RowKit
set_option linter.unusedSimpArgs false
set_option linter.unusedVariables false
def Glb (w:World):Prop:=∃m,w.cell? ⟨1,0,none⟩=some (.int .i64 m)
theorem Glb.lt {w:World} (h:Glb w):1 < w.heap.size:=by
 obtain⟨m,h⟩:=h
 exact World.block_lt_of_cell? w _ h
theorem Glb.below {w w':World} (h:Glb w) (hb:Below w.heap.size w w'):Glb w':=by
 have hl:=h.lt
 obtain⟨m,h⟩:=h
 exact⟨m,(hb.cell (p:=⟨1,0,none⟩) hl).trans h⟩
theorem words1_any (x:Nat) (w:World):Calls Tryz.prog 147 (#[.int .i32 (x:Int)]++#[]) w fun e w'=>e=.returned (.bool (decide (x < 32)))∧w=w':=by
 have HX:Box (decide (x < 32)=decide ((x:Int) < 32)):=⟨by rw [decide_eq_decide];omega⟩
 generalize decide (x < 32)=r at *
 rw [Array.append_empty]
 go_enter Tryz.func147,Tryz.ntmps147
 go_wp2
 go_ret
 exact⟨ret_bool HX.out.symm,rfl⟩
theorem words_any (s:ByteArray) (w:World) (hs:s.size≤1000000000):Calls Tryz.prog 98 (#[.string s]++#[]) w fun e w'=>e=.returned (.bool (decide (textErr s=0) && seenI s))∧Below w.heap.size w w':=by
 have eg:=enters_of (P:=Tryz.prog) Tryz.func147 (by kernel_rfl) rfl
 have H1:=Lib.hid (fun W=>check5_any s W hs)
 have H2:=Lib.hid (fun W=>Tryz.strings_ContainsFunc_runes 147 #[] eg (fun r=>decide (r < 32)) s W (fun W' x _ _=>(words1_any x W').mono fun e w' h=>⟨h.1,0,h.2.symm⟩))
 rw [seen_law] at H2
 have HX:Box ((decide (textErr s=0) && seenI s)=if textErr s=0 then seenI s else false):=⟨by by_cases h:textErr s=0 <;> simp [h]⟩
 generalize (decide (textErr s=0) && seenI s)=r at *
 generalize seenI s=q at *
 generalize textErr s=t at *
 clear eg
 rw [Array.append_empty]
 by_cases ht:t=0
 ·subst ht
  go_enter Tryz.func98,Tryz.ntmps98
  go_wp2_with fail
  refine(H1.out _).mono ?_
  rintro e w1 ⟨rfl,hb1⟩
  have X1:=Lib.hid hb1
  clear hb1
  go_wp2_with fail
  refine(H2.out _).mono ?_
  rintro e w2 ⟨rfl,hb2⟩
  go_wp2
  go_ret
  exact⟨ret_bool (by rw [HX.out];simp),X1.out.trans (hb2.mono X1.out.size)⟩
 ·have hq:(t == 0)=false:=by simpa using ht
  have HX2:Box (r=false):=⟨by rw [HX.out,if_neg ht]⟩
  clear ht HX
  go_enter Tryz.func98,Tryz.ntmps98
  go_wp2_with fail
  refine(H1.out _).mono ?_
  rintro e w1 ⟨rfl,hb1⟩
  go_wp2
  go_ret
  exact⟨ret_bool HX2.out.symm,hb1⟩
theorem get_nat (s:ByteArray) (i:Nat):((b_at s i:Int)).toNat.toUInt8=s.get! i:=by
 unfold b_at
 rw [Int.toNat_natCast]
 simp
theorem ends_any (s:ByteArray) (w:World) (hs:s.size≤1000000000) (h0:0 < s.size):Calls Tryz.prog 99 (#[.string s]++#[]) w fun e w'=>e=.returned (.bool (endsI s))∧w=w':=by
 have H:=Lib.hid (fun i W=>(Tryz.strings_IndexByte (⟨#[97,98,99,100,101,102,103,104,105,106,107,108,109,110,111,112,113,114,115,116,117,118,119,120,121,122,48,49,50,51,52,53,54,55,56,57]⟩:ByteArray) (b_at s i:Int) W).mono fun e w' h=>(⟨h.1,h.2.symm⟩:e=_∧W=w'))
 have HE:Box (endsI s=(plainL.contains (s.get! 0) && plainL.contains (s.get! (s.size - 1)))):=⟨rfl⟩
 have HQ:=Lib.hid (fun i=>Lib.contains_iff_indexByte plainL (s.get! i))
 rw [show(((⟨#[97,98,99,100,101,102,103,104,105,106,107,108,109,110,111,112,113,114,115,116,117,118,119,120,121,122,48,49,50,51,52,53,54,55,56,57]⟩:ByteArray)).data.toList)=plainL from rfl] at H
 have hx0:=at_eq s 0 h0
 have hx1:=at_eq s (s.size - 1) (by omega)
 have hn:((s.size:Int) - 1).toNat=s.size - 1:=by omega
 have hb0:b_at s 0 < 256:=b_lt s 0
 have hb1:b_at s (s.size - 1) < 256:=b_lt s _
 have hi:(0:Int)≤(s.size:Int) - 1:=by omega
 have hi2:(s.size:Int) - 1 < (s.size:Int):=by omega
 generalize endsI s=r at *
 have q0:=HQ.out 0
 have q1:=HQ.out (s.size - 1)
 have H0:=Lib.hid (H.out 0)
 have H1:=Lib.hid (H.out (s.size - 1))
 rw [get_nat] at H0 H1
 rw [q0,q1] at HE
 clear H HQ q0 q1
 generalize Lib.indexByte plainL (s.get! 0)=i0 at *
 generalize Lib.indexByte plainL (s.get! (s.size - 1))=i1 at *
 rw [Array.append_empty]
 by_cases hp:0≤i0
 ·go_enter Tryz.func99,Tryz.ntmps99
  go_wp2_with fail
  refine(H0.out _).mono ?_
  rintro e w1 ⟨rfl,rfl⟩
  go_wp2_with fail
  refine(H1.out _).mono ?_
  rintro e w1 ⟨rfl,rfl⟩
  go_wp2
  go_ret
  exact⟨ret_bool (by rw [HE.out,decide_eq_true hp];simp),rfl⟩
 ·have hp':decide (0≤i0)=false:=decide_eq_false hp
  go_enter Tryz.func99,Tryz.ntmps99
  go_wp2_with fail
  refine(H0.out _).mono ?_
  rintro e w1 ⟨rfl,rfl⟩
  go_wp2
  go_ret
  exact⟨ret_bool (by rw [HE.out,hp'];rfl),rfl⟩
theorem dots_any (s:ByteArray) (w:World) (hs:s.size≤1000000000) (hg:Glb w):Calls Tryz.prog 100 (#[.string s]++#[]) w fun e w'=>e=.returned (.bool (dotsI s))∧w=w':=by
 obtain⟨m,hm⟩:=hg
 have H:=Lib.hid ((Tryz.strings_Contains s (⟨#[46,46]⟩:ByteArray) m w (by omega) hm).mono fun e w' h=>(⟨h.1,h.2.symm⟩:e=_∧w=w'))
 rw [show(((⟨#[46,46]⟩:ByteArray)).data.toList)=[46,46] from rfl] at H
 have HD:Box (dotsI s=!Lib.contains s.data.toList [46,46]):=⟨rfl⟩
 generalize dotsI s=r at *
 generalize Lib.contains s.data.toList [46,46]=q at *
 rw [Array.append_empty]
 go_enter Tryz.func100,Tryz.ntmps100
 go_wp2_with fail
 refine H.out.mono ?_
 rintro e w1 ⟨rfl,rfl⟩
 go_wp2
 go_ret
 exact⟨(ret_bool (by first|(rw [HD.out];done)|(rw [HD.out];simp_all;done))),rfl⟩
def FnOK (s:ByteArray) (w:World) (f:Value) (b:Bool):Prop:=
 ∃g lb,f=.func (.func g) #[] lb∧(∀args W,(callFunc g args).run Tryz.prog W=.ok (.enter g args) W)∧∀W,Below w.heap.size w W→Calls Tryz.prog g (#[.string s]++lb) W fun e w'=>e=.returned (.bool b)∧Below W.heap.size W w'
theorem part1_any (s:ByteArray) (f:Value) (b:Bool) (B:Nat) (w:World) (hf:FnOK s w f b) (hB:w.cell? ⟨B,0,none⟩=some (.string s)) :
  Calls Tryz.prog 141 (#[f]++#[.pointer (some ⟨B,0,none⟩)]) w fun e w'=>e=.returned (.bool (!b))∧Below w.heap.size w w':=by
 obtain⟨g,lb,rfl,eg,hc⟩:=hf
 have H:=Lib.hid (hc w (Below.refl _ _))
 have eg':=eg (#[.string s]++lb)
 clear eg hc
 rw [List.append_toArray,List.singleton_append]
 go_enter Tryz.func141,Tryz.ntmps141
 go_wp2_with fail
 refine H.out.mono ?_
 rintro e w1 ⟨rfl,hb1⟩
 go_wp2
 go_ret
 exact⟨ret_bool (by simp),hb1⟩
def RdF (w:World) (B:Nat) (A:Option Addr) (fs:List (Value×Bool)):Prop:=0 < fs.length→∃b off,A=some ⟨b,off,none⟩∧b < B∧∀i x,fs[i]? = some x→w.cell? ⟨b,off+i,none⟩=some x.1
theorem FnOK.later {s:ByteArray} {w w':World} {f:Value} {b:Bool} (h:FnOK s w f b) (hb:Below w.heap.size w w'):FnOK s w' f b:=by
 obtain⟨g,lb,h1,h2,h3⟩:=h
 exact⟨g,lb,h1,h2,fun W hW=>h3 W (hb.trans (hW.mono hb.size))⟩
set_option maxHeartbeats 1000000 in
theorem idxF_any (s:ByteArray) (B:Nat) (A:Option Addr) (c:Nat) (fs:List (Value×Bool)) (w:World) (hr:RdF w w.heap.size A fs) (hn:fs.length≤1000) (hf:∀x∈fs,FnOK s w x.1 x.2) (hB:w.cell? ⟨B,0,none⟩=some (.string s)) :
  Calls Tryz.prog 182 #[.slice A fs.length c,.func (.func 141) #[] #[.pointer (some ⟨B,0,none⟩)]] w fun e w'=>e=.returned (.int .i64 (placeI (fstP (fun x=>!x.2) fs)))∧Below w.heap.size w w':=by
 have HR:=Lib.hid hr
 have HF0:=Lib.hid hf
 have hBl:=World.block_lt_of_cell? w _ hB
 have HBC:=Lib.hid hB
 have eg:=enters_of (P:=Tryz.prog) Tryz.func141 (by kernel_rfl) rfl
 have EG:=Lib.hid eg
 clear hr hf hB eg
 go_enter Tryz.func182,Tryz.ntmps182
 go_wp2
 go_loopw [5,8] (fun _ s8 wr=>∃k:Nat,k≤fs.length∧s8=.int .i64 k∧Hid (Below w.heap.size w wr)∧Hid (∀(j:Nat) (y:Value×Bool),j < k→fs[j]? = some y→(!y.2)=false)) (fun _ s8 _=>fs.length - (intOf s8).toNat)
 case atStart=>exact⟨0,Nat.zero_le _,rfl,Lib.hid (Below.refl _ _),Lib.hid (fun j y hj=>absurd hj (by omega))⟩
 case round=>
  obtain⟨k,hk,rfl,HB,HN⟩:=hrel
  by_cases hlt:k < fs.length
  ·obtain⟨x,hx⟩:∃x,fs[k]? = some x:=⟨_,List.getElem?_eq_getElem hlt⟩
   have HX:=Lib.hid hx
   obtain⟨b,off,rfl,hb,hc⟩:=HR.out (by omega)
   have c0:=(HB.out.cell (p:=⟨b,off+k,none⟩) hb).trans (hc k x hx)
   have hcall:=part1_any s x.1 x.2 B wr ((HF0.out x (List.mem_of_getElem? hx)).later HB.out) ((HB.out.cell (p:=⟨B,0,none⟩) hBl).trans HBC.out)
   have eg':=EG.out (#[x.1]++#[.pointer (some ⟨B,0,none⟩)])
   have hone:x.1.oneCell'=true:=by obtain⟨g,lb,h1,_⟩:=HF0.out x (List.mem_of_getElem? hx);rw [h1];rfl
   obtain⟨g,lb,h1,_⟩:=HF0.out x (List.mem_of_getElem? hx)
   obtain⟨f,q⟩:=x
   dsimp only at h1 c0 hcall eg' hone
   subst h1
   clear hx hc hb
   rw [List.append_toArray,List.singleton_append] at hcall eg'
   cases q with
   | false=>
    have HF:Hid (fstP (fun x=>!x.2) fs=some k):=fstP_is HX.out rfl HN.out
    generalize fs.length=n at *
    go_wp2_with fail
    refine hcall.mono ?_
    rintro e w1 ⟨rfl,hb1⟩
    have X1:=Lib.hid (HB.out.trans (hb1.mono HB.out.size))
    clear hb1 hcall
    go_wp2
    go_ret
    exact⟨ret_int (by rw [HF.out];rfl),X1.out⟩
   | true=>
    have HF:Hid (∀(j:Nat) (y:Value×Bool),j < k+1→fs[j]? = some y→(!y.2)=false):=Lib.hid (fun j y hj hy=>by
     rcases Nat.lt_or_ge j k with h1|h1
     ·exact HN.out j y h1 hy
     ·obtain rfl:j=k:=by omega
      rw [HX.out] at hy
      simp only [Option.some.injEq] at hy
      rw [←hy];rfl)
    generalize fs.length=n at *
    go_wp2_with fail
    refine hcall.mono ?_
    rintro e w1 ⟨rfl,hb1⟩
    have X1:=Lib.hid (HB.out.trans (hb1.mono HB.out.size))
    clear hb1 hcall
    go_wp2
    go_roundw
    case rel=>exact⟨k+1,by omega,by go_num,X1,HF⟩
    case measure=>simp [intOf];omega
  ·have HF:Hid (fstP (fun x=>!x.2) fs=none):=fstP_not (fun j y hy=>HN.out j y (by have:=(List.getElem?_eq_some_iff.1 hy).1;omega) hy)
   generalize fs.length=n at *
   go_wp2
   go_ret
   exact⟨ret_int (by rw [HF.out];rfl),HB.out⟩
theorem hasF_any (s:ByteArray) (B:Nat) (A:Option Addr) (c:Nat) (fs:List (Value×Bool)) (w:World) (hr:RdF w w.heap.size A fs) (hn:fs.length≤1000) (hf:∀x∈fs,FnOK s w x.1 x.2) (hB:w.cell? ⟨B,0,none⟩=some (.string s)) :
  Calls Tryz.prog 142 #[.slice A fs.length c,.func (.func 141) #[] #[.pointer (some ⟨B,0,none⟩)]] w fun e w'=>e=.returned (.bool (!fs.all (·.2)))∧Below w.heap.size w w':=by
 have H:=Lib.hid (idxF_any s B A c fs w hr hn hf hB)
 have HX:Box ((!fs.all (·.2))=decide (0≤placeI (fstP (fun x=>!x.2) fs))):=⟨by
  have e:∀o:Option Nat,decide (0≤placeI o)=o.isSome:=fun o=>by cases o <;> simp [placeI]
  rw [e,←fstP_any,List.all_eq_not_any_not,Bool.not_not]⟩
 generalize placeI (fstP (fun x=>!x.2) fs)=r at *
 generalize (!fs.all (·.2))=b at *
 generalize fs.length=n at *
 clear hf hr hB
 go_enter Tryz.func142,Tryz.ntmps142
 go_wp2_with fail
 refine H.out.mono ?_
 rintro e w1 ⟨rfl,hb1⟩
 go_wp2
 go_ret
 exact⟨ret_bool HX.out.symm,hb1⟩
theorem jpart_any (s:ByteArray) (A:Option Addr) (c:Nat) (fs:List (Value×Bool)) (w:World) (hr:RdF w w.heap.size A fs) (hn:fs.length≤1000) (hf:∀x∈fs,0 < s.size→s.size≤64→FnOK s w x.1 x.2) :
  Calls Tryz.prog 96 #[.string s,.slice A fs.length c] w fun e w'=>e=.returned (.bool (lenOK s && fs.all (·.2)))∧Below w.heap.size w w':=by
 have HX:Box ((lenOK s && fs.all (·.2))=(!isEmp s && decide (s.size≤64) && fs.all (·.2))):=⟨rfl⟩
 generalize (lenOK s && fs.all (·.2))=r at *
 have hx0:=(Below.refl w.heap.size w).alloc (Nat.le_refl _) (.cells #[.string s] 9)
 have HX0:=Lib.hid hx0
 by_cases h0:s.size=0
 ·have he:=str_em s h0
  have HX2:Box (r=false):=⟨by rw [HX.out];unfold isEmp;rw [decide_eq_true h0];rfl⟩
  have hnil:s.toList=[]:=List.isEmpty_iff.1 he
  clear hx0 hf
  generalize fs.length=n at *
  go_enter Tryz.func96,Tryz.ntmps96
  go_wp2
  go_ret
  exact⟨ret_bool HX2.out.symm,HX0.out⟩
 ·have hne:=str_ne s (by omega)
  by_cases h64:s.size≤64
  ·have h64':(s.size:Int)≤64:=by omega
   have h64d:decide ((s.size:Int)≤64)=true:=decide_eq_true h64'
   have HX2:Box (r=fs.all (·.2)):=⟨by rw [HX.out];unfold isEmp;rw [decide_eq_false h0,decide_eq_true h64];rfl⟩
   have H:=Lib.hid (hasF_any s w.heap.size A c fs (w.alloc (.cells #[.string s] 9)) (fun h=>by
    obtain⟨b,off,h1,h2,h3⟩:=hr h
    exact⟨b,off,h1,by have:=hx0.size;omega,fun i x hi=>(hx0.cell (p:=⟨b,off+i,none⟩) h2).trans (h3 i x hi)⟩) hn (fun x hx=>(hf x hx (by omega) h64).later hx0) (by simp))
   clear hx0 hf hr
   generalize fs.all (·.2)=q at *
   generalize fs.length=n at *
   go_enter Tryz.func96,Tryz.ntmps96
   go_wp2_with fail
   refine H.out.mono ?_
   rintro e w1 ⟨rfl,hb1⟩
   go_wp2
   go_ret
   exact⟨(ret_bool (by first|(rw [HX2.out];done)|(rw [HX2.out];simp_all;done))),HX0.out.trans (hb1.mono HX0.out.size)⟩
  ·have h64':¬(s.size:Int)≤64:=by omega
   have h64d:decide ((s.size:Int)≤64)=false:=decide_eq_false h64'
   have HX2:Box (r=false):=⟨by rw [HX.out,decide_eq_false h64,Bool.and_false];rfl⟩
   clear hx0 hf hr
   generalize fs.length=n at *
   go_enter Tryz.func96,Tryz.ntmps96
   go_wp2
   go_ret
   exact⟨ret_bool HX2.out.symm,HX0.out⟩
theorem of_any (set:ByteArray) (w:World):Calls Tryz.prog 97 #[.string set] w fun e w'=>∃B,e=.returned (.func (.func 143) #[] #[.pointer (some ⟨B,0,none⟩)])∧w.heap.size≤B∧w'.cell? ⟨B,0,none⟩=some (.string set)∧Below w.heap.size w w':=by
 have HX0:=Lib.hid ((Below.refl w.heap.size w).alloc (Nat.le_refl _) (.cells #[.string set] 9))
 go_enter Tryz.func97,Tryz.ntmps97
 go_wp2
 go_ret
 exact⟨w.heap.size,rfl,Nat.le_refl _,by simp,HX0.out⟩
end Go.Proofs.YtnfokaecobddkaaGreatDoor
end
section
namespace Go.Proofs.YtnfokaecobddkaaGreatDoor
open Go.RowKit
section
variable {ops:Array Oper} {w0:World} {Fin:List Ty→Prop} {rest:List Oper} {E:Env} {Ts:List Ty} {o:Oper}
theorem tw_ldS {x:Operand} {p:Addr} {s:ByteArray} (hop:o.op=.load 9 x) (hE:evalE E x=some (.pointer (some p))) (hc:∀W,Ext w0 W→W.cell? p=some (.string s)) (hw:Wd ops o E true)
  (hr:wpT Tryz.prog ops w0 Fin rest (E.put o.dst (.inl (.string s))) (.inl (.string s) :: Ts)):wpT Tryz.prog ops w0 Fin (o :: rest) E Ts:=
 tw_pure (.string s) hw (fun a W hW hs=>by
  have h1:a.eval x=.pointer (some p):=evalE_of hE (by rw [hop];simp [Op.operands]) hs
  have h2:=hc W hW
  unfold execOp
  simp only [hop,h1]
  go_simp) hr
theorem tw_ldU {x:Operand} {p:Addr} {n:Int} (hop:o.op=.load 5 x) (hE:evalE E x=some (.pointer (some p))) (hc:∀W,Ext w0 W→W.cell? p=some (.int .u8 n)) (hw:Wd ops o E true)
  (hr:wpT Tryz.prog ops w0 Fin rest (E.put o.dst (.inl (.int .u8 n))) (.inl (.int .u8 n) :: Ts)):wpT Tryz.prog ops w0 Fin (o :: rest) E Ts:=
 tw_pure (.int .u8 n) hw (fun a W hW hs=>by
  have h1:a.eval x=.pointer (some p):=evalE_of hE (by rw [hop];simp [Op.operands]) hs
  have h2:=hc W hW
  unfold execOp
  simp only [hop,h1]
  go_simp) hr
theorem tw_ldV {x:Operand} {p:Addr} {A:Option Addr} {m c:Nat} (hop:o.op=.load 30 x) (hE:evalE E x=some (.pointer (some p))) (hc:∀W,Ext w0 W→W.cell? p=some (.slice A m c)) (hw:Wd ops o E true)
  (hr:wpT Tryz.prog ops w0 Fin rest (E.put o.dst (.inl (.slice A m c))) (.inl (.slice A m c) :: Ts)):wpT Tryz.prog ops w0 Fin (o :: rest) E Ts:=
 tw_pure (.slice A m c) hw (fun a W hW hs=>by
  have h1:a.eval x=.pointer (some p):=evalE_of hE (by rw [hop];simp [Op.operands]) hs
  have h2:=hc W hW
  unfold execOp
  simp only [hop,h1]
  go_simp) hr
theorem tw_ldA {x:Operand} {p:Addr} {A:Option Addr} {m c:Nat} (hop:o.op=.load 67 x) (hE:evalE E x=some (.pointer (some p))) (hc:∀W,Ext w0 W→W.cell? p=some (.slice A m c)) (hw:Wd ops o E true)
  (hr:wpT Tryz.prog ops w0 Fin rest (E.put o.dst (.inl (.slice A m c))) (.inl (.slice A m c) :: Ts)):wpT Tryz.prog ops w0 Fin (o :: rest) E Ts:=
 tw_pure (.slice A m c) hw (fun a W hW hs=>by
  have h1:a.eval x=.pointer (some p):=evalE_of hE (by rw [hop];simp [Op.operands]) hs
  have h2:=hc W hW
  unfold execOp
  simp only [hop,h1]
  go_simp) hr
end
end Go.Proofs.YtnfokaecobddkaaGreatDoor
end
section
namespace Go.Proofs.YtnfokaecobddkaaGreatDoor
open Go.RowKit
set_option linter.unusedSimpArgs false
set_option linter.unusedVariables false
def blk (A:Option Addr):Nat:=match A with
 | some a=>a.block
 | none=>0
def NewA (base g:Nat) (w:World) (A:Option Addr) (l:List AttrL):Prop:=
 0 < l.length→∃b off,A=some ⟨b,off,none⟩∧base≤b∧b≠g∧b < w.heap.size∧∀i a,l[i]? = some a→AtAt w b (off+i*3) a
theorem NewA.rda {base g:Nat} {w:World} {A:Option Addr} {l:List AttrL} (h:NewA base g w A l):RdA w w.heap.size A l:=fun h0=>by
 obtain⟨b,off,h1,_,_,h2,h3⟩:=h h0
 exact⟨b,off,h1,h2,h3⟩
theorem NewA.ext {base g:Nat} {w w':World} {A:Option Addr} {l:List AttrL} (h:NewA base g w A l) (hb:Below w.heap.size w w'):NewA base g w' A l:=fun h0=>by
 obtain⟨b,off,h1,h2,h3,h4,h5⟩:=h h0
 exact⟨b,off,h1,h2,h3,Nat.lt_of_lt_of_le h4 hb.size,fun i a hi=>(h5 i a hi).keep h4 (fun p hp=>hb.cell hp)⟩
theorem NewA.set {base g o:Nat} {w:World} {A:Option Addr} {l:List AttrL} (h:NewA base g w A l) (u:Value):NewA base g (w.setCell ⟨g,o,none⟩ u) A l:=fun h0=>by
 obtain⟨b,off,h1,h2,h3,h4,h5⟩:=h h0
 have hk:∀q:Nat,(w.setCell ⟨g,o,none⟩ u).cell? ⟨b,q,none⟩=w.cell? ⟨b,q,none⟩:=fun q=>World.cell?_of_block (heap_setCell_other w _ b _ h3)
 refine⟨b,off,h1,h2,h3,by simpa [World.setCell] using h4,fun i a hi=>?_⟩
 obtain⟨e0,e1,e2⟩:=h5 i a hi
 exact⟨(hk _).trans e0,(hk _).trans e1,(hk _).trans e2⟩
theorem NewA.of_own {base g:Nat} {w:World} {A:Option Addr} {c:Nat} {l:List AttrL} (h:w.ownsRow base 80 3 (.slice A l.length c) l.length (cellsA l)) (hg:g < base):NewA base g w A l:=fun h0=>by
 obtain⟨b,off,rfl,hb,hc⟩:=rd_rda (Rd.of_own h) h0
 have hlt:=h.lt b rfl
 exact⟨b,off,rfl,hlt.1,by have:=hlt.1;omega,hlt.2,hc⟩
def NewV (base:Nat) (w:World) (A:Option Addr) (c:Nat) (v:List NodeL):Prop:=
 ∃l:List NodeH,l.map (·.1)=v∧w.ownsRow base 69 6 (.slice A v.length c) v.length (cellsN l)∧∀(i:Nat) (x:NodeH),l[i]? = some x→x.1.attrs.length≤x.2.2∧NewA base (blk A) w x.2.1 x.1.attrs
theorem NewV.ext {base:Nat} {w w':World} {A:Option Addr} {c:Nat} {v:List NodeL} (h:NewV base w A c v) (hb:Below w.heap.size w w'):NewV base w' A c v:=by
 obtain⟨l,h1,h2,h3⟩:=h
 exact⟨l,h1,own_keep h2 hb,fun i x hi=>⟨(h3 i x hi).1,(h3 i x hi).2.ext hb⟩⟩
theorem NewV.rdv {base:Nat} {w:World} {A:Option Addr} {c:Nat} {v:List NodeL} (h:NewV base w A c v):RdV w w.heap.size A v:=by
 obtain⟨l,rfl,h2,h3⟩:=h
 rw [List.length_map] at h2
 exact rd_rdv (Rd.of_own h2) (fun i x hi=>⟨(h3 i x hi).1,(h3 i x hi).2.rda⟩)
def TwinPost (v:List NodeL) (w:World) (e:Ending) (w':World):Prop:=∃A' c',e=.returned (.slice A' v.length c')∧v.length≤c'∧NewV w.heap.size w' A' c' v∧Below w.heap.size w w'
theorem own_le {w:World} {base s n c:Nat} {e:TypeId} {A:Option Addr} {xs:List Value} (h:w.ownsRow base e s (.slice A n c) n xs):n≤c:=by
 rcases h.2 with ⟨h1,h2⟩|⟨g,cap,cur,h1,_,_,h2,_⟩
 ·omega
 ·simp only [Value.slice.injEq] at h1
  omega
theorem own_some {w:World} {base s n c:Nat} {e:TypeId} {A:Option Addr} {xs:List Value} (h:w.ownsRow base e s (.slice A n c) n xs) (h0:0 < n):∃g,A=some ⟨g,0,none⟩∧base≤g∧g < w.heap.size:=by
 rcases h.2 with ⟨h1,h2⟩|⟨g,cap,cur,h1,hb,hg,h2,_⟩
 ·omega
 ·simp only [Value.slice.injEq] at h1
  exact⟨g,h1.1,hb,(Array.getElem?_eq_some_iff.1 hg).1⟩
theorem szv_get' {v:List NodeL} {M:Nat} (h:SzV M v) {k:Nat} {x:NodeL} (hx:v[k]? = some x):x.attrs.length≤M:=(h.2 x (List.mem_of_getElem? hx)).2.2.2.1.1
theorem set_self_get {α:Type} {l:List α} {i:Nat} {x:α} (h:l[i]? = some x):l.set i x=l:=by
 apply List.ext_getElem?
 intro j
 by_cases hj:i=j
 ·subst hj
  rw [List.getElem?_set_self (List.getElem?_eq_some_iff.1 h).1,h]
 ·rw [List.getElem?_set_ne hj]
set_option maxHeartbeats 4000000 in
set_option maxRecDepth 10000 in
theorem twin_any (A:Option Addr) (c:Nat) (v:List NodeL) (w:World) (hr:RdV w w.heap.size A v) (hz:SzV 1000000000 v) :
  Calls Tryz.prog 71 #[.slice A v.length c] w (TwinPost v w):=by
 obtain⟨l0,hl0,hrd,hheld⟩:=rdv_rd hr
 have hlen:l0.length=v.length:=by rw [←hl0,List.length_map]
 have HH:=Lib.hid hheld
 have HM0:=Lib.hid hl0
 have HZ:=Lib.hid hz
 have hn:=hz.1
 rw [←hlen] at hrd hn
 have HC:=Lib.hid (clone_nodes A c l0 w hrd hn)
 rw [hlen] at HC hn
 clear hr hrd hheld hl0 hz
 generalize hN:v.length=N at *
 have HN:=Lib.hid hN
 clear hN
 have HL:=Lib.hid hlen
 clear hlen
 go_enter Tryz.func71,Tryz.ntmps71
 go_wp2_with fail
 refine HC.out.mono ?_
 rintro e w1 ⟨v1,rfl,hown1,hb1⟩
 obtain⟨A1,c1,rfl⟩:=own_form hown1
 have HO1:=Lib.hid hown1
 have X1:=Lib.hid hb1
 clear hown1 hb1
 go_wp2
 go_loopw [4,5,10] (fun _ _ s10 wr=>∃(k:Nat) (l:List NodeH),k≤N∧s10=.int .i64 k∧Hid (Below w.heap.size w wr)∧Hid (wr.ownsRow w.heap.size 69 6 (.slice A1 N c1) N (cellsN l))∧Hid (l.map (·.1)=v)∧
  Hid (∀(i:Nat) (x:NodeH),l[i]? = some x→(i < k→x.1.attrs.length≤x.2.2∧NewA w.heap.size (blk A1) wr x.2.1 x.1.attrs)∧(k≤i→x.1.attrs.length≤x.2.2∧RdA w w.heap.size x.2.1 x.1.attrs))) (fun _ _ s10 _=>N - (intOf s10).toNat)
 case atStart=>exact⟨0,l0,Nat.zero_le _,rfl,X1,HO1,HM0,Lib.hid (fun i x hi=>⟨fun h=>absurd h (by omega),fun _=>HH.out i x hi⟩)⟩
 case round=>
  obtain⟨k,l,hk,rfl,HB,HO,HM,HI⟩:=hrel
  by_cases hlt:k < N
  ·have hll:l.length=N:=by rw [←HN.out,←HM.out,List.length_map]
   obtain⟨x,hx⟩:∃x,l[k]? = some x:=⟨_,List.getElem?_eq_getElem (by omega)⟩
   obtain⟨g,rfl,hg,hg2⟩:=own_some HO.out (by omega)
   have hcell:=fun j (hj:j < 6)=>(HO.out.cellAt (k*6+j) (by omega)).trans (flat_get cN_len hx j hj)
   have d0:=hcell 0 (by decide)
   have d1:=hcell 1 (by decide)
   have d2:=hcell 2 (by decide)
   have d3:=hcell 3 (by decide)
   have d4:=hcell 4 (by decide)
   have d5:=hcell 5 (by decide)
   simp only [cN,Nat.add_zero,List.getElem?_cons_zero,List.getElem?_cons_succ] at d0 d1 d2 d3 d4 d5
   have hxv:v[k]? = some x.1:=by rw [←HM.out,List.getElem?_map,hx];rfl
   have hzx:=(szv_get' HZ.out hxv)
   obtain⟨hca,hra⟩:=(HI.out k x hx).2 (Nat.le_refl _)
   have HX:=Lib.hid hx
   obtain⟨n,An,cn⟩:=x
   dsimp only at d0 d1 d2 d3 d4 d5 hxv hzx hca hra
   obtain⟨W0,hW0⟩:∃W0,W0=wr.alloc (.cells #[.int .u8 n.kind,.string n.space,.string n.name,.slice An n.attrs.length cn,.string n.text,.int .i64 n.many] 69):=⟨_,rfl⟩
   have hs0:W0.heap.size=wr.heap.size+1:=by rw [hW0];simp
   have hsz:=HB.out.size
   have HX0:Hid (Below w.heap.size w W0):=by rw [hW0];exact HB.out.alloc hsz _
   have HXr:Hid (Below wr.heap.size wr W0):=by rw [hW0];exact(Below.refl _ _).alloc (Nat.le_refl _) _
   have hcall:=clone_attrs An cn n.attrs W0 (rda_rd ((hra.below HX0.out (Nat.le_refl _)).more HX0.out.size)) hzx
   have HCALL:=Lib.hid hcall
   have HWE:=hW0
   have hne:g≠wr.heap.size:=by omega
   clear hx hcell hxv hzx hca hra hcall hW0
   go_wp2_with fail
   rw [←HWE]
   refine HCALL.out.mono ?_
   rintro e w2 ⟨v2,rfl,hown2,hb2⟩
   obtain⟨A2,c2,rfl⟩:=own_form hown2
   have HCUR:Hid (w2.ownsRow w.heap.size 69 6 (.slice (some ⟨g,0,none⟩) N c1) N (cellsN l)):=own_keep (own_keep HO.out HXr.out) hb2
   have HX2:Hid (Below w.heap.size w w2):=HX0.out.trans (hb2.mono HX0.out.size)
   have HXr2:Hid (Below wr.heap.size wr w2):=HXr.out.trans (hb2.mono (by omega))
   have HO2:=Lib.hid hown2
   have fg:=HCUR.out.frozenAt (k*6+3)
   have hcell2:=fun j (hj:j < 6)=>(HCUR.out.cellAt (k*6+j) (by omega)).trans (flat_get cN_len HX.out j hj)
   have d3:=hcell2 3 (by decide)
   simp only [cN,List.getElem?_cons_zero,List.getElem?_cons_succ] at d3
   have hst:=HCUR.out.stored (k*6+3) (.slice A2 n.attrs.length c2)
   rw [show(cellsN l).set (k*6+3) (.slice A2 n.attrs.length c2)=cellsN (l.set k (n,A2,c2)) from flat_set cN_len HX.out (by decide) rfl] at hst
   have HST:=Lib.hid hst
   have hle2:=own_le hown2
   have HLE2:=Lib.hid hle2
   clear hown2 hb2 hcell2 hst hle2 HWE
   go_wp2
   go_roundw
   case rel=>
    refine⟨k+1,l.set k (n,A2,c2),by omega,by go_num,Lib.hid (HX2.out.setCell (p:=⟨g,_,none⟩) hg _),Lib.hid HST.out.1,Lib.hid ?_,Lib.hid fun i x hi=>?_⟩
    ·rw [List.map_set,HM.out]
     exact set_self_get (by rw [←HM.out,List.getElem?_map,HX.out];rfl)
    ·rcases Nat.lt_or_ge i k with h1|h1
     ·rw [List.getElem?_set_ne (by omega)] at hi
      refine⟨fun _=>?_,fun h=>absurd h (by omega)⟩
      obtain⟨q1,q2⟩:=(HI.out i x hi).1 h1
      exact⟨q1,(q2.ext HXr2.out).set _⟩
     ·rcases Nat.eq_or_lt_of_le h1 with rfl|h1
      ·rw [List.getElem?_set_self (by have:=(List.getElem?_eq_some_iff.1 HX.out).1;omega)] at hi
       simp only [Option.some.injEq] at hi
       subst hi
       refine⟨fun _=>⟨HLE2.out,?_⟩,fun h=>absurd h (by omega)⟩
       have h3:NewA W0.heap.size g w2 A2 n.attrs:=NewA.of_own HO2.out (by omega)
       have h4:NewA w.heap.size g w2 A2 n.attrs:=fun h0=>by
        obtain⟨b,off,e1,e2,e3⟩:=h3 h0
        exact⟨b,off,e1,by omega,e3⟩
       exact h4.set _
      ·rw [List.getElem?_set_ne (by omega)] at hi
       exact⟨fun h=>absurd h (by omega),fun _=>(HI.out i x hi).2 (by omega)⟩
   case measure=>simp [intOf];omega
  ·obtain rfl:k=N:=by omega
   have hll:l.length=k:=by rw [←HN.out,←HM.out,List.length_map]
   have HLE:=Lib.hid (own_le HO.out)
   go_wp2
   go_ret
   refine⟨A1,c1,by rw [HN.out];rfl,by rw [HN.out];exact HLE.out,⟨l,HM.out,by rw [HN.out];exact HO.out,fun i x hi=>(HI.out i x hi).1 (by have:=(List.getElem?_eq_some_iff.1 hi).1;omega)⟩,HB.out⟩
end Go.Proofs.YtnfokaecobddkaaGreatDoor
end
section
namespace Go.Proofs.YtnfokaecobddkaaGreatDoor
open Go.RowKit
set_option linter.unusedSimpArgs false
set_option linter.unusedVariables false
theorem heap_ext {w w':World} {k:Nat} {o:Obj} (h:w.heap[k]? = some o) (hb:Below w.heap.size w w'):w'.heap[k]? = some o:=(hb.block k (Array.getElem?_eq_some_iff.1 h).1).trans h
def NewO (base:Nat) (v:Value) (w:World) (A:Option Addr) (l:List AttrL):Prop:=
 0 < l.length→∃b off,A=some ⟨b,off,none⟩∧base≤b∧v.ownBlock≠some b∧b < w.heap.size∧∀i a,l[i]? = some a→AtAt w b (off+i*3) a
theorem NewO.ext {base:Nat} {v:Value} {w w':World} {A:Option Addr} {l:List AttrL} (h:NewO base v w A l) (hb:Below w.heap.size w w'):NewO base v w' A l:=fun h0=>by
 obtain⟨b,off,h1,h2,h3,h4,h5⟩:=h h0
 exact⟨b,off,h1,h2,h3,Nat.lt_of_lt_of_le h4 hb.size,fun i a hi=>(h5 i a hi).keep h4 (fun p hp=>hb.cell hp)⟩
theorem NewO.app {base:Nat} {v v':Value} {w w':World} {A:Option Addr} {l:List AttrL} (h:NewO base v w A l) (hg:w.grownBy w' v.ownBlock) (hr:v'.ownBlock=v.ownBlock∨v'.ownBlock=some w.heap.size):NewO base v' w' A l:=fun h0=>by
 obtain⟨b,off,h1,h2,h3,h4,h5⟩:=h h0
 have hk:∀q:Nat,w'.cell? ⟨b,q,none⟩=w.cell? ⟨b,q,none⟩:=fun q=>World.cell?_of_block (hg.block b h4 (fun e=>h3 e.symm))
 refine⟨b,off,h1,h2,?_,Nat.lt_of_lt_of_le h4 hg.size,fun i a hi=>?_⟩
 ·rcases hr with e|e <;> rw [e]
  ·exact h3
  ·intro e
   cases e
   omega
 ·obtain⟨e0,e1,e2⟩:=h5 i a hi
  exact⟨(hk _).trans e0,(hk _).trans e1,(hk _).trans e2⟩
theorem NewO.of_own {base base':Nat} {v:Value} {w:World} {A:Option Addr} {c:Nat} {l:List AttrL} (h:w.ownsRow base' 80 3 (.slice A l.length c) l.length (cellsA l)) (hbb:base≤base') (hv:∀g,v.ownBlock=some g→g < base'):NewO base v w A l:=fun h0=>by
 obtain⟨b,off,rfl,hb,hc⟩:=rd_rda (Rd.of_own h) h0
 have hlt:=h.lt b rfl
 exact⟨b,off,rfl,by have:=hlt.1;omega,fun e=>by have:=hv b e;have:=hlt.1;omega,hlt.2,hc⟩
theorem own_set {w:World} {base s n:Nat} {e:TypeId} {v:Value} {xs:List Value} {g o:Nat} (h:w.ownsRow base e s v n xs) (hg:v.ownBlock≠some g) (u:Value):(w.setCell ⟨g,o,none⟩ u).ownsRow base e s v n xs:=
 h.kept (row:=some g) ⟨rfl,rfl,rfl,by simp [World.setCell],fun k _ hk=>heap_setCell_other w _ k _ (fun e=>hk (by rw [e]))⟩ (by cases h':v.ownBlock with|none=>exact .inl rfl|some q=>exact .inr (by rw [←h'];exact hg))
end Go.Proofs.YtnfokaecobddkaaGreatDoor
end
