/- Part 3 of a proof laid in parts, one behind the other; no condition of its own. -/
import Derived.Test.YtnmnpnofdgdigaaGreatDoorProg
import Derived.Test.YtnmnpnofdgdigaaGreatDoorZ02
import Derived.WalkKit
import Derived.WalkSpells
import Derived.WalkLawsBesides
import Derived.Lib.Hide
import Derived.Deep.QuietTactic
import Derived.BigQuiet
import Derived.Maps.AppendAt
import Derived.Deep.AppendLies
import Derived.StillTail
import Derived.Test.YtnmnpnofdgdigaaGreatDoorZ01
import Derived.Outline
set_option linter.all false
section
namespace Go.Proofs.YtnmnpnofdgdigaaGreatDoor
open Go.RowKit
theorem add_mk (b off j:Nat):(⟨b,off,none⟩:Addr).add j=⟨b,off+j,none⟩:=by unfold Addr.add;split <;> simp_all
theorem block_of_add (a:Addr) (n:Nat):(a.add n).block=a.block:=by unfold Addr.add;split <;> rfl
def Rd (w:World) (B s:Nat) (A:Option Addr) (n:Nat) (xs:List Value):Prop:=
 xs.length=n*s∧(0 < n→∃b off,A=some ⟨b,off,none⟩∧b < B∧∀j u,xs[j]? = some u→w.cell? ⟨b,off+j,none⟩=some u)
section
variable {w w':World} {B B' s n:Nat} {A:Option Addr} {xs:List Value}
theorem Rd.keep (h:Rd w B s A n xs) (hk:∀p:Addr,p.block < B→w'.cell? p=w.cell? p):Rd w' B s A n xs:=
 ⟨h.1,fun hn=>by
  obtain⟨b,off,e,hb,hc⟩:=h.2 hn
  exact⟨b,off,e,hb,fun j u hu=>(hk _ hb).trans (hc j u hu)⟩⟩
theorem Rd.more (h:Rd w B s A n xs) (hB:B≤B'):Rd w B' s A n xs:=
 ⟨h.1,fun hn=>by
  obtain⟨b,off,e,hb,hc⟩:=h.2 hn
  exact⟨b,off,e,by omega,hc⟩⟩
theorem Rd.below {C:Nat} (h:Rd w B s A n xs) (hb:Below C w w') (hC:B≤C):Rd w' B s A n xs:=h.keep fun _ hp=>hb.cell (by omega)
theorem Rd.drew (h:Rd w B s A n xs):Rd w.drew B s A n xs:=h
theorem Rd.drewN (h:Rd w B s A n xs) (k:Nat):Rd (w.drewN k) B s A n xs:=h
theorem Rd.alloc (h:Rd w B s A n xs) (hB:B≤w.heap.size) (o:Obj):Rd (w.alloc o) B s A n xs:=h.keep fun p hp=>World.cell?_alloc_lt w o p (by omega)
theorem Rd.setCell (h:Rd w B s A n xs) {p:Addr} (hB:B≤p.block) (u:Value):Rd (w.setCell p u) B s A n xs:=
 h.keep fun q hq=>World.cell?_setCell_other w p q u (fun e=>by subst e;omega)
theorem Rd.grown (h:Rd w B s A n xs) {row:Option Nat} (hg:w.grownBy w' row) (hB:B≤w.heap.size) (hr:∀g,row=some g→B≤g):Rd w' B s A n xs:=
 h.keep fun p hp=>World.cell?_of_block (hg.block p.block (by omega) (fun e=>by have:=hr _ e.symm;omega))
theorem Rd.cut {k cap:Nat} (h:Rd w B s A n xs) (hk:k≤n) (hc:n≤cap):Rd w B s (if cap=k then A else A.map (·.add (k*s))) (n - k) (xs.drop (k*s)):=by
 refine⟨by rw [List.length_drop,h.1,Nat.sub_mul],fun hn=>?_⟩
 obtain⟨b,off,rfl,hb,hcell⟩:=h.2 (by omega)
 rw [if_neg (by omega)]
 refine⟨b,off+k*s,by simp [add_mk],hb,fun j u hu=>?_⟩
 rw [Nat.add_assoc]
 exact hcell _ u (by rw [←hu,List.getElem?_drop])
theorem Rd.of_own {base:Nat} {e:TypeId} {c:Nat} (h:w.ownsRow base e s (.slice A n c) n xs):Rd w w.heap.size s A n xs:=by
 refine⟨h.1,fun hn=>?_⟩
 rcases h.2 with ⟨_,h0⟩|⟨g,cap,cur,hv,_,hh,_⟩
 ·omega
 ·injection hv with hv _ _
  subst hv
  refine⟨_,_,rfl,(Array.getElem?_eq_some_iff.1 hh).1,fun j u hu=>?_⟩
  have:=h.cells (g:=g) rfl j u hu
  rwa [add_mk] at this
end
theorem own_form {w:World} {base:Nat} {e:TypeId} {s:Nat} {v:Value} {n:Nat} {xs:List Value} (h:w.ownsRow base e s v n xs):∃A c,v=.slice A n c:=by
 rcases h.2 with ⟨rfl,rfl⟩|⟨g,cap,cur,rfl,_⟩
 ·exact⟨_,_,rfl⟩
 ·exact⟨_,_,rfl⟩
theorem Rd.new (w:World) (t:TypeId) (cs:Array Value) {s n:Nat} (hn:cs.size=n*s):Rd (w.alloc (.cells cs t)) (w.heap.size+1) s (some ⟨w.heap.size,0,none⟩) n cs.toList:=by
 refine⟨by simpa using hn,fun _=>⟨_,_,rfl,by simp,fun j u hj=>?_⟩⟩
 have h:=cell_of_row (w.alloc (.cells cs t)) w.heap.size j cs t (0,0) (heap_alloc_new w _)
 rw [Nat.zero_add,h]
 simpa using hj
section
variable {P:Program} (w:World)
theorem app_nil (base:Nat) (t ty e:TypeId) (i:TypeInfo) (size:Nat) (ht:P.underlying t=some (.slice e)) (hi:P.info? e=some i)
  (v:Value) (n:Nat) (xs:List Value) (hown:w.ownsRow base e size v n xs) (c:Nat):(Builtin.append_ #[t,t] ty #[v,.slice none 0 c]).run P w=.ok v w:=by
 rcases hown.2 with ⟨rfl,rfl⟩|⟨g,cap,cur,rfl,_,_,hnc,_⟩
 ·simp [Builtin.append_,run_underlying ht,sizeOf,typeInfo,hi,Builtin.lenOf,Builtin.firstCells]
 ·simp [Builtin.append_,run_underlying ht,sizeOf,typeInfo,hi,Builtin.lenOf,Builtin.firstCells,hnc,storeCells]
theorem app_run (base:Nat) (t ty e:TypeId) (i:TypeInfo) (z:Value) (size bytes:Nat) (ht:P.underlying t=some (.slice e)) (hi:P.info? e=some i) (hz:i.zero=some z)
  (hsize:i.size=size) (hby:i.bytes=bytes) (hzs:z.cells.size=size) (hsz:0 < size)
  (v:Value) (n:Nat) (xs:List Value) (hown:w.ownsRow base e size v n xs)
  (B:Nat) (A:Option Addr) (m c:Nat) (news:List Value) (hr:Rd w B size A m news) (h1:∀u∈news,u.oneCell'=true)
  (h63:n+m≤maxLen) (hbytes:(n+m)*bytes≤140737488355328) (hbase:base≤w.heap.size) :
  ∃v' w',(Builtin.append_ #[t,t] ty #[v,.slice A m c]).run P w=.ok v' w'∧w'.ownsRow base e size v' (n+m) (xs++news)∧w.grownBy w' v.ownBlock∧
   (v'.ownBlock=v.ownBlock∨v'.ownBlock=some w.heap.size):=by
 by_cases hA:∃ad,A=some ad
 ·obtain⟨ad,rfl⟩:=hA
  have hcells:∀j u,news[j]? = some u→w.cell? (ad.add j)=some u:=by
   intro j u hu
   rcases Nat.eq_zero_or_pos m with h0|h0
   ·have hn:news=[]:=List.eq_nil_of_length_eq_zero (by have:=hr.1;subst h0;simpa using this)
    subst hn
    simp at hu
   ·obtain⟨b,off,h,_,hc⟩:=hr.2 h0
    injection h with h
    subst h
    rw [add_mk]
    exact hc j u hu
  obtain⟨v',w',hrun,h2,h3,_,h5⟩:=run_append_own_at (P:=P) w base t ty e i z size bytes ht hi hz hsize hby hzs hsz v n xs hown ad m c news hr.1 hcells h1 h63 hbytes hbase
  exact⟨v',w',hrun,h2,h3,h5⟩
 ·have hA':A=none:=by cases A with
   | none=>rfl
   | some a=>exact absurd ⟨a,rfl⟩ hA
  subst hA'
  have hm:m=0:=by
   rcases Nat.eq_zero_or_pos m with h0|h0
   ·exact h0
   ·obtain⟨_,_,h,_⟩:=hr.2 h0
    cases h
  subst hm
  have hn:news=[]:=List.eq_nil_of_length_eq_zero (by simpa using hr.1)
  subst hn
  exact⟨v,w,app_nil w base t ty e i size ht hi v n xs hown c,by simpa using hown,World.grownBy.refl w _,.inl rfl⟩
theorem app_wp {o:Oper} {a:Act} {K:Act→World→Prop} {Q:Exit→Act→World→Prop} (s x:Operand) (t:TypeId)
  (ho:o.op=.call { callee:=.builtin .append,args:=#[s,x],argTypes:=#[t,t]})
  (base:Nat) (e:TypeId) (i:TypeInfo) (z:Value) (size bytes:Nat) (ht:P.underlying t=some (.slice e)) (hi:P.info? e=some i) (hz:i.zero=some z)
  (hsize:i.size=size) (hby:i.bytes=bytes) (hzs:z.cells.size=size) (hsz:0 < size)
  (v:Value) (n:Nat) (xs:List Value) (hs:a.eval s=v) (hown:w.ownsRow base e size v n xs)
  (B:Nat) (A:Option Addr) (m c:Nat) (news:List Value) (hx:a.eval x=.slice A m c) (hr:Rd w B size A m news) (h1:∀u∈news,u.oneCell'=true)
  (h63:n+m≤maxLen) (hbytes:(n+m)*bytes≤140737488355328) (hbase:base≤w.heap.size)
  (h:∀v' w',w'.ownsRow base e size v' (n+m) (xs++news)→w.grownBy w' v.ownBlock→(v'.ownBlock=v.ownBlock∨v'.ownBlock=some w.heap.size)→K (a.put o.dst v') w'):o.wp P a w K Q:=by
 obtain⟨v',w',hrun,h2,h3,h4⟩:=app_run (P:=P) w base t o.type e i z size bytes ht hi hz hsize hby hzs hsz v n xs hown B A m c news hr h1 h63 hbytes hbase
 unfold Oper.wp execOp
 simp only [ho,resolve,invoke,builtin,Sem.run_bind,Sem.run_pure,Result.andThen_ok,List.map_toArray,List.map_cons,List.map_nil,hs,hx,hrun]
 exact h v' w' h2 h3 h4
theorem app_wpList {ops:Array Oper} {rest:List Oper} {o:Oper} {a:Act} {Q:Exit→Act→World→Prop} (hgd:o.guard=none) (s x:Operand) (t:TypeId)
  (ho:o.op=.call { callee:=.builtin .append,args:=#[s,x],argTypes:=#[t,t]})
  (base:Nat) (e:TypeId) (i:TypeInfo) (z:Value) (size bytes:Nat) (ht:P.underlying t=some (.slice e)) (hi:P.info? e=some i) (hz:i.zero=some z)
  (hsize:i.size=size) (hby:i.bytes=bytes) (hzs:z.cells.size=size) (hsz:0 < size)
  (v:Value) (n:Nat) (xs:List Value) (hs:a.eval s=v) (hown:w.ownsRow base e size v n xs)
  (B:Nat) (A:Option Addr) (m c:Nat) (news:List Value) (hx:a.eval x=.slice A m c) (hr:Rd w B size A m news) (h1:∀u∈news,u.oneCell'=true)
  (h63:n+m≤maxLen) (hbytes:(n+m)*bytes≤140737488355328) (hbase:base≤w.heap.size)
  (h:∀v' w',w'.ownsRow base e size v' (n+m) (xs++news)→w.grownBy w' v.ownBlock→(v'.ownBlock=v.ownBlock∨v'.ownBlock=some w.heap.size)→wpList P ops Q rest (a.put o.dst v') w'):wpList P ops Q (o :: rest) a w:=
 wpList_plain hgd fun _ hK=>app_wp w s x t ho base e i z size bytes ht hi hz hsize hby hzs hsz v n xs hs hown B A m c news hx hr h1 h63 hbytes hbase fun v' w' h2 h3 h4=>hK _ _ (h v' w' h2 h3 h4)
end
def ints (k:IntKind) (l:List Int):List Value:=l.map (Value.int k)
theorem ints_one {k:IntKind} {l:List Int}:∀u∈ints k l,u.oneCell'=true:=by
 intro u hu
 simp only [ints,List.mem_map] at hu
 obtain⟨x,_,rfl⟩:=hu
 rfl
theorem rd_int1 (w:World) (t:TypeId) (k:IntKind) (x:Int):Rd (w.alloc (.cells #[.int k x] t)) (w.heap.size+1) 1 (some ⟨w.heap.size,0,none⟩) 1 (ints k [x]):=Rd.new w t #[.int k x] rfl
theorem ints_append {k:IntKind} {l l':List Int}:ints k (l++l')=ints k l++ints k l':=by simp [ints]
theorem info_u8:(Tryz.prog.info? 5).map (fun i=>(i.zero,i.size,i.bytes))=some (some (.int .u8 0),1,1):=by kernel_rfl
theorem app_u8s {w:World} {ops:Array Oper} {rest:List Oper} {o:Oper} {a:Act} {Q:Exit→Act→World→Prop} (hgd:o.guard=none) (s x:Operand)
  (ho:o.op=.call { callee:=.builtin .append,args:=#[s,x],argTypes:=#[179,179]})
  (base:Nat) (v:Value) (n:Nat) (xs:List Int) (hs:a.eval s=v) (hown:w.ownsRow base 5 1 v n (ints .u8 xs))
  (B:Nat) (A:Option Addr) (m c:Nat) (news:List Int) (hx:a.eval x=.slice A m c) (hr:Rd w B 1 A m (ints .u8 news)) (hb:n+m≤1000000000) (hbase:base≤w.heap.size)
  (h:∀v' w',w'.ownsRow base 5 1 v' (n+m) (ints .u8 (xs++news))→w.grownBy w' v.ownBlock→(v'.ownBlock=v.ownBlock∨v'.ownBlock=some w.heap.size)→wpList Tryz.prog ops Q rest (a.put o.dst v') w'):wpList Tryz.prog ops Q (o :: rest) a w:=by
 obtain⟨i0,hi,hz0,hz1,hz2⟩:=info_parts info_u8
 refine app_wpList w hgd s x _ ho base _ i0 (.int .u8 0) 1 1 Tryz.underlying179 hi hz0 hz1 hz2 rfl (by decide) v n _ hs hown B A m c _ hx hr ints_one (by unfold maxLen;omega) (by omega) hbase ?_
 rw [←ints_append];exact h
theorem below_drewN {B:Nat} {a w:World} (h:Below B a w) (n:Nat):Below B a (w.drewN n):=⟨h.os,h.tape,h.output,h.size,h.block⟩
def SlT (k:IntKind) (xs:List Int):Ty:=.inr fun v w=>∃A c,v=.slice A xs.length c∧Rd w w.heap.size 1 A xs.length (ints k xs)
theorem stable_sl (k:IntKind) (xs:List Int):Stable (SlT k xs):=by
 rintro v w w' ⟨A,c,rfl,h⟩ hx
 exact⟨A,c,rfl,(h.below hx (Nat.le_refl _)).more hx.size⟩
theorem conv_rd {w:World} {B n c:Nat} {A:Option Addr} {xs:List Int} (h:Rd w B 1 A n (ints .u8 xs)):(convert 179 9 (.slice A n c)).run Tryz.prog w=.ok (.string (strOfNums xs)) w:=by
 have hl:xs.length=n:=by have:=h.1;simpa [ints] using this
 rcases Nat.eq_zero_or_pos n with h0|h0
 ·subst h0
  have hx:xs=[]:=List.eq_nil_of_length_eq_zero hl
  subst hx
  cases A with
  | none=>exact run_convert_bytes_nil w _ _ Tryz.underlying179 Tryz.underlying5 _ _ _ Tryz.underlying9
  | some a=>
   rw [run_convert_bytes_string w _ _ _ _ _ c Tryz.underlying179 Tryz.underlying5 Tryz.underlying9]
   obtain⟨b,off,spot⟩:=a
   rw [run_bytesToString w _ 0 c [] (by simp [loadCells,loadCellsFrom])]
   rfl
 ·obtain⟨b,off,rfl,_,hc⟩:=h.2 h0
  refine run_convert_bytes_arg w _ _ Tryz.underlying179 Tryz.underlying5 b off n c xs hl (fun i hi=>?_) _ Tryz.underlying9
  have hi':i < xs.length:=by omega
  have:=hc i (.int .u8 xs[i]) (by simp [ints,hi'])
  rw [this]
  simp [hi']
theorem tw_conv {ops:Array Oper} {w0:World} {Fin:List Ty→Prop} {rest:List Oper} {E:Env} {Ts:List Ty} {o:Oper} {s:Tmp} (xs:List Int) (hop:o.op=.convert 179 9 (.tmp s)) (hE:E s=SlT .u8 xs) (hw:Wd ops o E true)
  (hr:wpT Tryz.prog ops w0 Fin rest (E.put o.dst (.inl (.string (strOfNums xs)))) (.inl (.string (strOfNums xs)) :: Ts)):wpT Tryz.prog ops w0 Fin (o :: rest) E Ts:=
 tw_val (.inl (.string (strOfNums xs))) (stable_is _) hw (fun a w _ hs=>by
  have hm:s∈o.looksAt ops:=looks_of (x:=.tmp s) (by rw [hop];simp [Op.operands]) rfl
  have hv:=hs s hm
  rw [hE] at hv
  obtain⟨A,c,e,hx⟩:=hv
  refine⟨_,w,?_,Ext.refl _,rfl⟩
  unfold execOp
  simp only [hop,Act.eval,e,conv_rd hx,Sem.run_bind,Sem.run_pure,Result.andThen_ok]) hr
theorem ret_int {k:IntKind} {a b:Int} (h:a=b):Ending.returned (.int k a)=.returned (.int k b):=by rw [h]
theorem ret_bool {a b:Bool} (h:a=b):Ending.returned (.bool a)=.returned (.bool b):=by rw [h]
end Go.Proofs.YtnmnpnofdgdigaaGreatDoor
end
section
namespace Go.Proofs.YtnmnpnofdgdigaaGreatDoor
open Go.RowKit
section
variable {P:Program} {ops:Array Oper} {w0:World}
def leftH (n:Nat) (listed:Array Bool):Nat:=((List.range n).filter fun i=>!listed.getD i false).length
theorem filter_one {p q:Nat→Bool} {i:Nat} (hp:p i=true) (hq:q i=false) (he:∀j,j≠i→q j=p j):∀n,i < n→((List.range n).filter p).length=((List.range n).filter q).length+1:=by
 intro n
 induction n with
 | zero=>intro h;omega
 | succ n ih=>
  intro h
  rw [List.range_succ,List.filter_append,List.filter_append,List.length_append,List.length_append]
  by_cases hn:i=n
  ·subst hn
   have e:(List.range i).filter p=(List.range i).filter q:=by
    apply List.filter_congr
    intro x hx
    exact(he x (by have:=List.mem_range.1 hx;omega)).symm
   rw [e]
   simp [hp,hq]
  ·rw [ih (by omega)]
   have:q n=p n:=he n (by omega)
   simp only [List.filter_cons,List.filter_nil,this]
   omega
theorem leftH_step {n i:Nat} {listed:Array Bool} (hi:i < n) (hs:i < listed.size) (hun:listed.getD i false=false):leftH n listed=leftH n (listed.setIfInBounds i true)+1:=by
 unfold leftH
 refine filter_one (i:=i) (by rw [hun];rfl) (by simp [hs]) (fun j hj=>?_) n hi
 rw [getD_set_ne false (fun e=>hj e.symm)]
theorem leftH_zero {n:Nat} {listed:Array Bool} (h:leftH n listed=0):∀i,i < n→listed.getD i false=true:=by
 intro i hi
 unfold leftH at h
 have:=List.eq_nil_of_length_eq_zero h
 rw [List.filter_eq_nil_iff] at this
 have:=this i (List.mem_range.2 hi)
 simpa using this
theorem InvT.fin_head {Us:List Ty} {a0:Act} {listed:Array Bool} {a:Act} {w:World} {n:Nat} (hB:tyB ops=true) (hlen:Us.length=ops.size) (hn:n≤ops.size) (inv:InvT ops (fun s=>.inl (a0.tmps.getD s undef)) Us w0 a0 listed a w)
  (hall:∀i,i < n→listed.getD i false=true) (htl:∀t,n≤t→t < ops.size→listed.getD t true=false) {Q:Act→World→Prop} (h:FinT w0 Q (ops.toList.take n) (Us.take n) a0 (fun _=>True)):Q a w:=by
 have hlt_of:∀j,listed.getD j false=true→j < n:=by
  intro j hj
  rcases Nat.lt_or_ge j n with h'|h'
  ·exact h'
  ·rcases Nat.lt_or_ge j ops.size with h2|h2
   ·have:=getD_false_of_true (htl j h' h2)
    rw [this] at hj;cases hj
   ·have:listed.size≤j:=by rw [inv.lsize];exact h2
    simp [Array.getElem?_eq_none this] at hj
 have hty:∀(k:Nat) o T d,(ops.toList.take n)[k]? = some o→(Us.take n)[k]? = some T→o.dst=some d→Ty.of T (a.tmps.getD d undef) w:=by
  intro k o T d hk hT hd
  have hkn:k < n:=by
   have:=(List.getElem?_eq_some_iff.1 hk).1
   simp at this;omega
  have hk':ops[k]? = some o:=by rw [List.getElem?_take,if_pos hkn] at hk;simpa using hk
  have hT':Us[k]? = some T:=by rw [List.getElem?_take,if_pos hkn] at hT;exact hT
  have hlt:k < ops.size:=(Array.getElem?_eq_some_iff.1 hk').1
  have:=inv.typed d
  unfold typeAt at this
  cases hq:writer ops listed d with
  | none=>exact absurd hd (writer_none hq hk' (hall k hkn))
  | some j=>
   obtain⟨_,p,hp,hpd⟩:=writer_some hq
   rcases (tyB_pair hB hk' hp hpd).1 with h|h
   ·subst h
    rw [hq] at this
    simpa only [List.getD_eq_getElem?_getD,hT',Option.getD_some] using this
   ·exact absurd hd h
 have hfin:=FinT.out (a:=a) inv.ext (ops.toList.take n) (Us.take n) a0 _ h (by simp [hlen]) trivial hty (fun _ _ _ _ _=>trivial)
 have heq:putAll a (ops.toList.take n) a0=a:=by
  have hsz:=putAll_size a (ops.toList.take n) a0
  have h1:(putAll a (ops.toList.take n) a0).tmps=a.tmps:=by
   apply Array.ext
   ·rw [hsz.1,inv.size]
   ·intro s hs1 hs2
    have hs0:s < a0.tmps.size:=by rw [←hsz.1];exact hs1
    have hg:=putAll_get a s (ops.toList.take n) a0 hs0 inv.size.symm
    have hu:a.tmps.getD s undef=a.tmps[s]:=by simp [hs2]
    have hv:(putAll a (ops.toList.take n) a0).tmps.getD s undef=(putAll a (ops.toList.take n) a0).tmps[s]:=by simp [hs1]
    refine(hv.symm.trans (hg.trans ?_)).trans hu
    by_cases hno:∃o∈ops.toList.take n,o.dst=some s
    ·rw [if_pos hno]
    ·rw [if_neg hno]
     have this:=inv.typed s
     unfold typeAt at this
     cases hq:writer ops listed s with
     | none=>rw [hq] at this;exact Eq.symm this
     | some j=>
      obtain⟨hjl,p,hp,hpd⟩:=writer_some hq
      have hjn:=hlt_of j hjl
      refine absurd ⟨p,?_,hpd⟩ hno
      have:(ops.toList.take n)[j]? = some p:=by rw [List.getElem?_take,if_pos hjn];simpa using hp
      exact List.mem_of_getElem? this
  cases hpa:putAll a (ops.toList.take n) a0 with
  | mk t d=>
   rw [hpa] at h1 hsz
   have h2:=hsz.2.trans inv.defers.symm
   cases a
   simp_all
 rwa [heq] at hfin
theorem wpAny_typed_tail {Us:List Ty} {a0:Act} {n:Nat} (hB:tyB ops=true) (hlen:Us.length=ops.size) (hst:∀(k:Nat) (T:Ty),Us[k]? = some T→Stable T)
  (hdst:∀(k:Nat) o d,ops[k]? = some o→o.dst=some d→d < a0.tmps.size) (hn:n < ops.size) (hs:Region.sinkB .any ops n=true) (hc:Region.chainB .any ops n=true)
  (hseq:Region.seqB .any ops (ops.size - n) n (Array.replicate n true++Array.replicate (ops.size - n) false)=true)
  (hop:∀(k:Nat) o,k < n→ops[k]? = some o→∃T,Us[k]? = some T∧OpT P ops w0 o (lexEnv ops.toList Us (fun s=>.inl (a0.tmps.getD s undef)) k) T)
  {Q:Exit→Act→World→Prop} (h:FinT w0 (fun a w=>wpList P ops Q (ops.toList.drop n) a w) (ops.toList.take n) (Us.take n) a0 (fun _=>True)) :
  ∀(f:Nat) (listed:Array Bool) (a:Act) (w:World),leftH n listed=f→InvT ops (fun s=>.inl (a0.tmps.getD s undef)) Us w0 a0 listed a w→(∀t,n≤t→t < ops.size→listed.getD t true=false)→
   wpAny P .any ops Q (f+(ops.size - n)) listed a w
 | 0,listed,a,w,hl,inv,htl=>by
  have hall:=leftH_zero hl
  have hfin:=inv.fin_head hB hlen (by omega) hall htl h
  have hle:listed=Array.replicate n true++Array.replicate (ops.size - n) false:=by
   apply Array.ext
   ·simp [inv.lsize];omega
   ·intro i h1 h2
    rw [inv.lsize] at h1
    rcases Nat.lt_or_ge i n with hi|hi
    ·have:=hall i hi
     rw [Array.getElem_append_left (by simpa using hi)]
     simp [inv.lsize,h1] at this
     simpa using this
    ·have:=htl i hi h1
     rw [Array.getElem_append_right (by simpa using hi)]
     simp [inv.lsize,h1] at this
     simpa using this
  rw [Nat.zero_add]
  have hdl:(ops.toList.drop n).length=ops.size - n:=by simp
  have:=wpAny_of_seq (md:=.any) (Q':=Q) (ops.toList.drop n) n listed a w (fun j=>by simp [List.getElem?_drop]) (by rw [hdl,hle];exact hseq) hfin
  rwa [hdl] at this
 | f+1,listed,a,w,hl,inv,htl=>by
  have hinv:HeadInv .any ops n listed:=⟨inv.lsize,inv.closed,htl⟩
  have hex:∃i,i < n∧listed.getD i false=false:=by
   by_cases hx:∃i,i < n∧listed.getD i false=false
   ·exact hx
   ·have:leftH n listed=0:=by
     unfold leftH
     have:(List.range n).filter (fun i=>!listed.getD i false)=[]:=by
      rw [List.filter_eq_nil_iff]
      intro i hi
      have hi':=List.mem_range.1 hi
      cases hq:listed.getD i false with
      | true=>simp
      | false=>exact absurd ⟨i,hi',hq⟩ hx
     rw [this];rfl
    omega
  obtain⟨i0,hi0,hun0⟩:=hex
  have hun1:listed.getD i0 true=false:=getD_in (by rw [inv.lsize];omega) hun0
  rw [show f+1+(ops.size - n)=(f+(ops.size - n))+1 by omega]
  refine⟨fun hr=>?_,fun i hi=>?_⟩
  ·have:=all_of_none_ready hB inv hr i0 (by omega)
   rw [hun0] at this;cases this
  ·obtain⟨hun,o,ho,_⟩:=mem_ready.1 hi
   have hin:i < n:=by
    rcases Nat.lt_or_ge i n with h'|h'
    ·exact h'
    ·exact absurd hi (tail_waits hs hc hn hinv _ i0 rfl hi0 hun1 i h')
   obtain⟨T,hT,hopT⟩:=hop i o hin ho
   refine inv.step hB hlen hst (fun s=>stable_is _) hdst ho hi hT hopT (fun a' w' inv'=>?_)
   refine wpAny_typed_tail hB hlen hst hdst hn hs hc hseq hop h f _ a' w' ?_ inv' ?_
   ·have:=leftH_step hin (by rw [inv.lsize];omega) (getD_false_of_true hun)
    omega
   ·intro t ht htl'
    rw [getD_set_ne true (by omega)]
    exact htl t ht htl'
def tailB (ops:Array Oper) (n:Nat):Bool:=decide (n < ops.size) && Region.sinkB .any ops n && Region.chainB .any ops n && Region.seqB .any ops (ops.size - n) n (Array.replicate n true++Array.replicate (ops.size - n) false)
theorem lexEnv_pad {l:List Oper} {Us Vs:List Ty} {E:Env} {n k:Nat} (hk:k≤n) (hu:Us.length=n):lexEnv l (Us++Vs) E k=lexEnv (l.take n) Us E k:=by
 unfold lexEnv
 rw [List.take_take,Nat.min_eq_left hk,List.take_append_of_le_length (by omega)]
theorem wp_region_typed_tail {id:Nat} {Q:Exit→Act→World→Prop} {a:Act} {w:World} (n:Nat) (hm:P.follows .mixedOrders=true) (hB:tyB ops=true) (hD:dstB ops a.tmps.size=true) (hT:tailB ops n=true)
  (h:wpT P ops w.drew (fun Us=>FinT w.drew (fun a w=>wpList P ops Q (ops.toList.drop n) a w) (ops.toList.take n) Us a (fun _=>True)) (ops.toList.take n) (fun s=>.inl (a.tmps.getD s undef)) []):(Code.region id ops true).wp P Q a w:=by
 simp only [tailB,Bool.and_eq_true,decide_eq_true_eq] at hT
 obtain⟨⟨⟨hn,hs⟩,hc⟩,hseq⟩:=hT
 obtain⟨Us,hlen,hfin,hk⟩:=wpT_types _ _ _ h
 have hlen':Us.length=n:=by simpa [Nat.min_eq_left (Nat.le_of_lt hn)] using hlen
 let Vs:List Ty:=List.replicate (ops.size - n) (.inl undef)
 have hl2:(Us++Vs).length=ops.size:=by simp [Vs,hlen'];omega
 have htake:(Us++Vs).take n=Us:=by rw [←hlen',List.take_left'];rfl
 refine wp_region_any hm ?_
 have key:=wpAny_typed_tail (P:=P) (w0:=w.drew) (a0:=a) (Us:=Us++Vs) (n:=n) (Q:=Q) hB hl2 ?_ (dstB_spec hD) hn hs hc hseq ?_ (by rw [htake];simpa using hfin) n (Array.replicate ops.size false) a w.drew ?_ ?_ ?_
 ·rw [show n+(ops.size - n)=ops.size by omega] at key
  exact key
 ·intro k T hT
  rcases Nat.lt_or_ge k n with hkn|hkn
  ·rw [List.getElem?_append_left (by omega)] at hT
   have hlt:k < (ops.toList.take n).length:=by simp;omega
   obtain⟨T',h1,h2,_⟩:=hk k _ (List.getElem?_eq_getElem hlt)
   rw [hT] at h1
   injection h1 with h1
   subst h1
   exact h2
  ·rw [List.getElem?_append_right (by omega)] at hT
   have:T=.inl undef:=by
    have:=List.mem_of_getElem? hT
    exact List.eq_of_mem_replicate this
   subst this
   exact stable_is _
 ·intro k o hkn ho
  obtain⟨T,h1,_,h3⟩:=hk k o (by rw [List.getElem?_take,if_pos hkn];simpa using ho)
  refine⟨T,by rw [List.getElem?_append_left (by omega)];exact h1,?_⟩
  rw [lexEnv_pad (Nat.le_of_lt hkn) hlen']
  exact h3
 ·unfold leftH
  have:(List.range n).filter (fun i=>!(Array.replicate ops.size false).getD i false)=List.range n:=by
   rw [List.filter_eq_self]
   intro i _
   rw [getD_replicate_false];rfl
  rw [this,List.length_range]
 ·refine⟨Ext.refl _,rfl,rfl,by simp,?_,?_⟩
  ·intro j oj _ hl
   rw [getD_replicate_false] at hl;cases hl
  ·intro s
   have hw:writer ops (Array.replicate ops.size false) s=none:=by
    unfold writer
    rw [List.find?_eq_none]
    intro i hi
    simp [List.mem_range.1 hi]
   unfold typeAt
   rw [hw]
   rfl
 ·intro t _ ht
  exact getD_in (by simpa using ht) (getD_replicate_false _ _)
end
end Go.Proofs.YtnmnpnofdgdigaaGreatDoor
end
section
namespace Go.Proofs.YtnmnpnofdgdigaaGreatDoor
open Go.RowKit
theorem own_keep {w w':World} {base:Nat} {e:TypeId} {s:Nat} {v:Value} {n:Nat} {xs:List Value} (h:w.ownsRow base e s v n xs) (hb:Below w.heap.size w w'):w'.ownsRow base e s v n xs:=
 h.kept (row:=none) ⟨hb.os,hb.tape,hb.output,hb.size,fun k hk _=>hb.block k hk⟩ (by cases h':v.ownBlock with|none=>exact .inl rfl|some g=>exact .inr (by simp))
theorem str_em (s : ByteArray) (h : s.size = 0) : s.toList.isEmpty = true := by
  rw [ByteArray.toList_eq s]
  cases e : s.data.toList with
  | nil => rfl
  | cons a l => have : s.data.toList.length = s.size := by cases s; rfl
                rw [e] at this; simp at this; omega
structure Box (p:Prop):Prop where
 mk ::
 out:p
def evalE (E:Env):Operand→Option Value
 | .tmp s=>match E s with
  | .inl c=>some c
  | .inr _=>none
 | .const v=>some v
 | .global g=>some (.pointer (some ⟨g,0,none⟩))
 | .func f=>some (.func (.func f) #[] #[])
theorem evalE_of {E:Env} {ops:Array Oper} {o:Oper} {a:Act} {w:World} {x:Operand} {c:Value} (h:evalE E x=some c) (hm:x∈o.op.operands)
  (hs:∀s∈o.looksAt ops,Ty.of (E s) (a.tmps.getD s undef) w):a.eval x=c:=by
 cases x with
 | const v=>simpa [evalE,Act.eval] using h
 | global g=>simpa [evalE,Act.eval] using h
 | func f=>simpa [evalE,Act.eval] using h
 | tmp s=>
  have hv:=hs s (looks_of hm rfl)
  simp only [evalE] at h
  cases hE:E s with
  | inl d=>
   rw [hE] at h hv
   simp only [Option.some.injEq] at h
   subst h
   exact hv
  | inr T=>rw [hE] at h;cases h
theorem map_of {E:Env} {ops:Array Oper} {o:Oper} {a:Act} {w:World} {xs:Array Operand} {args:Array Value} (h:xs.toList.map (evalE E)=args.toList.map some) (hm:∀x∈xs,x∈o.op.operands)
  (hs:∀s∈o.looksAt ops,Ty.of (E s) (a.tmps.getD s undef) w):xs.map a.eval=args:=by
 apply Array.ext'
 rw [Array.toList_map]
 have key:∀(l:List Operand) (m:List Value),(∀x∈l,x∈o.op.operands)→l.map (evalE E)=m.map some→l.map a.eval=m:=by
  intro l
  induction l with
  | nil=>intro m _ h;cases m with
   | nil=>rfl
   | cons _ _=>simp at h
  | cons x l ih=>intro m hm h;cases m with
   | nil=>simp at h
   | cons c m=>
    simp only [List.map_cons,List.cons.injEq] at h ⊢
    exact⟨evalE_of h.1 (hm x (by simp)) hs,ih m (fun y hy=>hm y (by simp [hy])) h.2⟩
 exact key _ _ (fun x hx=>hm x (by simpa using hx)) h
section
variable {ops:Array Oper} {w0:World} {Fin:List Ty→Prop} {rest:List Oper} {E:Env} {Ts:List Ty} {o:Oper} {P:Program}
theorem tw_fn {f:FuncId} {xs:Array Operand} {ts:Array TypeId} (args:Array Value) (T:Ty) (hst:Stable T) (hop:o.op=.call { callee:=.value (.func f),args:=xs,argTypes:=ts})
  (hcf:∀(W:World),(callFunc f args).run P W=.ok (.enter f args) W) (hx:xs.toList.map (evalE E)=args.toList.map some) (hw:Wd ops o E true)
  (hc:∀W,Ext w0 W→Calls P f args W fun e w'=>∃v,e=.returned v∧Ext W w'∧Ty.of T v w')
  (hr:wpT P ops w0 Fin rest (E.put o.dst T) (T :: Ts)):wpT P ops w0 Fin (o :: rest) E Ts:=
 tw_call T hst hw (fun a W hW hs=>by
  have hm:=map_of (o:=o) (a:=a) (w:=W) hx (fun x hx=>by rw [hop];simp [Op.operands,Call.operands,hx]) hs
  refine⟨f,args,?_,hc W hW⟩
  unfold execOp
  simp only [hop,resolve,Act.eval,Deferred.ofValue,hm,Sem.run_bind,Sem.run_pure,Result.andThen_ok,invoke,Array.append_empty,Array.empty_append,hcf W]) hr
theorem tw_fn0 {f:FuncId} {xs:Array Operand} {ts:Array TypeId} (args:Array Value) (v:Value) (hop:o.op=.call { callee:=.value (.func f),args:=xs,argTypes:=ts})
  (hcf:∀(W:World),(callFunc f args).run P W=.ok (.enter f args) W) (hx:xs.toList.map (evalE E)=args.toList.map some) (hw:Wd ops o E true)
  (hc:∀W,Ext w0 W→Calls P f args W fun e w'=>e=.returned v∧W=w')
  (hr:wpT P ops w0 Fin rest (E.put o.dst (.inl v)) (.inl v :: Ts)):wpT P ops w0 Fin (o :: rest) E Ts:=
 tw_fn args (.inl v) (stable_is _) hop hcf hx hw (fun W hW=>(hc W hW).mono fun e w' h=>⟨v,h.1,by rw [h.2];exact Ext.refl _,rfl⟩) hr
theorem tw_fnB {f:FuncId} {xs:Array Operand} {ts:Array TypeId} (args:Array Value) (v:Value) (hop:o.op=.call { callee:=.value (.func f),args:=xs,argTypes:=ts})
  (hcf:∀(W:World),(callFunc f args).run P W=.ok (.enter f args) W) (hx:xs.toList.map (evalE E)=args.toList.map some) (hw:Wd ops o E true)
  (hc:∀W,Ext w0 W→Calls P f args W fun e w'=>e=.returned v∧Below W.heap.size W w')
  (hr:wpT P ops w0 Fin rest (E.put o.dst (.inl v)) (.inl v :: Ts)):wpT P ops w0 Fin (o :: rest) E Ts:=
 tw_fn args (.inl v) (stable_is _) hop hcf hx hw (fun W hW=>(hc W hW).mono fun e w' h=>⟨v,h.1,h.2,rfl⟩) hr
end
section
variable {ops:Array Oper} {w0:World} {Fin:List Ty→Prop} {rest:List Oper} {E:Env} {Ts:List Ty} {o:Oper} {P:Program}
theorem tw_op1 {x:Operand} {c:Value} (d:Value) (hop:o.op.operands.toList=[x]) (hE:evalE E x=some c) (hw:Wd ops o E true)
  (h:∀(ρ:Operand→Value) (W:World),Ext w0 W→ρ x=c→(execOp ρ o).run P W=.ok (.value d) W)
  (hr:wpT P ops w0 Fin rest (E.put o.dst (.inl d)) (.inl d :: Ts)):wpT P ops w0 Fin (o :: rest) E Ts:=
 have hm:x∈o.op.operands:=by rw [←Array.mem_toList_iff,hop];simp
 tw_pure d hw (fun a W hW hs=>h a.eval W hW (evalE_of hE hm hs)) hr
theorem tw_op2 {x y:Operand} {c e:Value} (d:Value) (hop:o.op.operands.toList=[x,y]) (hE:evalE E x=some c) (hE':evalE E y=some e) (hw:Wd ops o E true)
  (h:∀(ρ:Operand→Value) (W:World),Ext w0 W→ρ x=c→ρ y=e→(execOp ρ o).run P W=.ok (.value d) W)
  (hr:wpT P ops w0 Fin rest (E.put o.dst (.inl d)) (.inl d :: Ts)):wpT P ops w0 Fin (o :: rest) E Ts:=
 have hm:x∈o.op.operands:=by rw [←Array.mem_toList_iff,hop];simp
 have hm':y∈o.op.operands:=by rw [←Array.mem_toList_iff,hop];simp
 tw_pure d hw (fun a W hW hs=>h a.eval W hW (evalE_of hE hm hs) (evalE_of hE' hm' hs)) hr
theorem tw_pickL {x y z:Operand} {b:Bool} {f:Value} (hop:o.op=.pick x y z) (hE:evalE E x=some (.bool b)) (hE3:evalE E (if b then y else z)=some f) (hw:Wd ops o E true)
  (hr:wpT P ops w0 Fin rest (E.put o.dst (.inl f)) (.inl f :: Ts)):wpT P ops w0 Fin (o :: rest) E Ts:=
 tw_pure f hw (fun a W hW hs=>by
  have h1:a.eval x=.bool b:=evalE_of hE (by rw [hop];simp [Op.operands]) hs
  have h2:a.eval (if b then y else z)=f:=evalE_of hE3 (by rw [hop];cases b <;> simp [Op.operands]) hs
  unfold execOp
  cases b <;> simp_all [asBool]) hr
theorem tw_mv {x:Operand} {c:Value} (hop:o.op=.move x∨o.op=.assign x) (hE:evalE E x=some c) (hw:Wd ops o E true)
  (hr:wpT P ops w0 Fin rest (E.put o.dst (.inl c)) (.inl c :: Ts)):wpT P ops w0 Fin (o :: rest) E Ts:=
 tw_pure c hw (fun a W hW hs=>by
  have h1:a.eval x=c:=evalE_of hE (by rcases hop with h|h <;> rw [h] <;> simp [Op.operands]) hs
  unfold execOp
  rcases hop with h|h <;> simp [h,h1]) hr
theorem tw_lens {x:Operand} {s:ByteArray} (hop:o.op=.call { callee:=.builtin .len,args:=#[x],argTypes:=#[9]}) (hE:evalE E x=some (.string s)) (hw:Wd ops o E true)
  (hr:wpT Tryz.prog ops w0 Fin rest (E.put o.dst (.inl (.int .i64 (s.size:Int)))) (.inl (.int .i64 (s.size:Int)) :: Ts)):wpT Tryz.prog ops w0 Fin (o :: rest) E Ts:=
 tw_pure _ hw (fun a W hW hs=>by
  have h1:a.eval x=.string s:=evalE_of hE (by rw [hop];simp [Op.operands,Call.operands]) hs
  unfold execOp
  simp only [hop,resolve,invoke,builtin,Sem.run_bind,Sem.run_pure,Result.andThen_ok,List.map_toArray,List.map_cons,List.map_nil,h1]
  go_simp) hr
end
end Go.Proofs.YtnmnpnofdgdigaaGreatDoor
end
section
namespace Go.Proofs.YtnmnpnofdgdigaaGreatDoor
open Go.RowKit
set_option linter.unusedSimpArgs false
set_option linter.unusedVariables false
theorem ret_two {v v' u u':Value} (h:v=v') (k:u=u'):Ending.returned (.tuple #[v,u])=.returned (.tuple #[v',u']):=by rw [h,k]
theorem refmay_any (n:Int) (w:World):Calls Tryz.prog 207 #[.int .i64 n] w fun e w'=>e=.returned (.bool (mayP n))∧w=w':=by
 by_cases h:n < 32
 ·have HM:Box (mayP n=decide (n=9∨n=10∨n=13)):=⟨if_pos h⟩
  generalize mayP n=r at *
  go_enter Tryz.func207,Tryz.ntmps207
  go_wp2
  all_goals
   go_ret
   exact⟨ret_bool (by rw [HM.out];first|rfl|decide|(rw [Bool.eq_iff_iff];simp only [Bool.and_eq_true,Bool.or_eq_true,Bool.not_eq_true',Bool.not_eq_true,decide_eq_true_eq,decide_eq_false_iff_not,beq_iff_eq,bne_iff_ne,beq_eq_false_iff_ne,bne_eq_false_iff_eq,Bool.false_eq_true,ne_eq,true_and,and_true,false_or,or_false,reduceCtorEq,false_iff,true_iff,iff_false,iff_true];omega)|(simp;done)|(simp;omega)),rfl⟩
 ·have HM:Box (mayP n=decide (n≤1114111∧(n < 55296∨57343 < n)∧n≠65534∧n≠65535)):=⟨if_neg h⟩
  generalize mayP n=r at *
  go_enter Tryz.func207,Tryz.ntmps207
  go_wp2
  all_goals
   go_ret
   exact⟨ret_bool (by rw [HM.out];first|rfl|decide|(rw [Bool.eq_iff_iff];simp only [Bool.and_eq_true,Bool.or_eq_true,Bool.not_eq_true',Bool.not_eq_true,decide_eq_true_eq,decide_eq_false_iff_not,beq_iff_eq,bne_iff_ne,beq_eq_false_iff_ne,bne_eq_false_iff_eq,Bool.false_eq_true,ne_eq,true_and,and_true,false_or,or_false,reduceCtorEq,false_iff,true_iff,iff_false,iff_true];omega)|(simp;done)|(simp;omega)),rfl⟩
theorem refhead_any (c:Int) (w:World) (h0:0≤c) (h1:c < 256):Calls Tryz.prog 206 #[.int .i64 c] w fun e w'=>e=.returned (.tuple #[.int .i64 (headN c),.int .i64 (headV c)])∧w=w':=by
 have hc:∃a b,headN c=a∧headV c=b∧((c < 128∧a=1∧b=c)∨(128≤c∧c < 192∧a=0∧b=0)∨(192≤c∧c < 224∧a=2∧b=c - 192)∨(224≤c∧c < 240∧a=3∧b=c - 224)∨(240≤c∧c < 248∧a=4∧b=c - 240)∨(248≤c∧a=0∧b=0)):=by
  refine⟨_,_,rfl,rfl,?_⟩
  unfold headN headV
  repeat' split
  all_goals omega
 obtain⟨a,b,h1',h2',hc⟩:=hc
 rw [h1',h2']
 clear h1' h2'
 rcases hc with ⟨h,rfl,rfl⟩|⟨h,h',rfl,rfl⟩|⟨h,h',rfl,rfl⟩|⟨h,h',rfl,rfl⟩|⟨h,h',rfl,rfl⟩|⟨h,rfl,rfl⟩
 all_goals
  go_enter Tryz.func206,Tryz.ntmps206
  go_wp2
  go_ret2
  exact⟨rfl,rfl⟩
theorem refsix_any (n:Int) (k:Nat) (w:World) (h0:0≤n) (h1:n < 16777216) (hk:k≤3):Calls Tryz.prog 223 #[.int .i64 n,.int .i64 k] w fun e w'=>e=.returned (.int .u8 (128+n / 64 ^ k % 64))∧w=w':=by
 go_enter Tryz.func223,Tryz.ntmps223
 go_wp2
 go_loop [0,5] (fun m i=>∃j:Nat,j≤k∧i=.int .i64 j∧m=.int .i64 (n / 64 ^ j)) (fun _ i=>k - (intOf i).toNat)
 case atStart=>exact⟨0,Nat.zero_le _,rfl,by simp⟩
 case round=>
  obtain⟨j,hj,rfl,rfl⟩:=hrel
  have hp:(0:Int) < 64 ^ j:=Int.pow_pos (by omega)
  have hd0:0≤n / 64 ^ j:=Int.ediv_nonneg h0 (Int.le_of_lt hp)
  have hd1:n / 64 ^ j≤n:=Int.ediv_le_self _ h0
  have HS:Box (n / 64 ^ (j+1)=n / 64 ^ j / 64):=⟨by rw [Int.pow_succ,Int.ediv_ediv_of_nonneg (Int.le_of_lt hp)]⟩
  clear hp
  by_cases hlt:j < k
  ·generalize n / 64 ^ j=m at *
   go_wp2
   go_round
   case rel=>exact⟨j+1,by omega,by go_num,by rw [HS.out]⟩
   case measure=>simp [intOf];omega
  ·obtain rfl:j=k:=by omega
   clear HS
   obtain⟨m,hm⟩:∃m,m=n / 64 ^ j:=⟨_,rfl⟩
   have HM:=Box.mk hm
   rw [←hm] at hd0 hd1 ⊢
   clear hm
   go_wp2
   go_ret
   exact⟨ret_int (by rw [←HM.out]),rfl⟩
theorem six0 (n:Int):n / 64 ^ 0 % 64=n % 64:=by rw [Int.pow_zero,Int.ediv_one]
theorem six1 (n:Int):n / 64 ^ 1 % 64=n / 64 % 64:=by rw [Int.pow_succ,Int.pow_zero,Int.one_mul]
theorem six2 (n:Int):n / 64 ^ 2 % 64=n / 4096 % 64:=by rw [show(64:Int) ^ 2=4096 by decide]
def BytesPost (l:List Int) (w:World) (e:Ending) (w':World):Prop:=∃A c,e=.returned (.slice A l.length c)∧Rd w' w'.heap.size 1 A l.length (ints .u8 l)∧Below w.heap.size w w'∧l.length≤c
theorem BytesPost.new (l:List Int) (w:World) (t:TypeId):BytesPost l w (.returned (.slice (some ⟨w.heap.size,0,none⟩) l.length l.length)) (w.alloc (.cells (ints .u8 l).toArray t)):=by
 have h:=Rd.new w t (ints .u8 l).toArray (s:=1) (n:=l.length) (by simp [ints])
 exact⟨_,_,rfl,by simpa using h,(Below.refl _ _).alloc (Nat.le_refl _) _,Nat.le_refl _⟩
theorem refbytes_any (n:Int) (w:World) (h0:0≤n) (h1:n < 2097152):Calls Tryz.prog 208 #[.int .i64 n] w (BytesPost (bytesU n) w):=by
 have S0:=Lib.hid (fun W=>refsix_any n 0 W h0 (by omega) (by omega))
 have S1:=Lib.hid (fun W=>refsix_any n 1 W h0 (by omega) (by omega))
 have S2:=Lib.hid (fun W=>refsix_any n 2 W h0 (by omega) (by omega))
 rw [six0] at S0
 rw [six1] at S1
 rw [six2] at S2
 have hc:n < 128∨(128≤n∧n < 2048)∨(2048≤n∧n < 65536)∨65536≤n:=by omega
 rcases hc with h|⟨h,h'⟩|⟨h,h'⟩|h
 ·have HX:Box (bytesU n=[n]):=⟨by unfold bytesU;rw [if_pos h]⟩
  generalize bytesU n=L at *
  go_enter Tryz.func208,Tryz.ntmps208
  go_wp2
  go_ret
  rw [HX.out]
  exact BytesPost.new _ w _
 ·have HX:Box (bytesU n=[192+n / 64,128+n % 64]):=⟨by unfold bytesU;rw [if_neg (by omega),if_pos h']⟩
  generalize bytesU n=L at *
  have hd:n / 64≤31:=by omega
  go_enter Tryz.func208,Tryz.ntmps208
  go_wp2_with fail
  refine(S0.out _).mono ?_
  rintro e w1 ⟨rfl,rfl⟩
  go_wp2
  go_ret
  rw [HX.out]
  exact BytesPost.new _ w _
 ·have HX:Box (bytesU n=[224+n / 4096,128+n / 64 % 64,128+n % 64]):=⟨by unfold bytesU;rw [if_neg (by omega),if_neg (by omega),if_pos h']⟩
  generalize bytesU n=L at *
  have hd:n / 4096≤15:=by omega
  go_enter Tryz.func208,Tryz.ntmps208
  go_wp2_with fail
  refine(S1.out _).mono ?_
  rintro e w1 ⟨rfl,rfl⟩
  go_wp2_with fail
  refine(S0.out _).mono ?_
  rintro e w1 ⟨rfl,rfl⟩
  go_wp2
  go_ret
  rw [HX.out]
  exact BytesPost.new _ w _
 ·have HX:Box (bytesU n=[240+n / 262144,128+n / 4096 % 64,128+n / 64 % 64,128+n % 64]):=⟨by unfold bytesU;rw [if_neg (by omega),if_neg (by omega),if_neg (by omega)]⟩
  generalize bytesU n=L at *
  have hd:n / 262144≤7:=by omega
  go_enter Tryz.func208,Tryz.ntmps208
  go_wp2_with fail
  refine(S2.out _).mono ?_
  rintro e w1 ⟨rfl,rfl⟩
  go_wp2_with fail
  refine(S1.out _).mono ?_
  rintro e w1 ⟨rfl,rfl⟩
  go_wp2_with fail
  refine(S0.out _).mono ?_
  rintro e w1 ⟨rfl,rfl⟩
  go_wp2
  go_ret
  rw [HX.out]
  exact BytesPost.new _ w _
end Go.Proofs.YtnmnpnofdgdigaaGreatDoor
end
