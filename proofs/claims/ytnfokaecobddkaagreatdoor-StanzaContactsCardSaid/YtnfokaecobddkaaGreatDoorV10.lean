/- Part 10 of a proof laid in parts, one behind the other; no condition of its own. -/
import Derived.Test.YtnfokaecobddkaaGreatDoorV09
import Derived.Test.YtnfokaecobddkaaGreatDoorV01
import Derived.Test.YtnfokaecobddkaaGreatDoorV05
import Derived.Test.YtnfokaecobddkaaGreatDoorV07
set_option linter.all false
section
namespace Go.Proofs.YtnfokaecobddkaaGreatDoor
open Go.RowKit
set_option linter.unusedSimpArgs false
set_option linter.unusedVariables false
theorem given_any (s:ByteArray) (w:World):Calls Tryz.prog 75 #[.string s] w fun e w'=>e=.returned (.bool (givenB s))∧w=w':=by
 have HG:Box (givenB s=((s.toList == [104,116,116,112,58,47,47,119,119,119,46,119,51,46,111,114,103,47,88,77,76,47,49,57,57,56,47,110,97,109,101,115,112,97,99,101]) || (s.toList == [104,116,116,112,58,47,47,119,119,119,46,119,51,46,111,114,103,47,50,48,48,48,47,120,109,108,110,115,47]))):=⟨rfl⟩
 generalize givenB s=r at *
 go_enter Tryz.func75,Tryz.ntmps75
 go_wp2
 all_goals
  go_ret
  exact⟨(ret_bool (by first|(rw [HG.out];done)|(rw [HG.out];simp_all;done))),rfl⟩
set_option maxRecDepth 10000 in
theorem space1_any (a:AttrL) (w:World) (hz:SzA 1000000000 a):Calls Tryz.prog 73 (#[encA a]++#[]) w fun e w'=>e=.returned (.bool (oddA a))∧Below w.heap.size w w':=by
 have HX:=Lib.hid ((Below.refl w.heap.size w).alloc (Nat.le_refl _) (.cells #[.string a.space,.string a.name,.string a.value] 80))
 have HG:Box (oddA a=(!nameI a.name || (a.space.toList.isEmpty && (a.name.toList == [120,109,108,110,115])) || (a.space.toList == [104,116,116,112,58,47,47,119,119,119,46,119,51,46,111,114,103,47,50,48,48,48,47,120,109,108,110,115,47]))):=⟨rfl⟩
 have H1:=Lib.hid (fun W=>name_any a.name W hz.2.1)
 generalize oddA a=r at *
 generalize nameI a.name=n1 at *
 unfold encA
 rw [Array.append_empty]
 go_enter Tryz.func73,Tryz.ntmps73
 cases n1
 all_goals
  go_wp2_with fail
  refine(H1.out _).mono ?_
  rintro e w1 ⟨rfl,rfl⟩
  go_wp2
  all_goals
   go_ret
   exact⟨(ret_bool (by first|(rw [HG.out];done)|(rw [HG.out];simp_all;done))),HX.out⟩
set_option maxHeartbeats 4000000 in
set_option maxRecDepth 10000 in
theorem space2_any (n:NodeL) (A:Option Addr) (c B:Nat) (w:World) (hB:w.cell? ⟨B,0,none⟩=some (.func (.func 73) #[] #[])) (hr:RdA w w.heap.size A n.attrs) (hz:SzN 1000000000 n) :
  Calls Tryz.prog 74 (#[encN n A c]++#[.pointer (some ⟨B,0,none⟩)]) w fun e w'=>e=.returned (.bool (oddN n))∧Below w.heap.size w w':=by
 have hBl:=cell_lt hB
 have hne:B≠w.heap.size:=by omega
 obtain⟨W0,hW0⟩:∃W0,W0=w.alloc (.cells #[.int .u8 n.kind,.string n.space,.string n.name,.slice A n.attrs.length c,.string n.text,.int .i64 n.many] 69):=⟨_,rfl⟩
 have hX0:Below w.heap.size w W0:=by rw [hW0];exact(Below.refl _ _).alloc (Nat.le_refl _) _
 have HX0:=Lib.hid hX0
 have HG:Box (oddN n=((decide (n.kind=1) && !nameI n.name) || givenB n.space || n.attrs.any oddA)):=⟨rfl⟩
 have H1:=Lib.hid (fun W=>name_any n.name W hz.2.2.1)
 have H2:=Lib.hid (fun W=>given_any n.space W)
 have eg:=enters_of (P:=Tryz.prog) Tryz.func73 (by kernel_rfl) rfl
 have H3:=Lib.hid (hasA_any 73 #[] A c n.attrs oddA W0 ((hr.below hX0 (Nat.le_refl _)).more hX0.size) hz.2.2.2.1.1 eg
  (fun W i x hW hx=>(space1_any x W (hz.2.2.2.1.2 x (List.mem_of_getElem? hx))).mono fun e w' h=>⟨h.1,hW.trans (h.2.mono hW.size)⟩))
 rw [hW0] at H3
 have HXF:∀w',Below W0.heap.size W0 w'→Below w.heap.size w w':=fun w' h=>hX0.trans (h.mono hX0.size)
 rw [hW0] at HXF HX0
 have HXF':=Lib.hid HXF
 clear hW0 hX0 HXF eg hr
 generalize oddN n=r at *
 generalize nameI n.name=n1 at *
 generalize givenB n.space=g1 at *
 generalize n.attrs.any oddA=a1 at *
 unfold encN
 rw [List.append_toArray,List.singleton_append]
 by_cases hk:n.kind=1
 all_goals
  try rw [hk] at H3 HX0 HXF'
  go_enter Tryz.func74,Tryz.ntmps74
  go_wp2_with (first
    | (go_at_call 26;refine(H1.out _).mono ?_;rintro e w1 ⟨rfl,rfl⟩)
    | (go_at_call 75;refine(H2.out _).mono ?_;rintro e w2 ⟨rfl,rfl⟩)
    | (go_at_call 76;refine(H3.out).mono ?_;rintro e w3 ⟨rfl,hb3⟩))
  all_goals
   go_ret
   first|exact⟨(ret_bool (by first|(rw [HG.out];done)|(rw [HG.out];simp_all;done))),HX0.out⟩|exact⟨(ret_bool (by first|(rw [HG.out];done)|(rw [HG.out];simp_all;done))),HXF'.out _ hb3⟩
end Go.Proofs.YtnfokaecobddkaaGreatDoor
end
section
namespace Go.Proofs.YtnfokaecobddkaaGreatDoor
open Go.RowKit
set_option linter.unusedSimpArgs false
set_option linter.unusedVariables false
set_option maxHeartbeats 4000000 in
set_option maxRecDepth 10000 in
theorem spcheck_any (v:List NodeL) (A:Option Addr) (c:Nat) (w:World) (hc:v.length≤c) (hz:SzV 1000000000 v) (hr:RdV w w.heap.size A v) :
  Calls Tryz.prog 32 #[.slice A v.length c] w fun e w'=>e=.returned (.int .i64 (spaceErr v))∧Below w.heap.size w w':=by
 obtain⟨W0,hW0⟩:∃W0,W0=w.alloc (.cells #[.func (.func 73) #[] #[]] 127):=⟨_,rfl⟩
 have hX0:Below w.heap.size w W0:=by rw [hW0];exact(Below.refl _ _).alloc (Nat.le_refl _) _
 have hs0:w.heap.size < W0.heap.size:=by rw [hW0];simp
 have hB:∀W,Below W0.heap.size W0 W→W.cell? ⟨w.heap.size,0,none⟩=some (.func (.func 73) #[] #[]):=fun W hW=>(hW.cell hs0).trans (by rw [hW0];simp)
 have eg:=enters_of (P:=Tryz.prog) Tryz.func74 (by kernel_rfl) rfl
 have hr0:=(hr.below hX0 (Nat.le_refl _)).more hX0.size
 have H:=Lib.hid (hasN_any 74 #[.pointer (some ⟨w.heap.size,0,none⟩)] A c v oddN W0 hr0 hz.1 eg
  (fun W i x A' c' hW hx hl hA=>(space2_any x A' c' w.heap.size W (hB W hW) ((hA.below hW (Nat.le_refl _)).more hW.size) (hz.2 x (List.mem_of_getElem? hx))).mono fun e w' h=>⟨h.1,hW.trans (h.2.mono hW.size)⟩))
 have HT:=Lib.hid (fun W (hW:Below W0.heap.size W0 W)=>tcheck_any v A c W hc hz ((hr0.below hW (Nat.le_refl _)).more hW.size))
 have HX0:=Lib.hid hX0
 rw [hW0] at H HT HX0
 have HG:Box (spaceErr v=if v.any oddN then 8 else treeErr v):=⟨by unfold spaceErr spaceI treeErr;cases v.any oddN <;> simp⟩
 clear hW0 hX0 hs0 hB eg hr0 hr hz hc
 generalize spaceErr v=r at *
 generalize treeErr v=te at *
 cases hq:v.any oddN
 all_goals
  rw [hq] at H HG
  go_enter Tryz.func32,Tryz.ntmps32
  go_wp2_with fail
  refine H.out.mono ?_
  rintro e w1 ⟨rfl,hb1⟩
  have X1:=Lib.hid hb1
  clear hb1
  go_wp2_with (first
    | (go_at_call 70;refine(HT.out _ X1.out).mono ?_;rintro e w1 ⟨rfl,hb2⟩))
  go_ret
  first|exact⟨ret_int (by rw [HG.out];rfl),HX0.out.trans (X1.out.mono HX0.out.size)⟩|exact⟨ret_int (by rw [HG.out];rfl),(HX0.out.trans (X1.out.mono HX0.out.size)).trans (hb2.mono (Nat.le_trans HX0.out.size X1.out.size))⟩
end Go.Proofs.YtnfokaecobddkaaGreatDoor
end
section
namespace Go.Proofs.YtnfokaecobddkaaGreatDoor
open Go.RowKit
set_option linter.unusedSimpArgs false
set_option linter.unusedVariables false
end Go.Proofs.YtnfokaecobddkaaGreatDoor
end
section
namespace Go.Proofs.YtnfokaecobddkaaGreatDoor
open Go.RowKit
set_option linter.unusedSimpArgs false
set_option linter.unusedVariables false
end Go.Proofs.YtnfokaecobddkaaGreatDoor
end
section
namespace Go.Proofs.YtnfokaecobddkaaGreatDoor
open Go.RowKit
set_option linter.unusedSimpArgs false
set_option linter.unusedVariables false
def encS (s:StL) (A:Option Addr) (c:Nat):Value:=.agg #[.int .u8 s.kind,.string s.typ,.string s.id,.string s.frm,.string s.to,.slice A s.load.length c]
def SAt (w:World) (g:Nat) (s:StL) (A:Option Addr) (c:Nat):Prop:=∃t,w.heap[g]? = some (.cells #[.int .u8 s.kind,.string s.typ,.string s.id,.string s.frm,.string s.to,.slice A s.load.length c] t (0,0))
section
variable {w w':World} {g:Nat} {s:StL} {A:Option Addr} {c:Nat}
theorem SAt.c0 (h:SAt w g s A c):w.cell? ⟨g,0,none⟩=some (.int .u8 s.kind):=by obtain⟨t,h⟩:=h;simp [World.cell?,h]
theorem SAt.c1 (h:SAt w g s A c):w.cell? ⟨g,1,none⟩=some (.string s.typ):=by obtain⟨t,h⟩:=h;simp [World.cell?,h]
theorem SAt.c2 (h:SAt w g s A c):w.cell? ⟨g,2,none⟩=some (.string s.id):=by obtain⟨t,h⟩:=h;simp [World.cell?,h]
theorem SAt.c3 (h:SAt w g s A c):w.cell? ⟨g,3,none⟩=some (.string s.frm):=by obtain⟨t,h⟩:=h;simp [World.cell?,h]
theorem SAt.c4 (h:SAt w g s A c):w.cell? ⟨g,4,none⟩=some (.string s.to):=by obtain⟨t,h⟩:=h;simp [World.cell?,h]
theorem SAt.c5 (h:SAt w g s A c):w.cell? ⟨g,5,none⟩=some (.slice A s.load.length c):=by obtain⟨t,h⟩:=h;simp [World.cell?,h]
theorem SAt.fz (h:SAt w g s A c) (i:Nat):w.frozen? ⟨g,i,none⟩=false:=by obtain⟨t,h⟩:=h;exact frozen_of_row w g i _ _ h
theorem SAt.lt (h:SAt w g s A c):g < w.heap.size:=by obtain⟨t,h⟩:=h;exact(Array.getElem?_eq_some_iff.1 h).1
theorem SAt.ext (h:SAt w g s A c) (hb:Below w.heap.size w w'):SAt w' g s A c:=by obtain⟨t,h⟩:=h;exact⟨t,heap_ext h hb⟩
theorem SAt.new (w:World) (t:TypeId) (s:StL) (A:Option Addr) (c:Nat):SAt (w.alloc (.cells #[.int .u8 s.kind,.string s.typ,.string s.id,.string s.frm,.string s.to,.slice A s.load.length c] t)) w.heap.size s A c:=⟨t,heap_alloc_new w _⟩
end
theorem RdW.ext {w w':World} {A:Option Addr} {l:List (List NodeL)} (h:RdW w w.heap.size A l) (hb:Below w.heap.size w w'):RdW w' w'.heap.size A l:=fun h0=>by
 obtain⟨b,off,h1,h2,h3⟩:=h h0
 refine⟨b,off,h1,Nat.lt_of_lt_of_le h2 hb.size,fun i v hv=>?_⟩
 obtain⟨A',c',e1,e2,e3⟩:=h3 i v hv
 exact⟨A',c',(hb.cell (p:=⟨b,off+i,none⟩) h2).trans e1,e2,(e3.below hb (Nat.le_refl _)).more hb.size⟩
theorem scheck1_any (v:List NodeL) (A:Option Addr) (c:Nat) (w:World) (hc:v.length≤c) (hz:SzV 1000000000 v) (hr:RdV w w.heap.size A v) :
  Calls Tryz.prog 31 (#[.slice A v.length c]++#[]) w fun e w'=>e=.returned (.bool (!spaceI v))∧Below w.heap.size w w':=by
 have H:=Lib.hid (spcheck_any v A c w hc hz hr)
 have HE:Box (spaceErr v=if spaceI v then 0 else 8):=⟨rfl⟩
 clear hr hz hc
 rw [Array.append_empty]
 generalize spaceErr v=q at *
 cases hs:spaceI v
 all_goals
  rw [hs] at HE
  have he:=HE.out
  try simp only [Bool.false_eq_true,if_false] at he
  try simp only [if_true] at he
  subst he
  clear hs HE
  go_enter Tryz.func31,Tryz.ntmps31
  go_wp2_with fail
  refine H.out.mono ?_
  rintro e w1 ⟨rfl,hb1⟩
  go_wp2
  go_ret
  exact⟨rfl,hb1⟩
def MapTy:Ty:=.inr MapT
theorem stable_map:Stable MapTy:=fun u W W' h hx=>MapT.ext h hx
def SlS (l:List ByteArray):Ty:=.inr fun u W=>∃A c,u=.slice A l.length c∧RdS W A l
theorem stable_sls (l:List ByteArray):Stable (SlS l):=fun u W W' h hx=>by
 obtain⟨A,c,h1,h2⟩:=h
 exact⟨A,c,h1,h2.ext hx⟩
section
variable {ops:Array Oper} {w0:World} {Fin:List Ty→Prop} {rest:List Oper} {E:Env} {Ts:List Ty} {o:Oper}
theorem tw_types {ts:Array TypeId} (hop:o.op=.call { callee:=.value (.func 34),args:=#[],argTypes:=ts}) (hw:Wd ops o E true)
  (hr:wpT Tryz.prog ops w0 Fin rest (E.put o.dst MapTy) (MapTy :: Ts)):wpT Tryz.prog ops w0 Fin (o :: rest) E Ts:=
 tw_fn #[] MapTy stable_map hop (fun W=>enters_of (P:=Tryz.prog) Tryz.func34 (by kernel_rfl) rfl _ W) rfl hw
  (fun W _=>(types_any W).mono fun e w' h=>by
   obtain⟨u,h1,h2,h3⟩:=h
   exact⟨u,h1,h3,h2⟩) hr
theorem tw_lookup {m:Tmp} {x:Operand} (k:Int) (hop:o.op=.lookup 76 (.tmp m) x false) (hE:E m=MapTy) (hx:evalE E x=some (.int .u8 k)) (hw:Wd ops o E true)
  (hr:wpT Tryz.prog ops w0 Fin rest (E.put o.dst (SlS (typesOf k))) (SlS (typesOf k) :: Ts)):wpT Tryz.prog ops w0 Fin (o :: rest) E Ts:=
 tw_val (SlS (typesOf k)) (stable_sls _) hw (fun a W hW hs'=>by
  have h1:=hs' m (looks_of (x:=.tmp m) (by rw [hop];simp [Op.operands]) rfl)
  rw [hE] at h1
  have h1':MapT (a.tmps.getD m undef) W:=h1
  obtain⟨b,A,c,e1,e2,e3⟩:=h1'.get k
  have h2:a.eval (.tmp m)=.map (some b):=e1
  have h3:a.eval x=.int .u8 k:=evalE_of hx (by rw [hop];simp [Op.operands]) hs'
  refine⟨.slice A (typesOf k).length c,W,?_,Ext.refl _,A,c,rfl,e3⟩
  clear h1 h1' e1 hs' hr
  generalize a.eval=ρ at *
  unfold execOp
  simp only [hop,h2,h3,Sem.run_bind,Sem.run_pure,e2,Result.andThen_ok]
  try go_simp) hr
theorem tw_has {m:Tmp} {x:Operand} {ts:Array TypeId} (l:List ByteArray) (s:ByteArray) (b:Bool) (hb:hasS l s=b) (hl:l.length≤1000) (hop:o.op=.call { callee:=.value (.func 33),args:=#[.tmp m,x],argTypes:=ts}) (hE:E m=SlS l) (hx:evalE E x=some (.string s)) (hw:Wd ops o E true)
  (hr:wpT Tryz.prog ops w0 Fin rest (E.put o.dst (.inl (.bool b))) (.inl (.bool b) :: Ts)):wpT Tryz.prog ops w0 Fin (o :: rest) E Ts:=
 tw_call (.inl (.bool b)) (stable_is _) hw (fun a W hW hs'=>by
  have h1:=hs' m (looks_of (x:=.tmp m) (by rw [hop];simp [Op.operands,Call.operands]) rfl)
  rw [hE] at h1
  obtain⟨A,c,e1,e2⟩:=h1
  have h2:a.eval (.tmp m)=.slice A l.length c:=e1
  have h3:a.eval x=.string s:=evalE_of hx (by rw [hop];simp [Op.operands,Call.operands]) hs'
  have e0:a.eval (.func 33)=.func (.func 33) #[] #[]:=rfl
  have hcf:=enters_of (P:=Tryz.prog) Tryz.func33 (by kernel_rfl) rfl #[.slice A l.length c,.string s] W
  refine⟨33,#[.slice A l.length c,.string s],?_,(contains_any A c l s W e2 hl).mono fun e w' h=>⟨_,h.1,by rw [←h.2];exact Ext.refl _,by show _=_;rw [hb]⟩⟩
  unfold execOp
  simp only [hop,resolve,e0,Deferred.ofValue,List.map_toArray,List.map_cons,List.map_nil,h2,h3,Sem.run_bind,Sem.run_pure,Result.andThen_ok,invoke,Array.append_empty,Array.empty_append,hcf]) hr
theorem tw_ldW {x:Operand} {p:Addr} {A:Option Addr} {m c:Nat} (hop:o.op=.load 22 x) (hE:evalE E x=some (.pointer (some p))) (hc:∀W,Ext w0 W→W.cell? p=some (.slice A m c)) (hw:Wd ops o E true)
  (hr:wpT Tryz.prog ops w0 Fin rest (E.put o.dst (.inl (.slice A m c))) (.inl (.slice A m c) :: Ts)):wpT Tryz.prog ops w0 Fin (o :: rest) E Ts:=
 tw_pure (.slice A m c) hw (fun a W hW hs=>by
  have h1:a.eval x=.pointer (some p):=evalE_of hE (by rw [hop];simp [Op.operands]) hs
  have h2:=hc W hW
  unfold execOp
  simp only [hop,h1]
  go_simp) hr
theorem tw_lenW {x:Operand} {A:Option Addr} {m c:Nat} (hop:o.op=.call { callee:=.builtin .len,args:=#[x],argTypes:=#[22]}) (hE:evalE E x=some (.slice A m c)) (hw:Wd ops o E true)
  (hr:wpT Tryz.prog ops w0 Fin rest (E.put o.dst (.inl (.int .i64 (m:Int)))) (.inl (.int .i64 (m:Int)) :: Ts)):wpT Tryz.prog ops w0 Fin (o :: rest) E Ts:=
 tw_pure _ hw (fun a W hW hs=>by
  have h1:a.eval x=.slice A m c:=evalE_of hE (by rw [hop];simp [Op.operands,Call.operands]) hs
  unfold execOp
  simp only [hop,resolve,invoke,builtin,Sem.run_bind,Sem.run_pure,Result.andThen_ok,List.map_toArray,List.map_cons,List.map_nil,h1]
  go_simp) hr
end
set_option maxHeartbeats 16000000 in
set_option maxRecDepth 10000 in
theorem scheck9_any (s:StL) (A:Option Addr) (c:Nat) (w:World) (hz:SzB s) (hr:RdW w w.heap.size A s.load) (hg:Glb w) :
  Calls Tryz.prog 11 #[encS s A c] w fun e w'=>e=.returned (.int .i64 (stnErr s))∧Below w.heap.size w w':=by
 obtain⟨⟨zk0,zk1⟩,z1,z2,z3,z4,z5,z6⟩:=hz
 obtain⟨W0,hW0⟩:∃W0,W0=w.alloc (.cells #[.int .u8 s.kind,.string s.typ,.string s.id,.string s.frm,.string s.to,.slice A s.load.length c] 24):=⟨_,rfl⟩
 have hX0:Below w.heap.size w W0:=by rw [hW0];exact(Below.refl _ _).alloc (Nat.le_refl _) _
 have hS0:SAt W0 w.heap.size s A c:=by rw [hW0];exact SAt.new _ _ _ _ _
 have HS:=Lib.hid hS0
 have HX0:=Lib.hid hX0
 have hr0:=RdW.ext hr hX0
 have hg0:=hg.below hX0
 have H2:=Lib.hid (fun W (hW:Below W0.heap.size W0 W)=>address9_any s.frm W z3 (hg0.below hW))
 have H3:=Lib.hid (fun W (hW:Below W0.heap.size W0 W)=>address9_any s.to W z4 (hg0.below hW))
 have eg1:=enters_of (P:=Tryz.prog) Tryz.func31 (by kernel_rfl) rfl
 have H4:=Lib.hid (fun W (hW:Below W0.heap.size W0 W)=>hasT_any 31 #[] A c s.load (fun v=>!spaceI v) W (RdW.ext hr0 hW) z5 eg1
  (fun W' i x A' c' hW' hx hl hA=>(scheck1_any x A' c' W' hl (z6 x (List.mem_of_getElem? hx)) ((hA.below hW' (Nat.le_refl _)).more hW'.size)).mono fun e w' h=>⟨h.1,hW'.trans (h.2.mono hW'.size)⟩))
 have HE:Box (stnErr s=if (typedI s.kind s.typ && idI s.kind s.id && addressI s.frm && addressI s.to && !decide (16 < s.load.length) && !s.load.any (fun v=>!spaceI v)) then 0 else 8):=⟨by
  unfold stnErr stnI
  rw [←List.all_eq_not_any_not]⟩
 have HTY:Hid (hasS (typesOf s.kind) s.typ=typedI s.kind s.typ):=rfl
 have HTL:Hid ((typesOf s.kind).length≤1000):=Lib.hid (by unfold typesOf;split <;> (try split) <;> (try split) <;> decide)
 have HID:Box (idI s.kind s.id=(decide (s.id.size≤64) && decide (textErr s.id=0) && (!decide (s.kind=3) || !isEmp s.id))):=⟨rfl⟩
 have ei:=emp_iff s.id
 have HWE:=Lib.hid hW0
 obtain⟨lb,hlb⟩:∃lb,decide (16 < s.load.length)=lb:=⟨_,rfl⟩
 rw [hlb] at HE
 have hlb2:decide ((16:Int) < (s.load.length:Int))=lb:=by rw [←hlb,decide_eq_decide];omega
 clear hW0 hX0 hS0 hr0 hg0 hr hg z1 z2 z3 z4 z6 eg1 hlb
 generalize stnErr s=r at *
 generalize idI s.kind s.id=bi at *
 generalize typedI s.kind s.typ=bt at *
 generalize addressI s.frm=a1 at *
 generalize addressI s.to=a2 at *
 generalize s.load.any (fun v=>!spaceI v)=bn at *
 generalize isEmp s.id=ie at *
 have EA:=Lib.hid (enters_of (P:=Tryz.prog) Tryz.func35 (by kernel_rfl) rfl)
 have EC:=Lib.hid (enters_of (P:=Tryz.prog) Tryz.func36 (by kernel_rfl) rfl)
 have EA:=Lib.hid (enters_of (P:=Tryz.prog) Tryz.func35 (by kernel_rfl) rfl)
 have EC:=Lib.hid (enters_of (P:=Tryz.prog) Tryz.func36 (by kernel_rfl) rfl)
 unfold encS
 by_cases h64:s.id.size≤64
 ·have H1:=Lib.hid (fun W=>check5_any s.id W (by omega))
  have h64':(s.id.size:Int)≤64:=by omega
  have h64d:decide ((s.id.size:Int)≤64)=true:=decide_eq_true h64'
  by_cases ht:textErr s.id=0
  ·rw [ht] at H1
   by_cases hk:s.kind=3
   ·cases ie
    ·have hbi:bi=true:=by rw [HID.out,decide_eq_true h64,decide_eq_true ht,decide_eq_true hk];rfl
     subst hbi
     clear HID ht
     have hkq:(s.kind != 3)=false:=by simp [hk]
     clear hk
     go_enter Tryz.func11,Tryz.ntmps11
     go_wp2_with fail
     rw [←HWE.out]
     refine(H1.out _).mono ?_
     rintro e w1 ⟨rfl,hb1⟩
     have XC:=Lib.hid hb1
     have c0:=(HS.out.ext hb1).c0
     have c2:=(HS.out.ext hb1).c2
     clear hb1
     go_wp2_with fail
     have GX:=Lib.hid (fun W (hW:Ext (World.drew _) W)=>XC.out.trans ((ext_below hW).mono XC.out.size))
     have G0:=Lib.hid (fun W (hW:Ext (World.drew _) W)=>(HS.out.ext (GX.out W hW)).c0)
     have G1:=Lib.hid (fun W (hW:Ext (World.drew _) W)=>(HS.out.ext (GX.out W hW)).c1)
     have G3:=Lib.hid (fun W (hW:Ext (World.drew _) W)=>(HS.out.ext (GX.out W hW)).c3)
     have G4:=Lib.hid (fun W (hW:Ext (World.drew _) W)=>(HS.out.ext (GX.out W hW)).c4)
     have G5:=Lib.hid (fun W (hW:Ext (World.drew _) W)=>(HS.out.ext (GX.out W hW)).c5)
     cases bt
     ·refine wp_region_typed rfl (by kernel_rfl) (by kernel_rfl) ?_
      repeat (first|refine tw_types rfl (wdA rfl) ?_|refine tw_lookup s.kind rfl rfl rfl (wdA rfl) ?_|refine tw_has _ s.typ _ HTY.out HTL.out rfl rfl rfl (wdA rfl) ?_|refine tw_ldU rfl rfl G0.out (wdA rfl) ?_|refine tw_ldS rfl rfl G1.out (wdA rfl) ?_|refine tw_ldS rfl rfl G3.out (wdA rfl) ?_|refine tw_ldS rfl rfl G4.out (wdA rfl) ?_|refine tw_ldW rfl rfl G5.out (wdA rfl) ?_|refine tw_lenW rfl rfl (wdA rfl) ?_|refine tw_fnB #[.string s.frm] (.bool _) rfl (fun W=>EA.out _ W) rfl (wdA rfl) (fun W hW=>H2.out W (GX.out W hW)) ?_|refine tw_fnB #[.string s.to] (.bool _) rfl (fun W=>EA.out _ W) rfl (wdA rfl) (fun W hW=>H3.out W (GX.out W hW)) ?_|refine tw_fnB #[.slice A s.load.length c,.func (.func 31) #[] #[]] (.bool _) rfl (fun W=>EC.out _ W) rfl (wdA rfl) (fun W hW=>H4.out W (GX.out W hW)) ?_|refine tw_skip (wd_no rfl rfl rfl) ?_|refine tw_mv (.inl rfl) rfl (wdA rfl) ?_|refine tw_mv (.inr rfl) rfl (wdA rfl) ?_|refine tw_pickL rfl rfl rfl (wdA rfl) ?_|refine tw_op1 _ rfl rfl (wdA rfl) (fun ρ W hW h1=>by simp only [execOp,h1];go_simp;first|done|rfl) ?_|refine tw_op2 _ rfl rfl rfl (wdA rfl) (fun ρ W hW h1 h2=>by simp only [execOp,h1,h2];go_simp;first|done|rfl) ?_)
      dsimp only [wpT,List.reverse,List.reverseAux,FinT,MapTy,SlS]
      intro u1 u2 W3 hW3 _
      have X3:=Lib.hid (GX.out W3 hW3)
      simp only [Act.put,List.setIfInBounds_toArray,List.set_cons_zero,List.set_cons_succ]
      clear hW3
      go_wp2
      all_goals
       go_ret
       exact⟨ret_int (by rw [HE.out];first|rfl|(simp;done)|(simp_all;done)),HX0.out.trans (X3.out.mono HX0.out.size)⟩
     ·cases a1
      ·refine wp_region_typed rfl (by kernel_rfl) (by kernel_rfl) ?_
       repeat (first|refine tw_types rfl (wdA rfl) ?_|refine tw_lookup s.kind rfl rfl rfl (wdA rfl) ?_|refine tw_has _ s.typ _ HTY.out HTL.out rfl rfl rfl (wdA rfl) ?_|refine tw_ldU rfl rfl G0.out (wdA rfl) ?_|refine tw_ldS rfl rfl G1.out (wdA rfl) ?_|refine tw_ldS rfl rfl G3.out (wdA rfl) ?_|refine tw_ldS rfl rfl G4.out (wdA rfl) ?_|refine tw_ldW rfl rfl G5.out (wdA rfl) ?_|refine tw_lenW rfl rfl (wdA rfl) ?_|refine tw_fnB #[.string s.frm] (.bool _) rfl (fun W=>EA.out _ W) rfl (wdA rfl) (fun W hW=>H2.out W (GX.out W hW)) ?_|refine tw_fnB #[.string s.to] (.bool _) rfl (fun W=>EA.out _ W) rfl (wdA rfl) (fun W hW=>H3.out W (GX.out W hW)) ?_|refine tw_fnB #[.slice A s.load.length c,.func (.func 31) #[] #[]] (.bool _) rfl (fun W=>EC.out _ W) rfl (wdA rfl) (fun W hW=>H4.out W (GX.out W hW)) ?_|refine tw_skip (wd_no rfl rfl rfl) ?_|refine tw_mv (.inl rfl) rfl (wdA rfl) ?_|refine tw_mv (.inr rfl) rfl (wdA rfl) ?_|refine tw_pickL rfl rfl rfl (wdA rfl) ?_|refine tw_op1 _ rfl rfl (wdA rfl) (fun ρ W hW h1=>by simp only [execOp,h1];go_simp;first|done|rfl) ?_|refine tw_op2 _ rfl rfl rfl (wdA rfl) (fun ρ W hW h1 h2=>by simp only [execOp,h1,h2];go_simp;first|done|rfl) ?_)
       dsimp only [wpT,List.reverse,List.reverseAux,FinT,MapTy,SlS]
       intro u1 u2 W3 hW3 _
       have X3:=Lib.hid (GX.out W3 hW3)
       simp only [Act.put,List.setIfInBounds_toArray,List.set_cons_zero,List.set_cons_succ]
       clear hW3
       go_wp2
       all_goals
        go_ret
        exact⟨ret_int (by rw [HE.out];first|rfl|(simp;done)|(simp_all;done)),HX0.out.trans (X3.out.mono HX0.out.size)⟩
      ·cases a2
       ·refine wp_region_typed rfl (by kernel_rfl) (by kernel_rfl) ?_
        repeat (first|refine tw_types rfl (wdA rfl) ?_|refine tw_lookup s.kind rfl rfl rfl (wdA rfl) ?_|refine tw_has _ s.typ _ HTY.out HTL.out rfl rfl rfl (wdA rfl) ?_|refine tw_ldU rfl rfl G0.out (wdA rfl) ?_|refine tw_ldS rfl rfl G1.out (wdA rfl) ?_|refine tw_ldS rfl rfl G3.out (wdA rfl) ?_|refine tw_ldS rfl rfl G4.out (wdA rfl) ?_|refine tw_ldW rfl rfl G5.out (wdA rfl) ?_|refine tw_lenW rfl rfl (wdA rfl) ?_|refine tw_fnB #[.string s.frm] (.bool _) rfl (fun W=>EA.out _ W) rfl (wdA rfl) (fun W hW=>H2.out W (GX.out W hW)) ?_|refine tw_fnB #[.string s.to] (.bool _) rfl (fun W=>EA.out _ W) rfl (wdA rfl) (fun W hW=>H3.out W (GX.out W hW)) ?_|refine tw_fnB #[.slice A s.load.length c,.func (.func 31) #[] #[]] (.bool _) rfl (fun W=>EC.out _ W) rfl (wdA rfl) (fun W hW=>H4.out W (GX.out W hW)) ?_|refine tw_skip (wd_no rfl rfl rfl) ?_|refine tw_mv (.inl rfl) rfl (wdA rfl) ?_|refine tw_mv (.inr rfl) rfl (wdA rfl) ?_|refine tw_pickL rfl rfl rfl (wdA rfl) ?_|refine tw_op1 _ rfl rfl (wdA rfl) (fun ρ W hW h1=>by simp only [execOp,h1];go_simp;first|done|rfl) ?_|refine tw_op2 _ rfl rfl rfl (wdA rfl) (fun ρ W hW h1 h2=>by simp only [execOp,h1,h2];go_simp;first|done|rfl) ?_)
        dsimp only [wpT,List.reverse,List.reverseAux,FinT,MapTy,SlS]
        intro u1 u2 W3 hW3 _
        have X3:=Lib.hid (GX.out W3 hW3)
        simp only [Act.put,List.setIfInBounds_toArray,List.set_cons_zero,List.set_cons_succ]
        clear hW3
        go_wp2
        all_goals
         go_ret
         exact⟨ret_int (by rw [HE.out];first|rfl|(simp;done)|(simp_all;done)),HX0.out.trans (X3.out.mono HX0.out.size)⟩
       ·cases lb
        ·refine wp_region_typed rfl (by kernel_rfl) (by kernel_rfl) ?_
         repeat (first|refine tw_types rfl (wdA rfl) ?_|refine tw_lookup s.kind rfl rfl rfl (wdA rfl) ?_|refine tw_has _ s.typ _ HTY.out HTL.out rfl rfl rfl (wdA rfl) ?_|refine tw_ldU rfl rfl G0.out (wdA rfl) ?_|refine tw_ldS rfl rfl G1.out (wdA rfl) ?_|refine tw_ldS rfl rfl G3.out (wdA rfl) ?_|refine tw_ldS rfl rfl G4.out (wdA rfl) ?_|refine tw_ldW rfl rfl G5.out (wdA rfl) ?_|refine tw_lenW rfl rfl (wdA rfl) ?_|refine tw_fnB #[.string s.frm] (.bool _) rfl (fun W=>EA.out _ W) rfl (wdA rfl) (fun W hW=>H2.out W (GX.out W hW)) ?_|refine tw_fnB #[.string s.to] (.bool _) rfl (fun W=>EA.out _ W) rfl (wdA rfl) (fun W hW=>H3.out W (GX.out W hW)) ?_|refine tw_fnB #[.slice A s.load.length c,.func (.func 31) #[] #[]] (.bool _) rfl (fun W=>EC.out _ W) rfl (wdA rfl) (fun W hW=>H4.out W (GX.out W hW)) ?_|refine tw_skip (wd_no rfl rfl rfl) ?_|refine tw_mv (.inl rfl) rfl (wdA rfl) ?_|refine tw_mv (.inr rfl) rfl (wdA rfl) ?_|refine tw_pickL rfl rfl rfl (wdA rfl) ?_|refine tw_op1 _ rfl rfl (wdA rfl) (fun ρ W hW h1=>by simp only [execOp,h1];go_simp;first|done|rfl) ?_|refine tw_op2 _ rfl rfl rfl (wdA rfl) (fun ρ W hW h1 h2=>by simp only [execOp,h1,h2];go_simp;first|done|rfl) ?_)
         dsimp only [wpT,List.reverse,List.reverseAux,FinT,MapTy,SlS]
         intro u1 u2 W3 hW3 _
         have X3:=Lib.hid (GX.out W3 hW3)
         simp only [Act.put,List.setIfInBounds_toArray,List.set_cons_zero,List.set_cons_succ]
         clear hW3
         go_wp2
         all_goals
          go_ret
          exact⟨ret_int (by rw [HE.out];first|rfl|(simp;done)|(simp_all;done)),HX0.out.trans (X3.out.mono HX0.out.size)⟩
        ·refine wp_region_typed rfl (by kernel_rfl) (by kernel_rfl) ?_
         repeat (first|refine tw_types rfl (wdA rfl) ?_|refine tw_lookup s.kind rfl rfl rfl (wdA rfl) ?_|refine tw_has _ s.typ _ HTY.out HTL.out rfl rfl rfl (wdA rfl) ?_|refine tw_ldU rfl rfl G0.out (wdA rfl) ?_|refine tw_ldS rfl rfl G1.out (wdA rfl) ?_|refine tw_ldS rfl rfl G3.out (wdA rfl) ?_|refine tw_ldS rfl rfl G4.out (wdA rfl) ?_|refine tw_ldW rfl rfl G5.out (wdA rfl) ?_|refine tw_lenW rfl rfl (wdA rfl) ?_|refine tw_fnB #[.string s.frm] (.bool _) rfl (fun W=>EA.out _ W) rfl (wdA rfl) (fun W hW=>H2.out W (GX.out W hW)) ?_|refine tw_fnB #[.string s.to] (.bool _) rfl (fun W=>EA.out _ W) rfl (wdA rfl) (fun W hW=>H3.out W (GX.out W hW)) ?_|refine tw_fnB #[.slice A s.load.length c,.func (.func 31) #[] #[]] (.bool _) rfl (fun W=>EC.out _ W) rfl (wdA rfl) (fun W hW=>H4.out W (GX.out W hW)) ?_|refine tw_skip (wd_no rfl rfl rfl) ?_|refine tw_mv (.inl rfl) rfl (wdA rfl) ?_|refine tw_mv (.inr rfl) rfl (wdA rfl) ?_|refine tw_pickL rfl rfl rfl (wdA rfl) ?_|refine tw_op1 _ rfl rfl (wdA rfl) (fun ρ W hW h1=>by simp only [execOp,h1];go_simp;first|done|rfl) ?_|refine tw_op2 _ rfl rfl rfl (wdA rfl) (fun ρ W hW h1 h2=>by simp only [execOp,h1,h2];go_simp;first|done|rfl) ?_)
         dsimp only [wpT,List.reverse,List.reverseAux,FinT,MapTy,SlS]
         intro u1 u2 W3 hW3 _
         have X3:=Lib.hid (GX.out W3 hW3)
         simp only [Act.put,List.setIfInBounds_toArray,List.set_cons_zero,List.set_cons_succ]
         clear hW3
         go_wp2
         all_goals
          go_ret
          exact⟨ret_int (by rw [HE.out];first|rfl|(simp;done)|(simp_all;done)),HX0.out.trans (X3.out.mono HX0.out.size)⟩
    ·have hbi:bi=false:=by rw [HID.out,decide_eq_true h64,decide_eq_true ht,decide_eq_true hk];rfl
     subst hbi
     clear HID ht
     have hkq:(s.kind != 3)=false:=by simp [hk]
     clear hk
     have hemp:s.id.toList=[]:=List.isEmpty_iff.1 ei
     go_enter Tryz.func11,Tryz.ntmps11
     go_wp2_with fail
     rw [←HWE.out]
     refine(H1.out _).mono ?_
     rintro e w1 ⟨rfl,hb1⟩
     have XC:=Lib.hid hb1
     have c0:=(HS.out.ext hb1).c0
     have c2:=(HS.out.ext hb1).c2
     clear hb1
     go_wp2_with fail
     have GX:=Lib.hid (fun W (hW:Ext (World.drew _) W)=>XC.out.trans ((ext_below hW).mono XC.out.size))
     have G0:=Lib.hid (fun W (hW:Ext (World.drew _) W)=>(HS.out.ext (GX.out W hW)).c0)
     have G1:=Lib.hid (fun W (hW:Ext (World.drew _) W)=>(HS.out.ext (GX.out W hW)).c1)
     have G3:=Lib.hid (fun W (hW:Ext (World.drew _) W)=>(HS.out.ext (GX.out W hW)).c3)
     have G4:=Lib.hid (fun W (hW:Ext (World.drew _) W)=>(HS.out.ext (GX.out W hW)).c4)
     have G5:=Lib.hid (fun W (hW:Ext (World.drew _) W)=>(HS.out.ext (GX.out W hW)).c5)
     cases bt
     ·refine wp_region_typed rfl (by kernel_rfl) (by kernel_rfl) ?_
      repeat (first|refine tw_types rfl (wdA rfl) ?_|refine tw_lookup s.kind rfl rfl rfl (wdA rfl) ?_|refine tw_has _ s.typ _ HTY.out HTL.out rfl rfl rfl (wdA rfl) ?_|refine tw_ldU rfl rfl G0.out (wdA rfl) ?_|refine tw_ldS rfl rfl G1.out (wdA rfl) ?_|refine tw_ldS rfl rfl G3.out (wdA rfl) ?_|refine tw_ldS rfl rfl G4.out (wdA rfl) ?_|refine tw_ldW rfl rfl G5.out (wdA rfl) ?_|refine tw_lenW rfl rfl (wdA rfl) ?_|refine tw_fnB #[.string s.frm] (.bool _) rfl (fun W=>EA.out _ W) rfl (wdA rfl) (fun W hW=>H2.out W (GX.out W hW)) ?_|refine tw_fnB #[.string s.to] (.bool _) rfl (fun W=>EA.out _ W) rfl (wdA rfl) (fun W hW=>H3.out W (GX.out W hW)) ?_|refine tw_fnB #[.slice A s.load.length c,.func (.func 31) #[] #[]] (.bool _) rfl (fun W=>EC.out _ W) rfl (wdA rfl) (fun W hW=>H4.out W (GX.out W hW)) ?_|refine tw_skip (wd_no rfl rfl rfl) ?_|refine tw_mv (.inl rfl) rfl (wdA rfl) ?_|refine tw_mv (.inr rfl) rfl (wdA rfl) ?_|refine tw_pickL rfl rfl rfl (wdA rfl) ?_|refine tw_op1 _ rfl rfl (wdA rfl) (fun ρ W hW h1=>by simp only [execOp,h1];go_simp;first|done|rfl) ?_|refine tw_op2 _ rfl rfl rfl (wdA rfl) (fun ρ W hW h1 h2=>by simp only [execOp,h1,h2];go_simp;first|done|rfl) ?_)
      dsimp only [wpT,List.reverse,List.reverseAux,FinT,MapTy,SlS]
      intro u1 u2 W3 hW3 _
      have X3:=Lib.hid (GX.out W3 hW3)
      simp only [Act.put,List.setIfInBounds_toArray,List.set_cons_zero,List.set_cons_succ]
      clear hW3
      go_wp2
      all_goals
       go_ret
       exact⟨ret_int (by rw [HE.out];first|rfl|(simp;done)|(simp_all;done)),HX0.out.trans (X3.out.mono HX0.out.size)⟩
     ·refine wp_region_typed rfl (by kernel_rfl) (by kernel_rfl) ?_
      repeat (first|refine tw_types rfl (wdA rfl) ?_|refine tw_lookup s.kind rfl rfl rfl (wdA rfl) ?_|refine tw_has _ s.typ _ HTY.out HTL.out rfl rfl rfl (wdA rfl) ?_|refine tw_ldU rfl rfl G0.out (wdA rfl) ?_|refine tw_ldS rfl rfl G1.out (wdA rfl) ?_|refine tw_ldS rfl rfl G3.out (wdA rfl) ?_|refine tw_ldS rfl rfl G4.out (wdA rfl) ?_|refine tw_ldW rfl rfl G5.out (wdA rfl) ?_|refine tw_lenW rfl rfl (wdA rfl) ?_|refine tw_fnB #[.string s.frm] (.bool _) rfl (fun W=>EA.out _ W) rfl (wdA rfl) (fun W hW=>H2.out W (GX.out W hW)) ?_|refine tw_fnB #[.string s.to] (.bool _) rfl (fun W=>EA.out _ W) rfl (wdA rfl) (fun W hW=>H3.out W (GX.out W hW)) ?_|refine tw_fnB #[.slice A s.load.length c,.func (.func 31) #[] #[]] (.bool _) rfl (fun W=>EC.out _ W) rfl (wdA rfl) (fun W hW=>H4.out W (GX.out W hW)) ?_|refine tw_skip (wd_no rfl rfl rfl) ?_|refine tw_mv (.inl rfl) rfl (wdA rfl) ?_|refine tw_mv (.inr rfl) rfl (wdA rfl) ?_|refine tw_pickL rfl rfl rfl (wdA rfl) ?_|refine tw_op1 _ rfl rfl (wdA rfl) (fun ρ W hW h1=>by simp only [execOp,h1];go_simp;first|done|rfl) ?_|refine tw_op2 _ rfl rfl rfl (wdA rfl) (fun ρ W hW h1 h2=>by simp only [execOp,h1,h2];go_simp;first|done|rfl) ?_)
      dsimp only [wpT,List.reverse,List.reverseAux,FinT,MapTy,SlS]
      intro u1 u2 W3 hW3 _
      have X3:=Lib.hid (GX.out W3 hW3)
      simp only [Act.put,List.setIfInBounds_toArray,List.set_cons_zero,List.set_cons_succ]
      clear hW3
      go_wp2
      all_goals
       go_ret
       exact⟨ret_int (by rw [HE.out];first|rfl|(simp;done)|(simp_all;done)),HX0.out.trans (X3.out.mono HX0.out.size)⟩
   ·have hbi:bi=true:=by rw [HID.out,decide_eq_true h64,decide_eq_true ht,decide_eq_false hk];rfl
    subst hbi
    clear HID ht
    have hkq:(s.kind != 3)=true:=by simpa using hk
    clear hk
    go_enter Tryz.func11,Tryz.ntmps11
    go_wp2_with fail
    rw [←HWE.out]
    refine(H1.out _).mono ?_
    rintro e w1 ⟨rfl,hb1⟩
    have XC:=Lib.hid hb1
    have c0:=(HS.out.ext hb1).c0
    have c2:=(HS.out.ext hb1).c2
    clear hb1
    go_wp2_with fail
    have GX:=Lib.hid (fun W (hW:Ext (World.drew _) W)=>XC.out.trans ((ext_below hW).mono XC.out.size))
    have G0:=Lib.hid (fun W (hW:Ext (World.drew _) W)=>(HS.out.ext (GX.out W hW)).c0)
    have G1:=Lib.hid (fun W (hW:Ext (World.drew _) W)=>(HS.out.ext (GX.out W hW)).c1)
    have G3:=Lib.hid (fun W (hW:Ext (World.drew _) W)=>(HS.out.ext (GX.out W hW)).c3)
    have G4:=Lib.hid (fun W (hW:Ext (World.drew _) W)=>(HS.out.ext (GX.out W hW)).c4)
    have G5:=Lib.hid (fun W (hW:Ext (World.drew _) W)=>(HS.out.ext (GX.out W hW)).c5)
    cases bt
    ·refine wp_region_typed rfl (by kernel_rfl) (by kernel_rfl) ?_
     repeat (first|refine tw_types rfl (wdA rfl) ?_|refine tw_lookup s.kind rfl rfl rfl (wdA rfl) ?_|refine tw_has _ s.typ _ HTY.out HTL.out rfl rfl rfl (wdA rfl) ?_|refine tw_ldU rfl rfl G0.out (wdA rfl) ?_|refine tw_ldS rfl rfl G1.out (wdA rfl) ?_|refine tw_ldS rfl rfl G3.out (wdA rfl) ?_|refine tw_ldS rfl rfl G4.out (wdA rfl) ?_|refine tw_ldW rfl rfl G5.out (wdA rfl) ?_|refine tw_lenW rfl rfl (wdA rfl) ?_|refine tw_fnB #[.string s.frm] (.bool _) rfl (fun W=>EA.out _ W) rfl (wdA rfl) (fun W hW=>H2.out W (GX.out W hW)) ?_|refine tw_fnB #[.string s.to] (.bool _) rfl (fun W=>EA.out _ W) rfl (wdA rfl) (fun W hW=>H3.out W (GX.out W hW)) ?_|refine tw_fnB #[.slice A s.load.length c,.func (.func 31) #[] #[]] (.bool _) rfl (fun W=>EC.out _ W) rfl (wdA rfl) (fun W hW=>H4.out W (GX.out W hW)) ?_|refine tw_skip (wd_no rfl rfl rfl) ?_|refine tw_mv (.inl rfl) rfl (wdA rfl) ?_|refine tw_mv (.inr rfl) rfl (wdA rfl) ?_|refine tw_pickL rfl rfl rfl (wdA rfl) ?_|refine tw_op1 _ rfl rfl (wdA rfl) (fun ρ W hW h1=>by simp only [execOp,h1];go_simp;first|done|rfl) ?_|refine tw_op2 _ rfl rfl rfl (wdA rfl) (fun ρ W hW h1 h2=>by simp only [execOp,h1,h2];go_simp;first|done|rfl) ?_)
     dsimp only [wpT,List.reverse,List.reverseAux,FinT,MapTy,SlS]
     intro u1 u2 W3 hW3 _
     have X3:=Lib.hid (GX.out W3 hW3)
     simp only [Act.put,List.setIfInBounds_toArray,List.set_cons_zero,List.set_cons_succ]
     clear hW3
     go_wp2
     all_goals
      go_ret
      exact⟨ret_int (by rw [HE.out];first|rfl|(simp;done)|(simp_all;done)),HX0.out.trans (X3.out.mono HX0.out.size)⟩
    ·cases a1
     ·refine wp_region_typed rfl (by kernel_rfl) (by kernel_rfl) ?_
      repeat (first|refine tw_types rfl (wdA rfl) ?_|refine tw_lookup s.kind rfl rfl rfl (wdA rfl) ?_|refine tw_has _ s.typ _ HTY.out HTL.out rfl rfl rfl (wdA rfl) ?_|refine tw_ldU rfl rfl G0.out (wdA rfl) ?_|refine tw_ldS rfl rfl G1.out (wdA rfl) ?_|refine tw_ldS rfl rfl G3.out (wdA rfl) ?_|refine tw_ldS rfl rfl G4.out (wdA rfl) ?_|refine tw_ldW rfl rfl G5.out (wdA rfl) ?_|refine tw_lenW rfl rfl (wdA rfl) ?_|refine tw_fnB #[.string s.frm] (.bool _) rfl (fun W=>EA.out _ W) rfl (wdA rfl) (fun W hW=>H2.out W (GX.out W hW)) ?_|refine tw_fnB #[.string s.to] (.bool _) rfl (fun W=>EA.out _ W) rfl (wdA rfl) (fun W hW=>H3.out W (GX.out W hW)) ?_|refine tw_fnB #[.slice A s.load.length c,.func (.func 31) #[] #[]] (.bool _) rfl (fun W=>EC.out _ W) rfl (wdA rfl) (fun W hW=>H4.out W (GX.out W hW)) ?_|refine tw_skip (wd_no rfl rfl rfl) ?_|refine tw_mv (.inl rfl) rfl (wdA rfl) ?_|refine tw_mv (.inr rfl) rfl (wdA rfl) ?_|refine tw_pickL rfl rfl rfl (wdA rfl) ?_|refine tw_op1 _ rfl rfl (wdA rfl) (fun ρ W hW h1=>by simp only [execOp,h1];go_simp;first|done|rfl) ?_|refine tw_op2 _ rfl rfl rfl (wdA rfl) (fun ρ W hW h1 h2=>by simp only [execOp,h1,h2];go_simp;first|done|rfl) ?_)
      dsimp only [wpT,List.reverse,List.reverseAux,FinT,MapTy,SlS]
      intro u1 u2 W3 hW3 _
      have X3:=Lib.hid (GX.out W3 hW3)
      simp only [Act.put,List.setIfInBounds_toArray,List.set_cons_zero,List.set_cons_succ]
      clear hW3
      go_wp2
      all_goals
       go_ret
       exact⟨ret_int (by rw [HE.out];first|rfl|(simp;done)|(simp_all;done)),HX0.out.trans (X3.out.mono HX0.out.size)⟩
     ·cases a2
      ·refine wp_region_typed rfl (by kernel_rfl) (by kernel_rfl) ?_
       repeat (first|refine tw_types rfl (wdA rfl) ?_|refine tw_lookup s.kind rfl rfl rfl (wdA rfl) ?_|refine tw_has _ s.typ _ HTY.out HTL.out rfl rfl rfl (wdA rfl) ?_|refine tw_ldU rfl rfl G0.out (wdA rfl) ?_|refine tw_ldS rfl rfl G1.out (wdA rfl) ?_|refine tw_ldS rfl rfl G3.out (wdA rfl) ?_|refine tw_ldS rfl rfl G4.out (wdA rfl) ?_|refine tw_ldW rfl rfl G5.out (wdA rfl) ?_|refine tw_lenW rfl rfl (wdA rfl) ?_|refine tw_fnB #[.string s.frm] (.bool _) rfl (fun W=>EA.out _ W) rfl (wdA rfl) (fun W hW=>H2.out W (GX.out W hW)) ?_|refine tw_fnB #[.string s.to] (.bool _) rfl (fun W=>EA.out _ W) rfl (wdA rfl) (fun W hW=>H3.out W (GX.out W hW)) ?_|refine tw_fnB #[.slice A s.load.length c,.func (.func 31) #[] #[]] (.bool _) rfl (fun W=>EC.out _ W) rfl (wdA rfl) (fun W hW=>H4.out W (GX.out W hW)) ?_|refine tw_skip (wd_no rfl rfl rfl) ?_|refine tw_mv (.inl rfl) rfl (wdA rfl) ?_|refine tw_mv (.inr rfl) rfl (wdA rfl) ?_|refine tw_pickL rfl rfl rfl (wdA rfl) ?_|refine tw_op1 _ rfl rfl (wdA rfl) (fun ρ W hW h1=>by simp only [execOp,h1];go_simp;first|done|rfl) ?_|refine tw_op2 _ rfl rfl rfl (wdA rfl) (fun ρ W hW h1 h2=>by simp only [execOp,h1,h2];go_simp;first|done|rfl) ?_)
       dsimp only [wpT,List.reverse,List.reverseAux,FinT,MapTy,SlS]
       intro u1 u2 W3 hW3 _
       have X3:=Lib.hid (GX.out W3 hW3)
       simp only [Act.put,List.setIfInBounds_toArray,List.set_cons_zero,List.set_cons_succ]
       clear hW3
       go_wp2
       all_goals
        go_ret
        exact⟨ret_int (by rw [HE.out];first|rfl|(simp;done)|(simp_all;done)),HX0.out.trans (X3.out.mono HX0.out.size)⟩
      ·cases lb
       ·refine wp_region_typed rfl (by kernel_rfl) (by kernel_rfl) ?_
        repeat (first|refine tw_types rfl (wdA rfl) ?_|refine tw_lookup s.kind rfl rfl rfl (wdA rfl) ?_|refine tw_has _ s.typ _ HTY.out HTL.out rfl rfl rfl (wdA rfl) ?_|refine tw_ldU rfl rfl G0.out (wdA rfl) ?_|refine tw_ldS rfl rfl G1.out (wdA rfl) ?_|refine tw_ldS rfl rfl G3.out (wdA rfl) ?_|refine tw_ldS rfl rfl G4.out (wdA rfl) ?_|refine tw_ldW rfl rfl G5.out (wdA rfl) ?_|refine tw_lenW rfl rfl (wdA rfl) ?_|refine tw_fnB #[.string s.frm] (.bool _) rfl (fun W=>EA.out _ W) rfl (wdA rfl) (fun W hW=>H2.out W (GX.out W hW)) ?_|refine tw_fnB #[.string s.to] (.bool _) rfl (fun W=>EA.out _ W) rfl (wdA rfl) (fun W hW=>H3.out W (GX.out W hW)) ?_|refine tw_fnB #[.slice A s.load.length c,.func (.func 31) #[] #[]] (.bool _) rfl (fun W=>EC.out _ W) rfl (wdA rfl) (fun W hW=>H4.out W (GX.out W hW)) ?_|refine tw_skip (wd_no rfl rfl rfl) ?_|refine tw_mv (.inl rfl) rfl (wdA rfl) ?_|refine tw_mv (.inr rfl) rfl (wdA rfl) ?_|refine tw_pickL rfl rfl rfl (wdA rfl) ?_|refine tw_op1 _ rfl rfl (wdA rfl) (fun ρ W hW h1=>by simp only [execOp,h1];go_simp;first|done|rfl) ?_|refine tw_op2 _ rfl rfl rfl (wdA rfl) (fun ρ W hW h1 h2=>by simp only [execOp,h1,h2];go_simp;first|done|rfl) ?_)
        dsimp only [wpT,List.reverse,List.reverseAux,FinT,MapTy,SlS]
        intro u1 u2 W3 hW3 _
        have X3:=Lib.hid (GX.out W3 hW3)
        simp only [Act.put,List.setIfInBounds_toArray,List.set_cons_zero,List.set_cons_succ]
        clear hW3
        go_wp2
        all_goals
         go_ret
         exact⟨ret_int (by rw [HE.out];first|rfl|(simp;done)|(simp_all;done)),HX0.out.trans (X3.out.mono HX0.out.size)⟩
       ·refine wp_region_typed rfl (by kernel_rfl) (by kernel_rfl) ?_
        repeat (first|refine tw_types rfl (wdA rfl) ?_|refine tw_lookup s.kind rfl rfl rfl (wdA rfl) ?_|refine tw_has _ s.typ _ HTY.out HTL.out rfl rfl rfl (wdA rfl) ?_|refine tw_ldU rfl rfl G0.out (wdA rfl) ?_|refine tw_ldS rfl rfl G1.out (wdA rfl) ?_|refine tw_ldS rfl rfl G3.out (wdA rfl) ?_|refine tw_ldS rfl rfl G4.out (wdA rfl) ?_|refine tw_ldW rfl rfl G5.out (wdA rfl) ?_|refine tw_lenW rfl rfl (wdA rfl) ?_|refine tw_fnB #[.string s.frm] (.bool _) rfl (fun W=>EA.out _ W) rfl (wdA rfl) (fun W hW=>H2.out W (GX.out W hW)) ?_|refine tw_fnB #[.string s.to] (.bool _) rfl (fun W=>EA.out _ W) rfl (wdA rfl) (fun W hW=>H3.out W (GX.out W hW)) ?_|refine tw_fnB #[.slice A s.load.length c,.func (.func 31) #[] #[]] (.bool _) rfl (fun W=>EC.out _ W) rfl (wdA rfl) (fun W hW=>H4.out W (GX.out W hW)) ?_|refine tw_skip (wd_no rfl rfl rfl) ?_|refine tw_mv (.inl rfl) rfl (wdA rfl) ?_|refine tw_mv (.inr rfl) rfl (wdA rfl) ?_|refine tw_pickL rfl rfl rfl (wdA rfl) ?_|refine tw_op1 _ rfl rfl (wdA rfl) (fun ρ W hW h1=>by simp only [execOp,h1];go_simp;first|done|rfl) ?_|refine tw_op2 _ rfl rfl rfl (wdA rfl) (fun ρ W hW h1 h2=>by simp only [execOp,h1,h2];go_simp;first|done|rfl) ?_)
        dsimp only [wpT,List.reverse,List.reverseAux,FinT,MapTy,SlS]
        intro u1 u2 W3 hW3 _
        have X3:=Lib.hid (GX.out W3 hW3)
        simp only [Act.put,List.setIfInBounds_toArray,List.set_cons_zero,List.set_cons_succ]
        clear hW3
        go_wp2
        all_goals
         go_ret
         exact⟨ret_int (by rw [HE.out];first|rfl|(simp;done)|(simp_all;done)),HX0.out.trans (X3.out.mono HX0.out.size)⟩
  ·have hbi:bi=false:=by rw [HID.out,decide_eq_false ht];simp
   subst hbi
   clear HID
   have htq:(textErr s.id == 0)=false:=by simpa using ht
   clear ht
   generalize textErr s.id=te at *
   go_enter Tryz.func11,Tryz.ntmps11
   go_wp2_with fail
   rw [←HWE.out]
   refine(H1.out _).mono ?_
   rintro e w1 ⟨rfl,hb1⟩
   have XC:=Lib.hid hb1
   have c0:=(HS.out.ext hb1).c0
   have c2:=(HS.out.ext hb1).c2
   clear hb1
   go_wp2_with fail
   have GX:=Lib.hid (fun W (hW:Ext (World.drew _) W)=>XC.out.trans ((ext_below hW).mono XC.out.size))
   have G0:=Lib.hid (fun W (hW:Ext (World.drew _) W)=>(HS.out.ext (GX.out W hW)).c0)
   have G1:=Lib.hid (fun W (hW:Ext (World.drew _) W)=>(HS.out.ext (GX.out W hW)).c1)
   have G3:=Lib.hid (fun W (hW:Ext (World.drew _) W)=>(HS.out.ext (GX.out W hW)).c3)
   have G4:=Lib.hid (fun W (hW:Ext (World.drew _) W)=>(HS.out.ext (GX.out W hW)).c4)
   have G5:=Lib.hid (fun W (hW:Ext (World.drew _) W)=>(HS.out.ext (GX.out W hW)).c5)
   cases bt
   ·refine wp_region_typed rfl (by kernel_rfl) (by kernel_rfl) ?_
    repeat (first|refine tw_types rfl (wdA rfl) ?_|refine tw_lookup s.kind rfl rfl rfl (wdA rfl) ?_|refine tw_has _ s.typ _ HTY.out HTL.out rfl rfl rfl (wdA rfl) ?_|refine tw_ldU rfl rfl G0.out (wdA rfl) ?_|refine tw_ldS rfl rfl G1.out (wdA rfl) ?_|refine tw_ldS rfl rfl G3.out (wdA rfl) ?_|refine tw_ldS rfl rfl G4.out (wdA rfl) ?_|refine tw_ldW rfl rfl G5.out (wdA rfl) ?_|refine tw_lenW rfl rfl (wdA rfl) ?_|refine tw_fnB #[.string s.frm] (.bool _) rfl (fun W=>EA.out _ W) rfl (wdA rfl) (fun W hW=>H2.out W (GX.out W hW)) ?_|refine tw_fnB #[.string s.to] (.bool _) rfl (fun W=>EA.out _ W) rfl (wdA rfl) (fun W hW=>H3.out W (GX.out W hW)) ?_|refine tw_fnB #[.slice A s.load.length c,.func (.func 31) #[] #[]] (.bool _) rfl (fun W=>EC.out _ W) rfl (wdA rfl) (fun W hW=>H4.out W (GX.out W hW)) ?_|refine tw_skip (wd_no rfl rfl rfl) ?_|refine tw_mv (.inl rfl) rfl (wdA rfl) ?_|refine tw_mv (.inr rfl) rfl (wdA rfl) ?_|refine tw_pickL rfl rfl rfl (wdA rfl) ?_|refine tw_op1 _ rfl rfl (wdA rfl) (fun ρ W hW h1=>by simp only [execOp,h1];go_simp;first|done|rfl) ?_|refine tw_op2 _ rfl rfl rfl (wdA rfl) (fun ρ W hW h1 h2=>by simp only [execOp,h1,h2];go_simp;first|done|rfl) ?_)
    dsimp only [wpT,List.reverse,List.reverseAux,FinT,MapTy,SlS]
    intro u1 u2 W3 hW3 _
    have X3:=Lib.hid (GX.out W3 hW3)
    simp only [Act.put,List.setIfInBounds_toArray,List.set_cons_zero,List.set_cons_succ]
    clear hW3
    go_wp2
    all_goals
     go_ret
     exact⟨ret_int (by rw [HE.out];first|rfl|(simp;done)|(simp_all;done)),HX0.out.trans (X3.out.mono HX0.out.size)⟩
   ·refine wp_region_typed rfl (by kernel_rfl) (by kernel_rfl) ?_
    repeat (first|refine tw_types rfl (wdA rfl) ?_|refine tw_lookup s.kind rfl rfl rfl (wdA rfl) ?_|refine tw_has _ s.typ _ HTY.out HTL.out rfl rfl rfl (wdA rfl) ?_|refine tw_ldU rfl rfl G0.out (wdA rfl) ?_|refine tw_ldS rfl rfl G1.out (wdA rfl) ?_|refine tw_ldS rfl rfl G3.out (wdA rfl) ?_|refine tw_ldS rfl rfl G4.out (wdA rfl) ?_|refine tw_ldW rfl rfl G5.out (wdA rfl) ?_|refine tw_lenW rfl rfl (wdA rfl) ?_|refine tw_fnB #[.string s.frm] (.bool _) rfl (fun W=>EA.out _ W) rfl (wdA rfl) (fun W hW=>H2.out W (GX.out W hW)) ?_|refine tw_fnB #[.string s.to] (.bool _) rfl (fun W=>EA.out _ W) rfl (wdA rfl) (fun W hW=>H3.out W (GX.out W hW)) ?_|refine tw_fnB #[.slice A s.load.length c,.func (.func 31) #[] #[]] (.bool _) rfl (fun W=>EC.out _ W) rfl (wdA rfl) (fun W hW=>H4.out W (GX.out W hW)) ?_|refine tw_skip (wd_no rfl rfl rfl) ?_|refine tw_mv (.inl rfl) rfl (wdA rfl) ?_|refine tw_mv (.inr rfl) rfl (wdA rfl) ?_|refine tw_pickL rfl rfl rfl (wdA rfl) ?_|refine tw_op1 _ rfl rfl (wdA rfl) (fun ρ W hW h1=>by simp only [execOp,h1];go_simp;first|done|rfl) ?_|refine tw_op2 _ rfl rfl rfl (wdA rfl) (fun ρ W hW h1 h2=>by simp only [execOp,h1,h2];go_simp;first|done|rfl) ?_)
    dsimp only [wpT,List.reverse,List.reverseAux,FinT,MapTy,SlS]
    intro u1 u2 W3 hW3 _
    have X3:=Lib.hid (GX.out W3 hW3)
    simp only [Act.put,List.setIfInBounds_toArray,List.set_cons_zero,List.set_cons_succ]
    clear hW3
    go_wp2
    all_goals
     go_ret
     exact⟨ret_int (by rw [HE.out];first|rfl|(simp;done)|(simp_all;done)),HX0.out.trans (X3.out.mono HX0.out.size)⟩
 ·have h64d:decide ((s.id.size:Int)≤64)=false:=decide_eq_false (by omega)
  have hbi:bi=false:=by rw [HID.out,decide_eq_false h64];rfl
  subst hbi
  clear HID
  go_enter Tryz.func11,Tryz.ntmps11
  go_wp2_with fail
  try rw [←HWE.out]
  have XC:Hid (Below W0.heap.size W0 W0):=Lib.hid (Below.refl _ _)
  have GX:=Lib.hid (fun W (hW:Ext (World.drew _) W)=>XC.out.trans ((ext_below hW).mono XC.out.size))
  have G0:=Lib.hid (fun W (hW:Ext (World.drew _) W)=>(HS.out.ext (GX.out W hW)).c0)
  have G1:=Lib.hid (fun W (hW:Ext (World.drew _) W)=>(HS.out.ext (GX.out W hW)).c1)
  have G3:=Lib.hid (fun W (hW:Ext (World.drew _) W)=>(HS.out.ext (GX.out W hW)).c3)
  have G4:=Lib.hid (fun W (hW:Ext (World.drew _) W)=>(HS.out.ext (GX.out W hW)).c4)
  have G5:=Lib.hid (fun W (hW:Ext (World.drew _) W)=>(HS.out.ext (GX.out W hW)).c5)
  cases bt
  ·refine wp_region_typed rfl (by kernel_rfl) (by kernel_rfl) ?_
   repeat (first|refine tw_types rfl (wdA rfl) ?_|refine tw_lookup s.kind rfl rfl rfl (wdA rfl) ?_|refine tw_has _ s.typ _ HTY.out HTL.out rfl rfl rfl (wdA rfl) ?_|refine tw_ldU rfl rfl G0.out (wdA rfl) ?_|refine tw_ldS rfl rfl G1.out (wdA rfl) ?_|refine tw_ldS rfl rfl G3.out (wdA rfl) ?_|refine tw_ldS rfl rfl G4.out (wdA rfl) ?_|refine tw_ldW rfl rfl G5.out (wdA rfl) ?_|refine tw_lenW rfl rfl (wdA rfl) ?_|refine tw_fnB #[.string s.frm] (.bool _) rfl (fun W=>EA.out _ W) rfl (wdA rfl) (fun W hW=>H2.out W (GX.out W hW)) ?_|refine tw_fnB #[.string s.to] (.bool _) rfl (fun W=>EA.out _ W) rfl (wdA rfl) (fun W hW=>H3.out W (GX.out W hW)) ?_|refine tw_fnB #[.slice A s.load.length c,.func (.func 31) #[] #[]] (.bool _) rfl (fun W=>EC.out _ W) rfl (wdA rfl) (fun W hW=>H4.out W (GX.out W hW)) ?_|refine tw_skip (wd_no rfl rfl rfl) ?_|refine tw_mv (.inl rfl) rfl (wdA rfl) ?_|refine tw_mv (.inr rfl) rfl (wdA rfl) ?_|refine tw_pickL rfl rfl rfl (wdA rfl) ?_|refine tw_op1 _ rfl rfl (wdA rfl) (fun ρ W hW h1=>by simp only [execOp,h1];go_simp;first|done|rfl) ?_|refine tw_op2 _ rfl rfl rfl (wdA rfl) (fun ρ W hW h1 h2=>by simp only [execOp,h1,h2];go_simp;first|done|rfl) ?_)
   dsimp only [wpT,List.reverse,List.reverseAux,FinT,MapTy,SlS]
   intro u1 u2 W3 hW3 _
   have X3:=Lib.hid (GX.out W3 hW3)
   simp only [Act.put,List.setIfInBounds_toArray,List.set_cons_zero,List.set_cons_succ]
   clear hW3
   go_wp2
   all_goals
    go_ret
    exact⟨ret_int (by rw [HE.out];first|rfl|(simp;done)|(simp_all;done)),HX0.out.trans (X3.out.mono HX0.out.size)⟩
  ·refine wp_region_typed rfl (by kernel_rfl) (by kernel_rfl) ?_
   repeat (first|refine tw_types rfl (wdA rfl) ?_|refine tw_lookup s.kind rfl rfl rfl (wdA rfl) ?_|refine tw_has _ s.typ _ HTY.out HTL.out rfl rfl rfl (wdA rfl) ?_|refine tw_ldU rfl rfl G0.out (wdA rfl) ?_|refine tw_ldS rfl rfl G1.out (wdA rfl) ?_|refine tw_ldS rfl rfl G3.out (wdA rfl) ?_|refine tw_ldS rfl rfl G4.out (wdA rfl) ?_|refine tw_ldW rfl rfl G5.out (wdA rfl) ?_|refine tw_lenW rfl rfl (wdA rfl) ?_|refine tw_fnB #[.string s.frm] (.bool _) rfl (fun W=>EA.out _ W) rfl (wdA rfl) (fun W hW=>H2.out W (GX.out W hW)) ?_|refine tw_fnB #[.string s.to] (.bool _) rfl (fun W=>EA.out _ W) rfl (wdA rfl) (fun W hW=>H3.out W (GX.out W hW)) ?_|refine tw_fnB #[.slice A s.load.length c,.func (.func 31) #[] #[]] (.bool _) rfl (fun W=>EC.out _ W) rfl (wdA rfl) (fun W hW=>H4.out W (GX.out W hW)) ?_|refine tw_skip (wd_no rfl rfl rfl) ?_|refine tw_mv (.inl rfl) rfl (wdA rfl) ?_|refine tw_mv (.inr rfl) rfl (wdA rfl) ?_|refine tw_pickL rfl rfl rfl (wdA rfl) ?_|refine tw_op1 _ rfl rfl (wdA rfl) (fun ρ W hW h1=>by simp only [execOp,h1];go_simp;first|done|rfl) ?_|refine tw_op2 _ rfl rfl rfl (wdA rfl) (fun ρ W hW h1 h2=>by simp only [execOp,h1,h2];go_simp;first|done|rfl) ?_)
   dsimp only [wpT,List.reverse,List.reverseAux,FinT,MapTy,SlS]
   intro u1 u2 W3 hW3 _
   have X3:=Lib.hid (GX.out W3 hW3)
   simp only [Act.put,List.setIfInBounds_toArray,List.set_cons_zero,List.set_cons_succ]
   clear hW3
   go_wp2
   all_goals
    go_ret
    exact⟨ret_int (by rw [HE.out];first|rfl|(simp;done)|(simp_all;done)),HX0.out.trans (X3.out.mono HX0.out.size)⟩
theorem scheck_any (s:StL) (A:Option Addr) (c:Nat) (w:World) (hz:SzS s) (hr:RdW w w.heap.size A s.load) (hg:Glb w) :
  Calls Tryz.prog 11 #[encS s A c] w fun e w'=>e=.returned (.int .i64 (stnErr s))∧Below w.heap.size w w':=scheck9_any s A c w hz.b hr hg
end Go.Proofs.YtnfokaecobddkaaGreatDoor
end
section
namespace Go.Proofs.YtnfokaecobddkaaGreatDoor
open Go.RowKit
set_option linter.unusedSimpArgs false
set_option linter.unusedVariables false
end Go.Proofs.YtnfokaecobddkaaGreatDoor
end
